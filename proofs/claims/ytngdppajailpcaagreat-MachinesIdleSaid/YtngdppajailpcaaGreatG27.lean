/- Lemmas and walks on which the claims of this seat lean: MGr6 MGr7 MIdl0 MIdl1 MIdl LTimes Ref4k PTold LSure. -/
import Derived.Test.YtngdppajailpcaaGreatG05
import Derived.Test.YtngdppajailpcaaGreatG07
import Derived.Test.YtngdppajailpcaaGreatG08
import Derived.Test.YtngdppajailpcaaGreatG09
import Derived.Test.YtngdppajailpcaaGreatG13
import Derived.Test.YtngdppajailpcaaGreatG17
import Derived.Test.YtngdppajailpcaaGreatG23
import Derived.Test.YtngdppajailpcaaGreatG26
import Derived.Deep.CutBlock

set_option linter.all false

namespace Go.Proofs.YtngdppajailpcaaGreat
open Go.RowKit

attribute [local go_sem] Holds.drew Holds.alloc Holds.drewN WB.holds Oper.semAt_some FW_fn FW_dep FW_round

theorem allU_at {h : Hall} {k : Nat} {i : Int} (hi : At (casesOf h.hs) k i) : At (allU h) k (needsU h i) := by
  show (allU h)[k]? = _
  unfold allU
  rw [List.getElem?_map, show (casesOf h.hs)[k]? = some i from hi]; rfl
theorem allU_len (h : Hall) : (allU h).length = (casesOf h.hs).length := by unfold allU; rw [List.length_map]

set_option maxRecDepth 100000 in
set_option maxHeartbeats 4000000 in
theorem lacks9_any (vm vb vt vo ve vs : Value) (h : Hall) (set : List Plate) (H : Snap) (w : World) (hw : Holds H w) (hh : Hal H vm vb vt vo ve h) (hs : Sl H vs set) :
    Calls Tryz.prog 25 #[halV vm vb vt vo ve h, vs] w (Post w H fun v H' => ∃ u, v = .tuple #[u, .int .i64 (askM (validHall h) (setOk set))] ∧ Sl H' u (lacksA h set)) := by
  cases hok : validHall h && setOk set
  · have hn : lacksA h set = [] := by unfold lacksA; rw [hok]; rfl
    have he := askM_ne hok
    replace hok := Lib.hid hok
    rcases he with he | he
    all_goals
      rw [he]
      replace he := Lib.hid he
      go_enter Tryz.func25, Tryz.ntmps25
      go_upto_region 1 with (refine wpList_boxF rfl _ rfl (Ext.refl hw) ?_; intro B w1 H1 hle hx hB hBw; obtain ⟨hc0, hc1, hc2, hc3, hc4, hc5⟩ := cellsHal hB; clear hB hw; have hw1 := hx.holds)
      have hhc := hh.mono hle
      refine wp_region_quietB H1 (by kernel_rfl) (by kernel_rfl) hw1 (fun hne => ?_)
      repeat go_big_quiet_step ((first | (go_at_call 68; exact Calls.quietB (isSet9_any _ _ _ _ (WB.holds _) (hs.mono hle))) | (go_at_call 50; exact Calls.quietB (ask9_any _ _ _ _ _ _ _ _ _ (WB.holds _) hhc))))
      refine wpQuiet_nil ?_
      rintro ⟨w2, hw2, hb2⟩
      clear hne
      rw [he.out]
      go_wp2
      go_ret2
      exact post2_no (hx.step (hb2.mono hx.below.size) hw2) hn
  · simp only [Bool.and_eq_true] at hok
    obtain ⟨hvh, hst⟩ := hok
    have hV := validHall_iff.1 hvh
    have he : askM (validHall h) (setOk set) = 0 := by rw [hvh, hst]; rfl
    have hcn := countsOf_cn hst
    have hm3 := hV.hs.m3
    have hclen : (casesOf h.hs).length ≤ 4 := Nat.le_trans (casesTo_len h.hs _) (by omega)
    have hcm : ∀ c ∈ casesOf h.hs, -1 ≤ c ∧ c ≤ 3 := fun c hc => by have := casesOf_mem hc; omega
    have hfn : lacksA h set = lacksTo h (countsOf set) (casesOf h.hs).length := by
      unfold lacksA lacksTo; rw [hvh, hst, List.take_length]; rfl
    replace hcm := Lib.hid hcm
    rw [he]
    obtain ⟨ss, cs, rfl, _, _⟩ := hs.form
    replace hst := Lib.hid hst
    replace hfn := Lib.hid hfn
    go_enter Tryz.func25, Tryz.ntmps25
    go_upto_region 1 with (refine wpList_boxF rfl _ rfl (Ext.refl hw) ?_; intro B w1 H1 hle hx hB hBw; obtain ⟨hc0, hc1, hc2, hc3, hc4, hc5⟩ := cellsHal hB; clear hB hw; have hw1 := hx.holds)
    have hhc := hh.mono hle
    have hsc := hs.mono hle
    refine wp_region_quietB H1 (by kernel_rfl) (by kernel_rfl) hw1 (fun hne => ?_)
    repeat go_big_quiet_step ((first | (go_at_call 68; exact Calls.quietB (isSet9_any _ _ _ _ (WB.holds _) (hs.mono hle))) | (go_at_call 50; exact Calls.quietB (ask9_any _ _ _ _ _ _ _ _ _ (WB.holds _) hhc))))
    refine wpQuiet_nil ?_
    rintro ⟨w2, hw2, hb2⟩
    clear hne
    rw [he]
    have x2 := hx.step (hb2.mono hx.below.size) hw2
    clear hx hw1
    go_upto_region 5 with fail
    go_cut [8, 9] (fun a b wx => ∃ H3, SLe H1 H3 ∧ Ext w H wx H3 ∧ Sl H3 a (casesOf h.hs) ∧ Sl H3 b (allU h))
    case first =>
      go_region_held3 (fun w' => Holds H1 w' ∧ Ext w H w' H1) (first | assumption | exact ⟨by assumption, by assumption⟩ | (go_split_ands; exact ⟨Holds.drew (by assumption), Ext.drew (by assumption)⟩) | (go_split_ands; exact ⟨Holds.alloc (by assumption) _, Ext.alloc (by assumption) _⟩) | (go_split_ands; exact ⟨Holds.drew (Holds.alloc (by assumption) _), Ext.drew (Ext.alloc (by assumption) _)⟩)) (first | ((have hgd := sA; clear hgd; go_split_ands; go_at_call 59; refine (allNeeds9_any _ _ _ _ _ h hV HA _ xA.holds (hhc.mono lA)).mono ?_; rintro e wB ⟨vB, HB, rfl, xB, sB⟩; obtain ⟨aB, cB, rfl, _, _⟩ := sB.form; have lB := xB.le xA.holds; have yB := yA.trans xB; have k3 : Holds H1 wB := xB.holds.mono (lA.trans lB); have k4 : Ext w H wB H1 := yB.back (by assumption) (lA.trans lB))) | ((go_split_ands; go_at_call 72; refine (casesOf4_any _ _ _ h.hs H1 _ (by assumption) hhc.hs hV.hs).mono ?_; rintro e wA ⟨vA, HA, rfl, xA, sA⟩; obtain ⟨aA, cA, rfl, _, _⟩ := sA.form; have lA := xA.le (by assumption); have yA := (by assumption : Ext w H _ H1).trans xA; have k1 : Holds H1 wA := xA.holds.mono lA; have k2 : Ext w H wA H1 := yA.back (by assumption) lA)))
      all_goals
        go_wp2_with fail
        go_meet
        exact ⟨HB, lA.trans lB, yB, sA.mono lB, sB⟩
    case rest =>
      obtain ⟨H3, l3, x3, s8, s9⟩ := hcut
      have hsc3 := hsc.mono l3
      obtain ⟨a8, c8, rfl, _, _⟩ := s8.form
      obtain ⟨a9, c9, rfl, _, _⟩ := s9.form
      have hal := allU_len h
      rw [hal] at s9
      rw [hal]
      clear x2 hal hb2
      go_wp2
      go_loopw [7, 10] (fun v i wr => ∃ (k : Nat) (acc : List Int), k ≤ (casesOf h.hs).length ∧ i = .int .i64 k ∧ Hid (acc = lacksTo h (countsOf set) k) ∧ Ext w H wr H3 ∧ Own H3 w.heap.size wr 3 v acc) (fun _ i _ => (casesOf h.hs).length - (intOf i).toNat)
      case atStart => exact ⟨0, [], Nat.zero_le _, rfl, rfl, x3, Own.nil _ _ _ _⟩
      case round =>
        clear x3
        obtain ⟨k, acc, hk, rfl, hacc, xr, hown⟩ := hrel
        have hwr := xr.holds
        obtain ⟨av, cv, ev, _, _⟩ := hown.form
        subst ev
        by_cases hlk : k < (casesOf h.hs).length
        · obtain ⟨i, hi⟩ := At.mk hlk
          have hib := hcm.out i hi.mem
          have hsI : I64 i := by unfold I64; omega
          obtain ⟨b, o, c, he8, hio, hro⟩ := s8.int hi
          cases he8
          obtain ⟨b9, o9, c9', u9, he9, hu9, hr9⟩ := s9.list (allU_at hi)
          rw [allU_len] at he9
          cases he9
          obtain ⟨au, cu, rfl, _, _⟩ := hu9.form
          have hsucc := lacksTo_succ (h := h) (c := countsOf set) hi
          rw [← hacc.out, ← doesU] at hsucc
          have hacl : acc.length ≤ k := by rw [hacc.out]; exact lacksTo_len _ _ _
          have hk0 : (0 : Int) ≤ (k : Int) := by omega
          have hk1 : (k : Int) < ((casesOf h.hs).length : Int) := by omega
          have hdo := fun (J : Value) (H : Snap) (W : World) (hW : Holds H W) (hJ : Sl H J (countsOf set)) (hU : Sl H (.slice au (needsU h i).length cu) (needsU h i)) => does9_any J _ (countsOf set) (needsU h i) hcn (needsU_cn hV) H W hW hJ hU
          have hsR := hsc3
          generalize doesC (countsOf set) (needsU h i) = D at *
          replace hdo := Lib.hid hdo
          replace hsucc := Lib.hid hsucc
          replace hib := Lib.hid hib
          replace hsI := Lib.hid hsI
          go_upto_region 9 with fail
          go_cut [36] (fun t wx => t = .bool (!D) ∧ Ext w H wx H3 ∧ Own H3 w.heap.size wx 3 (.slice av acc.length cv) acc)
          case first =>
            go_region_held3 (fun w' => Holds H3 w' ∧ Ext w H w' H3) (first | assumption | exact ⟨by assumption, by assumption⟩ | (go_split_ands; exact ⟨Holds.drew (by assumption), Ext.drew (by assumption)⟩) | (go_split_ands; exact ⟨Holds.alloc (by assumption) _, Ext.alloc (by assumption) _⟩) | (go_split_ands; exact ⟨Holds.drew (Holds.alloc (by assumption) _), Ext.drew (Ext.alloc (by assumption) _)⟩)) (first | ((have hgd := sA; clear hgd; go_split_ands; go_at_call 69; refine (hdo.out _ HA _ xA.holds sA (hu9.mono lA)).mono ?_; rintro e wC ⟨rfl, hbC⟩; have k5 : Holds H3 wC := k1.below hbC; have k6 : Ext w H wC H3 := k2.step (hbC.mono k2.below.size) k5; have ownC := ownA.ext k1 ⟨hbC, k5, fun _ _ => rfl⟩)) | ((go_split_ands; go_at_call 36; refine (countsOf9_any _ set H3 _ (by assumption) hsR hst.out).mono ?_; rintro e wA ⟨vA, HA0, rfl, xA0, oA⟩; obtain ⟨HA, xA, _, sA, _⟩ := oA.close xA0; obtain ⟨aA, cA, rfl, _, _⟩ := sA.form; have lA := xA.le (by assumption); have k1 : Holds H3 wA := xA.holds.mono lA; have k2 : Ext w H wA H3 := (xr.drew.trans xA).back xr lA; have ownA := hown.drew.ext (by assumption) (xA.back (Ext.refl (by assumption)) lA))))
            all_goals
              go_wp2_with fail
              go_meet
              exact ⟨rfl, k6, ownC⟩
          case rest =>
            obtain ⟨rfl, xr, hown⟩ := hcut
            have hwr := xr.holds
            cases D
            · have hs2 : lacksTo h (countsOf set) (k + 1) = acc ++ [i] := hsucc.out
              replace hs2 := Lib.hid hs2
              go_wp2_with (first | ((at_builtin; have hgd := hown; clear hgd; refine wpList_app1I eInt _ _ xr hown i hsI.out (by omega) rfl rfl rfl rfl ?_; intro vA wA hownA hxA hwA)))
              go_roundw
              case rel => exact ⟨k + 1, acc ++ [i], by omega, by go_num, by show _ = _; rw [hs2.out], hxA, hownA⟩
              case measure => simp [intOf]; omega
            · have hs2 : lacksTo h (countsOf set) (k + 1) = acc := hsucc.out
              replace hs2 := Lib.hid hs2
              go_wp2_with fail
              go_roundw
              case rel => exact ⟨k + 1, acc, by omega, by go_num, by show _ = _; rw [hs2.out], xr, hown⟩
              case measure => simp [intOf]; omega
        · go_wp2_with fail
          go_ret2
          obtain ⟨H', hx', _, hs', _⟩ := hown.close xr
          have e : acc = lacksA h set := by rw [hfn.out, hacc.out, show k = (casesOf h.hs).length by omega]
          subst e
          exact post2_of hx' hs'
/-- So many plates less of a plate's kind. -/
def lessC (c : Cnt) (p : Plate) (m : Int) : Cnt := c.set (plc p).toNat (gT c (plc p).toNat - m)
theorem lessC_len (c : Cnt) (p : Plate) (m : Int) : (lessC c p m).length = c.length := by unfold lessC; rw [List.length_set]
theorem counts_at {l : List Plate} (h : setOk l = true) {p : Plate} (hp : p ∈ l) : gT (countsOf l) (plc p).toNat = p.mn := (countsOf_spec l h).2.1 p hp
theorem lessC_nine {l : List Plate} (h : setOk l = true) {p : Plate} (hp : p ∈ l) {m : Int} (h0 : 0 ≤ m) (h1 : m ≤ p.mn) : ∀ k, k < 12 → 0 ≤ gT (lessC (countsOf l) p m) k ∧ gT (lessC (countsOf l) p m) k ≤ 9 := by
  intro k hk
  have hpo := (setOk_iff.1 h).1 p hp
  have hb := okPlate_plc hpo
  have ho := okPlate_iff.1 hpo
  have hc := countsOf_bd h hk
  unfold lessC
  rw [gt_set (by rw [countsOf_len]; omega), counts_at h hp]
  split <;> omega
theorem lessC_cn {l : List Plate} (h : setOk l = true) {p : Plate} (hp : p ∈ l) {m : Int} (h0 : 0 ≤ m) (h1 : m ≤ p.mn) : Cn (lessC (countsOf l) p m) :=
  Cn.of (by rw [lessC_len, countsOf_len]) fun k hk => by have := lessC_nine h hp h0 h1 k hk; exact ⟨this.1, Int.le_trans this.2 (by omega)⟩

set_option maxRecDepth 100000 in
set_option maxHeartbeats 4000000 in
theorem less9_any (vs : Value) (set : List Plate) (hset : setOk set = true) (i : Nat) (p : Plate) (hp : At set i p) (m : Int) (hm0 : 0 ≤ m) (hm1 : m ≤ p.mn) (H : Snap) (w : World) (hw : Holds H w) (hs : Sl H vs set) :
    Calls Tryz.prog 38 #[vs, .int .i64 (i : Int), .int .i64 m] w (PostO w H 62 (setOf (lessC (countsOf set) p m))) := by
  have hcn := lessC_cn hset hp.mem hm0 hm1
  have hpo := (setOk_iff.1 hset).1 p hp.mem
  obtain ⟨⟨p1, p2⟩, ⟨p3, p4⟩, p5, p6⟩ := okPlate_iff.1 hpo
  obtain ⟨n, hn, hn1, hn2⟩ := plc_of hpo
  have hat : At (countsOf set) n (gT (countsOf set) n) := ((countsOf_cn hset).gt hn).1
  have hbd := countsOf_bd hset hn
  have hil : i < set.length := hp.lt
  have hl12 := setOk_len hset
  have hi0 : (0 : Int) ≤ (i : Int) := by omega
  have hi1 : (i : Int) < (set.length : Int) := by omega
  obtain ⟨ss, cs, rfl, _, _⟩ := hs.form
  have hlc : Hid (lessC (countsOf set) p m = (countsOf set).set n (gT (countsOf set) n - m)) := by
    show _ = _; unfold lessC; rw [hn1]
  have hclen := countsOf_len set
  replace hclen := Lib.hid hclen
  replace hset := Lib.hid hset
  go_enter Tryz.func38, Tryz.ntmps38
  go_upto_region 2 with (go_at_call 36; refine (countsOf9_any _ set H _ hw hs hset.out).mono ?_; rintro e w2 ⟨v2, H2, rfl, x2, hown⟩)
  have hsc := hs.mono (x2.le hw)
  have hwr := x2.holds
  obtain ⟨b, o, c', he, ⟨hi1', hi2', hi3'⟩, hr1, hr2, hr3⟩ := hsc.plate hp
  cases he
  obtain ⟨g, cg, hev, _, hcl, hfz, hgb, hgH, hgl, hset2⟩ := hown.int_at hat
  rw [hclen.out] at hev
  subst hev
  have hcw : ∀ x : WB H2 w2, x.w.cell? ⟨g, n, none⟩ = some (.int .i64 (gT (countsOf set) n)) := fun x => (x.old g n hgl).trans hcl
  generalize hz : gT (countsOf set) n = z at *
  have hn0 : (0 : Int) ≤ (n : Int) := by omega
  have hn12 : (n : Int) < 12 := by omega
  replace hn1 := Lib.hid hn1
  clear hz
  have hmI : I64 m := by unfold I64; omega
  have hwrp : IntKind.i64.wrap (z - m) = z - m := IntWalk.i64_in _ (by omega)
  have hH2 := hwr
  obtain ⟨w0, hw0⟩ : ∃ w0, Hid (w0 = w2) := ⟨_, rfl⟩
  refine (wpIn_wide (n := 3)).1 ?_
  show Code.wpIn (FW none) 3 _ _ _ _ _
  have hnq : Nonempty (WB H2 w2) := ⟨⟨w2, hwr, Below.refl _ _⟩⟩
  refine wpIn_region_qtail (C := fun w' => ∃ x : WB H2 w2, w' = x.w) 16 (by kernel_rfl) (by kernel_rfl) (by kernel_rfl) ⟨⟨World.drew w2, Holds.drew hwr, (Below.refl _ _).drew⟩, rfl⟩ ?_
  simp only [List.take_succ_cons, List.take_zero, List.drop_succ_cons, List.drop_zero]
  repeat go_big_quiet_step ((first | (go_at_call 78; exact Calls.quietS (place9_any _ _ ⟨by omega, by omega⟩ ⟨by omega, by omega⟩ _))))
  refine wpQuiet_nil ?_
  clear hnq
  rintro w2 ⟨⟨_, hw2, hb2⟩, rfl⟩
  have hown2 := hown.ext hH2 ⟨hb2, hw2, fun _ _ => rfl⟩
  have hx2 := x2.step (hb2.mono x2.below.size) hw2
  have hcl2 := (hb2.cell (p := ⟨g, n, none⟩) hgl).trans hcl
  have hfz2 := (hb2.frozen (p := ⟨g, n, none⟩) hgl).trans hfz
  have hset2 := Own.set_int hown2 hn hclen.out (z - m) (by unfold I64; omega)
  gi_wp2
  have x3 := hx2.setCell (a := ⟨g, n, none⟩) hgb hgH (.int .i64 (z - m))
  obtain ⟨H4, x4, _, s4, _⟩ := hset2.close x3
  rw [← hlc.out] at s4
  clear x3 hset2 hx2 hown2 hcl2 hfz2
  go_wp2_with (first | ((go_at_call 60; refine (setOf9_any _ _ hcn H4 _ x4.holds s4).mono ?_; rintro e w5 ⟨v5, H5, rfl, x5, o5⟩)))
  go_ret
  exact ⟨_, H5, rfl, x4.trans x5, o5.weaken x4.below.size⟩

/-! ### Idle -/

def idleN (ok : Nat → Bool) (mn : Nat) : Nat := ((List.range mn).takeWhile ok).length
theorem idleN_eq {ok : Nat → Bool} {mn n : Nat} (h1 : n ≤ mn) (h2 : ∀ j, j < n → ok j = true) (h3 : n = mn ∨ ok n = false) : idleN ok mn = n := by
  obtain ⟨k, rfl⟩ : ∃ k, mn = n + k := ⟨mn - n, by omega⟩
  unfold idleN
  rw [List.range_add, List.takeWhile_append_of_pos (fun a ha => h2 a (List.mem_range.1 ha))]
  cases k with
  | zero => simp
  | succ k =>
    have h4 : ok n = false := by rcases h3 with h | h; · omega
                                 · exact h
    rw [List.range_succ_eq_map, List.map_cons, List.takeWhile_cons, Nat.add_zero, h4]
    simp
theorem idleN_le (ok : Nat → Bool) (mn : Nat) : idleN ok mn ≤ mn := by
  unfold idleN
  have := (List.takeWhile_sublist (l := List.range mn) ok).length_le
  simpa using this
theorem idleN_pre {ok : Nat → Bool} {mn j : Nat} (h : j < idleN ok mn) : ok j = true := by
  unfold idleN at h
  have hm : ((List.range mn).takeWhile ok)[j] ∈ (List.range mn).takeWhile ok := List.getElem_mem h
  have e : ((List.range mn).takeWhile ok)[j] = j := by
    have := (List.takeWhile_prefix (l := List.range mn) ok).getElem h
    rw [this]; simp
  rw [e] at hm
  exact List.all_eq_true.1 List.all_takeWhile _ hm
theorem idleN_end {ok : Nat → Bool} {mn : Nat} : idleN ok mn = mn ∨ ok (idleN ok mn) = false := by
  by_cases h : idleN ok mn = mn
  · exact .inl h
  · refine .inr ?_
    have hle := idleN_le ok mn
    cases hk : ok (idleN ok mn) with
    | false => rfl
    | true =>
      exfalso
      have : ∀ m, m ≤ mn → (∀ j, j < m → ok j = true) → m ≤ idleN ok mn := fun m hm hj => by
        obtain ⟨k, rfl⟩ : ∃ k, mn = m + k := ⟨mn - m, by omega⟩
        unfold idleN
        rw [List.range_add, List.takeWhile_append_of_pos (fun a ha => hj a (List.mem_range.1 ha)), List.length_append, List.length_range]
        omega
      have := this (idleN ok mn + 1) (by omega) fun j hj => by
        rcases Nat.lt_or_ge j (idleN ok mn) with h | h
        · exact idleN_pre h
        · rw [show j = idleN ok mn by omega]; exact hk
      omega
/-- Enough with j + 1 plates less of a kind. -/
def idleOk (h : Hall) (set : List Plate) (p : Plate) (j : Nat) : Bool := doAllC (lessC (countsOf set) p ((j : Int) + 1)) (allA h)
def idleP (h : Hall) (set : List Plate) (p : Plate) : Nat := idleN (idleOk h set p) p.mn.toNat
def idleQ (h : Hall) (set : List Plate) (p : Plate) : Option Plate := if 0 < idleP h set p then some { p with mn := (idleP h set p : Int) } else none
def idleTo (h : Hall) (set : List Plate) (k : Nat) : List Plate := (set.take k).filterMap (idleQ h set)
def idleL (h : Hall) (set : List Plate) : List Plate := set.filterMap (idleQ h set)
theorem idleTo_succ {h : Hall} {set : List Plate} {k : Nat} {p : Plate} (hp : At set k p) : idleTo h set (k + 1) = if 0 < idleP h set p then idleTo h set k ++ [{ p with mn := (idleP h set p : Int) }] else idleTo h set k := by
  unfold idleTo
  rw [hp.take, List.filterMap_append]
  unfold idleQ
  simp only [List.filterMap_cons, List.filterMap_nil]
  split <;> simp_all
theorem idleTo_len (h : Hall) (set : List Plate) (k : Nat) : (idleTo h set k).length ≤ k := by
  unfold idleTo
  exact Nat.le_trans (List.length_filterMap_le _ _) (by rw [List.length_take]; omega)
theorem idleTo_end (h : Hall) (set : List Plate) : idleTo h set set.length = idleL h set := by unfold idleTo idleL; rw [List.take_length]
def idleA (h : Hall) (set : List Plate) : List Plate := if validHall h && setOk set then (if doAllC (countsOf set) (allA h) then idleL h set else []) else []
def idleE (h : Hall) (set : List Plate) : Int := if validHall h && setOk set then (if doAllC (countsOf set) (allA h) then 0 else 3) else askM (validHall h) (setOk set)

end Go.Proofs.YtngdppajailpcaaGreat

namespace Go.Proofs.YtngdppajailpcaaGreat
open Go.RowKit

attribute [local go_sem] Holds.drew Holds.alloc Holds.drewN WB.holds Oper.semAt_some FW_fn FW_dep FW_round


set_option maxRecDepth 100000 in
set_option maxHeartbeats 4000000 in
theorem idle9_any (vm vb vt vo ve vs : Value) (h : Hall) (set : List Plate) (H : Snap) (w : World) (hw : Holds H w) (hh : Hal H vm vb vt vo ve h) (hs : Sl H vs set) :
    Calls Tryz.prog 30 #[halV vm vb vt vo ve h, vs] w (Post w H fun v H' => ∃ u, v = .tuple #[u, .int .i64 (idleE h set)] ∧ Sl H' u (idleA h set)) := by
  cases hok : validHall h && setOk set
  · have hn : idleA h set = [] := by unfold idleA; rw [hok]; rfl
    have hne : idleE h set = askM (validHall h) (setOk set) := by unfold idleE; rw [hok]; rfl
    have he := askM_ne hok
    rw [hne]
    replace hok := Lib.hid hok
    rcases he with he | he
    all_goals
      rw [he]
      replace he := Lib.hid he
      go_enter Tryz.func30, Tryz.ntmps30
      go_upto_region 1 with (refine wpList_boxF rfl _ rfl (Ext.refl hw) ?_; intro B w1 H1 hle hx hB hBw; obtain ⟨hc0, hc1, hc2, hc3, hc4, hc5⟩ := cellsHal hB; clear hB hw; have hw1 := hx.holds)
      have hhc := hh.mono hle
      refine wp_region_quietB H1 (by kernel_rfl) (by kernel_rfl) hw1 (fun hne => ?_)
      repeat go_big_quiet_step ((first | (go_at_call 68; exact Calls.quietB (isSet9_any _ _ _ _ (WB.holds _) (hs.mono hle))) | (go_at_call 50; exact Calls.quietB (ask9_any _ _ _ _ _ _ _ _ _ (WB.holds _) hhc))))
      refine wpQuiet_nil ?_
      rintro ⟨w2, hw2, hb2⟩
      clear hne
      rw [he.out]
      go_wp2
      go_ret2
      exact post2_no (hx.step (hb2.mono hx.below.size) hw2) hn
  · simp only [Bool.and_eq_true] at hok
    obtain ⟨hvh, hst⟩ := hok
    have hV := validHall_iff.1 hvh
    have he : askM (validHall h) (setOk set) = 0 := by rw [hvh, hst]; rfl
    have hcn := countsOf_cn hst
    have hl12 := setOk_len hst
    have hA1 : idleA h set = if doAllC (countsOf set) (allA h) then idleL h set else [] := by unfold idleA; rw [hvh, hst]; rfl
    have hA2 : idleE h set = if doAllC (countsOf set) (allA h) then 0 else 3 := by unfold idleE; rw [hvh, hst]; rfl
    obtain ⟨ss, cs, rfl, _, _⟩ := hs.form
    have hdo := fun (a b : Value) (H : Snap) (W : World) (hW : Holds H W) h1 h2 => doAll9_any a b (countsOf set) (allU h) hcn (allU_cn hV) H W hW h1 h2
    rw [doAllU] at hdo
    rw [hst] at he
    cases gD : doAllC (countsOf set) (allA h)
    · rw [gD] at hA1 hA2 hdo
      rw [if_neg (by decide)] at hA1 hA2
      rw [hA2]
      replace hA1 := Lib.hid hA1
      replace hdo := Lib.hid hdo
      clear hA2 gD
      go_enter Tryz.func30, Tryz.ntmps30
      go_upto_region 1 with (refine wpList_boxF rfl _ rfl (Ext.refl hw) ?_; intro B w1 H1 hle hx hB hBw; obtain ⟨hc0, hc1, hc2, hc3, hc4, hc5⟩ := cellsHal hB; clear hB hw; have hw1 := hx.holds)
      have hhc := hh.mono hle
      have hsc := hs.mono hle
      refine wp_region_quietB H1 (by kernel_rfl) (by kernel_rfl) hw1 (fun hne => ?_)
      repeat go_big_quiet_step ((first | (go_at_call 68; exact Calls.quietB (isSet9_any _ _ _ _ (WB.holds _) (hs.mono hle))) | (go_at_call 50; exact Calls.quietB (ask9_any _ _ _ _ _ _ _ _ _ (WB.holds _) hhc))))
      refine wpQuiet_nil ?_
      rintro ⟨w2, hw2, hb2⟩
      clear hne
      rw [he]
      have x2 := hx.step (hb2.mono hx.below.size) hw2
      clear hx hw1
      go_wp2_with (first | ((have hgd := sB; clear hgd; go_at_call 77; refine (hdo.out _ _ HB _ xB.holds sB (sA.mono lB)).mono ?_; rintro e wC ⟨rfl, hbC⟩; have yC := yB.step (hbC.mono yB.below.size) (xB.holds.below hbC))) | (have hgd := sA; clear hgd; go_at_call 36; refine (countsOf9_any _ set HA _ xA.holds (hsc.mono lA) hst).mono ?_; rintro e wB ⟨vB, HB0, rfl, xB0, oB⟩; obtain ⟨HB, xB, _, sB, _⟩ := oB.close xB0; obtain ⟨aB, cB, rfl, _, _⟩ := sB.form; have lB := xB.le xA.holds; have yB := yA.trans xB) | (have hgd := x2; clear hgd; go_at_call 59; refine (allNeeds9_any _ _ _ _ _ h hV H1 _ x2.holds hhc).mono ?_; rintro e wA ⟨vA, HA, rfl, xA, sA⟩; obtain ⟨aA, cA, rfl, _, _⟩ := sA.form; have lA := xA.le x2.holds; have yA := x2.trans xA))
      go_ret2
      exact post2_no yC hA1.out
    · rw [gD] at hA1 hA2 hdo
      rw [if_pos rfl] at hA1 hA2
      rw [hA2]
      replace hA1 := Lib.hid hA1
      replace hdo := Lib.hid hdo
      clear hA2 gD
      go_enter Tryz.func30, Tryz.ntmps30
      go_upto_region 1 with (refine wpList_boxF rfl _ rfl (Ext.refl hw) ?_; intro B w1 H1 hle hx hB hBw; obtain ⟨hc0, hc1, hc2, hc3, hc4, hc5⟩ := cellsHal hB; clear hB hw; have hw1 := hx.holds)
      have hhc := hh.mono hle
      have hsc := hs.mono hle
      refine wp_region_quietB H1 (by kernel_rfl) (by kernel_rfl) hw1 (fun hne => ?_)
      repeat go_big_quiet_step ((first | (go_at_call 68; exact Calls.quietB (isSet9_any _ _ _ _ (WB.holds _) (hs.mono hle))) | (go_at_call 50; exact Calls.quietB (ask9_any _ _ _ _ _ _ _ _ _ (WB.holds _) hhc))))
      refine wpQuiet_nil ?_
      rintro ⟨w2, hw2, hb2⟩
      clear hne
      rw [he]
      have x2 := hx.step (hb2.mono hx.below.size) hw2
      clear hx hw1
      go_upto_region 7 with (first
        | (have hgd := sB; clear hgd; go_at_call 77; refine (hdo.out _ _ HB _ xB.holds sB (sA.mono lB)).mono ?_; rintro e wC ⟨rfl, hbC⟩; have yC := yB.step (hbC.mono yB.below.size) (xB.holds.below hbC))
        | (have hgd := sA; clear hgd; go_at_call 36; refine (countsOf9_any _ set HA _ xA.holds (hsc.mono lA) hst).mono ?_; rintro e wB ⟨vB, HB0, rfl, xB0, oB⟩; obtain ⟨HB, xB, _, sB, _⟩ := oB.close xB0; obtain ⟨aB, cB, rfl, _, _⟩ := sB.form; have lB := xB.le xA.holds; have yB := yA.trans xB)
        | (have hgd := x2; clear hgd; go_at_call 59; refine (allNeeds9_any _ _ _ _ _ h hV H1 _ x2.holds hhc).mono ?_; rintro e wA ⟨vA, HA, rfl, xA, sA⟩; obtain ⟨aA, cA, rfl, _, _⟩ := sA.form; have lA := xA.le x2.holds; have yA := x2.trans xA))
      have hsX := (hsc.mono lA).mono lB
      have sX := sA.mono lB
      have hend := idleTo_end h set
      rw [← hA1.out] at hend
      replace hend := Lib.hid hend
      replace hst := Lib.hid hst
      have hal := allU_len h
      obtain ⟨aA, cA, ecA, _, _⟩ := sX.form
      cases ecA
      clear hdo hc0 hc1 hc2 hc3 hc4 hc5 sB sA yB yA x2 xB xA hw2 hsc hhc hs hA1 hal hb2 he
      go_wp2
      go_loopw [8, 9, 10] (fun v i _ wr => ∃ (k : Nat) (acc : List Plate), k ≤ set.length ∧ i = .int .i64 k ∧ Hid (acc = idleTo h set k) ∧ Ext w H wr HB ∧ Own HB w.heap.size wr 62 v acc) (fun _ i _ _ => set.length - (intOf i).toNat)
      case atStart => exact ⟨0, [], Nat.zero_le _, rfl, rfl, yC, Own.nil _ _ _ _⟩
      case round =>
        clear yC hbC
        obtain ⟨k, acc, hk, rfl, hacc, xr, hown⟩ := hrel
        have hwr := xr.holds
        obtain ⟨av, cv, ev, _, _⟩ := hown.form
        subst ev
        by_cases hlk : k < set.length
        · obtain ⟨p, hp⟩ := At.mk hlk
          obtain ⟨b, o, c', he, ⟨i1, i2, i3⟩, hr1, hr2, hr3⟩ := hsX.plate hp
          cases he
          have hpo := (setOk_iff.1 hst.out).1 p hp.mem
          obtain ⟨⟨p1, p2⟩, ⟨p3, p4⟩, p5, p6⟩ := okPlate_iff.1 hpo
          replace i1 := Lib.hid i1
          replace i2 := Lib.hid i2
          have hk0 : (0 : Int) ≤ (k : Int) := by omega
          have hk1 : (k : Int) < (set.length : Int) := by omega
          have hsucc := idleTo_succ (h := h) hp
          rw [← hacc.out] at hsucc
          have hacl : acc.length ≤ 12 := by have := idleTo_len h set k; rw [← hacc.out] at this; omega
          obtain ⟨M, hM⟩ : ∃ M : Nat, p.mn = (M : Int) := ⟨p.mn.toNat, by omega⟩
          have hMp : idleP h set p = idleN (idleOk h set p) M := by unfold idleP; rw [hM]; rfl
          have hM9 : M ≤ 9 := by omega
          have hLs := fun (m : Int) (h0 : 0 ≤ m) (h1 : m ≤ p.mn) (W : World) (hW : Holds HB W) => less9_any _ set hst.out k p hp m h0 h1 HB W hW hsX
          have hCs := fun (m : Int) (h0 : 0 ≤ m) (h1 : m ≤ p.mn) => lessC_cn hst.out hp.mem h0 h1
          have hNs := fun (m : Int) (h0 : 0 ≤ m) (h1 : m ≤ p.mn) => lessC_nine hst.out hp.mem h0 h1
          rw [hM] at hLs hCs hNs hr3
          replace hLs := Lib.hid hLs
          replace hCs := Lib.hid hCs
          replace hNs := Lib.hid hNs
          replace hM := Lib.hid hM
          replace hMp := Lib.hid hMp
          replace hsucc := Lib.hid hsucc
          clear hpo
          go_wp2
          go_loopw [10] (fun n wr => ∃ (j : Nat), j ≤ M ∧ n = .int .i64 j ∧ Hid (∀ q, q < j → idleOk h set p q = true) ∧ Ext w H wr HB ∧ Own HB w.heap.size wr 62 (.slice av acc.length cv) acc) (fun n _ => M - (intOf n).toNat)
          case atStart => exact ⟨0, Nat.zero_le _, rfl, Lib.hid fun q hq => absurd hq (by omega), xr, hown⟩
          case round =>
            clear xr hown hwr
            obtain ⟨j, hj, rfl, hjo, xr, hown⟩ := hrel
            have hwr := xr.holds
            have ex : ∀ (wz : World), idleP h set p = j → Ext w H wz HB → Own HB w.heap.size wz 62 (.slice av acc.length cv) acc → True := fun _ _ _ _ => trivial
            clear ex
            by_cases hjm : j < M
            · have hj1 : (j : Int) < (M : Int) := by omega
              have hd1 : decide ((j : Int) < (M : Int)) = true := decide_eq_true hj1
              have hj2 : (0 : Int) ≤ (j : Int) + 1 := by omega
              have hj3 : (j : Int) + 1 ≤ (M : Int) := by omega
              have hwrp : IntKind.i64.wrap ((j : Int) + 1) = (j : Int) + 1 := IntWalk.i64_in _ (by omega)
              have hcj := hCs.out ((j : Int) + 1) hj2 hj3
              have h9j := hNs.out ((j : Int) + 1) hj2 hj3
              have hL1 := hLs.out ((j : Int) + 1) hj2 hj3
              have hok9 : setOk (setOf (lessC (countsOf set) p ((j : Int) + 1))) = true := setOf_ok fun q hq => (h9j q hq).2
              have hC1 := fun (a : Value) (S : Snap) (W : World) (hW : Holds S W) hs => countsOf9_any a (setOf (lessC (countsOf set) p ((j : Int) + 1))) S W hW hs hok9
              rw [countsOf_setOf hcj] at hC1
              have hD1 := fun (a b : Value) (S : Snap) (W : World) (hW : Holds S W) h1 h2 => doAll9_any a b (lessC (countsOf set) p ((j : Int) + 1)) (allU h) hcj (allU_cn hV) S W hW h1 h2
              rw [doAllU] at hD1
              have hio : doAllC (lessC (countsOf set) p ((j : Int) + 1)) (allA h) = idleOk h set p j := rfl
              rw [hio] at hD1
              replace hL1 := Lib.hid hL1
              replace hC1 := Lib.hid hC1
              replace hD1 := Lib.hid hD1
              clear hio hok9 h9j hcj
              have hbk : ∀ w3, Below wr.heap.size wr w3 → Ext w H w3 HB ∧ Own HB w.heap.size w3 62 (.slice av acc.length cv) acc := fun w3 hb3 =>
                ⟨xr.step (hb3.mono xr.below.size) (hwr.below hb3), hown.ext hwr ⟨hb3, hwr.below hb3, fun _ _ => rfl⟩⟩
              replace hbk := Lib.hid hbk
              cases hO : idleOk h set p j
              · rw [hO] at hD1
                have hfin : idleP h set p = j := by rw [hMp.out]; exact idleN_eq hj (fun q hq => hjo.out q hq) (.inr hO)
                have hsu := hsucc.out
                rw [hfin] at hsu
                replace hsu := Lib.hid hsu
                clear hO hfin xr hown
                cases j with
                | zero =>
                  have hs2 : idleTo h set (k + 1) = acc := by rw [hsu.out]; rfl
                  replace hs2 := Lib.hid hs2
                  go_wp2_with (first | ((have hgd := sE; clear hgd; go_at_call 77; refine (hD1.out _ _ HE _ xE.holds sE ((sX.mono lD).mono lE)).mono ?_; rintro e wF ⟨rfl, hbF⟩; have bq := bE.trans (hbF.mono bE.size))) | ((have hgd := sD; clear hgd; go_at_call 36; refine (hC1.out _ HD _ xD.holds sD).mono ?_; rintro e wE ⟨vE, HE0, rfl, xE0, oE⟩; obtain ⟨HE, xE, _, sE, _⟩ := oE.close xE0; obtain ⟨aE, cE, rfl, _, _⟩ := sE.form; have lE := xE.le xD.holds; have bE := xD.below.trans (xE.below.mono xD.below.size))) | ((have hgd := hL1; clear hgd; go_at_call 38; refine (hL1.out _ hwr).mono ?_; rintro e wD ⟨vD, HD0, rfl, xD0, oD⟩; obtain ⟨HD, xD, _, sD, _⟩ := oD.close xD0; obtain ⟨aD, cD, rfl, _, _⟩ := sD.form; have lD := xD.le hwr)))
                  go_roundw
                  case rel => exact ⟨k + 1, acc, by omega, by go_num, by show _ = _; rw [hs2.out], hbk.out _ bq⟩
                  case measure => simp [intOf]; omega
                | succ j =>
                  have hs2 : idleTo h set (k + 1) = acc ++ [{ p with mn := ((j + 1 : Nat) : Int) }] := by rw [hsu.out]; rfl
                  replace hs2 := Lib.hid hs2
                  have hjp : (0 : Int) < ((j + 1 : Nat) : Int) := by omega
                  have i4 : Hid (I64 ((j + 1 : Nat) : Int)) := Lib.hid (by unfold I64; omega)
                  go_upto_region 15 with (first
                    | (have hgd := sE; clear hgd; go_at_call 77; refine (hD1.out _ _ HE _ xE.holds sE ((sX.mono lD).mono lE)).mono ?_; rintro e wF ⟨rfl, hbF⟩; have bq := bE.trans (hbF.mono bE.size))
                    | (have hgd := sD; clear hgd; go_at_call 36; refine (hC1.out _ HD _ xD.holds sD).mono ?_; rintro e wE ⟨vE, HE0, rfl, xE0, oE⟩; obtain ⟨HE, xE, _, sE, _⟩ := oE.close xE0; obtain ⟨aE, cE, rfl, _, _⟩ := sE.form; have lE := xE.le xD.holds; have bE := xD.below.trans (xE.below.mono xD.below.size))
                    | (have hgd := hL1; clear hgd; go_at_call 38; refine (hL1.out _ hwr).mono ?_; rintro e wD ⟨vD, HD0, rfl, xD0, oD⟩; obtain ⟨HD, xD, _, sD, _⟩ := oD.close xD0; obtain ⟨aD, cD, rfl, _, _⟩ := sD.form; have lD := xD.le hwr))
                  obtain ⟨xr, hown⟩ := hbk.out _ bq
                  have hwr := xr.holds
                  go_region_held3 (fun w' => Holds HB w' ∧ Ext w H w' HB) (first | assumption | exact ⟨by assumption, by assumption⟩ | (go_split_ands; exact ⟨Holds.drew (by assumption), Ext.drew (by assumption)⟩) | (go_split_ands; exact ⟨Holds.alloc (by assumption) _, Ext.alloc (by assumption) _⟩) | (go_split_ands; exact ⟨Holds.drew (Holds.alloc (by assumption) _), Ext.drew (Ext.alloc (by assumption) _)⟩)) (first | ((go_split_ands; refine step_appCX (w0 := w) (H0 := H) ePlate rfl _ _ rfl (xr.drew.alloc _) rfl (hown.drew.alloc _) rfl (x := ⟨p.pg, p.br, ((j + 1 : Nat) : Int)⟩) (cs := [.int .i64 p.pg, .int .i64 p.br, .int .i64 (((j + 1 : Nat) : Int))]) ⟨rfl, i1.out, i2.out, i4.out⟩ (three_cell (by first | exact heap_alloc_new _ _ | (simp [go_sem]; done))) (by simp [Enc.by_]; omega) (by omega) ?_; intro vB wB hownB hxB hwB hgB)))
                  all_goals
                    go_wp2_with fail
                    go_roundw
                    case rel => exact ⟨k + 1, _, by omega, by go_num, by show _ = _; rw [hs2.out], hxB, hownB⟩
                    case measure => simp [intOf]; omega
              · rw [hO] at hD1
                have hjo2 : ∀ q, q < j + 1 → idleOk h set p q = true := fun q hq => by
                  rcases Nat.lt_or_ge q j with h | h
                  · exact hjo.out q h
                  · rw [show q = j by omega]; exact hO
                replace hjo2 := Lib.hid hjo2
                clear hO xr hown
                go_wp2_with (first | ((have hgd := sE; clear hgd; go_at_call 77; refine (hD1.out _ _ HE _ xE.holds sE ((sX.mono lD).mono lE)).mono ?_; rintro e wF ⟨rfl, hbF⟩; have bq := bE.trans (hbF.mono bE.size))) | ((have hgd := sD; clear hgd; go_at_call 36; refine (hC1.out _ HD _ xD.holds sD).mono ?_; rintro e wE ⟨vE, HE0, rfl, xE0, oE⟩; obtain ⟨HE, xE, _, sE, _⟩ := oE.close xE0; obtain ⟨aE, cE, rfl, _, _⟩ := sE.form; have lE := xE.le xD.holds; have bE := xD.below.trans (xE.below.mono xD.below.size))) | ((have hgd := hL1; clear hgd; go_at_call 38; refine (hL1.out _ hwr).mono ?_; rintro e wD ⟨vD, HD0, rfl, xD0, oD⟩; obtain ⟨HD, xD, _, sD, _⟩ := oD.close xD0; obtain ⟨aD, cD, rfl, _, _⟩ := sD.form; have lD := xD.le hwr)))
                go_roundw
                case rel => exact ⟨j + 1, by omega, by go_num, hjo2, hbk.out _ bq⟩
                case measure => simp [intOf]; omega
            · have hjM : j = M := by omega
              subst hjM
              have hd1 : decide ((j : Int) < (j : Int)) = false := decide_eq_false (by omega)
              have hfin : idleP h set p = j := by rw [hMp.out]; exact idleN_eq hj (fun q hq => hjo.out q hq) (.inl rfl)
              have hsu := hsucc.out
              rw [hfin] at hsu
              replace hsu := Lib.hid hsu
              have hM0 : 1 ≤ j := by have := hM.out; omega
              have hs2 : idleTo h set (k + 1) = acc ++ [{ p with mn := (j : Int) }] := by rw [hsu.out, if_pos (by omega)]
              replace hs2 := Lib.hid hs2
              have hjp : (0 : Int) < (j : Int) := by omega
              have i4 : Hid (I64 (j : Int)) := Lib.hid (by unfold I64; omega)
              clear hfin
              go_upto_region 15 with fail
              go_region_held3 (fun w' => Holds HB w' ∧ Ext w H w' HB) (first | assumption | exact ⟨by assumption, by assumption⟩ | (go_split_ands; exact ⟨Holds.drew (by assumption), Ext.drew (by assumption)⟩) | (go_split_ands; exact ⟨Holds.alloc (by assumption) _, Ext.alloc (by assumption) _⟩) | (go_split_ands; exact ⟨Holds.drew (Holds.alloc (by assumption) _), Ext.drew (Ext.alloc (by assumption) _)⟩)) (first | ((go_split_ands; refine step_appCX (w0 := w) (H0 := H) ePlate rfl _ _ rfl (xr.drew.alloc _) rfl (hown.drew.alloc _) rfl (x := ⟨p.pg, p.br, (j : Int)⟩) (cs := [.int .i64 p.pg, .int .i64 p.br, .int .i64 ((j : Int))]) ⟨rfl, i1.out, i2.out, i4.out⟩ (three_cell (by first | exact heap_alloc_new _ _ | (simp [go_sem]; done))) (by simp [Enc.by_]; omega) (by omega) ?_; intro vB wB hownB hxB hwB hgB)))
              all_goals
                go_wp2_with fail
                go_roundw
                case rel => exact ⟨k + 1, _, by omega, by go_num, by show _ = _; rw [hs2.out], hxB, hownB⟩
                case measure => simp [intOf]; omega
        · go_wp2_with fail
          go_ret2
          obtain ⟨H', hx', _, hs', _⟩ := hown.close xr
          have e : acc = idleA h set := by rw [hacc.out, ← hend.out, show k = set.length by omega]
          subst e
          exact post2_of hx' hs'

end Go.Proofs.YtngdppajailpcaaGreat

namespace Go.Proofs.YtngdppajailpcaaGreat

theorem set_eq : ∀ {a b : List Plate}, (a.map plc).Pairwise (· < ·) → (b.map plc).Pairwise (· < ·) → (∀ x, x ∈ a ↔ x ∈ b) → a = b
  | [], [], _, _, _ => rfl
  | [], y :: b, _, _, h => by have := (h y).2 (by simp); cases this
  | x :: a, [], _, _, h => by have := (h x).1 (by simp); cases this
  | x :: a, y :: b, h1, h2, h => by
    rw [List.map_cons, List.pairwise_cons] at h1 h2
    have hlt1 : ∀ z ∈ a, plc x < plc z := fun z hz => h1.1 _ (List.mem_map.2 ⟨z, hz, rfl⟩)
    have hlt2 : ∀ z ∈ b, plc y < plc z := fun z hz => h2.1 _ (List.mem_map.2 ⟨z, hz, rfl⟩)
    have e : x = y := by
      rcases List.mem_cons.1 ((h x).1 (by simp)) with e | hx
      · exact e
      · rcases List.mem_cons.1 ((h y).2 (by simp)) with e | hy
        · exact e.symm
        · have k1 := hlt1 y hy; have k2 := hlt2 x hx; omega
    subst e
    rw [set_eq h1.2 h2.2 fun z => ?_]
    constructor
    · intro hz
      rcases List.mem_cons.1 ((h z).1 (by simp [hz])) with e | hb
      · subst e; have := hlt1 z hz; omega
      · exact hb
    · intro hz
      rcases List.mem_cons.1 ((h z).2 (by simp [hz])) with e | hb
      · subst e; have := hlt2 z hz; omega
      · exact hb
theorem plc_inj {p q : Plate} (hp : okPlate p = true) (hq : okPlate q = true) (e : plc p = plc q) (em : p.mn = q.mn) : p = q := by
  have h1 := okPlate_iff.1 hp
  have h2 := okPlate_iff.1 hq
  unfold plc at e
  cases p; cases q
  simp only at *
  congr 1 <;> omega
theorem set_mem {l : List Plate} (h : setOk l = true) {p : Plate} : p ∈ l ↔ okPlate p = true ∧ gT (countsOf l) (plc p).toNat = p.mn := by
  have hok := (setOk_iff.1 h).1
  constructor
  · exact fun hp => ⟨hok p hp, counts_at h hp⟩
  · rintro ⟨hp, hc⟩
    have hb := okPlate_plc hp
    have ho := okPlate_iff.1 hp
    by_cases e : ∀ q ∈ l, (plc q).toNat ≠ (plc p).toNat
    · rw [(countsOf_spec l h).1 _ (by omega) e] at hc; omega
    · have : ∃ q ∈ l, (plc q).toNat = (plc p).toNat := Classical.byContradiction fun hn => e fun q hq hh => hn ⟨q, hq, hh⟩
      obtain ⟨q, hq, eq⟩ := this
      have hqo := hok q hq
      have hqb := okPlate_plc hqo
      have hqc := counts_at h hq
      rw [eq, hc] at hqc
      rw [plc_inj hp hqo (by omega) hqc]; exact hq
theorem set_same {a b : List Plate} (ha : setOk a = true) (hb : setOk b = true) (e : countsOf a = countsOf b) : a = b :=
  set_eq (setOk_iff.1 ha).2 (setOk_iff.1 hb).2 fun x => by rw [set_mem ha, set_mem hb, e]
theorem setOf_counts {l : List Plate} (h : setOk l = true) : setOf (countsOf l) = l :=
  set_same (setOf_ok fun _ hk => (countsOf_bd h hk).2) h (countsOf_setOf (countsOf_cn h))
theorem idleQ_some {h : Hall} {set : List Plate} {p q : Plate} (e : idleQ h set p = some q) : q = { p with mn := (idleP h set p : Int) } ∧ 0 < idleP h set p := by
  unfold idleQ at e
  split at e
  · cases e; exact ⟨rfl, by assumption⟩
  · cases e
theorem idle_ok (h : Hall) (set : List Plate) : ∀ {l : List Plate}, (∀ p ∈ l, okPlate p = true) → (l.map plc).Pairwise (· < ·) → setOk (l.filterMap (idleQ h set)) = true := fun {l} h1 h2 => by
  refine setOk_iff.2 ⟨fun q hq => ?_, ?_⟩
  · obtain ⟨p, hp, e⟩ := List.mem_filterMap.1 hq
    obtain ⟨rfl, h0⟩ := idleQ_some e
    have hb := okPlate_iff.1 (h1 p hp)
    have hle : idleP h set p ≤ p.mn.toNat := idleN_le _ _
    rw [okPlate_iff]
    simp only
    omega
  · have hsub : ((l.filterMap (idleQ h set)).map plc).Sublist (l.map plc) := by
      clear h1 h2
      induction l with
      | nil => exact List.Sublist.slnil
      | cons p l ih =>
        rw [List.filterMap_cons]
        cases e : idleQ h set p with
        | none => exact ih.cons _
        | some q =>
          obtain ⟨rfl, _⟩ := idleQ_some e
          exact ih.cons₂ _
    exact h2.sublist hsub
theorem idleTo_ok {h : Hall} {set : List Plate} (hs : setOk set = true) (k : Nat) : setOk (idleTo h set k) = true := by
  obtain ⟨h1, h2⟩ := setOk_iff.1 hs
  exact idle_ok h set (fun p hp => h1 p (List.mem_of_mem_take hp)) (by rw [List.map_take]; exact h2.sublist (List.take_sublist _ _))
theorem idleL_ok {h : Hall} {set : List Plate} (hs : setOk set = true) : setOk (idleL h set) = true := by
  rw [← idleTo_end]; exact idleTo_ok hs _
/-- The counts that have been found idle. -/
def outC (h : Hall) (set : List Plate) (k : Nat) : Cnt := countsOf (idleTo h set k)
theorem outC_len (h : Hall) (set : List Plate) (k : Nat) : (outC h set k).length = 12 := countsOf_len _
theorem outC_zero (h : Hall) (set : List Plate) : outC h set 0 = zero12 := rfl
theorem outC_at {h : Hall} {set : List Plate} (hs : setOk set = true) {k : Nat} {p : Plate} (hp : At set k p) : gT (outC h set k) (plc p).toNat = 0 := by
  obtain ⟨h1, h2⟩ := setOk_iff.1 hs
  have hb := okPlate_plc (h1 p hp.mem)
  refine (countsOf_spec _ (idleTo_ok hs k)).1 _ (by omega) fun q hq => ?_
  unfold idleTo at hq
  obtain ⟨r, hr, e⟩ := List.mem_filterMap.1 hq
  obtain ⟨rfl, _⟩ := idleQ_some e
  have hlt : plc r < plc p := by
    have e2 : set.map plc = (set.take k).map plc ++ (set.drop k).map plc := by rw [← List.map_append, List.take_append_drop]
    rw [e2, List.pairwise_append] at h2
    refine h2.2.2 _ (List.mem_map.2 ⟨r, hr, rfl⟩) _ (List.mem_map.2 ⟨p, ?_, rfl⟩)
    rw [List.drop_eq_getElem_cons hp.lt]
    have : set[k]'hp.lt = p := by have := hp; unfold At at this; rw [List.getElem?_eq_getElem hp.lt] at this; exact Option.some.inj this
    rw [this]; simp
  have hrb := okPlate_plc (h1 r (List.mem_of_mem_take hr))
  show (plc r).toNat ≠ _
  omega
theorem set_zero {c : Cnt} {n : Nat} (hn : n < c.length) (e : gT c n = 0) : c.set n 0 = c := by
  rw [← e]
  unfold gT
  rw [List.getD_eq_getElem?_getD, List.getElem?_eq_getElem hn]
  exact List.set_getElem_self hn
theorem outC_succ {h : Hall} {set : List Plate} (hs : setOk set = true) {k : Nat} {p : Plate} (hp : At set k p) : outC h set (k + 1) = (outC h set k).set (plc p).toNat (idleP h set p : Int) := by
  have hz := outC_at (h := h) hs hp
  have hb := okPlate_plc ((setOk_iff.1 hs).1 p hp.mem)
  unfold outC at *
  rw [idleTo_succ hp]
  split
  · rw [countsOf_snoc]
    show (countsOf (idleTo h set k)).set (plc p).toNat (gT (countsOf (idleTo h set k)) (plc p).toNat + (idleP h set p : Int)) = _
    rw [hz, Int.zero_add]
  · rename_i h0
    rw [show idleP h set p = 0 by omega]
    exact (set_zero (by rw [countsOf_len]; omega) hz).symm
theorem lessC_set (c : Cnt) (p : Plate) {M j : Nat} (hM : gT c (plc p).toNat = (M : Int)) : lessC c p (j : Int) = c.set (plc p).toNat ((M : Int) - (j : Int)) := by unfold lessC; rw [hM]

theorem doAllC_agree : ∀ {a b : List (List Cnt)} {c : Cnt}, c.length = 12 → (∀ l ∈ a, Six 12 l) → (∀ l ∈ b, Six 12 l) → Doms a b → Doms b a → doAllC c a = doAllC c b
  | [], [], _, _, _, _, _, _ => rfl
  | l :: a, m :: b, c, hc, ha, hb, .cons h1 h2, .cons h3 h4 => by
    show (doesC c l && doAllC c a) = (doesC c m && doAllC c b)
    rw [doesC_dom hc (ha l (by simp)) (hb m (by simp)) h1 h3, doAllC_agree hc (fun l h => ha l (by simp [h])) (fun l h => hb l (by simp [h])) h2 h4]

end Go.Proofs.YtngdppajailpcaaGreat

namespace Go.Proofs.YtngdppajailpcaaGreat
open Go.RowKit

attribute [local go_sem] Holds.drew Holds.alloc Holds.drewN WB.holds Oper.semAt_some FW_fn FW_dep FW_round run_loadShV
attribute [local go_sem ↓] loadAt_sh

set_option maxHeartbeats 4000000 in
theorem idle11_any (c : Cnt) (hc : Cn c) (v : Value) (ss : List Shf) (hss : ∀ s ∈ ss, Cn s.c) (B : Nat) (H : Snap) (w : World) (hw : Holds H w) (hs : Sl H v ss) (hB : H B = some (.cells (shC c) 84 (0, 0))) :
    Calls Tryz.prog 76 #[v, .pointer (some ⟨B, 0, none⟩)] w (PostV w (.bool (!doesC c (ss.map Shf.c)))) := by
  have hl := hc.len
  have h1 := midH hB hl
  have s1 : (shC c).size = 12 := by rw [shC_size, hl]
  have hd := does_any c hc v ss H w hw hs hss
  generalize doesC c (ss.map Shf.c) = D at *
  replace hd := Lib.hid hd
  obtain ⟨a, cc, rfl, _, _⟩ := hs.form
  go_enter Tryz.func76, Tryz.ntmps76
  go_wp2_with (first | (go_at_call 66; refine hd.out.mono ?_; rintro e w2 ⟨rfl, hb2⟩))
  go_ret
  exact ⟨rfl, hb2⟩

set_option maxHeartbeats 4000000 in
theorem indexM5_any (B : Nat) (va : Value) (xs : List (List Shf)) (p : List Shf → Bool) (H : Snap) (w : World) (hw : Holds H w) (ha : Sl H va xs)
    (hcall : Hid (∀ x ∈ xs, ∀ (u : Value) (w : World), Holds H w → Sl H u x → Calls Tryz.prog 76 #[u, .pointer (some ⟨B, 0, none⟩)] w (PostV w (.bool (p x))))) :
    Calls Tryz.prog 104 #[va, .func (.func 76) #[] #[.pointer (some ⟨B, 0, none⟩)]] w (idxPostB w (xs.any p) xs.length) := by
  obtain ⟨aa, ca, rfl, ha1, ha2⟩ := ha.form
  go_enter Tryz.func104, Tryz.ntmps104
  go_wp2
  go_loopw [5, 8] (fun _ i wr => ∃ k : Nat, k ≤ xs.length ∧ i = .int .i64 k ∧ Hid ((xs.take k).any p = false) ∧ Ext w H wr H) (fun _ i _ => xs.length - (intOf i).toNat)
  case atStart => exact ⟨0, Nat.zero_le _, rfl, rfl, Ext.refl hw⟩
  case round =>
    obtain ⟨k, hk, rfl, hok, hxr⟩ := hrel
    have hwr := hxr.holds
    by_cases hlk : k < xs.length
    · obtain ⟨x, hxk⟩ := At.mk hlk
      obtain ⟨b, o, cc, u, he, hu, hr⟩ := ha.list hxk
      cases he
      obtain ⟨au, cu, rfl, _, _⟩ := hu.form
      have hm := hxk.mem
      cases g : p x
      all_goals have g' := Lib.hid g
      · go_wp2_with (first | (go_at_call 76; refine (hcall.out x hm _ _ hwr hu).mono ?_; rintro e w' ⟨rfl, hb2⟩; rw [g'.out]))
        go_roundw
        case rel => exact ⟨k + 1, by omega, by go_num, by show _ = _; rw [hxk.take, List.any_append, hok.out]; simp only [List.any_cons, List.any_nil, g'.out]; rfl, hxr.step (hb2.mono hxr.below.size) (hwr.below hb2)⟩
        case measure => simp [intOf]; omega
      · go_wp2_with (first | (go_at_call 76; refine (hcall.out x hm _ _ hwr hu).mono ?_; rintro e w' ⟨rfl, hb2⟩; rw [g'.out]))
        go_ret
        exact ⟨k, rfl, (hxr.step (hb2.mono hxr.below.size) (hwr.below hb2)).below, by symm; rw [decide_eq_true (by omega), List.any_eq_true]; exact ⟨x, hxk.mem, g'.out⟩, by omega, by omega⟩
    · go_wp2_with fail
      go_ret
      have h1 := hok.out
      rw [take_all (xs := xs) (k := k) (by omega)] at h1
      exact ⟨-1, rfl, hxr.below, by rw [h1]; rfl, by omega, by omega⟩

theorem containsM5_any (B : Nat) (va : Value) (xs : List (List Shf)) (p : List Shf → Bool) (H : Snap) (w : World) (hw : Holds H w) (ha : Sl H va xs)
    (hcall : Hid (∀ x ∈ xs, ∀ (u : Value) (w : World), Holds H w → Sl H u x → Calls Tryz.prog 76 #[u, .pointer (some ⟨B, 0, none⟩)] w (PostV w (.bool (p x))))) :
    Calls Tryz.prog 75 #[va, .func (.func 76) #[] #[.pointer (some ⟨B, 0, none⟩)]] w (PostV w (.bool (xs.any p))) := by
  go_enter Tryz.func75, Tryz.ntmps75
  go_wp2_with (first | (go_at_call 104; refine (indexM5_any _ _ _ _ _ _ hw ha hcall).mono ?_; rintro e w' ⟨r, rfl, hb2, hr1, hr2, hr3⟩))
  go_ret
  exact ⟨ret_bool (by rw [← hr1]), hb2⟩

set_option maxHeartbeats 4000000 in
theorem idle1_any (c : Cnt) (hc : Cn c) (L : List (List Shf)) (hL : ∀ l ∈ L, ∀ s ∈ l, Cn s.c) (vL : Value) (B : Nat) (H : Snap) (w : World) (hw : Holds H w) (hs : Sl H vL L) (hB : H B = some (.cells #[vL] 87 (0, 0))) :
    Calls Tryz.prog 74 #[.agg (shC c), .pointer (some ⟨B, 0, none⟩)] w (PostV w (.bool (doAllC c (L.map (·.map Shf.c))))) := by
  have hl := hc.len
  have e : doAllC c (L.map (·.map Shf.c)) = !(L.any fun ss => !doesC c (ss.map Shf.c)) := by
    unfold doAllC
    rw [List.all_map, List.not_any_eq_all_not]
    congr 1
    funext x
    simp
  rw [e]
  obtain ⟨D, hD⟩ : ∃ D, (L.any fun ss => !doesC c (ss.map Shf.c)) = D := ⟨_, rfl⟩
  rw [hD]
  have hmf : ∀ (fn : Fn) (first cap : Array Value) (w : World), (Instr.makeFunc fn first cap).run Tryz.prog w = .ok (.func fn first cap) w := fun _ _ _ _ => rfl
  obtain ⟨aL, cL, rfl, _, _⟩ := hs.form
  go_enter Tryz.func74, Tryz.ntmps74
  go_upto_region 1 with (refine wpList_boxF rfl _ rfl (Ext.refl hw) ?_; intro B1 w1 H1 hle1 hx1 hB1 hBw1; clear hw)
  have hw1 := hx1.holds
  have hv0 : ∀ w, Holds H1 w → w.cell? ⟨B, 0, none⟩ = some (.slice aL L.length cL) := fun w hw => cellH (hle1 _ _ hB) hw 0
  have hct := containsM5_any B1 (.slice aL L.length cL) L (fun ss => !doesC c (ss.map Shf.c)) H1 _ hw1 (hs.mono hle1) (Lib.hid fun x hx u w hw hu => idle11_any c hc u x (hL x hx) B1 H1 w hw hu hB1)
  rw [hD] at hct
  clear hD
  replace hct := Lib.hid hct
  go_wp2_with (first | (go_at_call 75; refine hct.out.mono ?_; rintro e w' ⟨rfl, hbC⟩))
  go_ret
  exact ⟨rfl, hx1.below.trans (hbC.mono hx1.below.size)⟩

end Go.Proofs.YtngdppajailpcaaGreat

namespace Go.Proofs.YtngdppajailpcaaGreat
open Go.RowKit

attribute [local go_sem] Holds.drew Holds.alloc Holds.drewN WB.holds Oper.semAt_some FW_fn FW_dep FW_round run_loadShV run_indexShV run_indexRow
attribute [local go_sem ↓] loadAt_sh index_sh index_row storeAt_hl

set_option maxRecDepth 100000 in
set_option maxHeartbeats 8000000 in
theorem idleM_any (vm vb vt vo ve vs : Value) (h : Hall) (set : List Plate) (H : Snap) (w : World) (hw : Holds H w) (hh : Hal H vm vb vt vo ve h) (hs : Sl H vs set) :
    Calls Tryz.prog 29 #[halV vm vb vt vo ve h, vs] w (Post w H fun v H' => ∃ u, v = .tuple #[u, .int .i64 (idleE h set)] ∧ Sl H' u (idleA h set)) := by
  have hmf : ∀ (fn : Fn) (first cap : Array Value) (w : World), (Instr.makeFunc fn first cap).run Tryz.prog w = .ok (.func fn first cap) w := fun _ _ _ _ => rfl
  cases hok : validHall h && setOk set
  · have hn : idleA h set = [] := by unfold idleA; rw [hok]; rfl
    have hne : idleE h set = askM (validHall h) (setOk set) := by unfold idleE; rw [hok]; rfl
    rw [hne]
    have hop := fun (W : World) (hW : Holds H W) => open_no vm vb vt vo ve h (setOk set) hok H W hW hh
    have he : (askM (validHall h) (setOk set) != 0) = true := by
      cases h1 : validHall h
      · rfl
      · rw [h1, Bool.true_and] at hok; rw [hok]; rfl
    clear hne
    generalize askM (validHall h) (setOk set) = E at *
    go_enter Tryz.func29, Tryz.ntmps29
    go_upto_region 1 with (refine wpList_boxF rfl _ rfl (Ext.refl hw) ?_; intro B w1 H1 hle hx hB hBw; obtain ⟨hc0, hc1, hc2, hc3, hc4, hc5⟩ := cellsHal hB; clear hB hw; have hw1 := hx.holds)
    have hset := fun (W : World) (hW : Holds H1 W) => isSetM_any vs set H1 W hW (hs.mono hle)
    replace hop := fun (W : World) (hW : Holds H1 W) => hop W (hW.mono hle)
    replace hset := Lib.hid hset
    replace hop := Lib.hid hop
    go_cut [6, 7] (fun p e wc => ∃ B, p = .pointer (some ⟨B, 0, none⟩) ∧ e = .int .i64 E ∧ ∃ H2, SLe H1 H2 ∧ Ext w H wc H2 ∧ H2 B = some (.cells #[.slice none 0 0, .slice none 0 0, .slice none 0 0, .int .i64 0, .slice none 0 0, .slice none 0 0] 72 (0, 0)))
    case first =>
      first
      | go_region_held3 (fun w' => Holds H1 w' ∧ Ext w H w' H1)
          (first | assumption | exact ⟨by assumption, by assumption⟩ | (go_split_ands; exact ⟨Holds.drew (by assumption), Ext.drew (by assumption)⟩) | (go_split_ands; exact ⟨Holds.alloc (by assumption) _, Ext.alloc (by assumption) _⟩) | (go_split_ands; exact ⟨Holds.drew (Holds.alloc (by assumption) _), Ext.drew (Ext.alloc (by assumption) _)⟩))
          (first | (go_split_ands; go_at_call 47; refine (hop.out _ (by assumption)).mono ?_; rintro e wq1 ⟨rfl, hq1⟩; have k1 : Holds H1 wq1 := Holds.below (by assumption) hq1; have k2 : Ext w H wq1 H1 := Ext.step (by assumption) (hq1.mono (by assumption : Ext w H _ H1).below.size) k1; have kq1 := keep_hl (H := H1) (base := w.heap.size) hq1) | (go_split_ands; go_at_call 63; refine (hset.out _ (by assumption)).mono ?_; rintro e wq0 ⟨rfl, hq0⟩; have k1 : Holds H1 wq0 := Holds.below (by assumption) hq0; have k2 : Ext w H wq0 H1 := Ext.step (by assumption) (hq0.mono (by assumption : Ext w H _ H1).below.size) k1; have kq0 := keep_hl (H := H1) (base := w.heap.size) hq0) | (go_split_ands; refine upon_storeHl (cs' := #[.slice none 0 0, .slice none 0 0, .slice none 0 0, .int .i64 0, .slice none 0 0, .slice none 0 0]) (cs := #[.slice none 0 0, .slice none 0 0, .slice none 0 0, .int .i64 0, .slice none 0 0, .slice none 0 0]) (by first | exact HlV.new (by assumption) (Ext.below (by assumption)).size | exact kq1 _ _ (kq0 _ _ (HlV.new (by assumption) (Ext.below (by assumption)).size)) | exact kq1 _ _ (HlV.new (by assumption) (Ext.below (by assumption)).size) | exact kq0 _ _ (HlV.new (by assumption) (Ext.below (by assumption)).size) | exact HlV.new hw1.drew hx.below.size | exact kq1 _ _ (kq0 _ _ (HlV.new hw1.drew hx.below.size)) | exact kq1 _ _ (HlV.new hw1.drew hx.below.size) | exact kq0 _ _ (HlV.new hw1.drew hx.below.size)) (by rfl) (by simp [Value.oneCell']) (by first | assumption | exact Ext.alloc (by assumption) _ | exact Ext.alloc hx.drew _) (Nat.le_refl _) ?_; intro w7 r7 x7 hO7 hz7; have k7 := x7.holds))
      | fail
      all_goals
        go_wp2_with fail
        go_meet
        exact ⟨_, rfl, rfl, _, Snap.le_put r7.free _, x7.freeze r7.base r7.at_, Snap.put_same _ _ _⟩
    case rest =>
      obtain ⟨B, rfl, rfl, H2, l2, x2, hput⟩ := hcut
      go_wp2
      go_ret2
      exact post2_no x2 hn
  · have hok2 := hok
    simp only [Bool.and_eq_true] at hok2
    obtain ⟨hvh, hst⟩ := hok2
    have hV := validHall_iff.1 hvh
    have hcn := countsOf_cn hst
    have hl12 := setOk_len hst
    obtain ⟨am, cm, rfl, hm1, hm2⟩ := hh.hs.m.form
    obtain ⟨ab, cb, rfl, hb1, hb2⟩ := hh.hs.b.form
    obtain ⟨at', ct, rfl, ht1, ht2⟩ := hh.hs.t.form
    obtain ⟨ao, co, rfl, ho1, ho2⟩ := hh.bo.form
    obtain ⟨ae, ce, rfl, he1, he2⟩ := hh.ed.form
    obtain ⟨ss, cs, rfl, _, _⟩ := hs.form
    have hA1 : idleA h set = if doAllC (countsOf set) (allA h) then idleL h set else [] := by unfold idleA; rw [hok]; rfl
    have hA2 : idleE h set = if doAllC (countsOf set) (allA h) then 0 else 3 := by unfold idleE; rw [hok]; rfl
    replace hA1 := Lib.hid hA1
    replace hA2 := Lib.hid hA2
    have hop := fun (W : World) (hW : Holds H W) => open_yes _ _ _ _ _ h hvh H W hW hh
    go_enter Tryz.func29, Tryz.ntmps29
    go_upto_region 1 with (refine wpList_boxF rfl _ rfl (Ext.refl hw) ?_; intro B w1 H1 hle hx hB hBw; obtain ⟨hc0, hc1, hc2, hc3, hc4, hc5⟩ := cellsHal hB; clear hB hw; have hw1 := hx.holds)
    have hset := fun (W : World) (hW : Holds H1 W) => isSetM_any _ set H1 W hW (hs.mono hle)
    rw [hst] at hset
    replace hop := fun (W : World) (hW : Holds H1 W) => hop W (hW.mono hle)
    replace hset := Lib.hid hset
    replace hop := Lib.hid hop
    go_cut [6, 7] (fun p e wc => ∃ B, p = .pointer (some ⟨B, 0, none⟩) ∧ e = .int .i64 0 ∧ ∃ H2, SLe H1 H2 ∧ Ext w H wc H2 ∧ H2 B = some (.cells #[.slice am h.hs.ms.length cm, .slice ab h.hs.bs.length cb, .slice at' h.hs.ts.length ct, .int .i64 h.hs.ch, .slice ao h.bo.length co, .slice ae h.ed.length ce] 72 (0, 0)))
    case first =>
      first
      | go_region_held3 (fun w' => Holds H1 w' ∧ Ext w H w' H1)
          (first | assumption | exact ⟨by assumption, by assumption⟩ | (go_split_ands; exact ⟨Holds.drew (by assumption), Ext.drew (by assumption)⟩) | (go_split_ands; exact ⟨Holds.alloc (by assumption) _, Ext.alloc (by assumption) _⟩) | (go_split_ands; exact ⟨Holds.drew (Holds.alloc (by assumption) _), Ext.drew (Ext.alloc (by assumption) _)⟩))
          (first | (go_split_ands; go_at_call 47; refine (hop.out _ (by assumption)).mono ?_; rintro e wq1 ⟨rfl, hq1⟩; have k1 : Holds H1 wq1 := Holds.below (by assumption) hq1; have k2 : Ext w H wq1 H1 := Ext.step (by assumption) (hq1.mono (by assumption : Ext w H _ H1).below.size) k1; have kq1 := keep_hl (H := H1) (base := w.heap.size) hq1) | (go_split_ands; go_at_call 63; refine (hset.out _ (by assumption)).mono ?_; rintro e wq0 ⟨rfl, hq0⟩; have k1 : Holds H1 wq0 := Holds.below (by assumption) hq0; have k2 : Ext w H wq0 H1 := Ext.step (by assumption) (hq0.mono (by assumption : Ext w H _ H1).below.size) k1; have kq0 := keep_hl (H := H1) (base := w.heap.size) hq0) | (go_split_ands; refine upon_storeHl (cs' := #[.slice am h.hs.ms.length cm, .slice ab h.hs.bs.length cb, .slice at' h.hs.ts.length ct, .int .i64 h.hs.ch, .slice ao h.bo.length co, .slice ae h.ed.length ce]) (cs := #[.slice none 0 0, .slice none 0 0, .slice none 0 0, .int .i64 0, .slice none 0 0, .slice none 0 0]) (by first | exact HlV.new (by assumption) (Ext.below (by assumption)).size | exact kq1 _ _ (kq0 _ _ (HlV.new (by assumption) (Ext.below (by assumption)).size)) | exact kq1 _ _ (HlV.new (by assumption) (Ext.below (by assumption)).size) | exact kq0 _ _ (HlV.new (by assumption) (Ext.below (by assumption)).size) | exact HlV.new hw1.drew hx.below.size | exact kq1 _ _ (kq0 _ _ (HlV.new hw1.drew hx.below.size)) | exact kq1 _ _ (HlV.new hw1.drew hx.below.size) | exact kq0 _ _ (HlV.new hw1.drew hx.below.size)) (by rfl) (by simp [Value.oneCell']) (by first | assumption | exact Ext.alloc (by assumption) _ | exact Ext.alloc hx.drew _) (Nat.le_refl _) ?_; intro w7 r7 x7 hO7 hz7; have k7 := x7.holds))
      | fail
      all_goals
        go_wp2_with fail
        go_meet
        exact ⟨_, rfl, rfl, _, Snap.le_put r7.free _, x7.freeze r7.base r7.at_, Snap.put_same _ _ _⟩
    case rest =>
      obtain ⟨B, rfl, rfl, H2, l2, x2, hput⟩ := hcut
      have hhc := (hh.mono hle).mono l2
      have hsc := (hs.mono hle).mono l2
      obtain ⟨d0, d1, d2, d3, d4, d5⟩ := cellsHal (h := h) hput
      have hw2 := x2.holds
      clear hop hset
      go_upto_region 5 with (go_at_call 56; refine (all_any _ _ _ _ _ h hV H2 _ hw2 hhc).mono ?_; rintro e w3 ⟨v3, H3, rfl, x3, L, s3, hag, hLc⟩; obtain ⟨a3, c3, rfl, _, _⟩ := s3.form)
      have xa := x2.trans x3
      have hn_ : H3 (World.heap w3).size = none := (xa).holds.none_of_ge (Nat.le_refl _)
      have x4 := ((xa).alloc (.cells #[.slice a3 L.length c3] 87)).freeze (xa).below.size (heap_alloc_new w3 _)
      have l4 := Snap.le_put hn_ (.cells #[.slice a3 L.length c3] 87 (0, 0))
      have hput4 := Snap.put_same H3 (World.heap w3).size (.cells #[.slice a3 L.length c3] 87 (0, 0))
      clear hn_
      generalize Snap.put H3 (World.heap w3).size (.cells #[.slice a3 L.length c3] 87 (0, 0)) = H4 at *
      generalize World.alloc w3 (.cells #[.slice a3 L.length c3] 87) = w4 at *
      generalize (World.heap w3).size = AB at *
      have l24 : SLe H2 H4 := (x3.le hw2).trans l4
      replace hsc := hsc.mono l24
      have sL := s3.mono l4
      have hw4 := x4.holds
      have hL6 : ∀ l ∈ L.map (·.map Shf.c), Six 12 l := fun l hl y hy => by
        obtain ⟨m, hm, rfl⟩ := List.mem_map.1 hl
        obtain ⟨s, hs, rfl⟩ := List.mem_map.1 hy
        exact (hLc m hm s hs).len
      have hen : ∀ (c : Cnt), Cn c → ∀ (S : Snap) (W : World), Holds S W → SLe H4 S → Calls Tryz.prog 74 #[.agg (shC c), .pointer (some ⟨AB, 0, none⟩)] W (PostV W (.bool (doAllC c (allA h)))) := fun c hc S W hW hl => by
        rw [← doAllC_agree hc.len hL6 (allA_six hV) hag.d1 hag.d2]
        exact idle1_any c hc L hLc _ AB S W hW (sL.mono hl) (hl _ _ hput4)
      have hsh := fun (S : Snap) (W : World) (hW : Holds S W) hs => shelved_any (.slice ss set.length cs) set S W hW hs hst
      have hen0 := hen (countsOf set) hcn
      replace hen := Lib.hid hen
      replace hsh := Lib.hid hsh
      clear x3 s3 xa d0 d1 d2 d3 d4 d5 hhc hput hput4 hag hL6 sL l24 hw2 x2
      cases gD : doAllC (countsOf set) (allA h)
      · rw [gD] at hen0 hA1 hA2
        rw [if_neg (by decide)] at hA1 hA2
        replace hen0 := Lib.hid hen0
        clear gD
        go_wp2_with (first | ((have hgd := x5; clear hgd; go_at_call 74; refine (hen0.out H4 _ hw5 (SLe.refl _)).mono ?_; rintro e w6 ⟨rfl, hb6⟩; have x6 := x5.step (hb6.mono x5.below.size) (hw5.below hb6))) | ((have hgd := x4; clear hgd; go_at_call 65; refine (hsh.out H4 _ hw4 hsc).mono ?_; rintro e w5 ⟨rfl, hb5⟩; have x5 := x4.step (hb5.mono x4.below.size) (hw4.below hb5); have hw5 := x5.holds)))
        go_ret2
        rw [hA2.out]
        exact post2_no x6 hA1.out
      · rw [gD] at hen0 hA1 hA2
        rw [if_pos rfl] at hA1 hA2
        replace hen0 := Lib.hid hen0
        clear gD
        go_upto_region 9 with (first
          | (have hgd := x5; clear hgd; go_at_call 74; refine (hen0.out H4 _ hw5 (SLe.refl _)).mono ?_; rintro e w6 ⟨rfl, hb6⟩; have x6 := x5.step (hb6.mono x5.below.size) (hw5.below hb6); have hw6 := x6.holds)
          | (have hgd := x4; clear hgd; go_at_call 65; refine (hsh.out H4 _ hw4 hsc).mono ?_; rintro e w5 ⟨rfl, hb5⟩; have x5 := x4.step (hb5.mono x4.below.size) (hw4.below hb5); have hw5 := x5.holds))
        have hrR := ShV.new hw6 x6.below.size
        have x7 := x6.alloc (.cells #[.int .i64 0, .int .i64 0, .int .i64 0, .int .i64 0, .int .i64 0, .int .i64 0, .int .i64 0, .int .i64 0, .int .i64 0, .int .i64 0, .int .i64 0, .int .i64 0] 84)
        have hRh : H4 w6.heap.size = none := hrR.free
        have hRb : w.heap.size ≤ w6.heap.size := hrR.base
        generalize w6.alloc (.cells #[.int .i64 0, .int .i64 0, .int .i64 0, .int .i64 0, .int .i64 0, .int .i64 0, .int .i64 0, .int .i64 0, .int .i64 0, .int .i64 0, .int .i64 0, .int .i64 0] 84) = w7 at *
        generalize w6.heap.size = R at *
        rw [← outC_zero h set] at hrR
        clear hen0 x6 hw6 x5 hw5 x4 hw4
        go_wp2
        go_loopw [34] (fun i wr => ∃ k : Nat, k ≤ set.length ∧ i = .int .i64 k ∧ ShV H4 w.heap.size wr R (outC h set k) ∧ Ext w H wr H4) (fun i _ => set.length - (intOf i).toNat)
        case atStart => exact ⟨0, Nat.zero_le _, rfl, hrR, x7⟩
        case round =>
          clear hrR x7
          obtain ⟨k, hk, rfl, hrR, xr⟩ := hrel
          have hwr := xr.holds
          by_cases hlk : k < set.length
          · obtain ⟨p, hp⟩ := At.mk hlk
            obtain ⟨b, o, c', he, ⟨i1, i2, i3⟩, hr1, hr2, hr3⟩ := hsc.plate hp
            cases he
            have hpo := (setOk_iff.1 hst).1 p hp.mem
            obtain ⟨⟨p1, p2⟩, ⟨p3, p4⟩, p5, p6⟩ := okPlate_iff.1 hpo
            have hk0 : (0 : Int) ≤ (k : Int) := by omega
            have hk1 : (k : Int) < (set.length : Int) := by omega
            obtain ⟨pg, hpg⟩ : ∃ pg : Nat, p.pg = (pg : Int) := ⟨p.pg.toNat, by omega⟩
            obtain ⟨br, hbr⟩ : ∃ br : Nat, p.br = (br : Int) := ⟨p.br.toNat, by omega⟩
            obtain ⟨M, hM⟩ : ∃ M : Nat, p.mn = (M : Int) := ⟨p.mn.toNat, by omega⟩
            have hn : pg * 3 + br < 12 := by omega
            have hpn : (plc p).toNat = pg * 3 + br := by unfold plc; omega
            have hcm := counts_at hst hp.mem
            have hz0 := outC_at (h := h) hst hp
            have hos := outC_succ (h := h) hst hp
            rw [hpn] at hcm hz0 hos
            rw [hM] at hcm
            have hMp : idleP h set p = idleN (idleOk h set p) M := by unfold idleP; rw [hM]; rfl
            have hlcs : ∀ j : Nat, lessC (countsOf set) p (j : Int) = (countsOf set).set (pg * 3 + br) ((M : Int) - (j : Int)) := fun j => by unfold lessC; rw [hpn, hcm]
            have hlcn : ∀ j : Nat, j ≤ M → Cn (lessC (countsOf set) p (j : Int)) := fun j hj => lessC_cn hst hp.mem (by omega) (by omega)
            have hM9 : M ≤ 9 := by omega
            rw [hpg] at hr1 i1 p1 p2
            rw [hbr] at hr2 i2 p3 p4
            rw [hM] at hr3 i3
            have hc12 := countsOf_len set
            have ho12 := outC_len h set k
            replace hlcs := Lib.hid hlcs
            replace hlcn := Lib.hid hlcn
            replace hMp := Lib.hid hMp
            replace hos := Lib.hid hos
            replace hcm := Lib.hid hcm
            replace hz0 := Lib.hid hz0
            replace hpn := Lib.hid hpn
            replace hc12 := Lib.hid hc12
            replace ho12 := Lib.hid ho12
            clear hpg hbr hM hpo p5 p6
            go_upto_region 12 with fail
            have hn_ : H4 (World.heap wr).size = none := ((Ext.refl hwr)).holds.none_of_ge (Nat.le_refl _)
            have hxz := (((Ext.refl hwr)).alloc (.cells #[.int .i64 (pg : Int), .int .i64 (br : Int), .int .i64 (M : Int)] 62)).freeze ((Ext.refl hwr)).below.size (heap_alloc_new wr _)
            have lP := Snap.le_put hn_ (.cells #[.int .i64 (pg : Int), .int .i64 (br : Int), .int .i64 (M : Int)] 62 (0, 0))
            have hput := Snap.put_same H4 (World.heap wr).size (.cells #[.int .i64 (pg : Int), .int .i64 (br : Int), .int .i64 (M : Int)] 62 (0, 0))
            clear hn_
            generalize Snap.put H4 (World.heap wr).size (.cells #[.int .i64 (pg : Int), .int .i64 (br : Int), .int .i64 (M : Int)] 62 (0, 0)) = HP at *
            generalize World.alloc wr (.cells #[.int .i64 (pg : Int), .int .i64 (br : Int), .int .i64 (M : Int)] 62) = wz at *
            generalize (World.heap wr).size = cv at *
            have hwz := hxz.holds
            have hv0 : ∀ w, Holds HP w → w.cell? ⟨cv, 0, none⟩ = some (.int .i64 (pg : Int)) := fun w hw => cellH hput hw 0
            have hv1 : ∀ w, Holds HP w → w.cell? ⟨cv, 1, none⟩ = some (.int .i64 (br : Int)) := fun w hw => cellH hput hw 1
            have hrRz := hrR.ext hxz
            have xz := xr.trans hxz
            have hsm := xr.same
            clear hput hrR
            go_upto_region 13 with (first
              | (have hgd := x8; clear hgd; refine wpList_storeSh rfl _ _ rfl rfl rfl (ShV.new hw8 x8.below.size) (by rfl) hcn.len (x8.alloc _) (Nat.le_refl _) ?_; intro w9 hrS x9 hO9 hz9)
              | (have hgd := xz; clear hgd; go_at_call 65; refine (hsh.out HP _ hwz (hsc.mono lP)).mono ?_; rintro e w8 ⟨rfl, hb8⟩; have x8 := xz.step (hb8.mono xz.below.size) (hwz.below hb8); have hw8 := x8.holds))
            have hg9 : w8.grownBy w9 none := grown_of x8 x9 (by rw [hz9]; simp) (fun k hk => (hO9 k (by omega)).trans (Below.heap_alloc _ _ _ hk))
            have hrR8 := Row.kept hrRz (grown_below hb8) (by simp)
            have hrR9 := Row.kept hrR8 hg9 (by simp)
            have hRS : R ≠ w8.heap.size := Nat.ne_of_lt hrR8.lt
            have hRP := hrR9.free
            have hSP := hrS.free
            have hSb := hrS.base
            clear hO9 hz9 hg9 hrR8 hrRz x8 hw8 hwz hb8
            generalize w8.heap.size = S at *
            have hrS0 : ShV HP w.heap.size w9 S ((countsOf set).set (pg * 3 + br) ((M : Int) - ((0 : Nat) : Int))) := by
              rw [show ((M : Int) - ((0 : Nat) : Int)) = gT (countsOf set) (pg * 3 + br) by rw [hcm.out]; simp]
              unfold gT
              rw [List.getD_eq_getElem?_getD, List.getElem?_eq_getElem (by rw [hc12.out]; exact hn)]
              show ShV _ _ _ _ ((countsOf set).set _ ((countsOf set)[_]'_))
              rw [List.set_getElem_self]
              exact hrS
            have hrR0 : ShV HP w.heap.size w9 R ((outC h set k).set (pg * 3 + br) ((0 : Nat) : Int)) := by
              show ShV _ _ _ _ ((outC h set k).set _ 0)
              rw [set_zero (by rw [ho12.out]; exact hn) hz0.out]
              exact hrR9
            clear hrS hrR9
            have hleave : ∀ (j : Nat) (wq : World), idleP h set p = j → ShV HP w.heap.size wq R ((outC h set k).set (pg * 3 + br) (j : Int)) → Ext w H wq HP → ShV H4 w.heap.size wq R (outC h set (k + 1)) ∧ Ext w H wq H4 := fun j wq e hr hx => by
              rw [hos.out, e]
              exact ⟨Row.snap hr hRh, ⟨hx.below, hx.holds.mono lP, hsm⟩⟩
            replace hleave := Lib.hid hleave
            have g0 : (0 : Int) ≤ (pg : Int) := by omega
            have g1 : (pg : Int) < 4 := by omega
            have g2 : (0 : Int) ≤ (br : Int) := by omega
            have g3 : (br : Int) < 3 := by omega
            go_frame
            go_loopw [47] (fun _ wq => ∃ j : Nat, j ≤ M ∧ Hid (∀ q, q < j → idleOk h set p q = true) ∧ ShV HP w.heap.size wq S ((countsOf set).set (pg * 3 + br) ((M : Int) - (j : Int))) ∧ ShV HP w.heap.size wq R ((outC h set k).set (pg * 3 + br) (j : Int)) ∧ Ext w H wq HP) (fun _ wq => (intOf ((wq.cell? ⟨S, pg * 3 + br, none⟩).getD (.bool false))).toNat)
            case atStart => exact ⟨0, Nat.zero_le _, Lib.hid fun q hq => absurd hq (by omega), hrS0, hrR0, x9⟩
            case round =>
              clear hrS0 hrR0 x9
              obtain ⟨j, hj, hjo, hrS, hrR, xq⟩ := hrel
              have hwq := xq.holds
              have hatS : At ((countsOf set).set (pg * 3 + br) ((M : Int) - (j : Int))) (pg * 3 + br) ((M : Int) - (j : Int)) := by
                show _ = _
                rw [List.getElem?_set_self (by rw [hc12.out]; exact hn)]
              have hcS := hrS.cell hatS
              have hcS0 := Lib.hid hcS
              have hcw : ∀ x : WB HP wr, x.w.cell? ⟨S, pg * 3 + br, none⟩ = some (.int .i64 ((M : Int) - (j : Int))) := fun x => (x.old S _ hrS.lt).trans hcS
              obtain ⟨z, hz⟩ : ∃ z, (M : Int) - (j : Int) = z := ⟨_, rfl⟩
              rw [hz] at hatS hcS hcw hrS
              have hRlt := hrR.lt
              have hSlt := hrS.lt
              have hrRa := hrR
              by_cases hjm : j < M
              · have hzp : (0 : Int) < z := by omega
                have hz9 : z ≤ 9 := by omega
                have hzw : IntKind.i64.wrap (z - 1) = z - 1 := IntWalk.i64_in _ (by omega)
                have hjw : IntKind.i64.wrap ((j : Int) + 1) = (j : Int) + 1 := IntWalk.i64_in _ (by omega)
                have hnext : ((countsOf set).set (pg * 3 + br) z).set (pg * 3 + br) (z - 1) = lessC (countsOf set) p ((j + 1 : Nat) : Int) := by
                  rw [List.set_set, hlcs.out, ← hz]
                  congr 1
                  omega
                have hcnx := hlcn.out (j + 1) (by omega)
                have hio : doAllC (lessC (countsOf set) p ((j + 1 : Nat) : Int)) (allA h) = idleOk h set p j := rfl
                have hen1 := hen.out _ hcnx
                rw [hio] at hen1
                have hcl1 := hcnx.len
                have hsz1 : (shC (lessC (countsOf set) p ((j + 1 : Nat) : Int))).size = 12 := by rw [shC_size, hcl1]
                have hlnx := hlcs.out (j + 1)
                obtain ⟨cN, hcN⟩ : ∃ cN, lessC (countsOf set) p ((j + 1 : Nat) : Int) = cN := ⟨_, rfl⟩
                rw [hcN] at hnext hcnx hen1 hcl1 hsz1 hlnx
                clear hio hcN
                replace hnext := Lib.hid hnext
                replace hen1 := Lib.hid hen1
                replace hcl1 := Lib.hid hcl1
                replace hlnx := Lib.hid hlnx
                clear hz
                go_upto_region 13 with fail
                refine wp_region_quietB HP (by kernel_rfl) (by kernel_rfl) hwq (fun hne => ?_)
                repeat go_big_quiet_step ((first | fail))
                refine wpQuiet_nil ?_
                rintro ⟨w2, hw2, hb2⟩
                clear hne
                have hwA := hw2
                have hbA := hb2
                have xA := xq.step (hb2.mono xq.below.size) hw2
                have rSA := hrS.ext ⟨hb2, hw2, fun _ _ => rfl⟩
                have rRA := hrR.ext ⟨hb2, hw2, fun _ _ => rfl⟩
                have hcA := rSA.cell hatS
                have hcwA : ∀ x : WB HP w2, x.w.cell? ⟨S, pg * 3 + br, none⟩ = some (.int .i64 z) := fun x => (x.old S _ rSA.lt).trans hcA
                go_upto_region 14 with fail
                clear hcw hcS hrS hrR hrRa xq hwq hw2 hb2
                refine (wpIn_wide (n := 3)).1 ?_
                show Code.wpIn (FW none) 3 _ _ _ _ _
                have hnq : Nonempty (WB HP w2) := ⟨⟨w2, hwA, Below.refl _ _⟩⟩
                refine wpIn_region_qtail (C := fun w' => ∃ x : WB HP w2, w' = x.w) 9 (by kernel_rfl) (by kernel_rfl) (by kernel_rfl) ⟨⟨World.drew w2, Holds.drew hwA, (Below.refl _ _).drew⟩, rfl⟩ ?_
                simp only [List.take_succ_cons, List.take_zero, List.drop_succ_cons, List.drop_zero]
                repeat go_big_quiet_step ((first | (fail)))
                refine wpQuiet_nil ?_
                clear hnq
                rintro w2 ⟨⟨_, hw2, hb2⟩, rfl⟩
                have xB := xA.step (hb2.mono xA.below.size) hw2
                have rSB := rSA.ext ⟨hb2, hw2, fun _ _ => rfl⟩
                have rRB := rRA.ext ⟨hb2, hw2, fun _ _ => rfl⟩
                have hcB := rSB.cell hatS
                have hfB := rSB.fz (pg * 3 + br)
                have rSC := rSB.set (pg * 3 + br) (z - 1)
                rw [hnext.out] at rSC
                have rRC := rRB.other (a := ⟨S, pg * 3 + br, none⟩) (Ne.symm hRS) (.int .i64 (z - 1))
                have xC := xB.setCell (a := ⟨S, pg * 3 + br, none⟩) hSb hSP (.int .i64 (z - 1))
                have hmS := mid_row rSC.at_ hcl1.out
                have hwC := xC.holds
                clear xB rSB rRB xA rSA rRA hcA hcwA hwA hbA
                gi_wp2
                generalize World.setCell _ _ _ = wC at *
                clear hcB hfB hw2 hb2
                cases hO : idleOk h set p j
                · rw [hO] at hen1
                  have hfin : idleP h set p = j := by rw [hMp.out]; exact idleN_eq hj (fun q hq => hjo.out q hq) (.inr hO)
                  replace hfin := Lib.hid hfin
                  clear hO
                  go_wp2_with (first | ((go_at_call 74; refine (hen1.out HP _ hwC lP).mono ?_; rintro e wD ⟨rfl, hbD⟩)))
                  have xD := xC.step (hbD.mono xC.below.size) (hwC.below hbD)
                  have rRD := rRC.ext ⟨hbD, hwC.below hbD, fun _ _ => rfl⟩
                  go_roundw
                  case rel => exact ⟨k + 1, by omega, by go_num, hleave.out j _ hfin.out rRD xD⟩
                  case measure => simp [intOf]; omega
                · rw [hO] at hen1
                  have hjo2 : ∀ q, q < j + 1 → idleOk h set p q = true := fun q hq => by
                    rcases Nat.lt_or_ge q j with h | h
                    · exact hjo.out q h
                    · rw [show q = j by omega]; exact hO
                  replace hjo2 := Lib.hid hjo2
                  clear hO
                  go_upto_region 16 with (go_at_call 74; refine (hen1.out HP _ hwC lP).mono ?_; rintro e wD ⟨rfl, hbD⟩)
                  have hwD := hwC.below hbD
                  have xD := xC.step (hbD.mono xC.below.size) hwD
                  have rRD := rRC.ext ⟨hbD, hwD, fun _ _ => rfl⟩
                  have rSD := rSC.ext ⟨hbD, hwD, fun _ _ => rfl⟩
                  have hatR : At ((outC h set k).set (pg * 3 + br) (j : Int)) (pg * 3 + br) (j : Int) := by
                    show _ = _
                    rw [List.getElem?_set_self (by rw [ho12.out]; exact hn)]
                  have hcD := rRD.cell hatR
                  have hcwD : ∀ x : WB HP wD, x.w.cell? ⟨R, pg * 3 + br, none⟩ = some (.int .i64 (j : Int)) := fun x => (x.old R _ rRD.lt).trans hcD
                  clear xC rRC rSC hmS hwC hbD
                  refine (wpIn_wide (n := 3)).1 ?_
                  show Code.wpIn (FW none) 3 _ _ _ _ _
                  have hnq : Nonempty (WB HP wD) := ⟨⟨wD, hwD, Below.refl _ _⟩⟩
                  refine wpIn_region_qtail (C := fun w' => ∃ x : WB HP wD, w' = x.w) 9 (by kernel_rfl) (by kernel_rfl) (by kernel_rfl) ⟨⟨World.drew wD, Holds.drew hwD, (Below.refl _ _).drew⟩, rfl⟩ ?_
                  simp only [List.take_succ_cons, List.take_zero, List.drop_succ_cons, List.drop_zero]
                  repeat go_big_quiet_step ((first | (fail)))
                  refine wpQuiet_nil ?_
                  clear hnq
                  rintro w2 ⟨⟨_, hw2, hb2⟩, rfl⟩
                  have xB := xD.step (hb2.mono xD.below.size) hw2
                  have rSB := rSD.ext ⟨hb2, hw2, fun _ _ => rfl⟩
                  have rRB := rRD.ext ⟨hb2, hw2, fun _ _ => rfl⟩
                  have hcB := rRB.cell hatR
                  have hfB := rRB.fz (pg * 3 + br)
                  have rRC := rRB.set (pg * 3 + br) ((j : Int) + 1)
                  rw [List.set_set] at rRC
                  have rSC := rSB.other (a := ⟨R, pg * 3 + br, none⟩) hRS (.int .i64 ((j : Int) + 1))
                  have xC := xB.setCell (a := ⟨R, pg * 3 + br, none⟩) hRb hRP (.int .i64 ((j : Int) + 1))
                  rw [hlnx.out] at rSC
                  clear xB rSB rRB xD rSD rRD hcD hcwD hwD
                  gi_wp2
                  generalize World.setCell _ _ _ = wC at *
                  go_wp2
                  go_roundw
                  case rel => exact ⟨j + 1, by omega, hjo2, rSC, rRC, xC⟩
                  case measure =>
                    have hatS' : At ((countsOf set).set (pg * 3 + br) ((M : Int) - ((j + 1 : Nat) : Int))) (pg * 3 + br) ((M : Int) - ((j + 1 : Nat) : Int)) := by
                      show _ = _
                      rw [List.getElem?_set_self (by rw [hc12.out]; exact hn)]
                    have e1 := rSC.cell hatS'
                    rw [e1, hcS0.out]
                    simp [intOf]
                    omega
              · have hjM : j = M := by omega
                subst hjM
                have hz0' : z = 0 := by omega
                subst hz0'
                have hfin : idleP h set p = j := by rw [hMp.out]; exact idleN_eq hj (fun q hq => hjo.out q hq) (.inl rfl)
                replace hfin := Lib.hid hfin
                go_upto_region 13 with fail
                refine wp_region_quietB HP (by kernel_rfl) (by kernel_rfl) hwq (fun hne => ?_)
                repeat go_big_quiet_step ((first | fail))
                refine wpQuiet_nil ?_
                rintro ⟨w2, hw2, hb2⟩
                clear hne
                have xD := xq.step (hb2.mono xq.below.size) hw2
                have rRD := hrR.ext ⟨hb2, hw2, fun _ _ => rfl⟩
                go_wp2
                go_roundw
                case rel => exact ⟨k + 1, by omega, by go_num, hleave.out j _ hfin.out rRD xD⟩
                case measure => simp [intOf]; omega
          · have hke : k = set.length := by omega
            subst hke
            have hL : outC h set set.length = countsOf (idleL h set) := by unfold outC; rw [idleTo_end]
            have hcnL : Cn (countsOf (idleL h set)) := countsOf_cn (idleL_ok hst)
            have hcl := hcnL.len
            have hsz : (shC (countsOf (idleL h set))).size = 12 := by rw [shC_size, hcl]
            rw [hL] at hrR
            have hmR := mid_row hrR.at_ hcl
            have hfinal : setOf (countsOf (idleL h set)) = idleA h set := by rw [setOf_counts (idleL_ok hst), hA1.out]
            replace hfinal := Lib.hid hfinal
            replace hcl := Lib.hid hcl
            clear hL
            go_wp2_with (first | ((go_at_call 57; refine (setS_any _ hcnL H4 _ hwr).mono ?_; rintro e w8 ⟨v8, H8, rfl, x8, o8⟩; obtain ⟨a8, c8, rfl, _, _⟩ := o8.form)))
            go_ret2
            obtain ⟨H9, x9, _, s9, _⟩ := (o8.weaken xr.below.size).close (xr.trans x8)
            rw [hA2.out, ← hfinal.out]
            exact post2_of x9 s9

end Go.Proofs.YtngdppajailpcaaGreat

namespace Go.Proofs.YtngdppajailpcaaGreat
open Go.RowKit

attribute [local go_sem] Holds.drew Holds.alloc Holds.drewN WB.holds

theorem sameI (va vb : Value) (xs : List Int) (H : Snap) (w : World) (hw : Holds H w) (ha : Sl H va xs) (hb : Sl H vb xs) :
    Calls Tryz.prog 26 #[va, vb] w (PostV w (.bool true)) := exSame va vb xs H w hw ha hb
theorem sameP (va vb : Value) (xs : List (List Int)) (H : Snap) (w : World) (hw : Holds H w) (ha : Sl H va xs) (hb : Sl H vb xs) :
    Calls Tryz.prog 54 #[va, vb] w (PostV w (.bool true)) := exSameP va vb xs H w hw ha hb

end Go.Proofs.YtngdppajailpcaaGreat

namespace Go.Proofs.YtngdppajailpcaaGreat
open Go.RowKit

attribute [local go_sem] Holds.drew Holds.alloc Holds.drewN WB.holds

end Go.Proofs.YtngdppajailpcaaGreat

namespace Go.Proofs.YtngdppajailpcaaGreat
open Go.RowKit

attribute [local go_sem] Holds.drew Holds.alloc Holds.drewN WB.holds

def toldA (h : House) : List Int := if valid h then toldOf h else []
def sureA (h : House) : Bool := valid h && decide ((toldOf h).length = 0)

end Go.Proofs.YtngdppajailpcaaGreat

namespace Go.Proofs.YtngdppajailpcaaGreat

/-- All lists in the order of the program's sets. -/
def setted (nt : Nat) : List (List Int) := (List.range (2 ^ nt)).map setList
def ltL (a b : List Int) : Bool := decide (a.length < b.length) || (decide (a.length = b.length) && decide (cmpL a b < 0))
def stepQ (q : List Int → Bool) (a : List Int × Nat) (l : List Int) : List Int × Nat :=
  if (decide (l.length < a.2) || (decide (l.length = a.2) && decide (cmpL l a.1 < 0))) && q l then (l, l.length) else a

/-- What is to be known of the two orders. -/
structure Orders (nt : Nat) : Prop where
  sub : ∀ a ∈ setted nt, a ∈ ranked nt
  sup : ∀ a ∈ ranked nt, a ∈ setted nt
  lt : ∀ a ∈ setted nt, ∀ b ∈ setted nt, ltL a b = decide ((ranked nt).idxOf a < (ranked nt).idxOf b)
  len : ∀ a ∈ setted nt, a.length < nt + 1
  nil : (ranked nt).head? = some []
  full : (listsOf nt nt).getD 0 [] = (List.range nt).map Int.ofNat
  last : (listsOf nt nt).getD 0 [] ∈ setted nt

theorem orders {nt : Nat} (h : nt ≤ 4) : Orders nt := by
  rcases (by omega : nt = 0 ∨ nt = 1 ∨ nt = 2 ∨ nt = 3 ∨ nt = 4) with rfl | rfl | rfl | rfl | rfl
  all_goals exact ⟨by decide +kernel, by decide +kernel, by decide +kernel, by decide +kernel, by decide +kernel, by decide +kernel, by decide +kernel⟩

theorem fold_least {nt : Nat} (O : Orders nt) (q : List Int → Bool) : ∀ (A seen : List (List Int)) (a : List Int × Nat), (∀ l ∈ A, l ∈ setted nt) →
    ((a = ([], nt + 1) ∧ ∀ l ∈ seen, q l = false) ∨ (a.2 = a.1.length ∧ a.1 ∈ setted nt ∧ q a.1 = true ∧ ∀ l ∈ seen, q l = true → (ranked nt).idxOf a.1 ≤ (ranked nt).idxOf l)) →
    ((A.foldl (stepQ q) a = ([], nt + 1) ∧ ∀ l ∈ seen ++ A, q l = false) ∨ ((A.foldl (stepQ q) a).2 = (A.foldl (stepQ q) a).1.length ∧ (A.foldl (stepQ q) a).1 ∈ setted nt ∧ q (A.foldl (stepQ q) a).1 = true ∧ ∀ l ∈ seen ++ A, q l = true → (ranked nt).idxOf (A.foldl (stepQ q) a).1 ≤ (ranked nt).idxOf l))
  | [], seen, a, _, h => by simpa using h
  | x :: A, seen, a, hA, h => by
    have hx := hA x (by simp)
    have ih := fold_least O q A (seen ++ [x]) (stepQ q a x) (fun l hl => hA l (by simp [hl])) ?_
    · simpa using ih
    · cases hq : q x
      · have e : stepQ q a x = a := by unfold stepQ; rw [hq]; simp
        rw [e]
        rcases h with ⟨h1, h2⟩ | ⟨h1, h2, h3, h4⟩
        · refine .inl ⟨h1, fun l hl => ?_⟩
          rcases List.mem_append.1 hl with hl | hl
          · exact h2 l hl
          · rw [List.mem_singleton.1 hl]; exact hq
        · refine .inr ⟨h1, h2, h3, fun l hl hql => ?_⟩
          rcases List.mem_append.1 hl with hl | hl
          · exact h4 l hl hql
          · rw [List.mem_singleton.1 hl, hq] at hql; cases hql
      · rcases h with ⟨h1, h2⟩ | ⟨h1, h2, h3, h4⟩
        · subst h1
          have e : stepQ q ([], nt + 1) x = (x, x.length) := by
            unfold stepQ
            rw [hq, show decide (x.length < nt + 1) = true from decide_eq_true (O.len x hx)]
            simp
          rw [e]
          refine .inr ⟨rfl, hx, hq, fun l hl hql => ?_⟩
          rcases List.mem_append.1 hl with hl | hl
          · rw [h2 l hl] at hql; cases hql
          · rw [List.mem_singleton.1 hl]; exact Nat.le_refl _
        · have hlt := O.lt x hx a.1 h2
          cases hc : ltL x a.1
          · have e : stepQ q a x = a := by
              unfold stepQ
              unfold ltL at hc
              rw [h1, hc]; simp
            rw [e]
            rw [hc] at hlt
            refine .inr ⟨h1, h2, h3, fun l hl hql => ?_⟩
            rcases List.mem_append.1 hl with hl | hl
            · exact h4 l hl hql
            · rw [List.mem_singleton.1 hl]; have := of_decide_eq_false hlt.symm; omega
          · have e : stepQ q a x = (x, x.length) := by
              unfold stepQ
              unfold ltL at hc
              rw [h1, hc, hq]; simp
            rw [e]
            rw [hc] at hlt
            have hle := of_decide_eq_true hlt.symm
            refine .inr ⟨rfl, hx, hq, fun l hl hql => ?_⟩
            rcases List.mem_append.1 hl with hl | hl
            · have := h4 l hl hql; show (ranked nt).idxOf x ≤ _; omega
            · rw [List.mem_singleton.1 hl]; exact Nat.le_refl _

theorem told_eq {nt : Nat} (h4 : nt ≤ 4) (q : List Int → Bool) (hf : q ((listsOf nt nt).getD 0 []) = true) :
    ((setted nt).foldl (stepQ q) ([], nt + 1)).1 = (((List.range nt).flatMap fun many => listsOf many nt).find? q).getD ((listsOf nt nt).getD 0 []) ∧
    (((((List.range nt).flatMap fun many => listsOf many nt).find? q).getD ((listsOf nt nt).getD 0 [])).length = 0 ↔ q [] = true) := by
  have O := orders h4
  have hr : (ranked nt).find? q = some ((((List.range nt).flatMap fun many => listsOf many nt).find? q).getD ((listsOf nt nt).getD 0 [])) := by
    unfold ranked
    rw [List.find?_append]
    cases ((List.range nt).flatMap fun many => listsOf many nt).find? q with
    | none =>
      show [(listsOf nt nt).getD 0 []].find? q = some ((listsOf nt nt).getD 0 [])
      rw [List.find?_cons_of_pos hf]
    | some x => rfl
  generalize (((List.range nt).flatMap fun many => listsOf many nt).find? q).getD ((listsOf nt nt).getD 0 []) = r at hr
  obtain ⟨hq, hm, hlt⟩ := first_least hr
  constructor
  · rcases fold_least O q (setted nt) [] ([], nt + 1) (fun _ h => h) (.inl ⟨rfl, by simp⟩) with ⟨_, h2⟩ | ⟨_, h2, h3, h5⟩
    · have := h2 _ (List.mem_append_right [] O.last); rw [hf] at this; cases this
    · have h6 := h5 r (by simpa using O.sup r hm) hq
      have h7 : ¬ (ranked nt).idxOf ((setted nt).foldl (stepQ q) ([], nt + 1)).1 < (ranked nt).idxOf r := fun hl => by
        have := hlt _ (O.sub _ h2) hl
        rw [h3] at this; cases this
      have h8 : (ranked nt).idxOf ((setted nt).foldl (stepQ q) ([], nt + 1)).1 = (ranked nt).idxOf r := by omega
      have g1 := List.getElem_idxOf (xs := ranked nt) (List.idxOf_lt_length_of_mem (O.sub _ h2))
      have g2 := List.getElem_idxOf (xs := ranked nt) (List.idxOf_lt_length_of_mem hm)
      rw [← g1, ← g2]
      simp only [h8]
  · constructor
    · intro h0
      rw [List.length_eq_zero_iff.1 h0] at hq
      exact hq
    · intro h0
      have hh := O.nil
      cases hb : ranked nt with
      | nil => rw [hb] at hh; cases hh
      | cons a B =>
        rw [hb] at hh hr
        simp at hh
        subst hh
        rw [List.find?_cons_of_pos h0] at hr
        cases hr
        rfl

theorem toldRun_eq (h : House) (n : Nat) : (List.range n).foldl (toldStep h) ([], h.ts.length + 1) = ((List.range n).map setList).foldl (stepQ (sureB h)) ([], h.ts.length + 1) := by
  rw [List.foldl_map]
  rfl

/-- Told: what the program returns is what the document says. -/
theorem toldT_eq (h : House) : toldT h = toldA h := by
  unfold toldT toldA
  cases hv : valid h
  · rfl
  · have hV := valid_iff.1 hv
    simp only [if_true]
    unfold toldRun
    rw [toldRun_eq]
    have := (told_eq hV.t4 (sureB h) (sure_full hV)).1
    unfold setted at this
    rw [this]
    unfold toldOf
    rw [show okTold h = sureB h from funext (okTold_sureB h)]
/-- Sure. -/
theorem sureT_eq (h : House) : sureT h = sureA h := by
  unfold sureT sureA
  cases hv : valid h
  · rfl
  · have hV := valid_iff.1 hv
    have := (told_eq hV.t4 (sureB h) (sure_full hV)).2
    unfold toldOf
    rw [show okTold h = sureB h from funext (okTold_sureB h)]
    rw [Bool.true_and]
    cases hs : sureB h []
    · rw [hs] at this
      simp at this
      simp [this]
    · rw [hs] at this
      simp at this
      simp [this]

end Go.Proofs.YtngdppajailpcaaGreat

namespace Go.Proofs.YtngdppajailpcaaGreat
open Go.RowKit

attribute [local go_sem] Holds.drew Holds.alloc Holds.drewN WB.holds

/-- What Key returns. -/
def keyA (h : House) : Int := if valid h then keyOf h else 0
theorem sureP_any (vm vb vt : Value) (h : House) (H : Snap) (w : World) (hw : Holds H w) (hh : Hou H vm vb vt h) :
    Calls Tryz.prog 40 #[houV vm vb vt h] w (PostV w (.tuple #[.bool (sureA h), .int .i64 (errT (valid h))])) := by
  rw [← sureT_eq]; exact sureT_any vm vb vt h H w hw hh
end Go.Proofs.YtngdppajailpcaaGreat
