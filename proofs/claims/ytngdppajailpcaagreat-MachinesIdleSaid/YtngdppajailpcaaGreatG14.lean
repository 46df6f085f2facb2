/- Lemmas and walks on which the claims of this seat lean: MNs2 MMin It6. -/
import Derived.Test.YtngdppajailpcaaGreatG05
import Derived.Test.YtngdppajailpcaaGreatG06
import Derived.Test.YtngdppajailpcaaGreatG09
import Derived.Test.YtngdppajailpcaaGreatG10
import Derived.Test.YtngdppajailpcaaGreatG13

set_option linter.all false

namespace Go.Proofs.YtngdppajailpcaaGreat
open Go.RowKit

attribute [local go_sem] Holds.drew Holds.alloc Holds.drewN WB.holds Oper.semAt_some FW_fn FW_dep FW_round

set_option maxRecDepth 100000 in
set_option maxHeartbeats 8000000 in
theorem nfrom_step (HF : Snap) (n0 : Nat) (vm vb vt vo ve : Value) (h : Hall) (hv : ValidH h) (stop : Int) (_hstop : I64 stop) (PB HB GB FB SB MB R : Nat) (E : NEnv HF vm vb vt vo ve h stop PB HB GB FB SB MB R)
    (rec : List (List Int) → List (List (List Int))) (first : List (List Int)) (hg : GoodF h.hs first)
    (hrec : ∀ f ks o W vs, GoodF h.hs f → mu h.hs f < mu h.hs first → KMap o ks → ks.length + (rec f).length ≤ 1000000000 → MSt HF n0 MB R 3 24 W vs o (fullP h.hs.ms.length f) → ∀ i : Int, i + 1 = f.length →
      Calls Tryz.prog 97 #[.int .i64 i, .int .i64 (ub f.flatten : Nat), .pointer (some ⟨PB, 0, none⟩), .pointer (some ⟨HB, 0, none⟩), .pointer (some ⟨GB, 0, none⟩), .pointer (some ⟨FB, 0, none⟩), .pointer (some ⟨SB, 0, none⟩)] W
        (NEnd HF n0 MB R h.hs.ms.length f (ks ++ keepP h (rec f)) W))
    (ks : List Cnt) (hks : ks.length + (plansStep h.hs stop rec first).length ≤ 1000000000) (o : Obj) (hko : KMap o ks) (W : World) (vs : List Value) (s : MSt HF n0 MB R 3 24 W vs o (fullP h.hs.ms.length first)) (m : Nat) (hm : first.length = m + 1) :
    Calls Tryz.prog 97 #[.int .i64 m, .int .i64 (ub first.flatten : Nat), .pointer (some ⟨PB, 0, none⟩), .pointer (some ⟨HB, 0, none⟩), .pointer (some ⟨GB, 0, none⟩), .pointer (some ⟨FB, 0, none⟩), .pointer (some ⟨SB, 0, none⟩)] W
      (NEnd HF n0 MB R h.hs.ms.length first (ks ++ keepP h (plansStep h.hs stop rec first)) W) := by
  have hmn := hg.le
  have hm3 := hv.hs.m3
  have hb5 := hv.hs.b5
  obtain ⟨ab, cb, rfl, hb1, hb2⟩ := E.hh.hs.b.form
  -- the first call
  have hA : Calls Tryz.prog 97 #[.int .i64 ((m : Int) + 1), .int .i64 (ub first.flatten : Nat), .pointer (some ⟨PB, 0, none⟩), .pointer (some ⟨HB, 0, none⟩), .pointer (some ⟨GB, 0, none⟩), .pointer (some ⟨FB, 0, none⟩), .pointer (some ⟨SB, 0, none⟩)] W
      (NEnd HF n0 MB R h.hs.ms.length first (ks ++ keepP h (plansA h.hs rec first)) W) := by
    by_cases hl : first.length = h.hs.ms.length
    · have hpa : plansA h.hs rec first = [first] := by unfold plansA; rw [if_pos hl]
      rw [hpa, show (m : Int) + 1 = (h.hs.ms.length : Nat) by omega]
      exact nleaf_any HF n0 vm _ vt vo ve h hv stop PB HB GB FB SB MB R E first hg hl _ ks (by omega) o hko W vs (by rw [fullP_all hl] at s; exact s)
    · have hpa : plansA h.hs rec first = rec (first ++ [[]]) := by unfold plansA; rw [if_neg hl]
      have hfl : (first ++ [[]]).flatten = first.flatten := by simp
      have hfp := fullP_nil (n := h.hs.ms.length) (first := first) (by omega)
      rw [hpa]
      have := hrec (first ++ [[]]) ks o W vs (hg.nil_ok hl).1 (hg.nil_ok hl).2 hko (by
        have : (plansA h.hs rec first).length ≤ (plansStep h.hs stop rec first).length := by unfold plansStep; rw [List.length_append]; omega
        rw [hpa] at this; omega) (by rw [hfp]; exact s) ((m : Int) + 1) (by simp [hm])
      rw [hfl] at this
      refine this.mono ?_
      rintro e W' ⟨vs', o', s', hh⟩
      exact ⟨vs', o', by rw [hfp] at s'; exact s', hh⟩
  obtain ⟨hh0, hh1, hh2, hh3, hh4, hh5⟩ := cellsHal E.hb
  have hcP := fun (w : World) (hw : Holds HF w) => cellH E.pb hw 0
  have hcF := fun (w : World) (hw : Holds HF w) => cellH E.fb hw 0
  have hcS := fun (w : World) (hw : Holds HF w) => cellH E.sb hw 0
  simp at hcP hcF hcS
  have hmne : ((m : Int) == h.hs.ms.length) = false := by simp; omega
  unfold I64 at _hstop
  have hW := s.hf
  have hgood := (goodAll_iff.1 hg.good).1
  obtain ⟨lr, hlr⟩ := At.mk (xs := first) (k := m) (by omega)
  have hlrlen : lr.length ≤ 5 := by
    have h1 := hg.len
    have h2 := congrArg List.length (congrArg List.flatten hlr.split)
    simp at h2 h1; omega
  obtain ⟨acc, hacc⟩ : ∃ acc, Hid (acc = first.flatten) := ⟨_, rfl⟩
  have hgoodA : ∀ x ∈ acc, 0 ≤ x ∧ x ≤ (h.hs.bs.length : Int) - 1 := by rw [hacc.out]; exact hgood
  clear hgood
  rw [← hacc.out] at hA ⊢
  have hubA := ub_lt hb5 hgoodA
  obtain ⟨U, hU⟩ : ∃ U, Hid (U = ub acc) := ⟨_, rfl⟩
  rw [← hU.out] at hA hubA ⊢
  go_enter Tryz.func97, Tryz.ntmps97
  go_wp2_with fail
  go_at_call 97
  refine hA.mono ?_
  clear hA
  rintro e W1 ⟨vs1, oA, s1, hk1, hbl1, r1, rfl⟩
  have hW1 := s1.hf
  cases hst : ((m : Int) == stop)
  · have hstep : plansStep h.hs stop rec first = plansA h.hs rec first ++ plansB h.hs rec first h.hs.bs.length := by
      unfold plansStep; rw [if_neg (by have : ¬ (m : Int) = stop := by simpa using hst
                                       rw [hm]; omega)]
    rw [hstep, List.length_append] at hks
    replace hstep := Lib.hid hstep
    go_wp2_with fail
    go_loopw [48] (fun i wr => ∃ (k : Nat) (vs2 : List Value) (o2 : Obj), k ≤ h.hs.bs.length ∧ i = .int .i64 k ∧ MSt HF n0 MB R 3 24 wr vs2 o2 (fullP h.hs.ms.length first) ∧ KMap o2 (ks ++ keepP h (plansA h.hs rec first ++ plansB h.hs rec first k)) ∧ Below n0 W wr) (fun i _ => h.hs.bs.length - (intOf i).toNat)
    case atStart =>
      refine ⟨0, vs1, oA, Nat.zero_le _, rfl, s1, ?_, hbl1⟩
      rw [show plansB h.hs rec first 0 = [] from rfl, List.append_nil]; exact hk1
    case round =>
      clear hk1 s1 hW1 s hW hbl1
      obtain ⟨k, vs2, o2, hk, rfl, s2, hk2, hbl2⟩ := hrel
      have hw2 := s2.hf
      by_cases hlk : k < h.hs.bs.length
      · have hbit := used_bit hb5 hgoodA hlk
        rw [← hU.out] at hbit
        have hsucc := plansB_succ h.hs rec first k
        rw [← hacc.out] at hsucc
        by_cases hin : (k : Int) ∈ acc
        · rw [if_pos hin] at hbit
          rw [decide_eq_true hin, if_pos rfl, List.append_nil] at hsucc
          replace hsucc := Lib.hid hsucc
          replace hin := Lib.hid hin
          go_wp2_with fail
          go_roundw
          case rel => exact ⟨k + 1, vs2, o2, by omega, by go_num, s2, by rw [hsucc.out]; exact hk2, hbl2⟩
          case measure => simp [intOf]; omega
        · rw [if_neg hin] at hbit
          rw [decide_eq_false hin, if_neg (by decide)] at hsucc
          have hor := used_or hb5 hgoodA hlk
          rw [← hU.out] at hor
          have hpw := pow_wrap (b := k) (by omega)
          have hinF : (k : Int) ∉ first.flatten := by rw [← hacc.out]; exact hin
          replace hsucc := Lib.hid hsucc
          replace hin := Lib.hid hin
          have hlrF := fullP_at (n := h.hs.ms.length) hlr
          obtain ⟨rv, hrv⟩ := At.mk (xs := vs2) (k := m) (by rw [s2.len, fullP_len hg.le]; omega)
          have hcR := (s2.cellR hrv).1
          have hfR := (s2.cellR hrv).2
          have hRn := (s2.new R (ownB_iff.2 (.inr (.inl rfl)))).1
          have hltR := s2.ownLt (ownB_iff.2 (.inr (.inl rfl)))
          have hown := s2.own' hlrF hrv (by omega)
          have hsz2 := s2.size
          obtain ⟨ra, rc, hrve, hrl, hrc⟩ := hown.form
          subst hrve
          have hrne := (s2.rne _ hrv.mem).2
          have hm0 : (0 : Int) ≤ (m : Int) := by omega
          have hm1 : (m : Int) < (h.hs.ms.length : Int) := by omega
          go_wp2_with fail
          go_cut [] (fun wc => ∃ vs4, MSt HF n0 MB R 3 24 wc vs4 o2 (fullP h.hs.ms.length (growP first k)) ∧ Below n0 W wc)
          case first =>
            go_region_law ((refine step_appC (H := HF) (base := n0) eInt rfl _ _ rfl rfl (by exact (hown.alloc _).drew) (x := (k : Int)) rfl ⟨rfl, by omega, by omega⟩ (one_cell (by simp [go_sem])) (by first | exact hw2.drew.alloc _ | exact (hw2.alloc _).drew) (by simp [Enc.by_]; omega) (by omega) (by simp; omega) ?_; intro v' w' hown' hgr hwA hat; have hRh : w'.heap[R]? = some (.cells vs2.toArray 24 (0, 0)) := (hgr.block R (by simp; omega) (Ne.symm hrne)).trans ((Below.heap_alloc _ _ _ hltR).trans s2.rr); have hcR2 : w'.cell? ⟨R, m, none⟩ = some (.slice ra lr.length rc) := (cell_of_row w' R m _ _ _ hRh).trans (by simpa using (show vs2[m]? = some (.slice ra lr.length rc) from hrv)); have hfR2 : w'.frozen? ⟨R, m, none⟩ = false := (by simp [World.frozen?, hRh]); obtain ⟨a', c', rfl, _, _⟩ := hown'.form))
            all_goals
              go_wp2_with fail
              go_meet
              have hflat : ∀ x ∈ ((fullP h.hs.ms.length first).set m (lr ++ [(k : Int)])).flatten, I64 x := by
                rw [growP_set hlr hm, fullP_flatten, growP_flatten hg.ne, ← hacc.out]
                intro x hx
                rcases List.mem_append.1 hx with hx | hx
                · have := hgoodA x hx; unfold I64; omega
                · rw [List.mem_singleton.1 hx]; unfold I64; omega
              have hlI : ∀ x ∈ lr ++ [(k : Int)], I64 x := fun x hx => hflat x (List.mem_flatten.2 ⟨_, (hlrF.set_same _).mem, hx⟩)
              have s4 := s2.setRow (W' := w') (l' := lr ++ [(k : Int)]) hlrF hrv (((Below.refl n0 wr).alloc hsz2 (.cells #[.int .i64 (k : Int)] 3)).drew.grown hgr (by simp; omega) (fun q e => (hown.lt q e).1)) (fun q hq hne => (hgr.block q (by simp; omega) hne).trans (Below.heap_alloc _ _ _ hq))
                hown'.ints (hat.imp id (fun e => ⟨_, e, by simp⟩)) hlI hflat
              rw [growP_set hlr hm] at s4
              rw [show (lr ++ [(k : Int)]).length = lr.length + 1 from by simp] at s4
              exact ⟨_, s4, hbl2.trans ((((Below.refl n0 wr).alloc hsz2 (.cells #[.int .i64 (k : Int)] 3)).drew.grown hgr (by simp; omega) (fun q e => (hown.lt q e).1)).setCell (p := ⟨R, m, none⟩) (s2.new R (ownB_iff.2 (.inr (.inl rfl)))).2 _)⟩
          case rest =>
            obtain ⟨vs4, s4, hbl4⟩ := hcut
            have hlrI : ∀ x ∈ lr, I64 x := fun x hx => s2.i64 x (List.mem_flatten.2 ⟨_, hlrF.mem, hx⟩)
            clear hcR hfR hown hw2 s2
            have hgf : (growP first k).flatten = acc ++ [(k : Int)] := by rw [growP_flatten hg.ne, hacc.out]
            have hksK : (ks ++ keepP h (plansA h.hs rec first ++ plansB h.hs rec first k)).length + (rec (growP first k)).length ≤ 1000000000 := by
              have h1 := keepP_len h (plansA h.hs rec first ++ plansB h.hs rec first k)
              have h2 := (plansB_prefix h.hs rec first (show k + 1 ≤ h.hs.bs.length by omega)).length_le
              have h3 := congrArg List.length hsucc.out
              simp only [List.length_append] at *
              omega
            have hw4 := s4.hf
            go_upto_region 11 with fail
            refine (wpIn_wide (n := 3)).1 ?_
            show Code.wpIn (FW none) 3 _ _ _ _ _
            have hnq : Nonempty (WB HF wc) := ⟨⟨wc, hw4, Below.refl _ _⟩⟩
            refine wpIn_region_qtail (C := fun w' => ∃ x : WB HF wc, w' = x.w) 6 (by kernel_rfl) (by kernel_rfl) (by kernel_rfl) ⟨⟨World.drew wc, Holds.drew hw4, (Below.refl _ _).drew⟩, rfl⟩ ?_
            simp only [List.take_succ_cons, List.take_zero, List.drop_succ_cons, List.drop_zero]
            repeat go_big_quiet_step ((first | (fail)))
            refine wpQuiet_nil ?_
            clear hnq
            rintro w2 ⟨⟨_, hw2, hb2⟩, rfl⟩
            have s5 := (s4.ext hb2).1
            have hbl5 := hbl4.trans (hb2.mono s4.size)
            have hcall := hrec (growP first k) _ o2 w2 vs4 (hg.grow_ok hlk hinF).1 (hg.grow_ok hlk hinF).2 hk2 hksK s5 (m : Int) (by rw [growP_len hg.ne]; omega)
            rw [hgf] at hcall
            clear s4 hw4 hw2 hb2 s5 hbl4 hbl2
            replace hcall := Lib.hid hcall
            gi_wp2_with (gi_at_call 97; refine (Calls.wide hcall.out).mono ?_; rintro e W5 ⟨vs5, o5, s5, hk5, hbl6, r5, rfl⟩)
            clear hcall
            have hw5 := s5.hf
            have hgrow := growP_at hlr hm k
            have hlr5 := fullP_at (n := h.hs.ms.length) hgrow
            obtain ⟨rv5, hrv5⟩ := At.mk (xs := vs5) (k := m) (by rw [s5.len, fullP_len (by rw [growP_len hg.ne]; exact hg.le)]; omega)
            have hrow5 := s5.rows m _ _ hlr5 hrv5
            rw [show (lr ++ [(k : Int)]).length = lr.length + 1 from by simp] at hrow5
            obtain ⟨g5, cap5, hrve5, hcap5, hcap5'⟩ := ownsRow_form hrow5
            subst hrve5
            unfold maxLen at hcap5'
            have hcR5 := (s5.cellR hrv5).1
            have hfR5 := (s5.cellR hrv5).2
            have hsz5 := s5.size
            go_wp2_with fail
            have hcutrow := ownsRow_cut hrow5 (Nat.le_succ lr.length)
            rw [show (List.map (Value.int .i64) (lr ++ [(k : Int)])).take lr.length = lr.map (Value.int .i64) from by simp] at hcutrow
            have h5f : ∀ x ∈ ((fullP h.hs.ms.length (growP first k)).set m lr).flatten, I64 x := by
              rw [growP_back hlr hm, fullP_flatten, ← hacc.out]
              intro x hx; have := hgoodA x hx; unfold I64; omega
            have s6 := s5.drew.setRow (W' := W5.drew) (l' := lr) (v' := .slice (some ⟨g5, 0, none⟩) lr.length cap5) hlr5 hrv5 (Below.refl _ _) (fun _ _ _ => rfl) hcutrow (.inl rfl) (fun x hx => hlrI x hx) h5f
            rw [growP_back hlr hm] at s6
            have hkk : KMap o5 (ks ++ keepP h (plansA h.hs rec first ++ plansB h.hs rec first (k + 1))) := by
              rw [hsucc.out, ← List.append_assoc, keepP_append, ← List.append_assoc]; exact hk5
            have hbl7 := (hbl5.trans hbl6).drew.setCell (p := ⟨R, m, none⟩) (s5.new R (ownB_iff.2 (.inr (.inl rfl)))).2 (.slice (some ⟨g5, 0, none⟩) lr.length cap5)
            clear hcutrow h5f
            go_region
            all_goals
              go_wp2_with fail
              go_roundw
              case rel => exact ⟨k + 1, _, o5, by omega, by go_num, s6, hkk, hbl7⟩
              case measure => simp [intOf]; omega
      · go_wp2_with fail
        refine bodyPost_ret (results_none rfl _ _ _) rfl ?_
        exact ⟨vs2, o2, s2, by rw [hstep.out, ← show k = h.hs.bs.length by omega]; exact hk2, hbl2, _, rfl⟩
  · have hstep : plansStep h.hs stop rec first = plansA h.hs rec first := by
      unfold plansStep; rw [if_pos (by have : (m : Int) = stop := by simpa using hst
                                       rw [hm]; omega), List.append_nil]
    replace hstep := Lib.hid hstep
    go_wp2_with fail
    refine bodyPost_ret (results_none rfl _ _ _) rfl ?_
    exact ⟨vs1, oA, s1, by rw [hstep.out]; exact hk1, hbl1, _, rfl⟩

end Go.Proofs.YtngdppajailpcaaGreat

namespace Go.Proofs.YtngdppajailpcaaGreat
open Go.RowKit

def isMin (K : List Cnt) (c : Cnt) : Prop := c ∈ K ∧ ∀ t ∈ K, t = c ∨ cntLe t c = false
theorem min_below {K : List Cnt} (hK : ∀ c ∈ K, Cn c) : ∀ (n : Nat) (x : Cnt), x ∈ K → (cntSum x).toNat ≤ n → ∃ y, isMin K y ∧ cntLe y x = true := by
  intro n
  induction n with
  | zero =>
    intro x hx hn
    refine ⟨x, ⟨hx, fun t ht => ?_⟩, cntLe_refl x⟩
    by_cases e : cntLe t x = true
    · obtain ⟨h1, h2⟩ := cntLe_sum (by rw [(hK t ht).len, (hK x hx).len]) e
      have a := (hK t ht).sum
      have b := (hK x hx).sum
      exact .inl (h2 (by omega))
    · exact .inr (by simpa using e)
  | succ n ih =>
    intro x hx hn
    by_cases h : ∀ t ∈ K, t = x ∨ cntLe t x = false
    · exact ⟨x, ⟨hx, h⟩, cntLe_refl x⟩
    · have : ∃ t, t ∈ K ∧ ¬ (t = x ∨ cntLe t x = false) := Classical.byContradiction fun hc => h fun t ht => Classical.byContradiction fun hn => hc ⟨t, ht, hn⟩
      obtain ⟨t, ht, hne⟩ := this
      have e1 : t ≠ x := fun e => hne (.inl e)
      have e2 : cntLe t x = true := by
        cases e : cntLe t x
        · exact absurd (.inr e) hne
        · rfl
      obtain ⟨h1, h2⟩ := cntLe_sum (by rw [(hK t ht).len, (hK x hx).len]) e2
      have a := (hK t ht).sum
      have hlt : cntSum t < cntSum x := by
        rcases Int.lt_or_eq_of_le h1 with h | h
        · exact h
        · exact absurd (h2 h) e1
      obtain ⟨y, hy, hyt⟩ := ih t ht (by omega)
      exact ⟨y, hy, cntLe_trans (by rw [(hK y hy.1).len, (hK t ht).len]) (by rw [(hK t ht).len, (hK x hx).len]) hyt e2⟩

/-- What has been gathered while some keys are still to come. -/
structure Gath (K : List Cnt) (left : Lit → Bool) (acc : List Cnt) : Prop where
  out : ∀ c ∈ acc, isMin K c
  all : ∀ c ∈ K, left (klOf c) = false → isMin K c → c ∈ acc
theorem Gath.start {K : List Cnt} {left : Lit → Bool} (h : ∀ c ∈ K, left (klOf c) = true) : Gath K left [] := ⟨by simp, fun c hc e => by rw [h c hc] at e; cases e⟩
theorem left_next {K : List Cnt} (hK : ∀ c ∈ K, Cn c) {left : Lit → Bool} {c d : Cnt} (hc : c ∈ K) (hd : d ∈ K) (e : (left (klOf d) && !(klOf d).sameKey (klOf c)) = false) : left (klOf d) = false ∨ d = c := by
  cases hl : left (klOf d)
  · exact .inl rfl
  · rw [hl] at e
    simp at e
    exact .inr (klOf_inj (hK d hd) (hK c hc) (WideAt.sameKey_eq e))
theorem left_sub {left : Lit → Bool} {K : List Cnt} (h : ∀ kl, left kl = true → ∃ c ∈ K, kl = klOf c) (x : Lit) : ∀ kl, (left kl && !kl.sameKey x) = true → ∃ c ∈ K, kl = klOf c := fun kl e => h kl (by simp at e; exact e.1)
theorem Gath.yes {K : List Cnt} (hK : ∀ c ∈ K, Cn c) {left : Lit → Bool} {acc : List Cnt} (g : Gath K left acc) {c : Cnt} (hc : isMin K c) : Gath K (fun z => left z && !z.sameKey (klOf c)) (acc ++ [c]) :=
  ⟨fun d hd => by
    rcases List.mem_append.1 hd with h | h
    · exact g.out d h
    · rw [List.mem_singleton.1 h]; exact hc, fun d hd e hm => by
    rcases left_next hK hc.1 hd e with h | h
    · exact List.mem_append_left _ (g.all d hd h hm)
    · rw [h]; simp⟩
theorem Gath.no {K : List Cnt} (hK : ∀ c ∈ K, Cn c) {left : Lit → Bool} {acc : List Cnt} (g : Gath K left acc) {c : Cnt} (hcK : c ∈ K) (hc : ¬ isMin K c) : Gath K (fun z => left z && !z.sameKey (klOf c)) acc :=
  ⟨g.out, fun d hd e hm => by
    rcases left_next hK hcK hd e with h | h
    · exact g.all d hd h hm
    · rw [h] at hm; exact absurd hm hc⟩
theorem Gath.dom {K : List Cnt} (hK : ∀ c ∈ K, Cn c) {left : Lit → Bool} {acc : List Cnt} (g : Gath K left acc) (hl : ∀ kl, left kl = false) : Dom acc K ∧ Dom K acc :=
  ⟨fun x hx => ⟨x, (g.out x hx).1, cntLe_refl x⟩, fun x hx => by
    obtain ⟨y, hy, hyx⟩ := min_below hK _ x hx (Nat.le_refl _)
    exact ⟨y, g.all y hy.1 (hl _) hy, hyx⟩⟩

/-- Whether a shelf is least so far. -/
def LeastSo (K : List Cnt) (left : Lit → Bool) (c : Cnt) (b : Bool) : Prop := b = true ↔ ∀ d ∈ K, left (klOf d) = false → d = c ∨ cntLe d c = false
theorem LeastSo.start {K : List Cnt} {left : Lit → Bool} (h : ∀ c ∈ K, left (klOf c) = true) (c : Cnt) : LeastSo K left c true := Iff.intro (fun _ d hd e => (by rw [h d hd] at e; cases e)) (fun _ => rfl)
theorem LeastSo.step {K : List Cnt} (hK : ∀ c ∈ K, Cn c) {left : Lit → Bool} {c d : Cnt} {b : Bool} (g : LeastSo K left c b) (hd : d ∈ K) : LeastSo K (fun z => left z && !z.sameKey (klOf d)) c (b && (decide (c = d) || !cntLe d c)) := by
  unfold LeastSo at *
  rw [Bool.and_eq_true, g, Bool.or_eq_true, decide_eq_true_eq, Bool.not_eq_true']
  constructor
  · rintro ⟨h1, h2⟩ x hx e
    rcases left_next hK hd hx e with h | h
    · exact h1 x hx h
    · rw [h]; exact h2.imp Eq.symm id
  · intro h
    refine ⟨fun x hx e => h x hx (by simp only [e]; rfl), ?_⟩
    have hs : (klOf d).sameKey (klOf d) = true := WideAt.sameKey_self (klOf_key d)
    exact (h d hd (by simp only [hs]; simp)).imp Eq.symm id
theorem LeastSo.done {K : List Cnt} {left : Lit → Bool} {c : Cnt} {b : Bool} (g : LeastSo K left c b) (hc : c ∈ K) (hl : ∀ kl, left kl = false) : b = true ↔ isMin K c := by
  unfold LeastSo at g
  rw [g]
  exact ⟨fun h => ⟨hc, fun t ht => h t ht (hl _)⟩, fun h d hd _ => h.2 d hd⟩

/-- The map is not greater than the number of what was put. -/
theorem size_le {w : World} {b n : Nat} {D : DataW Unit} (h : w.ownsMap Tryz.prog 84 R0 b n D) : Maps.size D ≤ n := by
  obtain ⟨es, clock, _, _, hs, rfl⟩ := h
  simp [Maps.size, length_sorted]; exact hs

/-! ### What stays while a range goes on -/
section
variable {α : Type} [Enc α] {H H0 : Snap} {base b r n cnt : Nat} {w w' w0 : World} {e : TypeId} {v : Value} {xs : List α} {D : DataW Unit} {left : Lit → Bool}
theorem Own.ne_iter (h : Own H base w e v xs) (k : w.ranges Tryz.prog 84 R0 b r n D left cnt) : v.ownBlock = none ∨ v.ownBlock ≠ some r := by
  refine .inr fun e1 => ?_
  obtain ⟨cur, hc⟩ := h.row_type e1
  obtain ⟨_, _, _, _, _, _, _, _, _, hr, _⟩ := k
  rw [hc] at hr; cases hr
theorem Own.ne_map (h : Own H base w e v xs) (k : w.ranges Tryz.prog 84 R0 b r n D left cnt) : v.ownBlock ≠ some b := by
  intro e1
  obtain ⟨cur, hc⟩ := h.row_type e1
  obtain ⟨_, _, _, _, _, hb, _⟩ := k
  rw [hc] at hb; cases hb
theorem ranges_of (k : w.ranges Tryz.prog 84 R0 b r n D left cnt) (hb : w'.heap[b]? = w.heap[b]?) (hr : w'.heap[r]? = w.heap[r]?) : w'.ranges Tryz.prog 84 R0 b r n D left cnt := by
  obtain ⟨es, clock, since, seen, c0, h1, h2, h3, h4, h5, rest⟩ := k
  exact ⟨es, clock, since, seen, c0, hb.trans h1, h2, h3, h4, hr.trans h5, rest⟩
/-- The map and an iterator over it, frozen for a step. -/
theorem Ext.iter (x : Ext w0 H0 w H) (k : w.ranges Tryz.prog 84 R0 b r n D left cnt) (hb : w0.heap.size ≤ b) (hr : w0.heap.size ≤ r) (hbn : H b = none) (hrn : H r = none) (h : Own H base w e v xs) :
    ∃ H4, Ext w0 H0 w H4 ∧ SLe H H4 ∧ Own H4 base w e v xs ∧ ∀ w', Holds H4 w' → w'.ranges Tryz.prog 84 R0 b r n D left cnt := by
  have hk := k
  have n1 := h.ne_iter k
  have n2 := h.ne_map k
  obtain ⟨es, clock, since, seen, c0, h1, _, _, _, h5, _⟩ := k
  have hne : r ≠ b := hk.ne
  have hle : SLe H ((H.put b (.map es clock)).put r (.mapIter (some b) since seen c0)) := (Snap.le_put hbn _).trans (Snap.le_put (by rw [Snap.put_other _ _ hne]; exact hrn) _)
  refine ⟨(H.put b (.map es clock)).put r (.mapIter (some b) since seen c0), (x.freeze hb h1).freeze hr h5, hle, h.snapS hle (fun q hq => ?_), fun w' hw' => ranges_of hk ?_ ?_⟩
  · have e1 : q ≠ r := by
      rintro rfl
      rcases n1 with e | e
      · rw [hq] at e; cases e
      · exact e hq
    have e2 : q ≠ b := by rintro rfl; exact n2 hq
    rw [Snap.put_other _ _ e1, Snap.put_other _ _ e2]
    exact h.free q hq
  · rw [h1]; exact hw'.at_ _ _ (by rw [Snap.put_other _ _ (Ne.symm hne), Snap.put_same])
  · rw [h5]; exact hw'.at_ _ _ (Snap.put_same _ _ _)
theorem Own.kept0 (h : Own H base w e v xs) (hg : w.grownBy w' none) : Own H base w' e v xs := h.kept hg (by
  cases v.ownBlock with
  | none => exact .inl rfl
  | some k => exact .inr (by simp))
theorem Row.kept {t : TypeId} {c : List Int} {row : Option Nat} (h : Row H base w t b c) (hg : w.grownBy w' row) (hne : some b ≠ row) : Row H base w' t b c := ⟨(hg.block b h.lt hne).trans h.at_, h.base, h.free⟩
theorem Ext.next (h : Ext w0 H0 w H) (hg : w.grownBy w' (some r)) (hr : H r = none) (hb : w0.heap.size ≤ r) : Ext w0 H0 w' H :=
  ⟨h.below.grown hg h.below.size (fun k e => by cases e; exact hb), h.holds.grown hg (fun k e => by cases e; exact hr), h.same⟩
theorem Ext.next0 (h : Ext w0 H0 w H) (hg : w.grownBy w' none) : Ext w0 H0 w' H :=
  ⟨h.below.grown hg h.below.size (fun k e => by cases e), h.holds.grown hg (fun k e => by cases e), h.same⟩
theorem grown_of (x : Ext w0 H0 w H) (x' : Ext w0 H0 w' H) (hs : w.heap.size ≤ w'.heap.size) (hb : ∀ k, k < w.heap.size → w'.heap[k]? = w.heap[k]?) : w.grownBy w' none :=
  ⟨x'.below.os.trans x.below.os.symm, x'.below.tape.trans x.below.tape.symm, x'.below.output.trans x.below.output.symm, hs, fun k hk _ => hb k hk⟩
theorem grown_below (h : Below w.heap.size w w') : w.grownBy w' none := ⟨h.os, h.tape, h.output, h.size, fun k hk _ => h.block k hk⟩
end

end Go.Proofs.YtngdppajailpcaaGreat

namespace Go.Proofs.YtngdppajailpcaaGreat
open Go.RowKit

attribute [local go_sem] Holds.drew Holds.alloc Holds.drewN WB.holds

theorem from_any (HF : Snap) (n0 l W0 : Nat) (vm vb vt : Value) (h : House) (hv : Valid h) (stop : Int) (hstop : I64 stop) (PB YB HB FB SB UB R : Nat) (E : Env HF l vm vb vt h stop PB YB HB FB SB UB R)
    (xs : List (List (List Int))) (J Jx : Snap → List (List (List Int)) → World → Prop) (hJ : Abides n0 J) (hJx : Abides n0 Jx) (hY : Rounds h HF l W0 xs J Jx) :
    ∀ (n : Nat) (f : List (List Int)) (pre : List (List (List Int))) (W : World) (vs : List Value), GoodF h f → mu h f ≤ n → pre ++ plansF h stop n f <+: xs → St HF n0 UB R 3 24 W vs (ub f.flatten) (fullP h.ms.length f) → J (snapI HF UB R vs W) pre W → ∀ i : Int, i + 1 = f.length →
      Calls Tryz.prog 140 #[.int .i64 i, .pointer (some ⟨PB, 0, none⟩), .pointer (some ⟨YB, 0, none⟩), .pointer (some ⟨HB, 0, none⟩), .pointer (some ⟨FB, 0, none⟩), .pointer (some ⟨SB, 0, none⟩), .pointer (some ⟨UB, 0, none⟩)] W
        (FromEnd HF n0 UB R h.ms.length f (plansF h stop n f) pre J Jx) := by
  intro n
  induction n with
  | zero =>
    intro f pre W vs hg hmu hpre s hj i hi
    have hlen := hg.ne
    obtain ⟨m, hm⟩ : ∃ m, f.length = m + 1 := ⟨f.length - 1, by omega⟩
    obtain rfl : i = (m : Int) := by omega
    exact from_step HF n0 l W0 vm vb vt h hv stop hstop PB YB HB FB SB UB R E xs J Jx hJ hJx hY (fun _ => []) f hg (fun f' _ _ _ _ hlt => absurd hlt (by omega)) pre hpre W vs s hj m hm
  | succ n ih =>
    intro f pre W vs hg hmu hpre s hj i hi
    have hlen := hg.ne
    obtain ⟨m, hm⟩ : ∃ m, f.length = m + 1 := ⟨f.length - 1, by omega⟩
    obtain rfl : i = (m : Int) := by omega
    exact from_step HF n0 l W0 vm vb vt h hv stop hstop PB YB HB FB SB UB R E xs J Jx hJ hJx hY (plansF h stop n) f hg (fun f' pre' W' vs' hg' hlt hpre' s' hj' i' hi' => ih f' pre' W' vs' hg' (by omega) hpre' s' hj' i' hi') pre hpre W vs s hj m hm

theorem run_makeLists (n : Nat) (hn : n ≤ 3) (w : World) : (Instr.makeSlice 27 (.int .i64 (n : Int)) (.int .i64 (n : Int))).run Tryz.prog w = .ok (.slice (some ⟨w.heap.size, 0, none⟩) n n) (w.alloc (.cells (List.replicate n (Value.slice none 0 0)).toArray 24)) := by
  obtain ⟨i, z, hi, hz', hsz, hby, hzs⟩ := eList.inf
  have hz : (Tryz.prog.info? 24).map (·.zero) = some (some (.slice none 0 0)) := by kernel_rfl
  obtain rfl : z = .slice none 0 0 := by rw [hi] at hz; simp at hz; rw [hz] at hz'; exact (Option.some.inj hz').symm
  have hr := run_make (P := Tryz.prog) w 27 24 i (.slice none 0 0) eList.und hi hz' .i64 .i64 (n : Int) (n : Int) (by omega) (Int.le_refl _) (by rw [hby]; simp only [Enc.by_]; omega) (by omega)
  simp only [Int.toNat_natCast] at hr
  rw [hr, hsz]
  have : madeCells (Value.slice none 0 0).cells (n * Enc.sz (List Int)) = (List.replicate n (Value.slice none 0 0)).toArray := by
    apply Array.ext
    · simp [madeCells, Enc.sz]
    · intro k h1 h2
      simp [madeCells, Value.cells, Nat.mod_one]
  rw [this]

theorem hA {w : World} {k : Nat} {o : Obj} (o' : Obj) (h : w.heap[k]? = some o) : (w.alloc o').heap[k]? = some o := (heap_alloc_old w o' (Array.getElem?_eq_some_iff.1 h).1).trans h
theorem hN {w : World} {k : Nat} (o : Obj) (hk : k = w.heap.size) : (w.alloc o).heap[k]? = some o := by subst hk; exact heap_alloc_new w o

set_option maxRecDepth 100000 in
set_option maxHeartbeats 8000000 in
theorem plans1_any (vm vb vt : Value) (h : House) (hv : Valid h) (stop : Int) (hstop : I64 stop) (HB SB : Nat) (H : Snap) (w : World) (hw : Holds H w) (hh : Hou H vm vb vt h) (hHB : H HB = some (.cells (houV vm vb vt h).cells 26 (0, 0))) (hSB : H SB = some (.cells #[.int .i64 stop] 3 (0, 0))) :
    Iter Tryz.prog 139 #[.pointer (some ⟨HB, 0, none⟩), .pointer (some ⟨SB, 0, none⟩)] (encP h) (plansOf h stop) w H := by
  obtain ⟨am, cm, rfl, hm1, hm2⟩ := hh.m.form
  have hm3 := hv.m3
  intro l J Jx W HW hx hJ hJx hY h0
  have hleW := hx.le hw
  have hW := hx.holds
  obtain ⟨hc0, hc1, hc2, hc3⟩ := cellsHou (hleW _ _ hHB)
  refine Calls.mono (R := IterEnd HW (plansOf h stop) J Jx) ?_ (fun _ _ h => h)
  have hmf : ∀ (fn : Fn) (first cap : Array Value) (w : World), (Instr.makeFunc fn first cap).run Tryz.prog w = .ok (.func fn first cap) w := fun _ _ _ _ => rfl
  have hmk := run_makeLists h.ms.length hm3
  go_enter Tryz.func139, Tryz.ntmps139
  go_wp2_with fail
  have hn : ∀ k, W.heap.size ≤ k → HW k = none := fun k hk => hW.none_of_ge hk
  obtain ⟨YB, hYB⟩ : ∃ YB, Hid (YB = W.heap.size) := ⟨_, rfl⟩
  obtain ⟨W5, hW5⟩ : ∃ W5, Hid (W5 = ((((W.alloc (.cells #[.func (.yield l) #[] #[]] 160)).alloc (.cells (List.replicate h.ms.length (Value.slice none 0 0)).toArray 24)).alloc (.cells #[.slice (some ⟨YB + 1, 0, none⟩) h.ms.length h.ms.length] 27)).alloc (.cells #[.int .i64 ((0 : Nat) : Int)] 3)).alloc
      (.cells #[.func (.func 140) #[] #[.pointer (some ⟨YB + 1 + 1, 0, none⟩), .pointer (some ⟨YB, 0, none⟩), .pointer (some ⟨HB, 0, none⟩), .pointer (some ⟨YB + 1 + 1 + 1 + 1, 0, none⟩), .pointer (some ⟨SB, 0, none⟩), .pointer (some ⟨YB + 1 + 1 + 1, 0, none⟩)]] 135)) := ⟨_, rfl⟩
  have hb5 : Below W.heap.size W W5 := by
    rw [hW5.out]
    exact (((((Below.refl _ W).alloc (Nat.le_refl _) _).alloc (by simp) _).alloc (by simp; omega) _).alloc (by simp; omega) _).alloc (by simp; omega) _
  have k0 : W5.heap[YB]? = some (.cells #[.func (.yield l) #[] #[]] 160 (0, 0)) := by
    rw [hW5.out]; exact hA _ (hA _ (hA _ (hA _ (hN _ hYB.out))))
  have k1 : W5.heap[YB + 1]? = some (.cells (List.replicate h.ms.length (Value.slice none 0 0)).toArray 24 (0, 0)) := by
    rw [hW5.out]; exact hA _ (hA _ (hA _ (hN _ (by simp [hYB.out]))))
  have k2 : W5.heap[YB + 1 + 1]? = some (.cells #[.slice (some ⟨YB + 1, 0, none⟩) h.ms.length h.ms.length] 27 (0, 0)) := by
    rw [hW5.out]; exact hA _ (hA _ (hN _ (by simp [hYB.out])))
  have k3 : W5.heap[YB + 1 + 1 + 1]? = some (.cells #[.int .i64 ((0 : Nat) : Int)] 3 (0, 0)) := by
    rw [hW5.out]; exact hA _ (hN _ (by simp [hYB.out]))
  have k4 : W5.heap[YB + 1 + 1 + 1 + 1]? = some (.cells #[.func (.func 140) #[] #[.pointer (some ⟨YB + 1 + 1, 0, none⟩), .pointer (some ⟨YB, 0, none⟩), .pointer (some ⟨HB, 0, none⟩), .pointer (some ⟨YB + 1 + 1 + 1 + 1, 0, none⟩), .pointer (some ⟨SB, 0, none⟩), .pointer (some ⟨YB + 1 + 1 + 1, 0, none⟩)]] 135 (0, 0)) := by
    rw [hW5.out]; exact hN _ (by simp [hYB.out])
  have hyb := hYB.out
  rw [← hyb]
  have hWW : Hid (((((W.alloc (.cells #[.func (.yield l) #[] #[]] 160)).alloc (.cells (Array.replicate h.ms.length (Value.slice none 0 0)) 24)).alloc (.cells #[.slice (some ⟨YB + 1, 0, none⟩) h.ms.length h.ms.length] 27)).alloc (.cells #[.int .i64 0] 3)).alloc
      (.cells #[.func (.func 140) #[] #[.pointer (some ⟨YB + 1 + 1, 0, none⟩), .pointer (some ⟨YB, 0, none⟩), .pointer (some ⟨HB, 0, none⟩), .pointer (some ⟨YB + 1 + 1 + 1 + 1, 0, none⟩), .pointer (some ⟨SB, 0, none⟩), .pointer (some ⟨YB + 1 + 1 + 1, 0, none⟩)]] 135) = W5) := by
    show _ = _; rw [hW5.out]; simp
  rw [hWW.out]
  clear hWW hW5
  -- what is frozen from here on
  have hHF : Holds (((HW.put YB (.cells #[.func (.yield l) #[] #[]] 160 (0, 0))).put (YB + 1 + 1) (.cells #[.slice (some ⟨YB + 1, 0, none⟩) h.ms.length h.ms.length] 27 (0, 0))).put (YB + 1 + 1 + 1 + 1) (.cells #[.func (.func 140) #[] #[.pointer (some ⟨YB + 1 + 1, 0, none⟩), .pointer (some ⟨YB, 0, none⟩), .pointer (some ⟨HB, 0, none⟩), .pointer (some ⟨YB + 1 + 1 + 1 + 1, 0, none⟩), .pointer (some ⟨SB, 0, none⟩), .pointer (some ⟨YB + 1 + 1 + 1, 0, none⟩)]] 135 (0, 0))) W5 :=
    (((hW.below hb5).put k0).put k2).put k4
  have hHle : SLe HW (((HW.put YB (.cells #[.func (.yield l) #[] #[]] 160 (0, 0))).put (YB + 1 + 1) (.cells #[.slice (some ⟨YB + 1, 0, none⟩) h.ms.length h.ms.length] 27 (0, 0))).put (YB + 1 + 1 + 1 + 1) (.cells #[.func (.func 140) #[] #[.pointer (some ⟨YB + 1 + 1, 0, none⟩), .pointer (some ⟨YB, 0, none⟩), .pointer (some ⟨HB, 0, none⟩), .pointer (some ⟨YB + 1 + 1 + 1 + 1, 0, none⟩), .pointer (some ⟨SB, 0, none⟩), .pointer (some ⟨YB + 1 + 1 + 1, 0, none⟩)]] 135 (0, 0))) := by
    refine ((Snap.le_put (hn _ (by omega)) _).trans (Snap.le_put ?_ _)).trans (Snap.le_put ?_ _)
    · rw [Snap.put_other _ _ (by omega)]; exact hn _ (by omega)
    · rw [Snap.put_other _ _ (by omega), Snap.put_other _ _ (by omega)]; exact hn _ (by omega)
  have q0 := Snap.put_same HW YB (.cells #[.func (.yield l) #[] #[]] 160 (0, 0))
  obtain ⟨HF, hF⟩ : ∃ HF, Hid ((((HW.put YB (.cells #[.func (.yield l) #[] #[]] 160 (0, 0))).put (YB + 1 + 1) (.cells #[.slice (some ⟨YB + 1, 0, none⟩) h.ms.length h.ms.length] 27 (0, 0))).put (YB + 1 + 1 + 1 + 1) (.cells #[.func (.func 140) #[] #[.pointer (some ⟨YB + 1 + 1, 0, none⟩), .pointer (some ⟨YB, 0, none⟩), .pointer (some ⟨HB, 0, none⟩), .pointer (some ⟨YB + 1 + 1 + 1 + 1, 0, none⟩), .pointer (some ⟨SB, 0, none⟩), .pointer (some ⟨YB + 1 + 1 + 1, 0, none⟩)]] 135 (0, 0))) = HF) := ⟨_, rfl⟩
  have e0 : HF YB = some (.cells #[.func (.yield l) #[] #[]] 160 (0, 0)) := by rw [← hF.out, Snap.put_other _ _ (by omega), Snap.put_other _ _ (by omega), Snap.put_same]
  have e2 : HF (YB + 1 + 1) = some (.cells #[.slice (some ⟨YB + 1, 0, none⟩) h.ms.length h.ms.length] 27 (0, 0)) := by rw [← hF.out, Snap.put_other _ _ (by omega), Snap.put_same]
  have e4 : HF (YB + 1 + 1 + 1 + 1) = some (.cells #[.func (.func 140) #[] #[.pointer (some ⟨YB + 1 + 1, 0, none⟩), .pointer (some ⟨YB, 0, none⟩), .pointer (some ⟨HB, 0, none⟩), .pointer (some ⟨YB + 1 + 1 + 1 + 1, 0, none⟩), .pointer (some ⟨SB, 0, none⟩), .pointer (some ⟨YB + 1 + 1 + 1, 0, none⟩)]] 135 (0, 0)) := by rw [← hF.out, Snap.put_same]
  have e1 : HF (YB + 1) = none := by rw [← hF.out, Snap.put_other _ _ (by omega), Snap.put_other _ _ (by omega), Snap.put_other _ _ (by omega)]; exact hn _ (by omega)
  have e3 : HF (YB + 1 + 1 + 1) = none := by rw [← hF.out, Snap.put_other _ _ (by omega), Snap.put_other _ _ (by omega), Snap.put_other _ _ (by omega)]; exact hn _ (by omega)
  have eo : ∀ b, b < W.heap.size → HF b = HW b := fun b hb => by rw [← hF.out, Snap.put_other _ _ (by omega), Snap.put_other _ _ (by omega), Snap.put_other _ _ (by omega)]
  rw [hF.out] at hHF hHle
  clear hF q0
  have E : Env HF l (.slice am h.ms.length cm) vb vt h stop (YB + 1 + 1) YB HB (YB + 1 + 1 + 1 + 1) SB (YB + 1 + 1 + 1) (YB + 1) :=
    ⟨e2, e0, hHle _ _ (hleW _ _ hHB), e4, hHle _ _ (hleW _ _ hSB), hh.mono (hleW.trans hHle)⟩
  have hown : ∀ k, ownB (YB + 1 + 1 + 1) (YB + 1) (List.replicate h.ms.length (Value.slice none 0 0)) k = true → k = YB + 1 + 1 + 1 ∨ k = YB + 1 := fun k hk => by
    rcases ownB_iff.1 hk with h | h | ⟨v, hv, e⟩
    · exact .inl h
    · exact .inr h
    · rw [List.eq_of_mem_replicate hv] at e; cases e
  have hgs := goodF_start hv
  have hms1 := hv.m1
  have hfull : fullP h.ms.length [[]] = List.replicate h.ms.length [] := by
    unfold fullP
    rw [List.length_singleton]
    obtain ⟨d, hd⟩ : ∃ d, h.ms.length = d + 1 := ⟨h.ms.length - 1, by omega⟩
    rw [hd, Nat.add_sub_cancel, List.replicate_succ]; rfl
  have s : St HF W.heap.size (YB + 1 + 1 + 1) (YB + 1) 3 24 W5 (List.replicate h.ms.length (Value.slice none 0 0)) (ub ([[]] : List (List Int)).flatten) (fullP h.ms.length [[]]) := by
    rw [hfull]
    refine ⟨hHF, k3, k1, by simp, fun m l v hl hv => ?_, fun k hk => ?_, by omega, fun v hv => ?_, fun m m' v v' _ hv _ => ?_, fun x hx => ?_⟩
    · have e1 := List.eq_of_mem_replicate hl.mem
      have e2 := List.eq_of_mem_replicate hv.mem
      rw [e1, e2]; exact ⟨rfl, .inl ⟨rfl, rfl⟩⟩
    · rcases hown k hk with rfl | rfl
      · exact ⟨e3, by omega⟩
      · exact ⟨e1, by omega⟩
    · rw [List.eq_of_mem_replicate hv]; exact ⟨by simp [Value.ownBlock], by simp [Value.ownBlock]⟩
    · rw [List.eq_of_mem_replicate hv.mem]; exact .inl rfl
    · obtain ⟨l', hl', hx'⟩ := List.mem_flatten.1 hx
      rw [List.eq_of_mem_replicate hl'] at hx'; cases hx'
  have hsn : ∀ b, b < W.heap.size → snapI HF (YB + 1 + 1 + 1) (YB + 1) (List.replicate h.ms.length (Value.slice none 0 0)) W5 b = HW b := fun b hb => by
    have ho : ownB (YB + 1 + 1 + 1) (YB + 1) (List.replicate h.ms.length (Value.slice none 0 0)) b = false := by
      cases ho : ownB (YB + 1 + 1 + 1) (YB + 1) (List.replicate h.ms.length (Value.slice none 0 0)) b with
      | false => rfl
      | true => rcases hown b ho with e | e <;> omega
    cases hk : HF b with
    | some o => rw [snapI_hf _ hk, ← eo b hb, hk]
    | none => rw [snapI_none _ hk ho, ← eo b hb, hk]
  have t : Turn W.heap.size W HW W5 (snapI HF (YB + 1 + 1 + 1) (YB + 1) (List.replicate h.ms.length (Value.slice none 0 0)) W5) := by
    refine ⟨hb5, fun b cs t fr e hb => ?_, hsn, s.holds⟩
    have hlt := (Array.getElem?_eq_some_iff.1 e).1
    exact ⟨(hb5.block b hlt).trans e, (hsn b hlt).trans hb⟩
  have hj := hJ _ _ _ _ _ h0 hW t
  have hR : Rounds h HF l W.heap.size (plansOf h stop) J Jx := fun Hc pre x W1 args m hw hle => hY Hc pre x W1 args m hw (hHle.trans hle)
  refine (from_any HF W.heap.size l W.heap.size (.slice am h.ms.length cm) vb vt h hv stop hstop (YB + 1 + 1) YB HB (YB + 1 + 1 + 1 + 1) SB (YB + 1 + 1 + 1) (YB + 1) E (plansOf h stop) J Jx hJ hJx hR (mu h [[]]) [[]] [] W5 _ hgs (Nat.le_refl _) (List.prefix_refl _) s hj 0 (by simp)).mono ?_
  rintro e W' ⟨vs', s', (⟨rfl, hj'⟩ | ⟨rfl, q, hq, hj'⟩)⟩
  · go_wp2_with fail
    go_end0
    exact ⟨⟨_, rfl⟩, _, s'.holds, hHle.trans (snapI_le W'), .inl hj'⟩
  · go_wp2_with fail
    go_end0
    exact ⟨⟨_, rfl⟩, _, s'.holds, hHle.trans (snapI_le W'), .inr ⟨q, hq, hj'⟩⟩

end Go.Proofs.YtngdppajailpcaaGreat

namespace Go.Proofs.YtngdppajailpcaaGreat
open Go.RowKit

attribute [local go_sem] Holds.drew Holds.alloc Holds.drewN WB.holds

/-- A call hands back a function that can be ranged over. -/
def Maker {α : Type} (gf : FuncId) (enc : Snap → α → Array Value → Prop) (xs : List α) (w : World) (H : Snap) (e : Ending) (w' : World) : Prop :=
  ∃ lb H', e = .returned (.func (.func gf) #[] lb) ∧ Ext w H w' H' ∧ Iter Tryz.prog gf lb enc xs w' H'

theorem casesF_any (vm vb vt : Value) (h : House) (H : Snap) (w : World) (hw : Holds H w) (hh : Hou H vm vb vt h) (hm3 : h.ms.length ≤ 3) :
    Calls Tryz.prog 114 #[houV vm vb vt h] w (Maker 138 encC (casesOf h) w H) := by
  have hmf : ∀ (fn : Fn) (first cap : Array Value) (w : World), (Instr.makeFunc fn first cap).run Tryz.prog w = .ok (.func fn first cap) w := fun _ _ _ _ => rfl
  go_enter Tryz.func114, Tryz.ntmps114
  go_wp2_with (first | (refine wpList_boxF rfl _ rfl (Ext.refl hw) ?_; intro B w1 H1 hle hx hB hBw; have hBH := Lib.hid hB; clear hB hw; have hw1 := hx.holds))
  go_ret
  exact ⟨_, H1, rfl, hx, cases1_any vm vb vt h B H1 w1 hw1 (hh.mono hle) hBH.out hm3⟩

theorem plansMk_any (vm vb vt : Value) (h : House) (hv : Valid h) (stop : Int) (hstop : I64 stop) (H : Snap) (w : World) (hw : Holds H w) (hh : Hou H vm vb vt h) :
    Calls Tryz.prog 115 #[houV vm vb vt h, .int .i64 stop] w (Maker 139 (encP h) (plansOf h stop) w H) := by
  have hmf : ∀ (fn : Fn) (first cap : Array Value) (w : World), (Instr.makeFunc fn first cap).run Tryz.prog w = .ok (.func fn first cap) w := fun _ _ _ _ => rfl
  go_enter Tryz.func115, Tryz.ntmps115
  go_wp2_with (first | (refine wpList_boxF rfl _ rfl (Ext.refl hw) ?_; intro B w1 H1 hle hx hB hBw; have hBH := Lib.hid hB; clear hB hw; have hw1 := hx.holds))
  go_ret
  have hn : H1 w1.heap.size = none := hw1.none_of_ge (Nat.le_refl _)
  have hx2 := (hx.alloc (.cells #[.int .i64 stop] 3)).freeze hx.below.size (heap_alloc_new w1 _)
  have hle2 := Snap.le_put hn (.cells #[.int .i64 stop] 3 (0, 0))
  exact ⟨_, _, rfl, hx2, plans1_any vm vb vt h hv stop hstop B w1.heap.size _ _ hx2.holds ((hh.mono hle).mono hle2) (hle2 _ _ hBH.out) (Snap.put_same _ _ _)⟩

end Go.Proofs.YtngdppajailpcaaGreat
