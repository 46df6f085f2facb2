/- The walk of trains.plans' inner function 'from': one step. -/
import Derived.Test.YteijmboophnmgaaIt3
import Derived.Test.YteijmboophnmgaaBits
import Derived.Deep.RegionLaw
import Derived.Deep.DeepCutAuto
namespace Go.Proofs.Yteijmboophnmgaa
open Go.RowKit

attribute [local go_sem] Holds.drew Holds.alloc Holds.drewN WB.holds

section
variable {HF : Snap} {n0 UB R : Nat} {tI tL : TypeId} {W W' : World} {vs vs' : List Value} {u u' : Nat} {plan plan' : List (List Int)}
theorem St.own (s : St HF n0 UB R tI tL W vs u plan) {m : Nat} {l : List Int} {v : Value} (hl : At plan m l) (hv : At vs m v) (hlen : l.length ≤ 1000) : Own HF n0 W tI v l :=
  ⟨_, s.rows m l v hl hv, reps_int.2 ⟨rfl, fun x hx => s.i64 x (List.mem_flatten.2 ⟨l, hl.mem, hx⟩)⟩, fun k hk => (s.new k (ownB_iff.2 (.inr (.inr ⟨v, hv.mem, hk⟩)))).1, by simp only [Enc.by_]; omega⟩
theorem Own.ints {H : Snap} {base : Nat} {w : World} {e : TypeId} {v : Value} {xs : List Int} (h : Own H base w e v xs) : w.ownsRow base e 1 v xs.length (xs.map (Value.int .i64)) := by
  obtain ⟨cells, ho, hr, _⟩ := h
  obtain ⟨rfl, _⟩ := reps_int.1 hr
  exact ho
theorem St.size (s : St HF n0 UB R tI tL W vs u plan) : n0 ≤ W.heap.size := by have := (s.new UB (ownB_iff.2 (.inl rfl))).2; have := s.ownLt (ownB_iff.2 (.inl rfl)); omega
end

theorem growP_set {n : Nat} {first : List (List Int)} {m : Nat} {l : List Int} (hl : At first m l) (hm : first.length = m + 1) (b : Nat) : (fullP n first).set m (l ++ [(b : Int)]) = fullP n (growP first b) := by
  unfold fullP
  rw [growP_len (by omega), List.set_append_left _ _ (by omega)]
  congr 1
  unfold growP
  have h2 : first.getD (first.length - 1) [] = l := by rw [List.getD_eq_getElem?_getD, show first.length - 1 = m by omega, show first[m]? = some l from hl]; rfl
  rw [h2, show first.length - 1 = m by omega, List.set_eq_take_append_cons_drop, if_pos (by omega), List.drop_eq_nil_of_le (by omega)]
theorem fullP_at {n : Nat} {first : List (List Int)} {m : Nat} {l : List Int} (hl : At first m l) : At (fullP n first) m l := by
  unfold fullP
  show _ = _
  rw [List.getElem?_append_left hl.lt]; exact hl
theorem growP_at {first : List (List Int)} {m : Nat} {l : List Int} (hl : At first m l) (hm : first.length = m + 1) (b : Nat) : At (growP first b) m (l ++ [(b : Int)]) := by
  unfold growP
  have h2 : first.getD (first.length - 1) [] = l := by rw [List.getD_eq_getElem?_getD, show first.length - 1 = m by omega, show first[m]? = some l from hl]; rfl
  show _ = _
  rw [h2, List.getElem?_append_right (by rw [List.length_take]; omega), List.length_take]
  simp [hm]
theorem growP_back {n : Nat} {first : List (List Int)} {m : Nat} {l : List Int} (hl : At first m l) (hm : first.length = m + 1) (b : Nat) : (fullP n (growP first b)).set m l = fullP n first := by
  rw [← growP_set hl hm, List.set_set]
  have := fullP_at (n := n) hl
  obtain ⟨hk, e⟩ := List.getElem?_eq_some_iff.1 (show (fullP n first)[m]? = some l from this)
  rw [← e, List.set_getElem_self]

theorem plansB_prefix (h : House) (rec : List (List Int) → List (List (List Int))) (first : List (List Int)) {j n : Nat} (hj : j ≤ n) : plansB h rec first j <+: plansB h rec first n := by
  induction n with
  | zero => rw [show j = 0 by omega]; exact List.prefix_refl _
  | succ n ih =>
    by_cases e : j = n + 1
    · rw [e]; exact List.prefix_refl _
    · refine (ih (by omega)).trans ?_
      rw [plansB_succ]
      exact List.prefix_append _ _

section
variable {α : Type}
/-- 's[:k]' of a row of the call's own. -/
theorem ownsRow_cut {w : World} {base : Nat} {e : TypeId} {g n cap : Nat} {xs : List Value} (h : w.ownsRow base e 1 (.slice (some ⟨g, 0, none⟩) n cap) n xs) {k : Nat} (hk : k ≤ n) : w.ownsRow base e 1 (.slice (some ⟨g, 0, none⟩) k cap) k (xs.take k) := by
  obtain ⟨hl, h2⟩ := h
  rcases h2 with ⟨hv, _⟩ | ⟨g', cap', cur, hv, hb, hg, hnc, hcm, hcs, ht⟩
  · cases hv
  · cases hv
    refine ⟨by rw [List.length_take]; omega, .inr ⟨g, cap, cur, rfl, hb, hg, by omega, hcm, hcs, ?_⟩⟩
    rw [← ht, List.take_take]; congr 1; omega
theorem ownsRow_form {w : World} {base : Nat} {e : TypeId} {v : Value} {n : Nat} {xs : List Value} (h : w.ownsRow base e 1 v (n + 1) xs) : ∃ g cap, v = .slice (some ⟨g, 0, none⟩) (n + 1) cap ∧ n + 1 ≤ cap ∧ cap ≤ maxLen := by
  obtain ⟨hl, h2⟩ := h
  rcases h2 with ⟨_, hn⟩ | ⟨g', cap', cur, hv, hb, hg, hnc, hcm, hcs, ht⟩
  · omega
  · exact ⟨g', cap', hv, hnc, hcm⟩
end

set_option maxRecDepth 100000 in
set_option maxHeartbeats 8000000 in
theorem from_step (HF : Snap) (n0 l W0 : Nat) (vm vb vt : Value) (h : House) (hv : Valid h) (stop : Int) (_hstop : I64 stop) (PB YB HB FB SB UB R : Nat) (E : Env HF l vm vb vt h stop PB YB HB FB SB UB R)
    (xs : List (List (List Int))) (J Jx : Snap → List (List (List Int)) → World → Prop) (hJ : Abides n0 J) (hJx : Abides n0 Jx) (hY : Rounds h HF l W0 xs J Jx) (rec : List (List Int) → List (List (List Int))) (first : List (List Int)) (hg : GoodF h first)
    (hrec : ∀ f pre W vs, GoodF h f → mu h f < mu h first → pre ++ rec f <+: xs → St HF n0 UB R 3 24 W vs (ub f.flatten) (fullP h.ms.length f) → J (snapI HF UB R vs W) pre W → ∀ i : Int, i + 1 = f.length →
      Calls Try.prog 103 #[.int .i64 i, .pointer (some ⟨PB, 0, none⟩), .pointer (some ⟨YB, 0, none⟩), .pointer (some ⟨HB, 0, none⟩), .pointer (some ⟨FB, 0, none⟩), .pointer (some ⟨SB, 0, none⟩), .pointer (some ⟨UB, 0, none⟩)] W
        (FromEnd HF n0 UB R h.ms.length f (rec f) pre J Jx))
    (pre : List (List (List Int))) (hpre : pre ++ plansStep h stop rec first <+: xs) (W : World) (vs : List Value) (s : St HF n0 UB R 3 24 W vs (ub first.flatten) (fullP h.ms.length first)) (hj : J (snapI HF UB R vs W) pre W) (m : Nat) (hm : first.length = m + 1) :
    Calls Try.prog 103 #[.int .i64 m, .pointer (some ⟨PB, 0, none⟩), .pointer (some ⟨YB, 0, none⟩), .pointer (some ⟨HB, 0, none⟩), .pointer (some ⟨FB, 0, none⟩), .pointer (some ⟨SB, 0, none⟩), .pointer (some ⟨UB, 0, none⟩)] W
      (FromEnd HF n0 UB R h.ms.length first (plansStep h stop rec first) pre J Jx) := by
  have hmn := hg.le
  have hm3 := hv.m3
  have hb5 := hv.b5
  obtain ⟨ab, cb, rfl, hb1, hb2⟩ := E.hh.b.form
  -- the first call
  have hA : Calls Try.prog 103 #[.int .i64 ((m : Int) + 1), .pointer (some ⟨PB, 0, none⟩), .pointer (some ⟨YB, 0, none⟩), .pointer (some ⟨HB, 0, none⟩), .pointer (some ⟨FB, 0, none⟩), .pointer (some ⟨SB, 0, none⟩), .pointer (some ⟨UB, 0, none⟩)] W
      (FromEnd HF n0 UB R h.ms.length first (plansA h rec first) pre J Jx) := by
    by_cases hl : first.length = h.ms.length
    · have hpa : plansA h rec first = [first] := by unfold plansA; rw [if_pos hl]
      rw [hpa, show (m : Int) + 1 = (h.ms.length : Nat) by omega]
      refine yield_any HF n0 l W0 vm _ vt h hv stop PB YB HB FB SB UB R E xs J Jx hJ hY first hg hl pre ?_ W vs (by rw [fullP_all hl] at s; exact s) hj
      refine List.IsPrefix.trans ?_ hpre
      unfold plansStep; rw [hpa]
      exact (List.prefix_append_right_inj pre).2 (List.prefix_append _ _)
    · have hpa : plansA h rec first = rec (first ++ [[]]) := by unfold plansA; rw [if_neg hl]
      have hfl : (first ++ [[]]).flatten = first.flatten := by simp
      have hfp := fullP_nil (n := h.ms.length) (first := first) (by omega)
      rw [hpa]
      refine (hrec (first ++ [[]]) pre W vs (hg.nil_ok hl).1 (hg.nil_ok hl).2 ?_ (by rw [hfl, hfp]; exact s) hj ((m : Int) + 1) (by simp [hm])).mono ?_
      · refine List.IsPrefix.trans ?_ hpre
        unfold plansStep; rw [hpa]
        exact (List.prefix_append_right_inj pre).2 (List.prefix_append _ _)
      · rintro e W' ⟨vs', s', hh⟩
        exact ⟨vs', by rw [hfl, hfp] at s'; exact s', hh⟩
  obtain ⟨hh0, hh1, hh2, hh3⟩ := cellsHou E.hb
  have hcP := fun (w : World) (hw : Holds HF w) => cellH E.pb hw 0
  have hcF := fun (w : World) (hw : Holds HF w) => cellH E.fb hw 0
  have hcS := fun (w : World) (hw : Holds HF w) => cellH E.sb hw 0
  simp at hcP hcF hcS
  have hmne : ((m : Int) == h.ms.length) = false := by simp; omega
  unfold I64 at _hstop
  have hW := s.hf
  go_enter Try.func103, Try.ntmps103
  go_wp2_with fail
  go_at_call 103
  refine hA.mono ?_
  clear hA
  rintro e W1 ⟨vs1, s1, (⟨rfl, hj1⟩ | ⟨rfl, q, hq, hjx⟩)⟩
  · have hW1 := s1.hf
    cases hst : ((m : Int) == stop)
    · have hstep : plansStep h stop rec first = plansA h rec first ++ plansB h rec first h.bs.length := by
        unfold plansStep; rw [if_neg (by have : ¬ (m : Int) = stop := by simpa using hst
                                         rw [hm]; omega)]
      replace hstep := Lib.hid hstep
      have hgood := (goodAll_iff.1 hg.good).1
      obtain ⟨lr, hlr⟩ := At.mk (xs := first) (k := m) (by omega)
      have hlrlen : lr.length ≤ 5 := by
        have h1 := hg.len
        have h2 := congrArg List.length (congrArg List.flatten hlr.split)
        simp at h2 h1; omega
      obtain ⟨acc, hacc⟩ : ∃ acc, Hid (acc = first.flatten) := ⟨_, rfl⟩
      have hgoodA : ∀ x ∈ acc, 0 ≤ x ∧ x ≤ (h.bs.length : Int) - 1 := by rw [hacc.out]; exact hgood
      clear hgood
      go_wp2_with fail
      go_loopw [9, 10, 34] (fun _ _ i wr => ∃ (k : Nat) (vs2 : List Value), k ≤ h.bs.length ∧ i = .int .i64 k ∧ St HF n0 UB R 3 24 wr vs2 (ub acc) (fullP h.ms.length first) ∧ J (snapI HF UB R vs2 wr) (pre ++ (plansA h rec first ++ plansB h rec first k)) wr) (fun _ _ i _ => h.bs.length - (intOf i).toNat)
      case atStart =>
        refine ⟨0, vs1, Nat.zero_le _, rfl, by rw [hacc.out]; exact s1, ?_⟩
        rw [show plansB h rec first 0 = [] from rfl, List.append_nil]; exact hj1
      case round =>
        clear hj1 s1 hW1 hj s hW
        obtain ⟨k, vs2, hk, rfl, s2, hj2⟩ := hrel
        have hw2 := s2.hf
        by_cases hlk : k < h.bs.length
        · have hbit := used_bit hb5 hgoodA hlk
          have hsucc := plansB_succ h rec first k
          rw [← hacc.out] at hsucc
          have hcU := s2.cellU.1
          have hfU := s2.cellU.2
          by_cases hin : (k : Int) ∈ acc
          · rw [if_pos hin] at hbit
            rw [decide_eq_true hin, if_pos rfl, List.append_nil] at hsucc
            replace hsucc := Lib.hid hsucc
            replace hin := Lib.hid hin
            go_wp2_with fail
            go_roundw
            case rel => exact ⟨k + 1, vs2, by omega, by go_num, s2, by rw [hsucc.out]; exact hj2⟩
            case measure => simp [intOf]; omega
          · rw [if_neg hin] at hbit
            rw [decide_eq_false hin, if_neg (by decide)] at hsucc
            have hor := used_or hb5 hgoodA hlk
            have hpw := pow_wrap (b := k) (by omega)
            have hno := used_andNot hb5 hgoodA hlk hin
            replace hsucc := Lib.hid hsucc
            replace hin := Lib.hid hin
            go_wp2_with fail
            go_region
            obtain ⟨s3, t3⟩ := s2.setUsed (ub (acc ++ [(k : Int)]))
            have hj3 := hJ _ _ _ _ _ hj2 s2.holds t3
            clear hcU hfU hw2
            replace hj3 := hJ _ _ _ _ _ hj3 t3.holds (Turn.refl t3.holds).drew
            replace s3 := s3.drew
            rw [← snapI_drew] at hj3
            generalize (wr.setCell ⟨UB, 0, none⟩ (.int .i64 (ub (acc ++ [(k : Int)]) : Nat))).drew = w3 at *
            clear t3 s2 hj2
            have hw3 := s3.hf
            have hlrF := fullP_at (n := h.ms.length) hlr
            obtain ⟨rv, hrv⟩ := At.mk (xs := vs2) (k := m) (by rw [s3.len, fullP_len hg.le]; omega)
            have hcR := (s3.cellR hrv).1
            have hfR := (s3.cellR hrv).2
            have hRn := (s3.new R (ownB_iff.2 (.inr (.inl rfl)))).1
            have hltR := s3.ownLt (ownB_iff.2 (.inr (.inl rfl)))
            have hown := s3.own hlrF hrv (by omega)
            have hsz3 := s3.size
            obtain ⟨ra, rc, hrve, hrl, hrc⟩ := hown.form
            subst hrve
            have hrne := (s3.rne _ hrv.mem).2
            go_wp2_with fail
            have hm0 : (0 : Int) ≤ (m : Int) := by omega
            have hm1 : (m : Int) < (h.ms.length : Int) := by omega
            go_cut [] (fun wc => ∃ vs4, St HF n0 UB R 3 24 wc vs4 (ub (acc ++ [(k : Int)])) (fullP h.ms.length (growP first k)) ∧ J (snapI HF UB R vs4 wc) (pre ++ (plansA h rec first ++ plansB h rec first k)) wc)
            case first =>
              go_region_law ((refine step_appC (H := HF) (base := n0) eInt rfl _ _ rfl rfl (by exact (hown.alloc _).drew) (x := (k : Int)) rfl ⟨rfl, by omega, by omega⟩ (one_cell (by simp [go_sem])) (by first | exact hw3.drew.alloc _ | exact (hw3.alloc _).drew) (by simp [Enc.by_]; omega) (by omega) (by simp; omega) ?_; intro v' w' hown' hgr hwA hat; have hRh : w'.heap[R]? = some (.cells vs2.toArray 24 (0, 0)) := (hgr.block R (by simp; omega) (Ne.symm hrne)).trans ((Below.heap_alloc _ _ _ hltR).trans s3.rr); have hcR2 : w'.cell? ⟨R, m, none⟩ = some (.slice ra lr.length rc) := (cell_of_row w' R m _ _ _ hRh).trans (by simpa using (show vs2[m]? = some (.slice ra lr.length rc) from hrv)); have hfR2 : w'.frozen? ⟨R, m, none⟩ = false := (by simp [World.frozen?, hRh]); obtain ⟨a', c', rfl, _, _⟩ := hown'.form))
              all_goals
                go_wp2_with fail
                go_meet
                have hflat : ∀ x ∈ ((fullP h.ms.length first).set m (lr ++ [(k : Int)])).flatten, I64 x := by
                  rw [growP_set hlr hm, fullP_flatten, growP_flatten hg.ne, ← hacc.out]
                  intro x hx
                  rcases List.mem_append.1 hx with hx | hx
                  · have := hgoodA x hx; unfold I64; omega
                  · rw [List.mem_singleton.1 hx]; unfold I64; omega
                have hlI : ∀ x ∈ lr ++ [(k : Int)], I64 x := fun x hx => hflat x (List.mem_flatten.2 ⟨_, (hlrF.set_same _).mem, hx⟩)
                obtain ⟨s4, t4⟩ := s3.setRow (W' := w') (l' := lr ++ [(k : Int)]) hlrF hrv (((Below.refl n0 w3).alloc hsz3 (.cells #[.int .i64 (k : Int)] 3)).drew.grown hgr (by simp; omega) (fun q e => (hown.lt q e).1)) (fun q hq hne => (hgr.block q (by simp; omega) hne).trans (Below.heap_alloc _ _ _ hq))
                  hown'.ints (hat.imp id (fun e => ⟨_, e, by simp⟩)) hlI hflat
                rw [growP_set hlr hm] at s4
                rw [show (lr ++ [(k : Int)]).length = lr.length + 1 from by simp] at s4 t4
                exact ⟨_, s4, hJ _ _ _ _ _ hj3 s3.holds t4⟩
            case rest =>
              obtain ⟨vs4, s4, hj4⟩ := hcut
              have hlrI : ∀ x ∈ lr, I64 x := fun x hx => s3.i64 x (List.mem_flatten.2 ⟨_, hlrF.mem, hx⟩)
              clear hcR hfR hown hw3 s3 hj3
              have hinF : (k : Int) ∉ first.flatten := by rw [← hacc.out]; exact hin.out
              have hgf : (growP first k).flatten = acc ++ [(k : Int)] := by rw [growP_flatten hg.ne, hacc.out]
              have hpreK : (pre ++ (plansA h rec first ++ plansB h rec first k)) ++ rec (growP first k) <+: xs := by
                refine List.IsPrefix.trans ?_ hpre
                rw [hstep.out, List.append_assoc, List.append_assoc]
                refine (List.prefix_append_right_inj pre).2 ((List.prefix_append_right_inj _).2 ?_)
                rw [← hsucc.out]; exact plansB_prefix h rec first (by omega)
              have hcall := hrec (growP first k) (pre ++ (plansA h rec first ++ plansB h rec first k)) wc vs4 (hg.grow_ok hlk hinF).1 (hg.grow_ok hlk hinF).2 hpreK (by rw [hgf]; exact s4) hj4 (m : Int) (by rw [growP_len hg.ne]; omega)
              replace hgf := Lib.hid hgf
              have hw4 := s4.hf
              go_wp2_with fail
              go_at_call 103
              refine hcall.mono ?_
              clear hcall hpreK
              rintro e W5 ⟨vs5, s5, (⟨rfl, hj5⟩ | ⟨rfl, q, hq, hj5⟩)⟩
              all_goals rw [hgf.out] at s5
              · have hw5 := s5.hf
                have hgrow := growP_at hlr hm k
                have hlr5 := fullP_at (n := h.ms.length) hgrow
                obtain ⟨rv5, hrv5⟩ := At.mk (xs := vs5) (k := m) (by rw [s5.len, fullP_len (by rw [growP_len hg.ne]; exact hg.le)]; omega)
                have hrow5 := s5.rows m _ _ hlr5 hrv5
                rw [show (lr ++ [(k : Int)]).length = lr.length + 1 from by simp] at hrow5
                obtain ⟨g5, cap5, hrve5, hcap5, hcap5'⟩ := ownsRow_form hrow5
                subst hrve5
                unfold maxLen at hcap5'
                have hcR5 := (s5.cellR hrv5).1
                have hfR5 := (s5.cellR hrv5).2
                have hsz5 := s5.size
                go_wp2_with fail
                go_cut [] (fun wd => ∃ vs6, St HF n0 UB R 3 24 wd vs6 (ub (acc ++ [(k : Int)])) (fullP h.ms.length first) ∧ J (snapI HF UB R vs6 wd) (pre ++ (plansA h rec first ++ plansB h rec first k) ++ rec (growP first k)) wd)
                case first =>
                  go_region
                  all_goals
                    go_wp2_with fail
                    go_meet
                    have hcutrow := ownsRow_cut hrow5 (Nat.le_succ lr.length)
                    rw [show (List.map (Value.int .i64) (lr ++ [(k : Int)])).take lr.length = lr.map (Value.int .i64) from by simp] at hcutrow
                    have h5f : ∀ x ∈ ((fullP h.ms.length (growP first k)).set m lr).flatten, I64 x := by
                      rw [growP_back hlr hm, fullP_flatten, ← hacc.out]
                      intro x hx; have := hgoodA x hx; unfold I64; omega
                    obtain ⟨s6, t6⟩ := s5.drew.setRow (W' := W5.drew) (l' := lr) (v' := .slice (some ⟨g5, 0, none⟩) lr.length cap5) hlr5 hrv5 (Below.refl _ _) (fun _ _ _ => rfl) hcutrow (.inl rfl) (fun x hx => hlrI x hx) h5f
                    rw [growP_back hlr hm] at s6
                    exact ⟨_, s6, hJ _ _ _ _ _ (hJ _ _ _ _ _ hj5 s5.holds (Turn.refl s5.holds).drew) s5.drew.holds t6⟩
                case rest =>
                  obtain ⟨vs6, s6, hj6⟩ := hcut
                  clear hcR5 hfR5 hw5 hrow5 s5 hj5
                  have hcU6 := s6.cellU.1
                  have hfU6 := s6.cellU.2
                  go_wp2_with fail
                  go_region
                  obtain ⟨s7, t7⟩ := s6.setUsed (ub acc)
                  have hj7 := hJ _ _ _ _ _ hj6 s6.holds t7
                  replace hj7 := hJ _ _ _ _ _ hj7 t7.holds (Turn.refl t7.holds).drew
                  replace s7 := s7.drew
                  rw [← snapI_drew] at hj7
                  go_wp2_with fail
                  go_roundw
                  case rel => exact ⟨k + 1, vs6, by omega, by go_num, s7, by rw [hsucc.out, ← List.append_assoc (plansA h rec first), ← List.append_assoc pre]; exact hj7⟩
                  case measure => simp [intOf]; omega
              · have hw5 := s5.hf
                have hgrow := growP_at hlr hm k
                have hlr5 := fullP_at (n := h.ms.length) hgrow
                obtain ⟨rv5, hrv5⟩ := At.mk (xs := vs5) (k := m) (by rw [s5.len, fullP_len (by rw [growP_len hg.ne]; exact hg.le)]; omega)
                have hrow5 := s5.rows m _ _ hlr5 hrv5
                rw [show (lr ++ [(k : Int)]).length = lr.length + 1 from by simp] at hrow5
                obtain ⟨g5, cap5, hrve5, hcap5, hcap5'⟩ := ownsRow_form hrow5
                subst hrve5
                unfold maxLen at hcap5'
                have hcR5 := (s5.cellR hrv5).1
                have hfR5 := (s5.cellR hrv5).2
                have hsz5 := s5.size
                go_wp2_with fail
                go_cut [] (fun wd => ∃ vs6, St HF n0 UB R 3 24 wd vs6 (ub (acc ++ [(k : Int)])) (fullP h.ms.length first) ∧ Jx (snapI HF UB R vs6 wd) (pre ++ (plansA h rec first ++ plansB h rec first k) ++ q) wd)
                case first =>
                  go_region
                  all_goals
                    go_wp2_with fail
                    go_meet
                    have hcutrow := ownsRow_cut hrow5 (Nat.le_succ lr.length)
                    rw [show (List.map (Value.int .i64) (lr ++ [(k : Int)])).take lr.length = lr.map (Value.int .i64) from by simp] at hcutrow
                    have h5f : ∀ x ∈ ((fullP h.ms.length (growP first k)).set m lr).flatten, I64 x := by
                      rw [growP_back hlr hm, fullP_flatten, ← hacc.out]
                      intro x hx; have := hgoodA x hx; unfold I64; omega
                    obtain ⟨s6, t6⟩ := s5.drew.setRow (W' := W5.drew) (l' := lr) (v' := .slice (some ⟨g5, 0, none⟩) lr.length cap5) hlr5 hrv5 (Below.refl _ _) (fun _ _ _ => rfl) hcutrow (.inl rfl) (fun x hx => hlrI x hx) h5f
                    rw [growP_back hlr hm] at s6
                    exact ⟨_, s6, hJx _ _ _ _ _ (hJx _ _ _ _ _ hj5 s5.holds (Turn.refl s5.holds).drew) s5.drew.holds t6⟩
                case rest =>
                  obtain ⟨vs6, s6, hj6⟩ := hcut
                  clear hcR5 hfR5 hw5 hrow5 s5 hj5
                  have hcU6 := s6.cellU.1
                  have hfU6 := s6.cellU.2
                  go_wp2_with fail
                  go_region
                  obtain ⟨s7, t7⟩ := s6.setUsed (ub acc)
                  have hj7 := hJx _ _ _ _ _ hj6 s6.holds t7
                  replace hj7 := hJx _ _ _ _ _ hj7 t7.holds (Turn.refl t7.holds).drew
                  replace s7 := s7.drew
                  rw [← snapI_drew] at hj7
                  go_wp2_with fail
                  go_ret
                  refine ⟨vs6, by rw [← hacc.out]; exact s7, .inr ⟨rfl, plansA h rec first ++ plansB h rec first k ++ q, ?_, ?_⟩⟩
                  · rw [hstep.out, List.append_assoc]
                    refine (List.prefix_append_right_inj _).2 ?_
                    refine List.IsPrefix.trans ?_ (plansB_prefix h rec first (show k + 1 ≤ h.bs.length by omega))
                    rw [hsucc.out]; exact (List.prefix_append_right_inj _).2 hq
                  · rw [← List.append_assoc pre]; exact hj7
        · go_wp2_with fail
          go_ret
          exact ⟨vs2, by rw [← hacc.out]; exact s2, .inl ⟨rfl, by rw [hstep.out, ← show k = h.bs.length by omega]; exact hj2⟩⟩
    · have hstep : plansStep h stop rec first = plansA h rec first := by
        unfold plansStep; rw [if_pos (by have : (m : Int) = stop := by simpa using hst
                                         rw [hm]; omega), List.append_nil]
      replace hstep := Lib.hid hstep
      go_wp2_with fail
      go_ret
      exact ⟨vs1, s1, .inl ⟨rfl, by rw [hstep.out]; exact hj1⟩⟩
  · have hW1 := s1.hf
    go_wp2_with fail
    go_ret
    exact ⟨vs1, s1, .inr ⟨rfl, q, hq.trans (by unfold plansStep; exact List.prefix_append _ _), hjx⟩⟩

end Go.Proofs.Yteijmboophnmgaa
