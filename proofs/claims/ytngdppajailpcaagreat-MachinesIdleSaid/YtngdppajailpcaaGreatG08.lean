/- Lemmas and walks on which the claims of this seat lean: MRef3 Delay Rank Sim MPlain2 MRef4. -/
import Derived.Test.YtngdppajailpcaaGreatG01
import Derived.Test.YtngdppajailpcaaGreatG05
import Derived.Test.YtngdppajailpcaaGreatG06
import Derived.Test.YtngdppajailpcaaGreatG07

set_option linter.all false

namespace Go.Proofs.YtngdppajailpcaaGreat
open Go.RowKit

attribute [local go_sem] Holds.drew Holds.alloc Holds.drewN WB.holds Oper.semAt_some FW_fn FW_dep FW_round

theorem needP_take {h : Hall} {l : List Int} {k : Nat} {b : Int} (hb : At l k b) (pg : Nat) : needP h (l.take (k + 1)) pg = (needP h (l.take k) pg || decide ((pg : Int) ∈ edn h b)) := by
  unfold needP; rw [hb.take, List.any_append]; simp
theorem needP_found {h : Hall} {l : List Int} {k : Nat} {b : Int} (hb : At l k b) {pg : Nat} (hm : decide ((pg : Int) ∈ edn h b) = true) : needP h l pg = true := by
  unfold needP; exact List.any_eq_true.2 ⟨b, hb.mem, hm⟩

set_option maxRecDepth 100000 in
set_option maxHeartbeats 4000000 in
theorem needs9_any (vm vb vt vo ve vl : Value) (h : Hall) (hv : ValidH h) (l : List Int) (hl : ∀ b ∈ l, 0 ≤ b ∧ b ≤ (h.hs.bs.length : Int) - 1) (pg : Nat) (H : Snap) (w : World) (hw : Holds H w) (hh : Hal H vm vb vt vo ve h) (hsl : Sl H vl l) :
    Calls Tryz.prog 134 #[halV vm vb vt vo ve h, vl, .int .i64 (pg : Int)] w (PostV w (.bool (needP h l pg))) := by
  obtain ⟨ab, cb, rfl, hb1, hb2⟩ := hh.hs.b.form
  obtain ⟨ae, ce, rfl, he1, he2⟩ := hh.ed.form
  obtain ⟨al, cl, rfl, hl1, hl2⟩ := hsl.form
  go_enter Tryz.func134, Tryz.ntmps134
  go_wp2_with (first | (refine wpList_boxF rfl _ rfl (Ext.refl hw) ?_; intro B w1 H1 hle hx hB hBw; obtain ⟨hc0, hc1, hc2, hc3, hc4, hc5⟩ := cellsHal hB; clear hB hw; have hw1 := hx.holds))
  have hbm := hh.hs.b.mono hle
  have hem := hh.ed.mono hle
  replace hsl := hsl.mono hle
  clear hw1
  go_loopw [7] (fun i wr => ∃ k : Nat, k ≤ l.length ∧ i = .int .i64 k ∧ Hid (needP h (l.take k) pg = false) ∧ Ext w H wr H1) (fun i _ => l.length - (intOf i).toNat)
  case atStart => exact ⟨0, Nat.zero_le _, rfl, rfl, hx⟩
  case round =>
    clear hx
    obtain ⟨k, hk, rfl, hok, hxr⟩ := hrel
    have hwr := hxr.holds
    by_cases hlt : k < l.length
    · obtain ⟨b, hbk⟩ := At.mk hlt
      obtain ⟨bl, ol, cl', he, hi, hrl⟩ := hsl.int hbk
      cases he
      obtain ⟨hb0, hb9⟩ := hl b hbk.mem
      obtain ⟨j, rfl⟩ : ∃ j : Nat, b = (j : Int) := ⟨b.toNat, by omega⟩
      have hj : j < h.hs.bs.length := by omega
      obtain ⟨x, hxj⟩ := At.mk hj
      obtain ⟨bb, ob, cb', he, ⟨hi1, hi2, hi3⟩, hr1, hr2, hr3⟩ := hbm.bund hxj
      cases he
      obtain ⟨e, hxe, hee, hate, hrise⟩ := edn_at hv hxj
      rw [hxe] at hr3 hi3
      clear hxe
      obtain ⟨be, oe, ce', u, he, hse, hre⟩ := hem.list hate
      cases he
      have hm := needP_take hbk (h := h) pg
      rw [show needP h (l.take k) pg = false from hok.out, Bool.false_or] at hm
      have hf := fun hm => needP_found (h := h) hbk (pg := pg) hm
      generalize edn h (j : Int) = L at *
      have hj0 : (0 : Int) ≤ (j : Int) := by omega
      have hj1 : (j : Int) < (h.hs.bs.length : Int) := by omega
      have hq0 : (0 : Int) ≤ (e : Int) := by omega
      have hq1 : (e : Int) < (h.ed.length : Int) := by omega
      have hs0 : (0 : Int) ≤ (k : Int) := by omega
      have hs1 : (k : Int) < (l.length : Int) := by omega
      replace hm := Lib.hid hm
      replace hf := Lib.hid hf
      clear hrise
      go_upto_region 4 with fail
      refine wp_region_quietB H1 (by kernel_rfl) (by kernel_rfl) hwr (fun hne => ?_)
      repeat go_big_quiet_step ((first | (go_at_call 144; exact Calls.quietB (in_any _ L _ _ _ (WB.holds _) hse))))
      refine wpQuiet_nil ?_
      rintro ⟨w2, hw2, hb2⟩
      clear hne
      have hx2 := hxr.step (hb2.mono hxr.below.size) hw2
      cases g : decide ((pg : Int) ∈ L)
      · go_wp2
        go_roundw
        case rel => exact ⟨k + 1, by omega, by go_num, by show needP h _ pg = false; rw [hm.out, g], hx2⟩
        case measure => simp [intOf]; omega
      · go_wp2
        go_ret
        exact ⟨ret_bool (hf.out g).symm, hx2.below⟩
    · go_wp2
      go_ret
      have := hok.out
      rw [List.take_of_length_le (by omega)] at this
      exact ⟨ret_bool this.symm, hxr.below⟩

set_option maxRecDepth 100000 in
set_option maxHeartbeats 4000000 in
theorem needOf9_any (vm vb vt vo ve vp : Value) (h : Hall) (hv : ValidH h) (plan : List (List Int)) (hpl : isPlan h.hs plan = true) (H : Snap) (w : World) (hw : Holds H w) (hh : Hal H vm vb vt vo ve h) (hp : Sl H vp plan) :
    Calls Tryz.prog 103 #[halV vm vb vt vo ve h, vp] w (PostO w H 3 (needOf h plan)) := by
  obtain ⟨ao, co, rfl, ho1, ho2⟩ := hh.bo.form
  obtain ⟨ap, cp, rfl, hp1, hp2⟩ := hp.form
  have hpl1 : plan.length = h.hs.ms.length := by
    have := hpl; simp only [isPlan, Bool.and_eq_true, decide_eq_true_eq] at this; exact this.1
  have hm3 := hv.hs.m3
  have hbo := hv.bo
  have hgood : ∀ l ∈ plan, ∀ b ∈ l, 0 ≤ b ∧ b ≤ (h.hs.bs.length : Int) - 1 := fun l hl b hb => by
    have := hpl; simp only [isPlan, Bool.and_eq_true] at this
    exact (goodAll_iff.1 this.2).1 b (List.mem_flatten.2 ⟨l, hl, hb⟩)
  replace hpl1 := Lib.hid hpl1
  replace hbo := Lib.hid hbo
  go_enter Tryz.func103, Tryz.ntmps103
  go_upto_region 1 with (refine wpList_boxF rfl _ rfl (Ext.refl hw) ?_; intro B w1 H1 hle hx hB hBw; obtain ⟨hc0, hc1, hc2, hc3, hc4, hc5⟩ := cellsHal hB; clear hB hw; have hw1 := hx.holds)
  have hcz : Calls Tryz.prog 36 #[.slice none 0 0] w1 (PostO w1 H1 3 (countsOf [])) := countsOf9_any _ [] H1 w1 hw1 (Sl.nil0 _) rfl
  go_wp2_with (first | (go_at_call 36; refine hcz.mono ?_; rintro e w2 ⟨v2, H2, rfl, hx2, hown⟩))
  have hle2 := hx2.le hw1
  rw [show countsOf [] = needTo h plan 0 0 from (needTo_zero h plan).symm] at hown
  have hhm := (hh.mono hle).mono hle2
  have hpm := (hp.mono hle).mono hle2
  have hom := hhm.bo
  replace hc0 := lift hle2 hc0
  replace hc1 := lift hle2 hc1
  replace hc2 := lift hle2 hc2
  replace hc3 := lift hle2 hc3
  replace hc4 := lift hle2 hc4
  replace hc5 := lift hle2 hc5
  have hxz := hx.trans hx2
  replace hown := hown.weaken hx.below.size
  clear hx hx2 hw1 hcz
  go_loopw [6] (fun i wr => ∃ m : Nat, m ≤ plan.length ∧ i = .int .i64 m ∧ Own H2 w.heap.size wr 3 v2 (needTo h plan m 0) ∧ Ext w H wr H2) (fun i _ => plan.length - (intOf i).toNat)
  case atStart => exact ⟨0, Nat.zero_le _, rfl, hown, hxz⟩
  case round =>
    clear hown hxz
    obtain ⟨m, hm, rfl, hown, hxr⟩ := hrel
    have hwr := hxr.holds
    by_cases hlt : m < plan.length
    · obtain ⟨L, hL⟩ := At.mk hlt
      obtain ⟨bp, op, cp', u, he, hsl, hrl⟩ := hpm.list hL
      cases he
      obtain ⟨al, cl, rfl, _, _⟩ := hsl.form
      have hLg := hgood L hL.mem
      have hLd : plan.getD m [] = L := hL.getD _
      obtain ⟨b, hb3, hbe, hbat⟩ := bore_bd hv (show m < h.hs.ms.length by rw [← hpl1.out]; exact hlt)
      rw [hbe] at hbat
      obtain ⟨bo', oo', co', he, hio, hro⟩ := hom.int hbat
      cases he
      have hm0 : (0 : Int) ≤ (m : Int) := by omega
      have hm1 : (m : Int) < (plan.length : Int) := by omega
      have hm2 : (m : Int) < (h.bo.length : Int) := by rw [hbo.out, ← hpl1.out]; omega
      have hmm3 : m < 3 := by have := hpl1.out; omega
      replace hbe := Lib.hid hbe
      replace hLd := Lib.hid hLd
      go_wp2
      go_loopw [7] (fun i wr => ∃ pg : Nat, pg ≤ 4 ∧ i = .int .i64 pg ∧ Own H2 w.heap.size wr 3 v2 (needTo h plan m pg) ∧ Ext w H wr H2) (fun i _ => 4 - (intOf i).toNat)
      case atStart => exact ⟨0, Nat.zero_le _, rfl, hown, hxr⟩
      case round =>
        clear hown hxr hwr
        obtain ⟨pg, hpg, rfl, hown, hxr⟩ := hrel
        have hwr := hxr.holds
        by_cases hlp : pg < 4
        · have hstep := needTo_step (plan := plan) hlp hbe.out hb3
          rw [hLd.out] at hstep
          have hbd := needTo_bd h plan m pg (show pg * 3 + b < 12 by omega)
          have hat : At (needTo h plan m pg) (pg * 3 + b) (gT (needTo h plan m pg) (pg * 3 + b)) := by
            show _ = _
            unfold gT; rw [List.getD_eq_getElem?_getD, List.getElem?_eq_getElem (by rw [needTo_len]; omega)]; rfl
          obtain ⟨g, cg, hev, _, hcl, hfz, hgb, hgH, hgl, hset⟩ := hown.int_at hat
          rw [needTo_len] at hev
          subst hev
          cases gn : needP h L pg
          · rw [gn, if_neg (by decide)] at hstep
            replace hstep := Lib.hid hstep
            go_upto_region 8 with fail
            refine wp_region_quietB H2 (by kernel_rfl) (by kernel_rfl) hwr (fun hne => ?_)
            repeat go_big_quiet_step ((first | (go_at_call 134; exact Calls.quietB (needs9_any _ _ _ _ _ _ h hv L hLg pg _ _ (WB.holds _) hhm hsl))))
            refine wpQuiet_nil ?_
            rintro ⟨w2, hw2, hb2⟩
            clear hne
            rw [gn]
            have hx2 : Ext w H w2 H2 := hxr.step (hb2.mono hxr.below.size) hw2
            have hown2 := hown.ext hwr ⟨hb2, hw2, fun _ _ => rfl⟩
            go_wp2
            go_roundw
            case rel => exact ⟨pg + 1, by omega, by go_num, by rw [hstep.out]; exact hown2, hx2⟩
            case measure => simp [intOf]; omega
          · rw [gn, if_pos rfl] at hstep
            replace hstep := Lib.hid hstep
            generalize gT (needTo h plan m pg) (pg * 3 + b) = z at *
            go_upto_region 8 with fail
            refine wp_region_quietB H2 (by kernel_rfl) (by kernel_rfl) hwr (fun hne => ?_)
            repeat go_big_quiet_step ((first | (go_at_call 134; exact Calls.quietB (needs9_any _ _ _ _ _ _ h hv L hLg pg _ _ (WB.holds _) hhm hsl))))
            refine wpQuiet_nil ?_
            rintro ⟨w2, hw2, hb2⟩
            clear hne
            rw [gn]
            have hx2 : Ext w H w2 H2 := hxr.step (hb2.mono hxr.below.size) hw2
            have hown2 := hown.ext hwr ⟨hb2, hw2, fun _ _ => rfl⟩
            have hcl2 := (hb2.cell (p := ⟨g, pg * 3 + b, none⟩) hgl).trans hcl
            have hfz2 := (hb2.frozen (p := ⟨g, pg * 3 + b, none⟩) hgl).trans hfz
            have hset2 := Own.set_int hown2 (show pg * 3 + b < 12 by omega) (needTo_len _ _ _ _) (z + 1) (by unfold I64; omega)
            have hin0 : (0 : Int) ≤ (pg : Int) * 3 + (b : Int) := by omega
            have hin1 : (pg : Int) * 3 + (b : Int) < 12 := by omega
            have hinn : ((pg : Int) * 3 + (b : Int)).toNat = pg * 3 + b := by omega
            go_wp2_with (first | (go_at_call 78; refine (place9_any _ _ ⟨by omega, by omega⟩ ⟨by omega, by omega⟩ _).mono ?_; rintro e w' ⟨rfl, rfl⟩))
            go_roundw
            case rel => exact ⟨pg + 1, by omega, by go_num, by rw [hstep.out]; exact hset2, hx2.setCell (a := ⟨g, pg * 3 + b, none⟩) hgb hgH _⟩
            case measure => simp [intOf]; omega
        · obtain rfl : pg = 4 := by omega
          rw [needTo_next] at hown
          go_wp2
          go_roundw
          case rel => exact ⟨m + 1, by omega, by go_num, hown, hxr⟩
          case measure => simp [intOf]; omega
    · go_wp2
      go_ret
      have hme : m = plan.length := by omega
      rw [hme, needTo_end] at hown
      exact ⟨_, H2, rfl, hxr, hown⟩

end Go.Proofs.YtngdppajailpcaaGreat

namespace Go.Proofs.YtngdppajailpcaaGreat

/-- What changing the plate costs. -/
def chg (h : House) (prev : Option Int) (e : Int) : Int := if prev.any (fun x => x != e) then h.ch else 0
/-- When a list is done, and the last edition. -/
def fin (h : House) (mc : Mach) : List Int → Int × Option Int → Int × Option Int
  | [], s => s
  | b :: l, s => fin h mc l (stepT h mc s.1 s.2 b, some (bund h b).e)
theorem fin_append (h : House) (mc : Mach) : ∀ (l r : List Int) (s : Int × Option Int), fin h mc (l ++ r) s = fin h mc r (fin h mc l s)
  | [], _, _ => rfl
  | _ :: l, r, _ => fin_append h mc l r _
theorem runTo_fin (h : House) (mc : Mach) : ∀ (l : List Int) (ts : List Int) (now : Int) (prev : Option Int), (runTo h mc l (ts, now, prev)).2 = fin h mc l (now, prev)
  | [], _, _, _ => rfl
  | _ :: l, _, _, _ => runTo_fin h mc l _ _ _
/-- When a bundle of a list is done. -/
def done (h : House) (mc : Mach) (l : List Int) (i : Nat) : Int := (fin h mc (l.take (i + 1)) (mc.r, none)).1

theorem runTo_other (h : House) (mc : Mach) {b : Nat} : ∀ (l : List Int) (ts : List Int) (now : Int) (prev : Option Int), (∀ x ∈ l, 0 ≤ x) → (b : Int) ∉ l → (runTo h mc l (ts, now, prev)).1.getD b 0 = ts.getD b 0
  | [], _, _, _, _, _ => rfl
  | x :: l, ts, now, prev, h0, hb => by
    have hx := h0 x (by simp)
    have hne : x.toNat ≠ b := fun e => hb (by rw [← e, Int.toNat_of_nonneg hx]; simp)
    simp only [runTo]
    rw [runTo_other h mc l _ _ _ (fun y hy => h0 y (by simp [hy])) (fun hm => hb (by simp [hm]))]
    simp only [List.getD_eq_getElem?_getD]
    rw [List.getElem?_set_ne hne]

theorem runTo_at (h : House) (mc : Mach) {b : Nat} : ∀ (l : List Int) (i : Nat) (ts : List Int) (now : Int) (prev : Option Int), (∀ x ∈ l, 0 ≤ x) → l.Nodup → b < ts.length → At l i (b : Int) → (runTo h mc l (ts, now, prev)).1.getD b 0 = (fin h mc (l.take (i + 1)) (now, prev)).1
  | [], _, _, _, _, _, _, _, ha => by simp [At] at ha
  | x :: l, 0, ts, now, prev, h0, hn, hb, ha => by
    obtain rfl : x = (b : Int) := by simpa [At] using ha
    simp only [runTo]
    rw [runTo_other h mc l _ _ _ (fun y hy => h0 y (by simp [hy])) (List.nodup_cons.1 hn).1]
    simp only [List.getD_eq_getElem?_getD, Int.toNat_natCast]
    rw [List.getElem?_set_self hb]
    rfl
  | x :: l, i + 1, ts, now, prev, h0, hn, hb, ha => by
    simp only [runTo]
    rw [runTo_at h mc l i _ _ _ (fun y hy => h0 y (by simp [hy])) (List.nodup_cons.1 hn).2 (by rw [List.length_set]; exact hb) (by simpa [At] using ha)]
    rfl

theorem timesTo_other (h : House) {b : Nat} : ∀ (p : List (List Int)) (m : Nat) (ts : List Int), (∀ x ∈ p.flatten, 0 ≤ x) → (b : Int) ∉ p.flatten → (timesTo h m p ts).getD b 0 = ts.getD b 0
  | [], _, _, _, _ => rfl
  | l :: p, m, ts, h0, hb => by
    simp only [timesTo, runList]
    rw [timesTo_other h p _ _ (fun x hx => h0 x (by simp only [List.flatten_cons, List.mem_append]; exact .inr hx)) (fun hm => hb (by simp only [List.flatten_cons, List.mem_append]; exact .inr hm))]
    exact runTo_other h _ l ts _ _ (fun x hx => h0 x (by simp only [List.flatten_cons, List.mem_append]; exact .inl hx)) (fun hm => hb (by simp only [List.flatten_cons, List.mem_append]; exact .inl hm))

theorem timesTo_at (h : House) {b i : Nat} {l : List Int} : ∀ (p : List (List Int)) (m k : Nat) (ts : List Int), (∀ x ∈ p.flatten, 0 ≤ x) → p.flatten.Nodup → b < ts.length → At p k l → At l i (b : Int) → (timesTo h m p ts).getD b 0 = done h (mach h (m + k)) l i
  | [], _, _, _, _, _, _, ha, _ => by simp [At] at ha
  | q :: p, m, 0, ts, h0, hn, hb, ha, hl => by
    obtain rfl : q = l := by simpa [At] using ha
    simp only [List.flatten_cons, List.nodup_append] at hn
    simp only [timesTo, runList]
    rw [timesTo_other h p _ _ (fun x hx => h0 x (by simp only [List.flatten_cons, List.mem_append]; exact .inr hx)) (fun hm => hn.2.2 _ hl.mem _ hm rfl)]
    exact runTo_at h _ q i ts _ _ (fun x hx => h0 x (by simp only [List.flatten_cons, List.mem_append]; exact .inl hx)) hn.1 hb hl
  | q :: p, m, k + 1, ts, h0, hn, hb, ha, hl => by
    simp only [List.flatten_cons, List.nodup_append] at hn
    simp only [timesTo, runList]
    rw [timesTo_at h p (m + 1) k _ (fun x hx => h0 x (by simp only [List.flatten_cons, List.mem_append]; exact .inr hx)) hn.2.1 (by rw [runTo_len]; exact hb) (by simpa [At] using ha) hl, show m + 1 + k = m + (k + 1) by omega]

theorem isPlan_iff {h : House} {p : List (List Int)} : isPlan h p = true ↔ p.length = h.ms.length ∧ (∀ b ∈ p.flatten, 0 ≤ b ∧ b ≤ (h.bs.length : Int) - 1) ∧ p.flatten.Nodup := by
  simp only [isPlan, Bool.and_eq_true, decide_eq_true_eq, goodAll_iff]

/-- A printed bundle's time. -/
theorem times_at {h : House} {p : List (List Int)} (hp : isPlan h p = true) {k i b : Nat} {l : List Int} (hl : At p k l) (hb : At l i (b : Int)) : (timesOf h p).getD b 0 = done h (mach h k) l i := by
  obtain ⟨_, h0, hn⟩ := isPlan_iff.1 hp
  have hm : (b : Int) ∈ p.flatten := List.mem_flatten.2 ⟨l, hl.mem, hb.mem⟩
  have := h0 _ hm
  unfold timesOf
  rw [timesTo_at h p 0 k _ (fun x hx => (h0 x hx).1) hn (by simp; omega) hl hb, Nat.zero_add]
/-- .. one that is not printed. -/
theorem times_none {h : House} {p : List (List Int)} (hp : isPlan h p = true) {b : Nat} (hb : b < h.bs.length) (hn : (b : Int) ∉ p.flatten) : (timesOf h p).getD b 0 = -1 := by
  obtain ⟨_, h0, _⟩ := isPlan_iff.1 hp
  unfold timesOf
  rw [timesTo_other h p 0 _ (fun x hx => (h0 x hx).1) hn]
  simp only [List.getD_eq_getElem?_getD]
  rw [List.getElem?_eq_getElem (by simpa using hb)]
  simp

end Go.Proofs.YtngdppajailpcaaGreat

namespace Go.Proofs.YtngdppajailpcaaGreat

theorem okTold_sureB (h : House) (l : List Int) : okTold h l = sureB h l := by
  unfold okTold lates sureB
  rw [List.all_map]
  congr 1
  funext c
  simp only [Function.comp_def, reach, okCase, List.any_map]

/-- All lists of trains below a number, the shorter and the lesser ones first. -/
def ranked (nt : Nat) : List (List Int) := ((List.range nt).flatMap fun many => listsOf many nt) ++ [(listsOf nt nt).getD 0 []]

theorem first_least {q : List Int → Bool} {B : List (List Int)} {r : List Int} (h : B.find? q = some r) : q r = true ∧ r ∈ B ∧ ∀ b ∈ B, B.idxOf b < B.idxOf r → q b = false := by
  obtain ⟨hq, l1, l2, rfl, hn⟩ := List.find?_eq_some_iff_append.1 h
  refine ⟨hq, by simp, fun b hb hlt => ?_⟩
  have hr : r ∉ l1 := fun hm => by have := hn r hm; simp [hq] at this
  have hri : (l1 ++ r :: l2).idxOf r = l1.length := by rw [List.idxOf_append, if_neg hr]; simp
  rw [hri] at hlt
  have hbm : b ∈ l1 := by
    have h1 := List.getElem_idxOf (xs := l1 ++ r :: l2) (x := b) (List.idxOf_lt_length_of_mem hb)
    rw [List.getElem_append_left hlt] at h1
    rw [← h1]
    exact List.getElem_mem _
  simpa using hn b hbm

theorem listsFull {nt : Nat} (h : nt ≤ 4) : (listsOf nt nt).getD 0 [] = (List.range nt).map Int.ofNat := by
  rcases (by omega : nt = 0 ∨ nt = 1 ∨ nt = 2 ∨ nt = 3 ∨ nt = 4) with rfl | rfl | rfl | rfl | rfl
  all_goals decide +kernel

theorem sure_full {h : House} (hv : Valid h) : sureB h ((listsOf h.ts.length h.ts.length).getD 0 []) = true := by
  rw [listsFull hv.t4]
  unfold sureB
  rw [List.all_eq_true]
  intro c _
  unfold okCase
  rw [List.any_eq_true]
  obtain ⟨p, hp⟩ := List.exists_mem_of_length_pos (plansOf_ne hv c)
  refine ⟨p, hp, ?_⟩
  rw [List.all_eq_true]
  intro t ht
  simp only [lateOf, lateList, List.mem_map, List.mem_filter, List.mem_range] at ht
  obtain ⟨i, ⟨hi, _⟩, rfl⟩ := ht
  simp only [decide_eq_true_eq, List.mem_map, List.mem_range]
  exact ⟨i, hi, rfl⟩

theorem ranked_rising {nt : Nat} (h : nt ≤ 4) : ∀ l ∈ ranked nt, rising 0 ((nt : Int) - 1) l = true ∧ l.length ≤ nt := by
  rcases (by omega : nt = 0 ∨ nt = 1 ∨ nt = 2 ∨ nt = 3 ∨ nt = 4) with rfl | rfl | rfl | rfl | rfl
  all_goals decide +kernel
theorem toldOf_ranked {h : House} (hv : Valid h) : toldOf h ∈ ranked h.ts.length ∧ sureB h (toldOf h) = true ∧ ∀ l ∈ ranked h.ts.length, (ranked h.ts.length).idxOf l < (ranked h.ts.length).idxOf (toldOf h) → sureB h l = false := by
  have hr : (ranked h.ts.length).find? (sureB h) = some (toldOf h) := by
    unfold ranked toldOf
    rw [List.find?_append, show okTold h = sureB h from funext (okTold_sureB h)]
    cases ((List.range h.ts.length).flatMap fun many => listsOf many h.ts.length).find? (sureB h) with
    | none =>
      show [(listsOf h.ts.length h.ts.length).getD 0 []].find? (sureB h) = some ((listsOf h.ts.length h.ts.length).getD 0 [])
      rw [List.find?_cons_of_pos (sure_full hv)]
    | some x => rfl
  obtain ⟨h1, h2, h3⟩ := first_least hr
  exact ⟨h2, h1, h3⟩

/-- All lists of numbers that rise, from lo on, below lo + n. -/
def subs : Int → Nat → List (List Int)
  | _, 0 => [[]]
  | lo, n + 1 => subs (lo + 1) n ++ (subs (lo + 1) n).map (lo :: ·)
theorem subs_mem : ∀ (n : Nat) (lo : Int) (l : List Int), (∀ x ∈ l, lo ≤ x ∧ x < lo + n) → l.Pairwise (· < ·) → l ∈ subs lo n
  | 0, lo, l, h, _ => by
    cases l with
    | nil => simp [subs]
    | cons x l => have := h x (by simp); omega
  | n + 1, lo, [], _, _ => List.mem_append_left _ (subs_mem n (lo + 1) [] (by simp) .nil)
  | n + 1, lo, x :: l, h, hp => by
    obtain ⟨h1, h2⟩ := List.pairwise_cons.1 hp
    have hx := h x (by simp)
    by_cases e : x = lo
    · subst e
      refine List.mem_append_right _ (List.mem_map.2 ⟨l, subs_mem n (x + 1) l (fun y hy => ?_) h2, rfl⟩)
      have := h1 y hy; have := h y (by simp [hy]); omega
    · refine List.mem_append_left _ (subs_mem n (lo + 1) (x :: l) (fun y hy => ?_) hp)
      rcases List.mem_cons.1 hy with rfl | hy'
      · omega
      · have := h1 y hy'; have := h y hy; omega

structure Ranks (nt : Nat) : Prop where
  sup : ∀ a ∈ subs 0 nt, a ∈ ranked nt
  sub : ∀ a ∈ ranked nt, a ∈ subs 0 nt
  lt : ∀ a ∈ subs 0 nt, ∀ b ∈ subs 0 nt, (a.length < b.length ∨ (a.length = b.length ∧ earlier a b = true)) → (ranked nt).idxOf a < (ranked nt).idxOf b
  nil : (ranked nt).idxOf [] = 0 ∧ [] ∈ ranked nt
theorem ranks {nt : Nat} (h : nt ≤ 4) : Ranks nt := by
  rcases (by omega : nt = 0 ∨ nt = 1 ∨ nt = 2 ∨ nt = 3 ∨ nt = 4) with rfl | rfl | rfl | rfl | rfl
  all_goals exact ⟨by decide +kernel, by decide +kernel, by decide +kernel, by decide +kernel⟩
theorem rising_subs {nt : Nat} {l : List Int} (h : rising 0 ((nt : Int) - 1) l = true) : l ∈ subs 0 nt := by
  obtain ⟨h1, h2⟩ := rising_iff.1 h
  exact subs_mem nt 0 l (fun x hx => by have := h1 x hx; omega) h2

/-- Told is empty just if the house is sure. -/
theorem toldOf_nil {h : House} (hv : Valid h) : toldOf h = [] ↔ sureB h [] = true := by
  obtain ⟨h1, h2, h3⟩ := toldOf_ranked hv
  have R := ranks hv.t4
  constructor
  · intro e; rw [e] at h2; exact h2
  · intro hs
    refine Classical.byContradiction fun hne => ?_
    have hp : (ranked h.ts.length).idxOf [] < (ranked h.ts.length).idxOf (toldOf h) := by
      rw [R.nil.1]
      refine Nat.pos_of_ne_zero fun e => hne ?_
      have g1 := List.getElem_idxOf (xs := ranked h.ts.length) (List.idxOf_lt_length_of_mem h1)
      have g2 := List.getElem_idxOf (xs := ranked h.ts.length) (List.idxOf_lt_length_of_mem R.nil.2)
      rw [← g1, ← g2]
      simp only [e, R.nil.1]
    have := h3 _ R.nil.2 hp
    rw [hs] at this; cases this
/-- No fewer trains, nor a lesser list of as many, serve. -/
theorem toldOf_min {h : House} (hv : Valid h) {l : List Int} (hl : rising 0 ((h.ts.length : Int) - 1) l = true) (hlt : l.length < (toldOf h).length ∨ (l.length = (toldOf h).length ∧ earlier l (toldOf h) = true)) : sureB h l = false := by
  obtain ⟨h1, _, h3⟩ := toldOf_ranked hv
  have R := ranks hv.t4
  exact h3 l (R.sup _ (rising_subs hl)) (R.lt l (rising_subs hl) _ (R.sub _ h1) hlt)
/-- If a house is sure whenever another one is, but for the same trains, Told has not more. -/
theorem toldOf_le {h o : House} (hv : Valid h) (ho : Valid o) (ht : o.ts.length = h.ts.length) (hs : ∀ l, sureB h l = true → sureB o l = true) : (toldOf o).length ≤ (toldOf h).length := by
  obtain ⟨h1, h2, _⟩ := toldOf_ranked hv
  refine Nat.le_of_not_lt fun hlt => ?_
  have := toldOf_min ho (l := toldOf h) (by rw [ht]; exact (ranked_rising hv.t4 _ h1).1) (.inl hlt)
  rw [hs _ h2] at this; cases this
theorem toldOf_same {h o : House} (ht : o.ts.length = h.ts.length) (hs : ∀ l, sureB h l = sureB o l) : toldOf o = toldOf h := by
  unfold toldOf
  rw [show okTold h = okTold o from funext fun l => by rw [okTold_sureB, okTold_sureB, hs], ht]

end Go.Proofs.YtngdppajailpcaaGreat

namespace Go.Proofs.YtngdppajailpcaaGreat

/-- When a bundle is printed; below 0: it is not. -/
def tm (h : House) (p : List (List Int)) (b : Nat) : Int := (timesOf h p).getD b 0
def inT (h : House) (p : List (List Int)) (b : Nat) (d : Int) : Prop := 0 ≤ tm h p b ∧ tm h p b ≤ d

theorem lateB_iff {h : House} {p : List (List Int)} {t : Nat} : lateB h (timesOf h p) t = true ↔ ∃ b : Nat, b < h.bs.length ∧ (bund h b).t = (t : Int) ∧ ¬ inT h p b (h.ts.getD t 0) := by
  unfold lateB lateTo
  rw [List.any_eq_true]
  constructor
  · rintro ⟨b, hb, hx⟩
    simp only [Bool.and_eq_true, beq_iff_eq, Bool.or_eq_true, decide_eq_true_eq] at hx
    refine ⟨b, List.mem_range.1 hb, by simpa [bund] using hx.1, ?_⟩
    rintro ⟨h1, h2⟩
    unfold tm at h1 h2
    omega
  · rintro ⟨b, hb, hx, hn⟩
    refine ⟨b, List.mem_range.2 hb, ?_⟩
    simp only [Bool.and_eq_true, beq_iff_eq, Bool.or_eq_true, decide_eq_true_eq]
    refine ⟨by simpa [bund] using hx, ?_⟩
    refine Classical.byContradiction fun hc => hn ⟨?_, ?_⟩
    · unfold tm; omega
    · unfold tm; omega
theorem lateOf_nat {h : House} {p : List (List Int)} {t : Nat} : (t : Int) ∈ lateOf h p ↔ t < h.ts.length ∧ lateB h (timesOf h p) t = true := by
  unfold lateOf lateList
  simp only [List.mem_map, List.mem_filter, List.mem_range]
  constructor
  · rintro ⟨a, ha, e⟩
    have : a = t := Int.ofNat.inj e
    subst this; exact ha
  · rintro ha; exact ⟨t, ha, rfl⟩
theorem lateOf_is {h : House} {p : List (List Int)} {x : Int} (hx : x ∈ lateOf h p) : ∃ t : Nat, x = (t : Int) ∧ t < h.ts.length := by
  unfold lateOf lateList at hx
  obtain ⟨a, ha, e⟩ := List.mem_map.1 hx
  exact ⟨a, e.symm, List.mem_range.1 (List.mem_filter.1 ha).1⟩
theorem lateOf_iff {h : House} {p : List (List Int)} {t : Nat} : (t : Int) ∈ lateOf h p ↔ t < h.ts.length ∧ ∃ b : Nat, b < h.bs.length ∧ (bund h b).t = (t : Int) ∧ ¬ inT h p b (h.ts.getD t 0) := by
  rw [lateOf_nat, lateB_iff]

theorem mem_At {α : Type} {l : List α} {x : α} (h : x ∈ l) : ∃ i, At l i x := by
  obtain ⟨i, hi, e⟩ := List.getElem_of_mem h
  exact ⟨i, List.getElem?_eq_some_iff.2 ⟨hi, e⟩⟩
theorem mem_getD {p : List (List Int)} {k : Nat} {b : Int} (h : b ∈ p.getD k []) : ∃ l, At p k l ∧ b ∈ l ∧ p.getD k [] = l := by
  by_cases hk : k < p.length
  · obtain ⟨l, hl⟩ := At.mk hk
    exact ⟨l, hl, by rwa [hl.getD] at h, hl.getD _⟩
  · rw [List.getD_eq_getElem?_getD, List.getElem?_eq_none (by omega)] at h; simp at h
theorem bund_ok {h : House} (hv : Valid h) {b : Nat} (hb : b < h.bs.length) : 1 ≤ (bund h b).h ∧ 0 ≤ (bund h b).t ∧ (bund h b).t < h.ts.length := by
  obtain ⟨x, hx⟩ := At.mk hb
  rw [hx.bund]
  have h1 := List.all_eq_true.1 hv.bs x hx.mem
  simp only [okBund, Bool.and_eq_true, within_iff] at h1
  omega
theorem mach_ok {h : House} (hv : Valid h) {k : Nat} (hk : k < h.ms.length) : 0 ≤ (mach h k).r ∧ (mach h k).r ≤ 99 ∧ 1 ≤ (mach h k).p := by
  obtain ⟨x, hx⟩ := At.mk hk
  rw [hx.mach]
  have h1 := List.all_eq_true.1 hv.ms x hx.mem
  simp only [okMach, Bool.and_eq_true, within_iff] at h1
  omega
theorem chg_nonneg {h : House} (h0 : 0 ≤ h.ch) (prev : Option Int) (e : Int) : 0 ≤ chg h prev e := by unfold chg; split <;> omega
theorem chg_tri {h : House} (h0 : 0 ≤ h.ch) (prev : Option Int) (x e : Int) : chg h prev e ≤ chg h prev x + chg h (some x) e := by
  have h1 := chg_nonneg h0 (some x) e
  cases prev with
  | none => have : chg h none e = 0 := rfl; have : chg h none x = 0 := rfl; omega
  | some y =>
    have h2 := chg_nonneg h0 (some y) x
    by_cases e1 : y = e
    · have : chg h (some y) e = 0 := by unfold chg; simp [e1]
      omega
    · have h3 : chg h (some y) e = h.ch := by unfold chg; simp [e1]
      by_cases e2 : y = x
      · subst e2; omega
      · have : chg h (some y) x = h.ch := by unfold chg; simp [e2]
        omega
theorem chg_le {h o : House} (hc : o.ch ≤ h.ch) (x e : Int) : chg o (some x) e ≤ chg h (some x) e := by
  unfold chg; split <;> omega
theorem stepT_eq (h : House) (mc : Mach) (now : Int) (prev : Option Int) (b : Int) : stepT h mc now prev b = now + chg h prev (bund h b).e + (bund h b).h * mc.p := rfl

theorem fin_ge {h : House} (h0 : 0 ≤ h.ch) {mc : Mach} (hp : 0 ≤ mc.p) : ∀ (l : List Int) (s : Int × Option Int), (∀ b ∈ l, 0 ≤ (bund h b).h) → s.1 ≤ (fin h mc l s).1
  | [], _, _ => Int.le_refl _
  | b :: l, s, hb => by
    have h1 := hb b (by simp)
    have hm0 : 0 ≤ (bund h b).h * mc.p := Int.mul_nonneg h1 hp
    have h2 := chg_nonneg h0 s.2 (bund h b).e
    have ih := fin_ge h0 hp l (stepT h mc s.1 s.2 b, some (bund h b).e) (fun x hx => hb x (by simp [hx]))
    have h3 := stepT_eq h mc s.1 s.2 b
    simp only at ih
    show s.1 ≤ (fin h mc l _).1
    omega

theorem plan_bd {h : House} {p : List (List Int)} (hp : isPlan h p = true) {b : Int} (hb : b ∈ p.flatten) : 0 ≤ b ∧ b.toNat < h.bs.length := by
  have := (isPlan_iff.1 hp).2.1 b hb; omega
theorem tm_printed {h : House} (hv : Valid h) {p : List (List Int)} (hp : isPlan h p = true) {b : Nat} (hb : (b : Int) ∈ p.flatten) : 0 ≤ tm h p b := by
  obtain ⟨l, hl, hbl⟩ := List.mem_flatten.1 hb
  obtain ⟨k, hk⟩ := mem_At hl
  obtain ⟨i, hi⟩ := mem_At hbl
  unfold tm
  rw [times_at hp hk hi]
  have hkl : k < h.ms.length := by rw [← (isPlan_iff.1 hp).1]; exact hk.lt
  have hm := mach_ok hv hkl
  have := fin_ge (within_iff.1 hv.ch).1 (mc := mach h k) (by omega) (l.take (i + 1)) ((mach h k).r, none) (fun x hx => by
    have hx' := plan_bd hp (List.mem_flatten.2 ⟨l, hl, List.mem_of_mem_take hx⟩)
    obtain ⟨j, rfl⟩ := Int.eq_ofNat_of_zero_le hx'.1
    have := bund_ok hv hx'.2
    simp only [Int.toNat_natCast] at *
    omega)
  unfold done
  simp only at this
  omega
theorem tm_none {h : House} {p : List (List Int)} (hp : isPlan h p = true) {b : Nat} (hb : b < h.bs.length) (hn : (b : Int) ∉ p.flatten) : tm h p b = -1 := times_none hp hb hn

/-- The one is no later than the other, whatever comes next. -/
def Le2 (h o : House) (s s' : Int × Option Int) : Prop := s'.1 ≤ s.1 ∧ ∀ e, s'.1 + chg o s'.2 e ≤ s.1 + chg h s.2 e

theorem fin_sim {h o : House} {mc mc' : Mach} {ren : Int → Option Int} (h0 : 0 ≤ h.ch) (hc : o.ch ≤ h.ch) (hp : 0 ≤ mc'.p ∧ mc'.p ≤ mc.p) : ∀ (l : List Int) (s s' : Int × Option Int), Le2 h o s s' →
    (∀ b ∈ l, 0 ≤ (bund h b).h ∧ ∀ b', ren b = some b' → bund o b' = bund h b) → Le2 h o (fin h mc l s) (fin o mc' (l.filterMap ren) s')
  | [], _, _, k, _ => k
  | b :: l, s, s', k, hb => by
    obtain ⟨h1, h2⟩ := hb b (by simp)
    have hm0 : 0 ≤ (bund h b).h * mc.p := Int.mul_nonneg h1 (by omega)
    cases e : ren b with
    | none =>
      rw [List.filterMap_cons_none e]
      refine fin_sim h0 hc hp l _ _ ⟨?_, fun x => ?_⟩ (fun y hy => hb y (by simp [hy]))
      · have h3 := chg_nonneg h0 s.2 (bund h b).e
        have h4 := k.1
        simp only [stepT_eq]; omega
      · have h3 := chg_tri h0 s.2 (bund h b).e x
        have h4 := k.2 x
        simp only [stepT_eq]; omega
    | some b' =>
      rw [List.filterMap_cons_some e]
      have hbb := h2 b' e
      have hm : (bund h b).h * mc'.p ≤ (bund h b).h * mc.p := Int.mul_le_mul_of_nonneg_left hp.2 h1
      have h4 := k.2 (bund h b).e
      refine fin_sim h0 hc hp l _ _ ⟨?_, fun x => ?_⟩ (fun y hy => hb y (by simp [hy]))
      · simp only [stepT_eq, hbb]; omega
      · have h3 := chg_le hc (bund h b).e x
        simp only [stepT_eq, hbb]; omega

theorem done_sim {h o : House} {mc mc' : Mach} {ren : Int → Option Int} (h0 : 0 ≤ h.ch) (hc : o.ch ≤ h.ch) (hp : 0 ≤ mc'.p ∧ mc'.p ≤ mc.p) (hr : mc'.r ≤ mc.r) {l : List Int} {i : Nat} {b b' : Int} (ha : At l i b) (e : ren b = some b')
    (hb : ∀ b ∈ l, 0 ≤ (bund h b).h ∧ ∀ b', ren b = some b' → bund o b' = bund h b) : ∃ i', At (l.filterMap ren) i' b' ∧ done o mc' (l.filterMap ren) i' ≤ done h mc l i := by
  have hsp : l.filterMap ren = (l.take i).filterMap ren ++ b' :: (l.drop (i + 1)).filterMap ren := by
    conv => lhs; rw [ha.split]
    rw [List.filterMap_append, List.filterMap_cons_some e]
  have h1 : (l.take (i + 1)).filterMap ren = (l.take i).filterMap ren ++ [b'] := by
    rw [ha.take, List.filterMap_append, List.filterMap_cons_some e]; rfl
  refine ⟨((l.take i).filterMap ren).length, ?_, ?_⟩
  · unfold At
    rw [hsp, List.getElem?_append_right (Nat.le_refl _), Nat.sub_self]; rfl
  · unfold done
    have h2 : (l.filterMap ren).take (((l.take i).filterMap ren).length + 1) = (l.take (i + 1)).filterMap ren := by
      rw [hsp, h1, List.take_append, List.take_of_length_le (by omega), Nat.add_sub_cancel_left]; rfl
    rw [h2]
    exact (fin_sim h0 hc hp (l.take (i + 1)) (mc.r, none) (mc'.r, none) ⟨hr, fun x => by
      show mc'.r + 0 ≤ mc.r + 0; omega⟩ (fun y hy => hb y (List.mem_of_mem_take hy))).1

/-- The house o serves as well as h, for the trains T: bundles are renamed, machine k of o works as machine σ k of h. -/
structure Sim (T : Int → Prop) (h o : House) (ren : Int → Option Int) (σ : Nat → Nat) : Prop where
  ts : o.ts.length = h.ts.length
  later : ∀ t : Nat, T t → h.ts.getD t 0 ≤ o.ts.getD t 0
  ch : o.ch ≤ h.ch
  inj : ∀ a b c, ren a = some c → ren b = some c → a = b
  into : ∀ b b', 0 ≤ b → b ≤ (h.bs.length : Int) - 1 → ren b = some b' → 0 ≤ b' ∧ b' ≤ (o.bs.length : Int) - 1 ∧ bund o b' = bund h b
  onto : ∀ b' : Nat, b' < o.bs.length → T (bund o b').t → ∃ b : Nat, b < h.bs.length ∧ ren b = some (b' : Int)
  mto : ∀ k, k < h.ms.length → ∃ k', k' < o.ms.length ∧ σ k' = k
  minj : ∀ k k', k < o.ms.length → k' < o.ms.length → σ k = σ k' → σ k < h.ms.length → k = k'
  fast : ∀ k, k < o.ms.length → σ k < h.ms.length → (mach o k).r ≤ (mach h (σ k)).r ∧ (mach o k).p ≤ (mach h (σ k)).p
  stop : ∀ k, k < o.ms.length → (mach o k).s = 1 → σ k < h.ms.length ∧ (mach h (σ k)).s = 1

def mv (o : House) (ren : Int → Option Int) (σ : Nat → Nat) (p : List (List Int)) : List (List Int) := (List.range o.ms.length).map fun k => (p.getD (σ k) []).filterMap ren
theorem mv_at {o : House} {ren : Int → Option Int} {σ : Nat → Nat} {p : List (List Int)} {k : Nat} (hk : k < o.ms.length) : At (mv o ren σ p) k ((p.getD (σ k) []).filterMap ren) := by
  unfold mv At
  rw [List.getElem?_map, List.getElem?_range hk]; rfl
theorem mv_getD {o : House} {ren : Int → Option Int} {σ : Nat → Nat} {p : List (List Int)} {k : Nat} (hk : k < o.ms.length) : (mv o ren σ p).getD k [] = (p.getD (σ k) []).filterMap ren := (mv_at hk).getD _

theorem flat_nodup {p : List (List Int)} (hn : p.flatten.Nodup) {k : Nat} {l : List Int} (hl : At p k l) : l.Nodup :=
  (List.pairwise_flatten.1 hn).1 l hl.mem
theorem flat_disj {p : List (List Int)} (hn : p.flatten.Nodup) {k k' : Nat} {l l' : List Int} (hl : At p k l) (hl' : At p k' l') {b : Int} (hb : b ∈ l) (hb' : b ∈ l') : k = k' := by
  obtain ⟨hk, e⟩ := hl.get
  obtain ⟨hk', e'⟩ := hl'.get
  have h2 := List.pairwise_iff_getElem.1 (List.pairwise_flatten.1 hn).2
  rcases Nat.lt_trichotomy k k' with hlt | heq | hgt
  · exact absurd rfl (h2 k k' hk hk' hlt b (by rw [e]; exact hb) b (by rw [e']; exact hb'))
  · exact heq
  · exact absurd rfl (h2 k' k hk' hk hgt b (by rw [e']; exact hb') b (by rw [e]; exact hb))

section
variable {T : Int → Prop} {h o : House} {ren : Int → Option Int} {σ : Nat → Nat} {p : List (List Int)}
theorem Sim.plan (S : Sim T h o ren σ) (hp : isPlan h p = true) : isPlan o (mv o ren σ p) = true := by
  obtain ⟨hl, hb, hn⟩ := isPlan_iff.1 hp
  refine isPlan_iff.2 ⟨by simp [mv], ?_, ?_⟩
  · intro b' hb'
    obtain ⟨l', hl', hm⟩ := List.mem_flatten.1 hb'
    unfold mv at hl'
    obtain ⟨k, _, rfl⟩ := List.mem_map.1 hl'
    obtain ⟨b, hbm, e⟩ := List.mem_filterMap.1 hm
    obtain ⟨l, hal, hbl, _⟩ := mem_getD hbm
    have := hb b (List.mem_flatten.2 ⟨l, hal.mem, hbl⟩)
    have := S.into b b' this.1 this.2 e
    exact ⟨this.1, this.2.1⟩
  · refine List.pairwise_flatten.2 ⟨?_, ?_⟩
    · intro l' hl'
      unfold mv at hl'
      obtain ⟨k, _, rfl⟩ := List.mem_map.1 hl'
      have hnd : (p.getD (σ k) []).Nodup := by
        by_cases hk : σ k < p.length
        · obtain ⟨l, hal⟩ := At.mk hk
          rw [hal.getD]; exact flat_nodup hn hal
        · rw [List.getD_eq_getElem?_getD, List.getElem?_eq_none (by omega)]; simp
      refine List.pairwise_filterMap.2 (hnd.imp fun {a b} hab c hc d hd e => ?_)
      subst e
      exact hab (S.inj a b c hc hd)
    · unfold mv
      refine List.pairwise_map.2 ((List.pairwise_lt_range (n := o.ms.length)).imp_of_mem fun {k k'} hk hk' hlt x hx y hy e => ?_)
      subst e
      obtain ⟨a, ha, ea⟩ := List.mem_filterMap.1 hx
      obtain ⟨b, hb2, eb⟩ := List.mem_filterMap.1 hy
      have hab := S.inj a b x ea eb
      subst hab
      obtain ⟨l, hal, hbl, _⟩ := mem_getD ha
      obtain ⟨l', hal', hbl', _⟩ := mem_getD hb2
      have hs := flat_disj hn hal hal' hbl hbl'
      have := S.minj k k' (List.mem_range.1 hk) (List.mem_range.1 hk') hs (by rw [← hl]; exact hal.lt)
      omega

theorem Sim.time (hv : Valid h) (ho : Valid o) (S : Sim T h o ren σ) (hp : isPlan h p = true) {b b' : Nat} (e : ren (b : Int) = some (b' : Int)) (hb : (b : Int) ∈ p.flatten) :
    tm o (mv o ren σ p) b' ≤ tm h p b ∧ (b' : Int) ∈ (mv o ren σ p).flatten := by
  obtain ⟨hl, hbd, hn⟩ := isPlan_iff.1 hp
  obtain ⟨l, hlm, hbl⟩ := List.mem_flatten.1 hb
  obtain ⟨k, hk⟩ := mem_At hlm
  obtain ⟨i, hi⟩ := mem_At hbl
  obtain ⟨k', hk', rfl⟩ := S.mto k (by rw [← hl]; exact hk.lt)
  have hkl : σ k' < h.ms.length := by rw [← hl]; exact hk.lt
  have hat := mv_at (o := o) (ren := ren) (σ := σ) (p := p) hk'
  rw [hk.getD] at hat
  have hf := S.fast k' hk' hkl
  have hmo := mach_ok ho hk'
  obtain ⟨i', hi', hle⟩ := done_sim (h := h) (o := o) (mc := mach h (σ k')) (mc' := mach o k') (within_iff.1 hv.ch).1 S.ch ⟨by omega, hf.2⟩ hf.1 hi e (fun x hx => by
    have hx' := hbd x (List.mem_flatten.2 ⟨l, hlm, hx⟩)
    refine ⟨?_, fun b' eb => (S.into x b' hx'.1 hx'.2 eb).2.2⟩
    obtain ⟨j, rfl⟩ := Int.eq_ofNat_of_zero_le hx'.1
    have hj : j < h.bs.length := by have := hx'.2; omega
    have := bund_ok hv hj
    omega)
  unfold tm
  rw [times_at hp hk hi, times_at (S.plan hp) hat hi']
  exact ⟨hle, List.mem_flatten.2 ⟨_, hat.mem, hi'.mem⟩⟩

theorem Sim.late (hv : Valid h) (ho : Valid o) (S : Sim T h o ren σ) (hp : isPlan h p = true) {t : Nat} (ht : T t) (hl : (t : Int) ∈ lateOf o (mv o ren σ p)) : (t : Int) ∈ lateOf h p := by
  rw [lateOf_iff] at hl ⊢
  obtain ⟨h1, b', hb', hbt, hn⟩ := hl
  obtain ⟨b, hb, e⟩ := S.onto b' hb' (by rw [hbt]; exact ht)
  have hin := S.into b b' (by omega) (by omega) e
  refine ⟨by rw [← S.ts]; exact h1, b, hb, by rw [← hin.2.2]; exact hbt, fun hi => hn ?_⟩
  by_cases hm : (b : Int) ∈ p.flatten
  · obtain ⟨hle, hm'⟩ := S.time hv ho hp e hm
    have h2 := tm_printed ho (S.plan hp) hm'
    have h3 := S.later t ht
    exact ⟨h2, by have := hi.2; omega⟩
  · have := tm_none hp hb hm
    have := hi.1; omega
end

theorem casesOf_iff {h : House} {c : Int} : c ∈ casesOf h ↔ c = -1 ∨ ∃ k : Nat, k < h.ms.length ∧ c = (k : Int) ∧ (mach h k).s = 1 := by
  unfold casesOf casesTo
  simp only [List.mem_cons, List.mem_map, List.mem_filter, List.mem_range, decide_eq_true_eq]
  constructor
  · rintro (h1 | ⟨k, ⟨h1, h2⟩, rfl⟩)
    · exact .inl h1
    · exact .inr ⟨k, h1, rfl, h2⟩
  · rintro (h1 | ⟨k, h1, rfl, h2⟩)
    · exact .inl h1
    · exact .inr ⟨k, ⟨h1, h2⟩, rfl⟩

/-- The machine of a case prints nothing. -/
def Idle (p : List (List Int)) (c : Int) : Prop := ∀ i : Nat, (i : Int) = c → p.getD i [] = []

theorem sureB_iff {h : House} (hv : Valid h) {l : List Int} : sureB h l = true ↔ ∀ c ∈ casesOf h, ∃ p, isPlan h p = true ∧ Idle p c ∧ ∀ t ∈ lateOf h p, t ∈ l := by
  unfold sureB
  rw [List.all_eq_true]
  refine forall_congr' fun c => forall_congr' fun _ => ?_
  unfold okCase
  rw [List.any_eq_true]
  constructor
  · rintro ⟨p, hp, hl⟩
    obtain ⟨h1, h2⟩ := (plansOf_iff hv c p).1 hp
    exact ⟨p, h1, h2, fun t ht => of_decide_eq_true (List.all_eq_true.1 hl t ht)⟩
  · rintro ⟨p, h1, h2, hl⟩
    exact ⟨p, (plansOf_iff hv c p).2 ⟨h1, h2⟩, List.all_eq_true.2 fun t ht => decide_eq_true (hl t ht)⟩

theorem Sim.case {T : Int → Prop} {h o : House} {ren : Int → Option Int} {σ : Nat → Nat} (S : Sim T h o ren σ) {c : Int} (hc : c ∈ casesOf o) : ∃ c' ∈ casesOf h, ∀ p, Idle p c' → Idle (mv o ren σ p) c := by
  rcases casesOf_iff.1 hc with rfl | ⟨k, hk, rfl, hs⟩
  · exact ⟨-1, casesOf_iff.2 (.inl rfl), fun p _ i hi => by omega⟩
  · obtain ⟨h1, h2⟩ := S.stop k hk hs
    refine ⟨(σ k : Nat), casesOf_iff.2 (.inr ⟨_, h1, rfl, h2⟩), fun p hp i hi => ?_⟩
    obtain rfl : i = k := by omega
    rw [mv_getD hk, hp _ rfl]; rfl

/-- If h is sure but for some trains, o is. -/
theorem Sim.sure {T : Int → Prop} {h o : House} {ren : Int → Option Int} {σ : Nat → Nat} (hv : Valid h) (ho : Valid o) (S : Sim T h o ren σ) {l l' : List Int}
    (hl : ∀ t b : Nat, b < o.bs.length → (bund o b).t = t → (T t → (t : Int) ∈ l) → (t : Int) ∈ l') (hs : sureB h l = true) : sureB o l' = true := by
  rw [sureB_iff hv] at hs
  rw [sureB_iff ho]
  intro c hc
  obtain ⟨c', hc', hi⟩ := S.case hc
  obtain ⟨p, hp, hpi, hpl⟩ := hs c' hc'
  refine ⟨mv o ren σ p, S.plan hp, hi p hpi, fun x hx => ?_⟩
  obtain ⟨t, rfl, ht⟩ := lateOf_is hx
  obtain ⟨_, b, hb, hbt, _⟩ := lateOf_iff.1 hx
  exact hl t b hb hbt fun hT => hpl _ (S.late hv ho hp hT hx)

theorem bst_le {α : Type} (f : α → Nat) : ∀ (l : List α) (b : α), f (bst f l b) ≤ f b ∧ ∀ y ∈ l, f (bst f l b) ≤ f y
  | [], b => ⟨Nat.le_refl _, by simp⟩
  | y :: l, b => by
    have ih := bst_le f l (if f y < f b then y else b)
    simp only [bst]
    have h1 : f (if f y < f b then y else b) ≤ f b ∧ f (if f y < f b then y else b) ≤ f y := by
      split <;> omega
    refine ⟨Nat.le_trans ih.1 h1.1, fun z hz => ?_⟩
    rcases List.mem_cons.1 hz with rfl | hz
    · exact Nat.le_trans ih.1 h1.2
    · exact ih.2 z hz
theorem firstBest_le {α : Type} [Inhabited α] (f : α → Nat) {l : List α} {y : α} (hy : y ∈ l) : f (firstBest f l) ≤ f y := (bst_le f l _).2 y hy
/-- By no plan of a case fewer trains are late than by the best one. -/
theorem bestOf_le {h : House} (hv : Valid h) {c : Int} {p : List (List Int)} (hp : isPlan h p = true) (hi : Idle p c) : lateN h (bestOf h c) ≤ lateN h p :=
  firstBest_le _ ((plansOf_iff hv c p).2 ⟨hp, hi⟩)
theorem bestOf_plan {h : House} (hv : Valid h) (c : Int) : isPlan h (bestOf h c) = true ∧ Idle (bestOf h c) c :=
  (plansOf_iff hv c _).1 (firstBest_mem _ (plansOf_ne hv c))

theorem lateN_mono {h o : House} {p q : List (List Int)} (ht : o.ts.length = h.ts.length) (hs : ∀ t : Nat, (t : Int) ∈ lateOf o q → (t : Int) ∈ lateOf h p) : lateN o q ≤ lateN h p := by
  unfold lateN lateOf lateList
  rw [List.length_map, List.length_map, ← List.countP_eq_length_filter, ← List.countP_eq_length_filter, ht]
  refine List.countP_mono_left fun t hm hq => ?_
  exact (lateOf_nat.1 (hs t (lateOf_nat.2 ⟨by rw [ht]; exact List.mem_range.1 hm, hq⟩))).2
theorem Sim.fewest {h o : House} {ren : Int → Option Int} {σ : Nat → Nat} (hv : Valid h) (ho : Valid o) (S : Sim (fun _ => True) h o ren σ) : lateN o (bestOf o (-1)) ≤ lateN h (bestOf h (-1)) := by
  obtain ⟨hp, _⟩ := bestOf_plan hv (-1)
  refine Nat.le_trans (bestOf_le ho (S.plan hp) (fun i hi => by omega)) (lateN_mono S.ts fun t ht => S.late hv ho hp trivial ht)
theorem Sim.told {h o : House} {ren : Int → Option Int} {σ : Nat → Nat} (hv : Valid h) (ho : Valid o) (S : Sim (fun _ => True) h o ren σ) : (∀ l, sureB h l = true → sureB o l = true) ∧ (toldOf o).length ≤ (toldOf h).length := by
  have hs : ∀ l, sureB h l = true → sureB o l = true := fun l => S.sure hv ho fun t b _ _ k => k trivial
  exact ⟨hs, toldOf_le hv ho S.ts hs⟩

end Go.Proofs.YtngdppajailpcaaGreat

namespace Go.Proofs.YtngdppajailpcaaGreat

/-! ### Need, Fit -/

def needA (h : Hall) (plan : List (List Int)) : List Plate := if validHall h && isPlan h.hs plan then setOf (needOf h plan) else []
def fitOne (h : Hall) (m : Nat) (c : Cnt) (l : List Int) : Bool := l.all fun pg => decide (0 < gT c (pg.toNat * 3 + (bore h m).toNat))
def fitTo (h : Hall) (m : Nat) (c : Cnt) (n : Nat) : List Int := ((List.range n).filter fun i => fitOne h m c (h.ed.getD i [])).map Int.ofNat
def isMachA (h : Hall) (n : Int) : Bool := within n 0 ((h.hs.ms.length : Int) - 1)
def fitA (h : Hall) (n : Int) (set : List Plate) : List Int := if validHall h && (isMachA h n && setOk set) then fitTo h n.toNat (countsOf set) h.ed.length else []
theorem fitTo_succ (h : Hall) (m : Nat) (c : Cnt) (n : Nat) : fitTo h m c (n + 1) = if fitOne h m c (h.ed.getD n []) then fitTo h m c n ++ [(n : Int)] else fitTo h m c n := by
  unfold fitTo
  rw [List.range_succ, List.filter_append]
  cases e : fitOne h m c (h.ed.getD n [])
  · simp only [List.filter_cons, List.filter_nil, e, Bool.false_eq_true, if_false, List.append_nil]
  · simp only [List.filter_cons, List.filter_nil, e, if_true, List.map_append]; rfl
theorem fitTo_len (h : Hall) (m : Nat) (c : Cnt) (n : Nat) : (fitTo h m c n).length ≤ n := by
  unfold fitTo
  rw [List.length_map]
  exact Nat.le_trans (List.length_filter_le _ _) (by simp)

/-! ### What plans of a case need -/

def needsA (h : Hall) (stop : Int) : List Cnt := ((plansOf h.hs stop).filter fun p => decide (lateOf h.hs p = [])).map (needOf h)
def isCaseA (h : Hall) (n : Int) : Bool := decide (n = -1) || isMachA h n
def canA (h : Hall) (set : List Plate) (stop : Int) : Bool := validHall h && (setOk set && isCaseA h stop) && doesC (countsOf set) (needsA h stop)
def allA (h : Hall) : List (List Cnt) := (casesOf h.hs).map (needsA h)
def lacksA (h : Hall) (set : List Plate) : List Int := if validHall h && setOk set then (casesOf h.hs).filter fun c => !doesC (countsOf set) (needsA h c) else []
theorem needsA_cn {h : Hall} (hv : ValidH h) {stop : Int} : ∀ c ∈ needsA h stop, Cn c := fun c hc => by
  obtain ⟨p, hp, rfl⟩ := List.mem_map.1 hc
  have h1 := plansOf_isPlan hv.hs stop p (List.mem_filter.1 hp).1
  simp only [isPlan, Bool.and_eq_true, decide_eq_true_eq] at h1
  exact needOf_cn (by rw [h1.1]; exact hv.hs.m3)
theorem needsA_bd {h : Hall} (hv : ValidH h) {stop : Int} {c : Cnt} (hc : c ∈ needsA h stop) {k : Nat} (hk : k < 12) : 0 ≤ gT c k ∧ gT c k ≤ 3 := by
  obtain ⟨p, hp, rfl⟩ := List.mem_map.1 hc
  have h1 := plansOf_isPlan hv.hs stop p (List.mem_filter.1 hp).1
  simp only [isPlan, Bool.and_eq_true, decide_eq_true_eq] at h1
  exact needOf_bd (by rw [h1.1]; exact hv.hs.m3) hk
theorem needsA_six {h : Hall} (hv : ValidH h) (stop : Int) : Six 12 (needsA h stop) := fun c hc => (needsA_cn hv c hc).len
theorem allA_six {h : Hall} (hv : ValidH h) : ∀ l ∈ allA h, Six 12 l := fun l hl => by
  obtain ⟨c, _, rfl⟩ := List.mem_map.1 hl
  exact needsA_six hv c

/-! ### The least -/

def better (acc o : Option Cnt) : Option Cnt := match o with
  | none => acc
  | some x => match acc with
    | none => some x
    | some b => if cntLt x b then some x else some b
def grownC : List (List Cnt) → Cnt → Option Cnt
  | [], c => some c
  | l :: all, c => l.foldl (fun acc n => better acc (grownC all (cntMax c n))) none

/-- x is the least of them. -/
def IsLeast (l : List Cnt) (x : Cnt) : Prop := x ∈ l ∧ ∀ y ∈ l, cntLt y x = false
theorem leastC_iff {n : Nat} {l : List Cnt} (hn : Six n l) {x : Cnt} : leastC l = some x ↔ IsLeast l x := by
  constructor
  · exact fun h => leastC_some hn h
  · rintro ⟨h1, h2⟩
    cases e : leastC l with
    | none => rw [leastC_none.1 e] at h1; cases h1
    | some y =>
      obtain ⟨k1, k2⟩ := leastC_some hn e
      rcases cntLt_tri (a := x) (b := y) (by rw [hn x h1, hn y k1]) with h | h | h
      · rw [h]
      · rw [k2 x h1] at h; cases h
      · rw [h2 y k1] at h; cases h
theorem better_least {n : Nat} {A B : List Cnt} (hA : Six n A) (hB : Six n B) : better (leastC A) (leastC B) = leastC (A ++ B) := by
  have hAB : Six n (A ++ B) := fun y hy => (List.mem_append.1 hy).elim (hA y) (hB y)
  cases eb : leastC B with
  | none => rw [leastC_none.1 eb, List.append_nil]; rfl
  | some b =>
    obtain ⟨b1, b2⟩ := leastC_some hB eb
    cases ea : leastC A with
    | none => rw [leastC_none.1 ea, List.nil_append, eb]; rfl
    | some a =>
      obtain ⟨a1, a2⟩ := leastC_some hA ea
      symm
      show leastC (A ++ B) = if cntLt b a = true then some b else some a
      split
      · rename_i h
        refine (leastC_iff hAB).2 ⟨List.mem_append_right _ b1, fun y hy => ?_⟩
        rcases List.mem_append.1 hy with hy | hy
        · cases hc : cntLt y b
          · rfl
          · have := cntLt_trans hc h; rw [a2 y hy] at this; cases this
        · exact b2 y hy
      · rename_i h
        refine (leastC_iff hAB).2 ⟨List.mem_append_left _ a1, fun y hy => ?_⟩
        rcases List.mem_append.1 hy with hy | hy
        · exact a2 y hy
        · cases hc : cntLt y a
          · rfl
          · rcases cntLt_tri (a := a) (b := b) (by rw [hA a a1, hB b b1]) with e | e | e
            · rw [e, b2 y hy] at hc; cases hc
            · have := cntLt_trans hc e; rw [b2 y hy] at this; cases this
            · rw [e] at h; simp at h
theorem grownC_eq {n : Nat} : ∀ {all : List (List Cnt)} {c : Cnt}, (∀ l ∈ all, Six n l) → c.length = n → grownC all c = leastC (joinsC all c)
  | [], c, _, _ => rfl
  | l :: all, c, h, hc => by
    have hl := h l (by simp)
    have hr : ∀ x ∈ l, grownC all (cntMax c x) = leastC (joinsC all (cntMax c x)) ∧ Six n (joinsC all (cntMax c x)) := fun x hx => by
      have e : (cntMax c x).length = n := by rw [cntMax_len (by rw [hc, hl x hx]), hc]
      exact ⟨grownC_eq (fun l' hl' => h l' (by simp [hl'])) e, joinsC_len (fun l' hl' => h l' (by simp [hl'])) e⟩
    have key : ∀ (m A : List Cnt), (∀ x ∈ m, x ∈ l) → Six n A → m.foldl (fun acc x => better acc (grownC all (cntMax c x))) (leastC A) = leastC (A ++ m.flatMap fun x => joinsC all (cntMax c x)) := by
      intro m
      induction m with
      | nil => intro A _ _; simp
      | cons x m ih =>
        intro A hm hA
        obtain ⟨e1, e2⟩ := hr x (hm x (by simp))
        rw [List.foldl_cons, e1, better_least hA e2, ih (A ++ joinsC all (cntMax c x)) (fun y hy => hm y (by simp [hy])) (fun y hy => (List.mem_append.1 hy).elim (hA y) (e2 y))]
        simp
    have := key l [] (fun _ h => h) (fun _ h => by cases h)
    rw [List.nil_append] at this
    exact this

/-- Of cases of which each lies above the other's the least is the same. -/
theorem grownC_same {n : Nat} {all all' : List (List Cnt)} {c : Cnt} (h : ∀ l ∈ all, Six n l) (h' : ∀ l ∈ all', Six n l) (hc : c.length = n) (d1 : Doms all all') (d2 : Doms all' all) : grownC all c = grownC all' c := by
  rw [grownC_eq h hc, grownC_eq h' hc]
  exact leastC_same (joinsC_len h hc) (joinsC_len h' hc) (joinsC_dom h h' hc hc d1 (cntLe_refl c)) (joinsC_dom h' h hc hc d2 (cntLe_refl c))

/-- The least counts that have at least some, and do for all cases. -/
def leastA (h : Hall) (c : Cnt) : Option Cnt := grownC (allA h) c
def setA (h : Hall) : List Plate := if validHall h then (match leastA h zero12 with | none => [] | some c => setOf c) else []
def extraA (h : Hall) (set : List Plate) : Int := if validHall h && setOk set then (match leastA h (countsOf set) with | none => 0 | some c => cntSum c - platesOf set) else 0
/-- The error of what is asked for, where there may be none. -/
def errL (e : Int) (o : Option Cnt) : Int := if e = 0 then (if o.isSome then 0 else 3) else e
def fewestA (h : Hall) : Int := extraA h []
def errF (h : Hall) : Int := errL (if validHall h then 0 else 90) (leastA h zero12)

theorem cntMax_at {a b : Cnt} (ha : a.length = 12) (hb : b.length = 12) {k : Nat} (hk : k < 12) : gT (cntMax a b) k = max (gT a k) (gT b k) := by
  rw [cntMax_zip, zip12 _ _ _ ha hb, gt_mk _ hk]; rfl
theorem cntMax_cn {a b : Cnt} (ha : Cn a) (hb : Cn b) : Cn (cntMax a b) := Cn.of (by rw [cntMax_len (by rw [ha.len, hb.len]), ha.len]) fun k hk => by
  have h1 := (ha.gt hk).2
  have h2 := (hb.gt hk).2
  have := cntMax_at ha.len hb.len hk
  unfold gT at *
  rw [this]; omega
/-- All that is joined stays within bounds that all keep. -/
theorem joinsC_all {p : Cnt → Prop} (hp : ∀ a b, p a → p b → p (cntMax a b)) : ∀ {all : List (List Cnt)} {c : Cnt}, (∀ l ∈ all, ∀ x ∈ l, p x) → p c → ∀ y ∈ joinsC all c, p y
  | [], c, _, hc, y, hy => by rw [List.mem_singleton.1 hy]; exact hc
  | l :: all, c, h, hc, y, hy => by
    obtain ⟨x, hx, hy⟩ := List.mem_flatMap.1 hy
    exact joinsC_all hp (fun l' hl' => h l' (by simp [hl'])) (hp c x hc (h l (by simp) x hx)) y hy
theorem grownC_cn {all : List (List Cnt)} {c x : Cnt} (h : ∀ l ∈ all, ∀ y ∈ l, Cn y) (hc : Cn c) (e : grownC all c = some x) : Cn x := by
  rw [grownC_eq (fun l hl y hy => (h l hl y hy).len) hc.len] at e
  exact joinsC_all (fun a b ha hb => cntMax_cn ha hb) h hc x (leastC_some (joinsC_len (fun l hl y hy => (h l hl y hy).len) hc.len) e).1

end Go.Proofs.YtngdppajailpcaaGreat

namespace Go.Proofs.YtngdppajailpcaaGreat
open Go.RowKit

attribute [local go_sem] Holds.drew Holds.alloc Holds.drewN WB.holds Oper.semAt_some FW_fn FW_dep FW_round

theorem post2_no {w w' : World} {H H' : Snap} {α : Type} [Enc α] {e : Int} {xs : List α} (hx : Ext w H w' H') (hn : xs = []) :
    Post w H (fun v H' => ∃ u, v = .tuple #[u, .int .i64 e] ∧ Sl H' u xs) (.returned (.tuple #[.slice none 0 0, .int .i64 e])) w' :=
  ⟨_, H', rfl, hx, _, rfl, by rw [hn]; exact Sl.nil0 _⟩
theorem post2_of {w w' : World} {H H' : Snap} {α : Type} [Enc α] {e : Int} {u : Value} {xs : List α} (hx : Ext w H w' H') (hs : Sl H' u xs) :
    Post w H (fun v H' => ∃ u, v = .tuple #[u, .int .i64 e] ∧ Sl H' u xs) (.returned (.tuple #[u, .int .i64 e])) w' :=
  ⟨_, H', rfl, hx, _, rfl, hs⟩

theorem askM_ne {v is : Bool} (h : (v && is) = false) : askM v is = 90 ∨ askM v is = 1 := by
  cases v <;> cases is <;> simp_all [askM]

end Go.Proofs.YtngdppajailpcaaGreat
