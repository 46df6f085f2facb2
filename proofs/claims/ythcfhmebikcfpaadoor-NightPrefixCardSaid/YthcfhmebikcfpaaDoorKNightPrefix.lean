/- Proved here: NightPrefixCardSaid: the law NightPrefix returns true for all texts, and they read afterwards as they did. Conditions: none beyond those of the given statement. -/
import Derived.Test.YthcfhmebikcfpaaDoorG13
import Derived.Test.YthcfhmebikcfpaaDoorG14
import Derived.Test.YthcfhmebikcfpaaDoorG15
import Derived.Test.YthcfhmebikcfpaaDoorRows
import Derived.Test.YthcfhmebikcfpaaDoorTie
import Derived.Test.YthcfhmebikcfpaaDoorCards
import Derived.ProofKit
import Derived.SevenTiedAt

set_option linter.all false

namespace Go.Proofs.YthcfhmebikcfpaaDoor
open Go.RowKit
attribute [local go_sem] Holds.drew Holds.alloc Holds.drewN WB.holds Oper.semAt_some

def cdsTo (L : List Pr) (k : Nat) : List ByteArray := (List.range k).map fun i => strB (codeAt L i)
def krTo (L : List Pr) (k : Nat) : Nat := sumOn (pw L) (List.range k)
theorem cdsTo_next (L : List Pr) (k : Nat) : cdsTo L (k + 1) = cdsTo L k ++ [strB (codeAt L k)] := by unfold cdsTo; rw [List.range_succ, List.map_append]; rfl
theorem cdsTo_len (L : List Pr) (k : Nat) : (cdsTo L k).length = k := by unfold cdsTo; simp
theorem cdsTo_at (L : List Pr) {n i : Nat} (h : i < n) : At (cdsTo L n) i (strB (codeAt L i)) := by
  show (cdsTo L n)[i]? = _
  unfold cdsTo
  rw [List.getElem?_map, List.getElem?_range h]
  rfl
theorem krTo_next (L : List Pr) (k : Nat) : krTo L (k + 1) = krTo L k + pw L k := by unfold krTo; rw [List.range_succ, sumOn_append, sumOn_cons, sumOn_nil, Nat.add_zero]
theorem krTo_le {L : List Pr} {k : Nat} (h : k ≤ L.length) : krTo L k ≤ kraftN L := by
  have e : List.range L.length = List.range k ++ (List.range (L.length - k)).map (k + ·) := by
    conv => lhs; rw [show L.length = k + (L.length - k) by omega, List.range_add]
  unfold kraftN krTo
  rw [e, sumOn_append]
  omega
theorem pre_code {L : List Pr} (C : IsCode L) {k : Nat} {p : Pr} (hp : At L k p) : codeR L p.s = strB (codeAt L k) ∧ codeE L p.s = 0 := by
  have hf := find_at C.rise hp
  have g := isCode_of C
  unfold codeR codeE
  rw [g, hf]
  exact ⟨rfl, rfl⟩
theorem pre_facts {L : List Pr} (C : IsCode L) {k : Nat} {p : Pr} (hp : At L k p) (hn : L.length ≤ 96) : ∃ b : Nat, p.n = (b : Int) ∧ 1 ≤ b ∧ b ≤ 15 ∧ (strB (codeAt L k)).size = b ∧ wrap64 (15 - (b : Int)) = ((15 - b : Nat) : Int) ∧ pw L k = 2 ^ (15 - b) ∧
    wrap64 (1 * 2 ^ (15 - b)) = ((2 ^ (15 - b) : Nat) : Int) ∧ wrap64 ((krTo L k : Int) + ((2 ^ (15 - b) : Nat) : Int)) = ((krTo L (k + 1) : Nat) : Int) ∧ wrap64 ((k : Int) + 1) = (k : Int) + 1 := by
  have hb := C.b15 p hp.mem
  have hbn : bitsN L k = p.n.toNat := bitsN_at hp
  have hkr := krTo_le (L := L) (k := k + 1) hp.lt
  have hk2 := C.kraftN
  have hnx := krTo_next L k
  have hlt := hp.lt
  have hpw : pw L k = 2 ^ (15 - p.n.toNat) := by unfold pw; rw [hbn]
  have h32 : 2 ^ (15 - p.n.toNat) ≤ 32768 := Nat.pow_le_pow_right (by decide) (show 15 - p.n.toNat ≤ 15 by omega)
  refine ⟨p.n.toNat, by omega, by omega, by omega, ?_, ?_, hpw, ?_, ?_, wrap64_in _ (by omega) (by omega)⟩
  · show (codeAt L k).length = _
    rw [codeAt_len, hbn]
  · rw [show (15 : Int) - (p.n.toNat : Int) = ((15 - p.n.toNat : Nat) : Int) by omega]
    exact wrap64_in _ (by omega) (by omega)
  · rw [show (1 : Int) * 2 ^ (15 - p.n.toNat) = ((2 ^ (15 - p.n.toNat) : Nat) : Int) by simp]
    exact wrap64_in _ (by omega) (by omega)
  · rw [hnx, hpw]
    rw [show (krTo L k : Int) + ((2 ^ (15 - p.n.toNat) : Nat) : Int) = ((krTo L k + 2 ^ (15 - p.n.toNat) : Nat) : Int) by omega]
    exact wrap64_in _ (by omega) (by rw [hnx, hpw] at hkr; omega)
theorem pre_apart {L : List Pr} (C : IsCode L) {i k : Nat} (hi : i < L.length) (hk : k < L.length) (hne : i ≠ k) : ¬ (strB (codeAt L k)).extract 0 (strB (codeAt L i)).size = strB (codeAt L i) := fun e => by
  have e1 := congrArg bys e
  rw [strB_extract, List.drop_zero] at e1
  have e2 : (codeAt L k).take (codeAt L i).length = codeAt L i := e1
  exact hne (code_prefix C.b15 C.kraftN hi hk (by rw [← e2]; exact List.take_prefix _ _))
theorem pre_sum {l : List ByteArray} (h : areE l = 0) : (lensA (msgOf l)).length = 0 ∨ (lensA (msgOf l)).length = 1 ∧ kraftN (lensA (msgOf l)) = 16384 ∨ 2 ≤ (lensA (msgOf l)).length ∧ kraftN (lensA (msgOf l)) = 32768 := by
  have F := msg_ok h
  have e := lensA_len (msgOf l)
  by_cases h0 : (lensA (msgOf l)).length = 0
  · exact .inl h0
  · by_cases h1 : (lensA (msgOf l)).length = 1
    · exact .inr (.inl ⟨h1, kraft_one (by omega)⟩)
    · exact .inr (.inr ⟨by omega, kraft_lens F (by omega)⟩)
theorem n_meas3 {j n : Nat} (h : j < n) : n - (intOf (.int .i64 ((j : Int) + 1))).toNat < n - (intOf (.int .i64 (j : Int))).toNat := by
  simp only [intOf]
  omega
theorem pre_up {k n : Nat} (h : k < n) (hn : n ≤ 96) : wrap64 ((k : Int) + 1) = (k : Int) + 1 := wrap64_in _ (by omega) (by omega)
theorem pre_ne {i j : Nat} (h : ¬ i = j) : ((i : Int) != (j : Int)) = true ∧ ¬ (i : Int) = (j : Int) := ⟨bne_iff_ne.2 (by omega), by omega⟩
theorem pre_two {n : Nat} (h : 2 ≤ n) : ((n : Int) == 0) = false ∧ ((n : Int) == 1) = false ∧ ¬ n = 0 ∧ ¬ n = 1 := ⟨beq_eq_false_iff_ne.2 (by omega), beq_eq_false_iff_ne.2 (by omega), by omega, by omega⟩
theorem pre_app {L : List Pr} {k : Nat} (hk : k < L.length) (hn : L.length ≤ 96) : ((cdsTo L k).length + 1) * Enc.by_ ByteArray ≤ 140737488355328 ∧ (cdsTo L k).length + 1 ≤ 9223372036854775807 := by
  rw [cdsTo_len]
  simp only [Enc.by_]
  exact ⟨by omega, by omega⟩
theorem pre_cpy {L : List Pr} (hn : L.length ≤ 96) : (([] : List Pr).length + L.length) * Enc.by_ Pr ≤ 140737488355328 ∧ ([] : List Pr).length + L.length ≤ 9223372036854775807 := by
  simp only [Enc.by_, List.length_nil]
  exact ⟨by omega, by omega⟩
set_option maxRecDepth 100000 in
set_option maxHeartbeats 4000000 in
theorem nightPrefix_any (v : Value) (l : List ByteArray) (H : Snap) (w : World) (hw : Holds H w) (hs : Sl H v l) :
    Calls Tryd.prog 4 #[v] w (PostV w (.bool true)) := by
  have cW : ∀ (H' : Snap) (W : World), Holds H' W → Calls Tryd.prog 13 #[] W (PostV W (.bool true)) := fun H' W h => works14_any H' W h
  have cR := ready14_any v l H w hw hs
  obtain ⟨a, c, rfl, _, _⟩ := hs.form
  by_cases h0 : areE l = 0
  case neg =>
    rw [decide_eq_false h0] at cR
    replace cR := Lib.hid cR
    replace cW := Lib.hid cW
    clear h0
    go_enter Tryd.func4, Tryd.ntmps4
    go_wp2_with (first | ((have hgd := hw2; clear hgd; go_at_call 13; go_must (refine (cW.out H _ hw2).mono ?_); rintro e w3 ⟨rfl, hb3⟩)) | ((go_at_call 12; refine cR.out.mono ?_; rintro e w2 ⟨rfl, hb2⟩; have hw2 := hw.below hb2)))
    go_ret
    exact ⟨rfl, hb2.trans (hb3.mono hb2.size)⟩
  case pos =>
  rw [decide_eq_true h0] at cR
  replace cR := Lib.hid cR
  have cLn := lengths14_any (.slice a l.length c) l h0 H
  have hsum := pre_sum h0
  have F := msg_ok h0
  have C := lens_code F
  have hLl : (lensA (msgOf l)).length ≤ 96 := by rw [lensA_len]; exact wts_few F.1
  generalize lensA (msgOf l) = L at *
  have cC : ∀ (k : Nat) (p : Pr), At L k p → ∀ (u : Value) (H' : Snap) (W : World), Holds H' W → Sl H' u L → Calls Tryd.prog 20 #[u, .int .i64 p.s] W (PostV W (.tuple #[.string (strB (codeAt L k)), .int .i64 0])) := fun k p hp u H' W h1 h2 => by
    have := nCode_any u L (by omega) p.s H' W h1 h2
    rw [(pre_code C hp).1, (pre_code C hp).2] at this
    exact this
  replace cW := Lib.hid cW
  replace cLn := Lib.hid cLn
  replace hsum := Lib.hid hsum
  replace hLl := Lib.hid hLl
  replace cC := Lib.hid cC
  clear h0 F
  go_enter Tryd.func4, Tryd.ntmps4
  go_upto_region 3 with (go_at_call 12; refine cR.out.mono ?_; rintro e w2 ⟨rfl, hb2⟩; have x2 := (Ext.refl hw).step hb2 (hw.below hb2))
  clear hb2
  go_upto_region 8 with (go_at_call 19; go_must (refine (cLn.out _ x2.holds hs).mono ?_); rintro e w3 ⟨v3, H3, rfl, y3, o3⟩; obtain ⟨H4, y4, _, s4, _⟩ := o3.close y3; obtain ⟨a3, c3, rfl, _, _⟩ := o3.form; have x4 := x2.trans y4)
  clear x2 y3 o3 y4 hs
  go_wp2_with fail
  go_loopw [5, 6, 7] (fun cv sv iv wq => ∃ k : Nat, k ≤ L.length ∧ iv = .int .i64 (k : Int) ∧ sv = .int .i64 (krTo L k : Int) ∧ Ext w H wq H4 ∧ Own H4 w.heap.size wq 9 cv (cdsTo L k)) (fun _ _ iv _ => L.length - (intOf iv).toNat)
  case atStart => exact ⟨0, Nat.zero_le _, rfl, rfl, x4, Own.nil _ _ _ _⟩
  case round =>
    clear x4
    obtain ⟨k, hk, rfl, rfl, xr, oC⟩ := hrel
    have hwr := xr.holds
    obtain ⟨ac, cc, hcv, _, _⟩ := oC.form
    rw [cdsTo_len] at hcv
    subst hcv
    by_cases hlt : k < L.length
    · obtain ⟨p, hp⟩ := At.mk hlt
      obtain ⟨b, hb, hb1, hb2, hsz, g1, g2, g3, g4, g5⟩ := pre_facts C hp hLl.out
      have cK := cC.out k p hp
      obtain ⟨ps, pn⟩ := p
      simp only at hb cK
      subst hb
      obtain ⟨bL, oL, cL, he, hi, hr1, hr2⟩ := s4.pr hp
      cases he
      obtain ⟨hbS, hb63⟩ := pre_cpy hLl.out
      replace hbS := Lib.hid hbS
      replace hb63 := Lib.hid hb63
      replace hi := Lib.hid hi
      replace cK := Lib.hid cK
      go_upto_region 11 with fail
      have x0 := Ext.refl hwr
      go_region_held3 (fun w' => Holds H4 w' ∧ Ext wr H4 w' H4) (first | assumption | exact ⟨by assumption, by assumption⟩ | (go_split_ands; exact ⟨Holds.drew (by assumption), Ext.drew (by assumption)⟩) | (go_split_ands; exact ⟨Holds.alloc (by assumption) _, Ext.alloc (by assumption) _⟩) | (go_split_ands; exact ⟨Holds.drew (Holds.alloc (by assumption) _), Ext.drew (Ext.alloc (by assumption) _)⟩)) (first | ((go_split_ands; refine step_appX (w0 := wr) (H0 := H4) eLen rfl _ _ rfl (by first | exact x0.drew.alloc _ | exact (x0.alloc _).drew) rfl (by first | exact Own.emptyG rfl hwr.drew (Nat.le_refl _) | exact (Own.emptyG rfl hwr (Nat.le_refl _)).drew) rfl s4 hbS.out hb63.out ?_; intro vB wB oB xB hwB hgB; rw [List.nil_append] at oB; obtain ⟨HB, xB2, lB, sB, nB⟩ := oB.close xB)) | ((go_split_ands; go_at_call 20; refine (cK.out vB HB _ xB2.holds sB).mono ?_; rintro e wE ⟨rfl, hbE⟩; have k1 : Holds H4 wE := hwB.below hbE; have k2 : Ext wr H4 wE H4 := xB.step (hbE.mono xB.below.size) k1)))
      clear oB xB hwB hgB xB2 lB sB nB hbE x0
      have xE := xr.trans k2
      have oE := oC.ext hwr k2
      have hwE := k1
      have hnx := cdsTo_next L k
      obtain ⟨hcl, hcl63⟩ := pre_app hlt hLl.out
      have hq47 : (strB (codeAt L k)).size ≤ 140737488355328 := hsz ▸ Nat.le_trans hb2 (by decide)
      generalize strB (codeAt L k) = q at *
      replace hnx := Lib.hid hnx
      replace hcl := Lib.hid hcl
      replace hcl63 := Lib.hid hcl63
      replace hq47 := Lib.hid hq47
      replace g2 := Lib.hid g2
      clear k1 k2 xr hwr oC hb1
      go_upto_region 10 with (first | (at_builtin; go_must (refine wpList_app1 (c := 1) (cs := [.string q]) eStr rfl _ _ rfl rfl oE rfl ⟨rfl, hq47.out⟩ xE.holds hcl.out hcl63.out xE.below.size ?_); intro v6 w6 o6 g6 hw6 _; have x6 := (xE.alloc _).grown g6 (fun k hk => (oE.lt k hk).1) (fun k hk => oE.free k hk)))
      have g34 : wrap64 ((krTo L k : Int) + wrap64 (2 ^ (15 - b))) = ((krTo L (k + 1) : Nat) : Int) := by rw [Int.one_mul] at g3; rw [g3, g4]
      replace g34 := Lib.hid g34
      clear hk hr1 hr2 hp g1 g3 g4 hsz
      replace hlt := Lib.hid hlt
      go_wp2_with fail
      go_roundw
      case rel => exact ⟨k + 1, hlt.out, by first | exact j_up2 g5 | rfl, congrArg (Value.int .i64) g34.out, x6, by rw [hnx.out]; exact o6⟩
      case measure => first | exact n_meas g5 hlt.out | exact n_meas3 hlt.out
    · have hke : k = L.length := Nat.le_antisymm hk (Nat.not_lt.1 hlt)
      subst hke
      have hkk : krTo L L.length = kraftN L := rfl
      rw [hkk]
      obtain ⟨H5, x5, _, sC, _⟩ := oC.close xr
      have hcz := cdsTo_len L L.length
      have hcf : ∀ i, i < L.length → At (cdsTo L L.length) i (strB (codeAt L i)) := fun i hi => cdsTo_at L hi
      generalize cdsTo L L.length = cds at *
      replace hcz := Lib.hid hcz
      replace hcf := Lib.hid hcf
      have hno : ¬ (L.length : Int) < (L.length : Int) := Int.lt_irrefl _
      clear oC xr hwr hlt hkk s4 cC cLn hk
      go_upto_region 16 with fail
      clear hno
      generalize hK : kraftN L = K at *
      go_wp2_with fail
      go_loopw [10] (fun iv wq => ∃ i : Nat, i ≤ L.length ∧ iv = .int .i64 (i : Int) ∧ Ext w H wq H5) (fun iv _ => L.length - (intOf iv).toNat)
      case atStart => exact ⟨0, Nat.zero_le _, rfl, x5⟩
      case round =>
        clear x5
        obtain ⟨i, hi, rfl, xi⟩ := hrel
        by_cases hil : i < L.length
        · have hxi := hcf.out i hil
          obtain ⟨bc, oc, cc', he, hzi, hri⟩ := sC.str hxi
          simp only [Value.slice.injEq] at he
          obtain ⟨rfl, _, rfl⟩ := he
          have gi := pre_up hil hLl.out
          replace hzi := Lib.hid hzi
          go_wp2_with fail
          go_loopw [11] (fun jv wq => ∃ j : Nat, j ≤ L.length ∧ jv = .int .i64 (j : Int) ∧ Ext w H wq H5) (fun jv _ => L.length - (intOf jv).toNat)
          case atStart => exact ⟨0, Nat.zero_le _, rfl, xi⟩
          case round =>
            clear xi
            obtain ⟨j, hj, rfl, xj⟩ := hrel
            have hwj := xj.holds
            by_cases hjl : j < L.length
            · have gj := pre_up hjl hLl.out
              have hxj := hcf.out j hjl
              obtain ⟨bc', oc', cc'', he, hzj, hrj⟩ := sC.str hxj
              simp only [Value.slice.injEq, Option.some.injEq, Addr.mk.injEq] at he
              obtain ⟨⟨rfl, rfl, _⟩, _, rfl⟩ := he
              have hap := fun hne : i ≠ j => pre_apart C hil hjl hne
              generalize strB (codeAt L i) = qi at *
              generalize strB (codeAt L j) = qj at *
              replace hap := Lib.hid hap
              replace hzj := Lib.hid hzj
              clear hxi hxj
              by_cases hij : i = j
              · subst hij
                have hself : ((i : Int) != (i : Int)) = false := bne_self_eq_false _
                clear hap hri hrj
                go_upto_region 22 with fail
                refine wp_region_quietB H5 (by kernel_rfl) (by kernel_rfl) hwj (fun hne => ?_)
                repeat go_big_quiet_step ((first | fail))
                refine wpQuiet_nil ?_
                rintro ⟨w2, hw2, hb2⟩
                clear hne
                have x7 := xj.step (hb2.mono xj.below.size) hw2
                clear xj hwj hself hj
                replace hjl := Lib.hid hjl
                replace hil := Lib.hid hil
                go_upto_region 21 with fail
                clear hi hb2
                go_wp2_with fail
                go_roundw
                case rel => exact ⟨i + 1, hjl.out, by first | exact j_up2 gj | rfl, x7⟩
                case measure => first | exact n_meas gj hjl.out | exact n_meas3 hjl.out
              · obtain ⟨ne1, ne2⟩ := pre_ne hij
                replace ne1 := Lib.hid ne1
                replace ne2 := Lib.hid ne2
                replace hij := Lib.hid hij
                replace hil := Lib.hid hil
                replace hi := Lib.hid hi
                replace hri := Lib.hid hri
                replace hrj := Lib.hid hrj
                replace gi := Lib.hid gi
                replace gj := Lib.hid gj
                by_cases hle : qi.size ≤ qj.size
                · have hx := toList_ne (hap.out hij.out)
                  have hleI : (qi.size : Int) ≤ (qj.size : Int) := Int.ofNat_le.2 hle
                  have hle0 : (0 : Int) ≤ (qi.size : Int) := Int.natCast_nonneg _
                  clear hap
                  replace hx := Lib.hid hx
                  replace hleI := Lib.hid hleI
                  replace hle0 := Lib.hid hle0
                  replace hle := Lib.hid hle
                  go_upto_region 22 with fail
                  replace ne1 := ne1.out
                  replace hil := hil.out
                  replace hri := hri.out
                  replace hrj := hrj.out
                  replace hx := hx.out
                  replace hleI := hleI.out
                  replace hle0 := hle0.out
                  refine wp_region_quietB H5 (by kernel_rfl) (by kernel_rfl) hwj (fun hne => ?_)
                  repeat go_big_quiet_step ((first | fail))
                  refine wpQuiet_nil ?_
                  rintro ⟨w2, hw2, hb2⟩
                  clear hne
                  have x7 := xj.step (hb2.mono xj.below.size) hw2
                  clear xj hwj hri hrj ne1 ne2 hx hleI hle0 hle hj
                  replace hjl := Lib.hid hjl
                  replace hil := Lib.hid hil
                  go_upto_region 21 with fail
                  clear hi hb2
                  go_wp2_with fail
                  go_roundw
                  case rel => exact ⟨j + 1, hjl.out, by first | exact j_up2 gj.out | rfl, x7⟩
                  case measure => first | exact n_meas gj.out hjl.out | exact n_meas3 hjl.out
                · have hleI : ¬ (qi.size : Int) ≤ (qj.size : Int) := fun e => hle (Int.ofNat_le.1 e)
                  clear hap
                  replace hleI := Lib.hid hleI
                  replace hle := Lib.hid hle
                  go_upto_region 22 with fail
                  replace ne1 := ne1.out
                  replace hil := hil.out
                  replace hri := hri.out
                  replace hrj := hrj.out
                  replace hleI := hleI.out
                  refine wp_region_quietB H5 (by kernel_rfl) (by kernel_rfl) hwj (fun hne => ?_)
                  repeat go_big_quiet_step ((first | fail))
                  refine wpQuiet_nil ?_
                  rintro ⟨w2, hw2, hb2⟩
                  clear hne
                  have x7 := xj.step (hb2.mono xj.below.size) hw2
                  clear xj hwj hri hrj ne1 ne2 hleI hle hj
                  replace hjl := Lib.hid hjl
                  replace hil := Lib.hid hil
                  go_upto_region 21 with fail
                  clear hi hb2
                  go_wp2_with fail
                  go_roundw
                  case rel => exact ⟨j + 1, hjl.out, by first | exact j_up2 gj.out | rfl, x7⟩
                  case measure => first | exact n_meas gj.out hjl.out | exact n_meas3 hjl.out
            · have hjn : j = L.length := Nat.le_antisymm hj (Nat.not_lt.1 hjl)
              subst hjn
              clear hjl hj
              go_upto_region 18 with fail
              clear hi hri
              replace hil := Lib.hid hil
              go_wp2_with fail
              go_roundw
              case rel => exact ⟨i + 1, hil.out, by first | exact j_up2 gi | rfl, xj⟩
              case measure => first | exact n_meas gi hil.out | exact n_meas3 hil.out
        · have hin : i = L.length := Nat.le_antisymm hi (Nat.not_lt.1 hil)
          subst hin
          clear hil hi
          rcases hsum.out with h1 | ⟨h1, h2⟩ | ⟨h1, h2⟩
          · have e0 : ((L.length : Int) == 0) = true := by rw [h1]; rfl
            have e1 : ((L.length : Int) == 1) = false := by rw [h1]; rfl
            replace h1 := Lib.hid h1
            go_wp2_with (first | ((go_at_call 13; go_must (refine (cW.out H5 _ xi.holds).mono ?_); rintro e w12 ⟨rfl, hb12⟩)))
            go_ret
            exact ⟨rfl, xi.below.trans (hb12.mono xi.below.size)⟩
          · have e0 : ((L.length : Int) == 0) = false := by rw [h1]; rfl
            have e1 : ((L.length : Int) == 1) = true := by rw [h1]; rfl
            subst h2
            replace h1 := Lib.hid h1
            go_wp2_with (first | ((go_at_call 13; go_must (refine (cW.out H5 _ xi.holds).mono ?_); rintro e w12 ⟨rfl, hb12⟩)))
            go_ret
            exact ⟨rfl, xi.below.trans (hb12.mono xi.below.size)⟩
          · have e0 : ((L.length : Int) == 0) = false := (pre_two h1).1
            have e1 : ((L.length : Int) == 1) = false := (pre_two h1).2.1
            have e2 : ¬ L.length = 0 := (pre_two h1).2.2.1
            have e3 : ¬ L.length = 1 := (pre_two h1).2.2.2
            subst h2
            replace h1 := Lib.hid h1
            go_wp2_with (first | ((go_at_call 13; go_must (refine (cW.out H5 _ xi.holds).mono ?_); rintro e w12 ⟨rfl, hb12⟩)))
            go_ret
            exact ⟨rfl, xi.below.trans (hb12.mono xi.below.size)⟩
end Go.Proofs.YthcfhmebikcfpaaDoor

namespace Go.Proofs.YthcfhmebikcfpaaDoor
open Go.ChangeShapes Go.WideShapes Go.ChangeAt Go.RowKit

theorem nightPrefix_own : ownKnob Tryd.prog.godebug = none := by kernel_rfl
theorem nightPrefix_laid : laidOutB Tryd.prog = true := by kernel_rfl

set_option maxHeartbeats 1600000 in
set_option maxRecDepth 100000 in
theorem nightPrefix_lifted (os : Os) (started : os.Started) (H : Type) (enc : TypeId × Value → H) :
    ReturnsInHanded {} Tryd.checked os 4 .any (fun w args => (Rows.nightPrefixSpec.pre enc Tryd.prog Tryd.f4 [] false w args ∧ laidMetH Tryd.prog laidN w) ∧ sizedMet enc Tryd.prog Tryd.f4 (OpenSpec.ofChange Rows.nightPrefixSpec) false w args)
      (Rows.nightPrefixSpec.post enc Tryd.prog Tryd.f4 false true false false) := by
  refine returnsInHanded_of_change_and (C := Tryd.checked) (X := fun w _ => laidMetH Tryd.prog laidN w) (fun _ _ _ hh h => h.of_heap hh) nightPrefix_own started (by kernel_rfl) Tryd.func4
    (ChangeSpec.witness_shaped (enc := enc) (C := Tryd.checked) (os := os) (X := fun w _ => laidMetH Tryd.prog laidN w) false (doorN os) #[.slice none 0 0] 8 rfl (door_shaped os _) (by kernel_rfl) (by kernel_rfl) (by kernel_rfl) (door_met os _)) ?_
  intro W base args ds gs before hval0 hW _ hsz _ _
  have hval : ∀ (j : Nat) t v, Tryd.f4.params[j]? = some t → args[j]? = some v → Value.okWide Tryd.prog W .any base t v := hval0
  have hW' := hW
  obtain ⟨p, q, hA0, hV, rfl, _, _⟩ := hW
  have hA : DataW.TrodAll enc Tryd.prog W 0 (fun _ => true) true Tryd.f4.params.toList args.toList ds p := hA0
  have hS : (DataW.weightsEach Tryd.prog (Tryd.f4.params.toList ++ []) (ds ++ gs)).all (· ≤ reachBytes) = true := hsz
  rw [Tryd.params4] at hA hval hS
  obtain ⟨v0, d0, rfl, rfl, h0⟩ := trodAll_one hA
  obtain ⟨rfl, rfl⟩ := trodVars_none hV
  clear hA0 hval0 hsz
  simp only [List.append_nil] at hW' hS
  have hlt : ∀ x ∈ p, x.block < W.heap.size := fun x hx => by simpa using hW'.lt x hx
  have harg0 : ∀ W', Below W.heap.size W W' → DataW.Trod enc Tryd.prog W' 0 (fun b => decide (b < W.heap.size)) true 22 v0 d0 p := fun W' hb =>
    Below.trod nightPrefix_laid (by kernel_rfl) (of_decide_eq_true (by kernel_rfl)) h0 hb (fun x hx => hlt x (hx))
  have hw0 : ∀ k ∈ d0.weights Tryd.prog 22, k ≤ reachBytes := fun k hk => by
    simpa using List.all_eq_true.1 hS k (DataW.weights_mem_each (j := 0) rfl rfl k hk)
  obtain ⟨a0, l0, c0, rfl⟩ := okWide_slice Tryd.underlying22 (hval 0 22 v0 rfl rfl)
  obtain ⟨n0, h0'⟩ := h0
  obtain ⟨xs0, hx0⟩ := texts_opened (by simpa [Value.cells] using h0') hw0
  refine (nightPrefix_any _ xs0 (snapOf W) W (snapOf_holds W) hx0).mono fun e W' ⟨he, hb⟩ => ?_
  subst he
  refine ⟨_, rfl, _, _, _, [], _, [], hW', ?_, trodAll_mk1 (harg0 W' hb), rfl, hb.frame _, fun h => by cases h⟩
  exact trodAll_mk1 (shut_bool Tryd.underlying4 _)

theorem nightPrefix_said : Rows.NightPrefixSaid :=
  OpenClaim.holds_of_wide 4 Tryd.f4 rfl rfl rfl rfl rfl rfl rfl ⟨rfl, rfl, rfl, rfl, rfl⟩ rfl rfl rfl rfl rfl (by kernel_rfl) Tryd.func4 (by kernel_rfl)
    (of_decide_eq_true (by kernel_rfl)) (by unfold Func.isWrapper; first | (rw [if_pos (by decide +kernel)]; kernel_rfl) | (rw [if_neg (by decide +kernel)]; exact ⟨rfl, rfl⟩))
    (fun os started H enc _ => nightPrefix_lifted os started H enc)
theorem nightPrefix_card : Rows.NightPrefixCardSaid :=
  Claim7.holds_tied_plain_at .later [] [.data, .pinned] true (true, "939a424db51006e050b52def13aedbed6d4c52175fd3e7427ddbb41609789fdc") false
    nightPrefix_said (fun _ h => by cases h) (by kernel_rfl) (fun _ h => by cases h) nightPrefix_row_tie rfl ⟨rfl, rfl⟩ (by kernel_rfl) rfl
    (fun f fn hf hfn => by
      obtain rfl : f = 4 := Option.some.inj ((show Tryd.prog.funcNamed "flong/flonglaw14.NightPrefix" = some 4 by kernel_rfl).symm.trans hf) |>.symm
      obtain rfl : fn = Tryd.f4 := (Option.some.inj (Tryd.func4.symm.trans hfn)).symm
      exact ⟨by kernel_rfl, fun j t ht => by
        rw [Tryd.params4] at ht
        have hm : t ∈ [22] := by simpa using Array.mem_of_getElem? ht
        have hall : ([22].all fun u => !Tryd.prog.wantsStandIn u) = true := by kernel_rfl
        exact (show Tryd.prog.wantsStandIn t = false by simpa using List.all_eq_true.1 hall t hm)⟩)
    (by kernel_rfl)
end Go.Proofs.YthcfhmebikcfpaaDoor
