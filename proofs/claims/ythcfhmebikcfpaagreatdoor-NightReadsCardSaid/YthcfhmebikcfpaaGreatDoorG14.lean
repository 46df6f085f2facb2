/- Lemmas and walks on which the claims of this seat lean: NGi NGk. -/
import Derived.Test.YthcfhmebikcfpaaGreatDoorG11
import Derived.Test.YthcfhmebikcfpaaGreatDoorG13

set_option linter.all false

namespace Go.Proofs.YthcfhmebikcfpaaGreatDoor
open Go.RowKit

attribute [local go_sem] Holds.drew Holds.alloc Holds.drewN WB.holds Oper.semAt_some FW_fn FW_dep FW_round

theorem strB_cut (l : List UInt8) (a b : Nat) : (strB l).extract a b = strB ((l.take b).drop a) := by
  apply ByteArray.ext
  apply Array.ext'
  simp [strB, List.drop_take]
theorem lets_cut {n : Nat} (h : n < 64) : ByteArray.extract ⟨#[65, 66, 67, 68, 69, 70, 71, 72, 73, 74, 75, 76, 77, 78, 79, 80, 81, 82, 83, 84, 85, 86, 87, 88, 89, 90, 97, 98, 99, 100, 101, 102, 103, 104, 105, 106, 107, 108, 109, 110, 111, 112, 113, 114, 115, 116, 117, 118, 119, 120, 121, 122, 48, 49, 50, 51, 52, 53, 54, 55, 56, 57, 43, 47]⟩ n (n + 1) = strB [letB n] := by
  have e := strB_cut lets n (n + 1)
  have h2 : ∀ n : Fin 64, (lets.take (n.val + 1)).drop n.val = [letB n.val] := by decide
  rw [h2 ⟨n, h⟩] at e
  exact e
theorem pair_facts {p : Pr} (h0 : 0 ≤ p.s ∧ p.s < 256) (h1 : 1 ≤ p.n ∧ p.n ≤ 15) :
    p.s % 256 = ((p.s.toNat.toUInt8).toNat : Int) ∧ IntKind.i64.wrap (65 + p.n) = 65 + p.n ∧ IntKind.i64.wrap (65 + p.n - 1) = 64 + p.n ∧ (64 + p.n) % 256 = (((64 + p.n.toNat).toUInt8).toNat : Int) ∧ wrap64 (65 + p.n) = 65 + p.n ∧ wrap64 (65 + p.n - 1) = 64 + p.n := by
  refine ⟨?_, IntWalk.i64_in _ (by omega), ?_, ?_, wrap64_in _ (by omega) (by omega), ?_⟩
  · rw [UInt8.toNat_ofNat']; omega
  · rw [IntWalk.i64_in _ (by omega)]; omega
  · rw [UInt8.toNat_ofNat']; omega
  · rw [wrap64_in _ (by omega) (by omega)]; omega
theorem pairs_snoc {l : List Pr} {k : Nat} {p : Pr} (h : At l k p) : (l.take (k + 1)).flatMap pairB = (l.take k).flatMap pairB ++ [p.s.toNat.toUInt8, (64 + p.n.toNat).toUInt8] := by
  rw [h.take, List.flatMap_append]; simp [pairB]
theorem conv2 {w : World} {x y : UInt8} : (convert 49 9 (.slice (some ⟨w.heap.size, 0, none⟩) 2 2)).run Tryz.prog (w.alloc (.cells #[.int .u8 (x.toNat : Int), .int .u8 (y.toNat : Int)] 5)) = .ok (.string (strB [x, y])) (w.alloc (.cells #[.int .u8 (x.toNat : Int), .int .u8 (y.toNat : Int)] 5)) :=
  run_convert_bytes_back (w.alloc _) _ _ _ _ _ [x, y] Tryz.underlying49 Tryz.underlying5 Tryz.underlying9 (fun j hj => by
    have hnew := heap_alloc_new w (.cells #[.int .u8 (x.toNat : Int), .int .u8 (y.toNat : Int)] 5)
    match j, hj with
    | 0, _ => show World.cell? _ ⟨w.heap.size, 0, none⟩ = _; rw [Lib.cell_of_heap hnew]; rfl
    | 1, _ => show World.cell? _ ⟨w.heap.size, 1, none⟩ = _; rw [Lib.cell_of_heap hnew]; rfl)
theorem conv1 {w : World} {x : UInt8} : (convert 49 9 (.slice (some ⟨w.heap.size, 0, none⟩) 1 1)).run Tryz.prog (w.alloc (.cells #[.int .u8 (x.toNat : Int)] 5)) = .ok (.string (strB [x])) (w.alloc (.cells #[.int .u8 (x.toNat : Int)] 5)) :=
  run_convert_bytes_back (w.alloc _) _ _ _ _ _ [x] Tryz.underlying49 Tryz.underlying5 Tryz.underlying9 (fun j hj => by
    have hnew := heap_alloc_new w (.cells #[.int .u8 (x.toNat : Int)] 5)
    match j, hj with
    | 0, _ => show World.cell? _ ⟨w.heap.size, 0, none⟩ = _; rw [Lib.cell_of_heap hnew]; rfl)
def sLen (v : Value) : Nat := match v with | .string s => s.size | _ => 0
theorem fill_facts {n z : Nat} (hz : z ≤ fillZ n) : (z < fillZ n → (n + z) % 6 ≠ 0) ∧ (z = fillZ n → (n + z) % 6 = 0) ∧ fillZ n ≤ 5 := by
  have h1 := fillZ_all n
  have h2 := six_le n
  refine ⟨fun h => ?_, fun h => ?_, ?_⟩ <;> omega
theorem tmod6 (k : Nat) : Int.tmod (k : Int) 6 = ((k % 6 : Nat) : Int) := rfl
theorem six_facts {k n q j v : Nat} (hk : k < n) (hn : n ≤ 1200) (hj : j < 6) (hv : v < 2 ^ j) (hq : q = 6 * n) : (6 * k + j : Nat) < q ∧ IntKind.i64.wrap ((v : Int) * 2) = ((2 * v : Nat) : Int) ∧ v < 64 := by
  have : 2 ^ j ≤ 2 ^ 6 := Nat.pow_le_pow_right (by omega) (by omega)
  refine ⟨by omega, ?_, by omega⟩
  rw [IntWalk.i64_in _ (by omega)]; omega
theorem oneAt_y {ch : List UInt8} {j : Nat} {x : UInt8} (h : At ch j x) (e : x = 49) : oneAt ch j = 1 := by unfold oneAt; rw [show ch[j]? = some x from h, e, if_pos rfl]
theorem oneAt_n {ch : List UInt8} {j : Nat} {x : UInt8} (h : At ch j x) (e : x ≠ 49) : oneAt ch j = 0 := by unfold oneAt; rw [show ch[j]? = some x from h, if_neg (fun e2 => e (Option.some.inj e2))]
theorem is49 {x : UInt8} (h : x = 49) : ((x.toNat : Int) == 49) = true := by subst h; decide
theorem no49 {x : UInt8} (h : x ≠ 49) : ((x.toNat : Int) == 49) = false := by
  rw [beq_eq_false_iff_ne]
  intro e
  exact h (UInt8.toNat_inj.1 (by show x.toNat = 49; omega))
theorem at_drop {α : Type} {l : List α} {i j k : Nat} {x : α} (h : At l k x) (e : k = i + j) : At (l.drop i) j x := by unfold At at *; rw [List.getElem?_drop, ← e]; exact h
theorem val_bd {l : List UInt8} {t : Nat} (h : t ≤ 6) : valK l t < 64 := Nat.lt_of_lt_of_le (valK_lt l t) (Nat.pow_le_pow_right (by omega) h)
theorem letAt_fill (B0 : List UInt8) (z k i0 : Nat) (e : i0 = 6 * k) : letAt B0 k = letB (valK ((B0 ++ List.replicate z 48).drop i0) 6) := by rw [← letAt_zeros B0 z k, letAt_val, e]
theorem cut_v {v : Nat} (hv : v < 64) : (0 : Int) ≤ (v : Int) ∧ (v : Int) ≤ (v : Int) + 1 ∧ (v : Int) + 1 ≤ 64 ∧ ((v : Int) + 1).toNat = v + 1 ∧ wrap64 ((v : Int) + 1) = (v : Int) + 1 := ⟨by omega, by omega, by omega, by omega, wrap64_in _ (by omega) (by omega)⟩
theorem conv2d {w : World} {x y : UInt8} : (convert 49 9 (.slice (some ⟨w.heap.size, 0, none⟩) 2 2)).run Tryz.prog (w.alloc (.cells #[.int .u8 (x.toNat : Int), .int .u8 (y.toNat : Int)] 5)).drew = .ok (.string (strB [x, y])) (w.alloc (.cells #[.int .u8 (x.toNat : Int), .int .u8 (y.toNat : Int)] 5)).drew := conv2 (w := w.drew)
attribute [local go_sem] conv2 conv2d

set_option maxRecDepth 100000 in
set_option maxHeartbeats 4000000 in
theorem fileof14_any (hL : LenC) (v : Value) (l : List ByteArray) (h : areE l = 0) (H : Snap) (w : World) (hw : Holds H w) (hs : Sl H v l) :
    Calls Tryz.prog 38 #[v] w (PostV w (.string (strB (fileA l)))) := by
  have F := msg_ok h
  have C := lens_code F
  have hl := (areE_zero h).1
  have hz := areE_size h
  have hfew : (lensA (msgOf l)).length ≤ 96 := by rw [lensA_len]; exact wts_few F.1
  have hc : ∀ W, Holds H W → Calls Tryz.prog 44 #[.string (strB (msgOf l))] W (PostO W H 47 (lensA (msgOf l))) := fun W hW => hL (strB (msgOf l)) F H W hW
  have hbits : ∀ H1 W, Holds H1 W → Calls Tryz.prog 58 #[.string (strB (msgOf l))] W (PostV W (.string (strB (bitsA (lensA (msgOf l)) (msgOf l))))) := fun H1 W hW => bitsof14_any hL (strB (msgOf l)) F H1 W hW
  have hbl : (bitsA (lensA (msgOf l)) (msgOf l)).length ≤ 6902 := by have h1 := bits_bound F; have h2 := F.2; omega
  have hf : fileA l = headA l.length (lensA (msgOf l)) ++ (lensA (msgOf l)).flatMap pairB ++ sixesA (bitsA (lensA (msgOf l)) (msgOf l)) := rfl
  obtain ⟨a, c, rfl, _, _⟩ := hs.form
  obtain ⟨R, hR⟩ : ∃ R, strB (fileA l) = R := ⟨_, rfl⟩
  rw [hR]
  rw [hf] at hR
  clear hf F hL
  generalize bitsA (lensA (msgOf l)) (msgOf l) = B0 at *
  generalize lensA (msgOf l) = ls at *
  have hhead : strB (twoB l.length) ++ strB (twoB ls.length) = strB (headA l.length ls) := (strB_add _ _).symm
  have hszA : (strB (twoB l.length)).size = 2 := rfl
  have hszB : (strB (twoB ls.length)).size = 2 := rfl
  have hd4 : (headA l.length ls).length = 4 := rfl
  have hbd : ¬ 9223372036854775807 < (strB (twoB l.length)).size + (strB (twoB ls.length)).size := by rw [hszA, hszB]; decide
  have hta := fun W => two14_any l.length (by omega) W
  have htb := fun W => two14_any ls.length (by omega) W
  generalize headA l.length ls = hd at *
  generalize strB (twoB l.length) = qa at *
  generalize strB (twoB ls.length) = qb at *
  generalize hsm : strB (msgOf l) = sm at *
  have hmsg : ∀ W, Holds H W → Calls Tryz.prog 42 #[.slice a l.length c] W (PostV W (.string sm)) := fun W hW => by rw [← hsm]; exact message14_any _ l H W hW hs (by omega) hz
  clear hsm hszA hszB hs h hz
  replace hc := Lib.hid hc
  replace hbits := Lib.hid hbits
  replace hta := Lib.hid hta
  replace htb := Lib.hid htb
  replace hmsg := Lib.hid hmsg
  replace hhead := Lib.hid hhead
  replace hR := Lib.hid hR
  go_enter Tryz.func38, Tryz.ntmps38
  go_upto_region 4 with (first
    | (have hgd := x5; clear hgd; go_at_call 57; go_must (refine (htb.out _).mono ?_); rintro e w6 ⟨rfl, hb6⟩; have x6 := x5.step (hb6.mono x5.below.size) (x5.holds.below hb6))
    | (have hgd := x4; clear hgd; go_at_call 57; go_must (refine (hta.out _).mono ?_); rintro e w5 ⟨rfl, hb5⟩; have x5 := x4.step (hb5.mono x4.below.size) (x4.holds.below hb5))
    | (have hgd := hw2; clear hgd; go_at_call 44; go_must (refine (hc.out _ hw2).mono ?_); rintro e w3 ⟨v3, H3, rfl, x3, o3⟩; obtain ⟨H4, x3', _, s4, _⟩ := o3.close x3; obtain ⟨a3, c3, rfl, _, _⟩ := o3.form; have x4 := x2.trans x3')
    | (go_at_call 42; refine (hmsg.out _ hw).mono ?_; rintro e w2 ⟨rfl, hb2⟩; have hw2 := hw.below hb2; have x2 := (Ext.refl hw).step hb2 hw2))
  rw [hhead.out]
  clear x5 x4 x3 x3' o3 hw2 x2 hc hta htb hmsg hhead hbd
  go_wp2
  go_loopw [5, 6] (fun ov i wr => ∃ k : Nat, k ≤ ls.length ∧ i = .int .i64 (k : Int) ∧ ov = .string (strB (hd ++ (ls.take k).flatMap pairB)) ∧ Ext w H wr H4) (fun _ i _ => ls.length - (intOf i).toNat)
  case atStart => exact ⟨0, Nat.zero_le _, rfl, by show _ = Value.string (strB (hd ++ [])); rw [List.append_nil], x6⟩
  case round =>
    clear x6
    obtain ⟨k, hk, rfl, rfl, xr⟩ := hrel
    have hwr := xr.holds
    have hk0 : (0 : Int) ≤ (k : Int) := by omega
    by_cases hlk : k < ls.length
    · obtain ⟨p, hp⟩ := At.mk hlk
      obtain ⟨b, o, c', he, ⟨i1, i2⟩, r1, r2⟩ := s4.pr hp
      cases he
      have hk1 : (k : Int) < (ls.length : Int) := by omega
      obtain ⟨e1, e2, e3, e4, e5, e6⟩ := pair_facts (C.pos p hp.mem) (C.ok p hp.mem).2
      have hpl : ((ls.take k).flatMap pairB).length ≤ 192 := by rw [pairs_len, List.length_take]; omega
      have hnx : strB (hd ++ (ls.take k).flatMap pairB) ++ strB [p.s.toNat.toUInt8, (64 + p.n.toNat).toUInt8] = strB (hd ++ (ls.take (k + 1)).flatMap pairB) := (strB_add _ _).symm.trans (congrArg strB (by rw [pairs_snoc hp, List.append_assoc]))
      have hbd : ¬ 9223372036854775807 < (strB (hd ++ (ls.take k).flatMap pairB)).size + (strB [p.s.toNat.toUInt8, (64 + p.n.toNat).toUInt8]).size := by rw [strB_len, strB_len, List.length_append, hd4]; simp only [List.length_cons, List.length_nil]; omega
      generalize strB (hd ++ (ls.take k).flatMap pairB) = q1 at *
      generalize p.s.toNat.toUInt8 = ca at *
      generalize (64 + p.n.toNat).toUInt8 = cb at *
      replace hnx := Lib.hid hnx
      clear hp hpl
      go_upto_region 7 with fail
      have e7 : IntKind.u8.wrap p.s = (ca.toNat : Int) := e1
      have e8 : IntKind.u8.wrap (64 + p.n) = (cb.toNat : Int) := e4
      have xd := xr.drew.alloc (.cells #[.int .u8 (ca.toNat : Int), .int .u8 (cb.toNat : Int)] 5)
      (first | go_region_with fail | fail)
      all_goals
        go_wp2
        go_roundw
        case rel => exact ⟨k + 1, by omega, by go_num, congrArg Value.string hnx.out, xd⟩
        case measure => simp [intOf]; omega
    · have hall : ls.take k = ls := List.take_of_length_le (by omega)
      rw [hall]
      have hpl : (ls.flatMap pairB).length ≤ 192 := by rw [pairs_len]; omega
      have hkl : ¬ (k : Int) < (ls.length : Int) := by omega
      clear hall hk0 hk s4
      obtain ⟨hdp, hdpe⟩ : ∃ x, x = hd ++ ls.flatMap pairB := ⟨_, rfl⟩
      have hdl : hdp.length ≤ 196 := by rw [hdpe, List.length_append]; omega
      rw [← hdpe]
      replace hdpe := Lib.hid hdpe
      clear hpl
      go_upto_region 9 with (go_at_call 58; go_must (refine (hbits.out _ _ hwr).mono ?_); rintro e w7 ⟨rfl, hb7⟩; have x7 := xr.step (hb7.mono xr.below.size) (hwr.below hb7))
      clear hbits xr hwr hlk hkl
      replace hdl := Lib.hid hdl
      go_wp2
      go_loopw [7] (fun bv wr => ∃ z : Nat, z ≤ fillZ B0.length ∧ bv = .string (strB (B0 ++ List.replicate z 48)) ∧ Ext w H wr H4) (fun bv _ => B0.length + fillZ B0.length - sLen bv)
      case atStart => exact ⟨0, Nat.zero_le _, by show _ = Value.string (strB (B0 ++ [])); rw [List.append_nil], x7⟩
      case round =>
        clear x7
        obtain ⟨z, hz, rfl, xr⟩ := hrel
        obtain ⟨z1, z2, z5⟩ := fill_facts hz
        obtain ⟨Bp, hBp⟩ : ∃ x, x = B0 ++ List.replicate z 48 := ⟨_, rfl⟩
        have hpl : Bp.length = B0.length + z := by rw [hBp, List.length_append, List.length_replicate]
        have hsz : (strB Bp).size = B0.length + z := hpl
        by_cases hlz : z < fillZ B0.length
        · have hne := z1 hlz
          have hadd : strB Bp ++ ⟨#[48]⟩ = strB (B0 ++ List.replicate (z + 1) 48) := by
            rw [List.replicate_succ', ← List.append_assoc, ← hBp]; exact (strB_add _ [48]).symm
          have ht : (((strB Bp).size : Int) % 6 != 0) = true := by rw [hsz, bne_iff_ne]; omega
          have hlim : ¬ 9223372036854775807 < (strB Bp).size + 1 := by omega
          rw [← hBp]
          generalize strB Bp = q1 at *
          replace hadd := Lib.hid hadd
          replace hsz := Lib.hid hsz
          clear z1 z2 z5 hne hBp hpl
          go_wp2
          go_roundw
          case rel => exact ⟨z + 1, hlz, congrArg Value.string hadd.out, xr⟩
          case measure =>
            have h1 := hsz.out
            have h2 : (⟨#[48]⟩ : ByteArray).size = 1 := rfl
            simp [sLen]
            rw [h2]
            omega
        · have hze : z = fillZ B0.length := by omega
          have hmod := z2 hze
          have ht : (((strB Bp).size : Int) % 6 != 0) = false := by rw [hsz, bne_eq_false_iff_eq]; omega
          have hN : (strB Bp).size = 6 * six B0.length := by rw [hsz, hze]; exact fillZ_all _
          have hN9 : six B0.length ≤ 1200 := by have := six_le B0.length; omega
          have hfin : strB (hdp ++ sixesTo B0 (six B0.length)) = R := by rw [hdpe.out]; exact hR.out
          have hlet := fun k i0 e => letAt_fill B0 z k i0 e
          rw [← hBp] at hlet ⊢
          clear z1 z2 z5 hmod hBp hsz hze hlz hz hR hdpe
          generalize six B0.length = N at *
          replace hlet := Lib.hid hlet
          replace hfin := Lib.hid hfin
          obtain ⟨q1, hq1⟩ : ∃ q, q = strB Bp := ⟨_, rfl⟩
          rw [← hq1] at ht hN ⊢
          replace hN := Lib.hid hN
          replace hq1 := Lib.hid hq1
          replace hpl := Lib.hid hpl
          go_upto_region 12 with fail
          clear ht
          go_loopw [5, 8] (fun ov i wr => ∃ (k i0 : Nat), Hid (i0 = 6 * k ∧ k ≤ N) ∧ i0 ≤ 7200 ∧ i = .int .i64 (i0 : Int) ∧ ov = .string (strB (hdp ++ sixesTo B0 k)) ∧ Ext w H wr H4) (fun _ i _ => q1.size - (intOf i).toNat)
          case atStart => exact ⟨0, 0, Lib.hid ⟨rfl, Nat.zero_le _⟩, Nat.zero_le _, rfl, by show _ = Value.string (strB (hdp ++ [])); rw [List.append_nil], xr⟩
          case round =>
            clear xr
            obtain ⟨k, i0, hki, hi7, rfl, rfl, xr⟩ := hrel
            by_cases hlk : i0 < q1.size
            · have hlkI : (i0 : Int) < (q1.size : Int) := by omega
              go_upto_region 16 with fail
              clear hlkI
              go_loopw [9, 10] (fun nv j wq => ∃ (t jj v : Nat), Hid (jj = i0 + t ∧ t ≤ 6 ∧ v = valK (Bp.drop i0) t) ∧ jj ≤ 7206 ∧ v < 64 ∧ nv = .int .i64 (v : Int) ∧ j = .int .i64 (jj : Int) ∧ Ext w H wq H4) (fun _ j _ => i0 + 6 - (intOf j).toNat)
              case atStart => exact ⟨0, i0, 0, Lib.hid ⟨rfl, Nat.zero_le _, rfl⟩, by omega, by omega, rfl, rfl, xr⟩
              case round =>
                clear xr
                obtain ⟨t, jj, v, hjt, hj7, hv, rfl, rfl, xq⟩ := hrel
                by_cases htj : jj < i0 + 6
                · have htI : (jj : Int) < (i0 : Int) + 6 := by omega
                  obtain ⟨hje, ht6, hve⟩ := hjt.out
                  have hjq : jj < q1.size := by have h1 := hki.out; have h2 := hN.out; omega
                  have hjp : jj < Bp.length := by rw [← strB_len, ← hq1.out]; exact hjq
                  obtain ⟨x, hx⟩ := At.mk hjp
                  have hsk : q1[jj] = x := bys_at hjq (by rw [hq1.out]; exact hx)
                  have hj0 : (0 : Int) ≤ (jj : Int) := by omega
                  have hj1 : (jj : Int) < (q1.size : Int) := by omega
                  have hxd := at_drop hx hje
                  have hvs : valK (Bp.drop i0) (t + 1) = 2 * v + oneAt (Bp.drop i0) t := by rw [hve]; rfl
                  have htt : t < 6 := by omega
                  by_cases h49 : x = 49
                  · have hb := is49 h49
                    have hb63 : v * 2 + 1 < 64 := by have h1 := val_bd (l := Bp.drop i0) (t := t + 1) (by omega); rw [hvs, oneAt_y hxd h49] at h1; omega
                    have hnx : v * 2 + 1 = valK (Bp.drop i0) (t + 1) := by rw [hvs, oneAt_y hxd h49]; omega
                    replace hnx := Lib.hid hnx
                    replace hje := Lib.hid hje
                    replace htt := Lib.hid htt
                    clear hjt ht6 hve hx hxd hvs h49 hjp hki
                    go_upto_region 17 with fail
                    clear hb hsk hj0 hj1 hjq
                    go_wp2
                    go_roundw
                    case rel => exact ⟨t + 1, jj + 1, v * 2 + 1, Lib.hid ⟨by have h1 := hje.out; omega, htt.out, hnx.out⟩, by omega, hb63, by go_num, by go_num, xq⟩
                    case measure => simp [intOf]; omega
                  · have hb := no49 h49
                    have hb63 : v * 2 < 64 := by have h1 := val_bd (l := Bp.drop i0) (t := t + 1) (by omega); rw [hvs, oneAt_n hxd h49] at h1; omega
                    have hnx : v * 2 = valK (Bp.drop i0) (t + 1) := by rw [hvs, oneAt_n hxd h49]; omega
                    replace hnx := Lib.hid hnx
                    replace hje := Lib.hid hje
                    replace htt := Lib.hid htt
                    clear hjt ht6 hve hx hxd hvs h49 hjp hki
                    go_upto_region 17 with fail
                    clear hb hsk hj0 hj1 hjq
                    go_wp2
                    go_roundw
                    case rel => exact ⟨t + 1, jj + 1, v * 2, Lib.hid ⟨by have h1 := hje.out; omega, htt.out, hnx.out⟩, by omega, hb63, by go_num, by go_num, xq⟩
                    case measure => simp [intOf]; omega
                · obtain ⟨hje, ht6, hve⟩ := hjt.out
                  have ht : t = 6 := by omega
                  subst ht
                  have htI : ¬ (jj : Int) < (i0 : Int) + 6 := by omega
                  obtain ⟨hk6, hkN⟩ := hki.out
                  have hkN1 : k + 1 ≤ N := by have h2 := hN.out; omega
                  have hcut := lets_cut hv
                  have hnx : sixesTo B0 (k + 1) = sixesTo B0 k ++ [letB v] := by rw [sixesTo_succ, hlet.out k i0 hk6, hve]
                  have hadd : strB (hdp ++ sixesTo B0 k) ++ strB [letB v] = strB (hdp ++ sixesTo B0 (k + 1)) := by rw [hnx, ← List.append_assoc]; exact (strB_add _ _).symm
                  have hlim : ¬ 9223372036854775807 < (strB (hdp ++ sixesTo B0 k)).size + (strB [letB v]).size := by
                    have h1 := hdl.out
                    rw [strB_len, strB_len, List.length_append, show (sixesTo B0 k).length = k by unfold sixesTo; simp]
                    simp only [List.length_cons, List.length_nil]
                    omega
                  have hvf := cut_v hv
                  generalize strB (hdp ++ sixesTo B0 k) = q5 at *
                  generalize strB [letB v] = q6 at *
                  have hk66 : i0 + 6 = 6 * (k + 1) := by omega
                  have hi76 : i0 + 6 ≤ 7200 := by omega
                  replace hadd := Lib.hid hadd
                  replace hk66 := Lib.hid hk66
                  replace hkN1 := Lib.hid hkN1
                  replace hcut := Lib.hid hcut
                  replace hlim := Lib.hid hlim
                  replace hvf := Lib.hid hvf
                  clear hje ht6 hve hk6 hkN hnx hki hjt
                  go_upto_region 21 with fail
                  obtain ⟨hv0, hv1, hv2, hv3, hwv⟩ := hvf.out
                  replace hcut := hcut.out
                  replace hlim := hlim.out
                  replace hi7 := Lib.hid hi7
                  replace hi76 := Lib.hid hi76
                  replace hj7 := Lib.hid hj7
                  replace hlk := Lib.hid hlk
                  clear htI htj
                  go_upto_region 13 with fail
                  clear hv0 hv1 hv2 hv3 hwv hcut hlim
                  replace hi7 := hi7.out
                  go_wp2
                  go_roundw
                  case rel => exact ⟨k + 1, i0 + 6, Lib.hid ⟨hk66.out, hkN1.out⟩, hi76.out, by go_num, congrArg Value.string hadd.out, xq⟩
                  case measure => have h1 := hlk.out; simp [intOf]; omega
            · have hkN : k = N := by have h1 := hki.out; have h2 := hN.out; omega
              subst hkN
              have hlkI : ¬ (i0 : Int) < (q1.size : Int) := by omega
              rw [hfin.out]
              go_wp2
              go_ret
              exact ⟨rfl, xr.below⟩
end Go.Proofs.YthcfhmebikcfpaaGreatDoor

namespace Go.Proofs.YthcfhmebikcfpaaGreatDoor
open Go.RowKit

attribute [local go_sem] Holds.drew Holds.alloc Holds.drewN WB.holds Oper.semAt_some

def digI (b : UInt8) : Int := if 48 ≤ b.toNat ∧ b.toNat ≤ 57 then (b.toNat : Int) - 48 else -1
theorem digI_some {b : UInt8} (h : 0 ≤ digI b) : ∃ d : Nat, d ≤ 9 ∧ digI b = (d : Int) ∧ digN b = some d := by
  unfold digI at *
  by_cases g : 48 ≤ b.toNat ∧ b.toNat ≤ 57
  · refine ⟨b.toNat - 48, by omega, by rw [if_pos g]; omega, by unfold digN; rw [if_pos g]⟩
  · rw [if_neg g] at h; omega
theorem digI_none {b : UInt8} (h : digI b < 0) : digN b = none := by
  unfold digI at h
  by_cases g : 48 ≤ b.toNat ∧ b.toNat ≤ 57
  · rw [if_pos g] at h; omega
  · unfold digN; rw [if_neg g]
theorem numI_yes {a b : UInt8} (ha : 0 ≤ digI a) (hb : 0 ≤ digI b) : numI a b = digI a * 10 + digI b := by
  obtain ⟨x, _, e1, e2⟩ := digI_some ha
  obtain ⟨y, _, e3, e4⟩ := digI_some hb
  unfold numI num2
  rw [e2, e4, e1, e3]
  simp
theorem numI_no {a b : UInt8} (h : digI a < 0 ∨ digI b < 0) : numI a b = -1 := by
  unfold numI num2
  rcases h with h | h
  · rw [digI_none h]
  · rw [digI_none h]; cases digN a <;> rfl
theorem formA_dig {s : List UInt8} {i : Nat} {x : UInt8} (h4 : 4 ≤ s.length) (hi : i < 4) (h : At s i x) (hd : digI x < 0) : formA s = none := by
  match s, h4 with
  | a :: b :: c :: d :: r, _ =>
    apply formA_bad
    intro hok
    have hi4 : i = 0 ∨ i = 1 ∨ i = 2 ∨ i = 3 := by omega
    rcases hi4 with rfl | rfl | rfl | rfl
    · cases h; have := numI_no (b := b) (.inl hd); omega
    · cases h; have := numI_no (a := a) (.inr hd); omega
    · cases h; have := numI_no (b := d) (.inl hd); omega
    · cases h; have := numI_no (a := c) (.inr hd); omega

set_option maxRecDepth 100000 in
theorem digit14_any (b : UInt8) (w : World) : Calls Tryz.prog 74 #[.int .u8 (b.toNat : Int)] w (PostV w (.int .i64 (digI b))) := by
  have hb := b.toNat_lt
  have hd : digI b = if 48 ≤ b.toNat ∧ b.toNat ≤ 57 then (b.toNat : Int) - 48 else -1 := rfl
  generalize digI b = R at *
  generalize b.toNat = n at *
  by_cases h1 : (n : Int) < 48
  · rw [if_neg (by omega)] at hd
    subst hd
    have g1 : decide ((n : Int) < 48) = true := decide_eq_true h1
    clear hb
    go_enter Tryz.func74, Tryz.ntmps74
    go_wp2
    go_ret
    exact ⟨rfl, Below.refl _ _⟩
  · by_cases h2 : 57 < (n : Int)
    · rw [if_neg (by omega)] at hd
      subst hd
      have g1 : decide ((n : Int) < 48) = false := decide_eq_false h1
      have g2 : decide (57 < (n : Int)) = true := decide_eq_true h2
      clear hb
      go_enter Tryz.func74, Tryz.ntmps74
      go_wp2
      go_ret
      exact ⟨rfl, Below.refl _ _⟩
    · rw [if_pos (by omega)] at hd
      have g1 : decide ((n : Int) < 48) = false := decide_eq_false h1
      have g2 : decide (57 < (n : Int)) = false := decide_eq_false h2
      have e1 : ((n : Int) - 48) % 256 = (n : Int) - 48 := by omega
      have e2 : wrap64 ((n : Int) - 48) = (n : Int) - 48 := wrap64_in _ (by omega) (by omega)
      have e3 : IntKind.u8.wrap ((n : Int) - 48) = (n : Int) - 48 := e1
      subst hd
      clear hb
      go_enter Tryz.func74, Tryz.ntmps74
      go_wp2
      go_ret
      exact ⟨rfl, Below.refl _ _⟩

def lettI (b : UInt8) : Int := match letN b with | some n => (n : Int) | none => -1
theorem letB_letN {b : UInt8} {n : Nat} (h : letN b = some n) : letB n = b := by
  unfold letN List.idxOf? at h
  rw [List.findIdx?_eq_some_iff_getElem] at h
  obtain ⟨hlt, heq, _⟩ := h
  unfold letB
  rw [List.getD_eq_getElem?_getD, List.getElem?_eq_getElem hlt]
  simpa using heq
theorem lettI_yes {n : Nat} (h : n < 64) : lettI (letB n) = (n : Int) := by unfold lettI; rw [letN_letB h]
theorem lettI_no {b : UInt8} (h : ∀ n, n < 64 → letB n ≠ b) : lettI b = -1 := by
  unfold lettI
  cases e : letN b with
  | none => rfl
  | some n => exact absurd (letB_letN e) (h n (letN_lt e))
theorem lets_at (j : Nat) (h : j < 64) : (⟨#[65, 66, 67, 68, 69, 70, 71, 72, 73, 74, 75, 76, 77, 78, 79, 80, 81, 82, 83, 84, 85, 86, 87, 88, 89, 90, 97, 98, 99, 100, 101, 102, 103, 104, 105, 106, 107, 108, 109, 110, 111, 112, 113, 114, 115, 116, 117, 118, 119, 120, 121, 122, 48, 49, 50, 51, 52, 53, 54, 55, 56, 57, 43, 47]⟩ : ByteArray)[j]'h = letB j := by
  unfold letB
  rw [List.getD_eq_getElem?_getD, List.getElem?_eq_getElem (show j < lets.length from h)]
  rfl
theorem toNat_ne {a b : UInt8} (h : a ≠ b) : ((a.toNat : Int) == (b.toNat : Int)) = false := by
  rw [beq_eq_false_iff_ne]
  intro e
  exact h (UInt8.toNat_inj.1 (by omega))
set_option maxRecDepth 100000 in
theorem letter14_any (b : UInt8) (w : World) : Calls Tryz.prog 76 #[.int .u8 (b.toNat : Int)] w (PostV w (.int .i64 (lettI b))) := by
  go_enter Tryz.func76, Tryz.ntmps76
  go_wp2
  go_loopw [3] (fun i wr => ∃ k : Nat, k ≤ 64 ∧ i = .int .i64 (k : Int) ∧ Hid (∀ n, n < k → letB n ≠ b) ∧ wr = w) (fun i _ => 64 - (intOf i).toNat)
  case atStart => exact ⟨0, Nat.zero_le _, rfl, Lib.hid (fun n h => absurd h (Nat.not_lt_zero n)), rfl⟩
  case round =>
    obtain ⟨k, hk, rfl, hno, hwe⟩ := hrel
    subst hwe
    have hk0 : (0 : Int) ≤ (k : Int) := by omega
    by_cases hlk : k < 64
    · have hk1 : (k : Int) < 64 := by omega
      have hat := lets_at k hlk
      by_cases hb : letB k = b
      · have hR := lettI_yes hlk
        rw [hb] at hR
        rw [hR]
        have hbb : (((letB k).toNat : Int) == (b.toNat : Int)) = true := by rw [hb]; simp
        clear hb hR
        go_wp2
        go_ret
        exact ⟨rfl, Below.refl _ _⟩
      · have hbb := toNat_ne hb
        have hn2 : ∀ n, n < k + 1 → letB n ≠ b := fun n h => by
          by_cases g : n = k
          · rw [g]; exact hb
          · exact hno.out n (by omega)
        replace hn2 := Lib.hid hn2
        clear hb
        go_wp2
        go_roundw
        case rel => exact ⟨k + 1, by omega, by go_num, hn2, by first | rfl | trivial⟩
        case measure => simp [intOf]; omega
    · have hR : lettI b = -1 := lettI_no fun n h => hno.out n (by omega)
      rw [hR]
      have hk1 : ¬ (k : Int) < 64 := by omega
      go_wp2
      go_ret
      exact ⟨rfl, Below.refl _ _⟩

theorem results_tmp4 {fn : Func} {t u v x : Tmp} (h : fn.results = #[.tmp t, .tmp u, .tmp v, .tmp x]) (tmps : Array Value) (P : Program) (w : World) :
    (results fn tmps).run P w = .ok (.tuple #[tmps.getD t undef, tmps.getD u undef, tmps.getD v undef, tmps.getD x undef]) w := by
  unfold results; rw [h]; simp [Sem.run_bind, Sem.run_pure, Result.andThen]
/-- What Form hands back. -/
def FormPost (w : World) (H : Snap) (o : Option Frm) : Ending → World → Prop := fun e w' =>
  match o with
  | none => e = .returned (.tuple #[.int .i64 0, .slice none 0 0, .string ⟨#[]⟩, .bool false]) ∧ Below w.heap.size w w'
  | some f => ∃ v H', e = .returned (.tuple #[.int .i64 (f.many : Int), v, .string (strB (unsix f.rest)), .bool true]) ∧ Ext w H w' H' ∧ Sl H' v f.l
theorem two_digits {x y : Int} (hx : 0 ≤ x ∧ x ≤ 9) (hy : 0 ≤ y ∧ y ≤ 9) : IntKind.i64.wrap (x * 10) = x * 10 ∧ wrap64 (x * 10 + y) = x * 10 + y := ⟨IntWalk.i64_in _ (by omega), wrap64_in _ (by omega) (by omega)⟩
theorem digI_bd {b : UInt8} (h : 0 ≤ digI b) : 0 ≤ digI b ∧ digI b ≤ 9 := by obtain ⟨d, h1, h2, _⟩ := digI_some h; omega
theorem within_ok {n lo hi : Int} (h1 : lo ≤ n) (h2 : n ≤ hi) : within n lo hi = true := within_iff.2 ⟨h1, h2⟩
theorem within_no {n lo hi : Int} (h : n < lo ∨ hi < n) : within n lo hi = false := by
  cases e : within n lo hi with
  | false => rfl
  | true => have := within_iff.1 e; omega
theorem unsix_add {r : List UInt8} {k : Nat} {x : UInt8} {n : Nat} (h : At r k x) (hn : letN x = some n) : unsix (r.take (k + 1)) = unsix (r.take k) ++ binB n 6 := by
  rw [h.take, unsix_snoc, hn]; rfl
theorem drop_two {s r : List UInt8} {k i0 : Nat} (hrd : ∀ j, s.drop (4 + j) = r.drop j) (hi : i0 = 4 + 2 * k) (h2 : 2 * (k + 1) ≤ r.length) :
    ∃ c b r', r.drop (2 * k) = c :: b :: r' ∧ r.drop (2 * (k + 1)) = r' ∧ At s i0 c ∧ At s (i0 + 1) b := by
  have e := hrd (2 * k)
  rw [← hi] at e
  have hl : 2 ≤ (r.drop (2 * k)).length := by rw [List.length_drop]; omega
  match h : r.drop (2 * k), hl with
  | c :: b :: r', _ =>
    refine ⟨c, b, r', rfl, ?_, ?_, ?_⟩
    · rw [show 2 * (k + 1) = 2 * k + 2 by omega, ← List.drop_drop, h]; rfl
    · have h1 : (s.drop i0)[0]? = some c := by rw [e, h]; rfl
      rw [List.getElem?_drop] at h1; exact h1
    · have h1 : (s.drop i0)[1]? = some b := by rw [e, h]; rfl
      rw [List.getElem?_drop] at h1; exact h1
theorem sym_facts {b : UInt8} : IntKind.i64.wrap (b.toNat : Int) = (b.toNat : Int) ∧ IntKind.i64.wrap ((b.toNat : Int) - 65) = (b.toNat : Int) - 65 ∧ IntKind.i64.wrap ((b.toNat : Int) - 65 + 1) = (b.toNat : Int) - 64 ∧ I64 ((b.toNat : Int) - 64) ∧ I64 (b.toNat : Int) := by
  have h := b.toNat_lt
  refine ⟨IntWalk.i64_in _ (by omega), IntWalk.i64_in _ (by omega), ?_, by unfold I64; omega, by unfold I64; omega⟩
  rw [IntWalk.i64_in _ (by omega)]; omega
theorem within_sym {b : UInt8} : within ((b.toNat : Int) - 64) 1 15 = decide (65 ≤ b.toNat ∧ b.toNat ≤ 79) := by
  by_cases h : 65 ≤ b.toNat ∧ b.toNat ≤ 79
  · rw [decide_eq_true h]; exact within_ok (by omega) (by omega)
  · rw [decide_eq_false h]; exact within_no (by omega)
theorem at_rest {s r : List UInt8} {n jj t : Nat} {x : UInt8} (hrd : ∀ j, s.drop (4 + j) = r.drop j) (hj : jj = 4 + 2 * n + t) (h : At (r.drop (2 * n)) t x) : At s jj x := by
  rw [← hrd (2 * n)] at h
  unfold At at *
  rw [List.getElem?_drop] at h
  rw [hj]; exact h
theorem lettI_some {x : UInt8} (h : 0 ≤ lettI x) : ∃ n, n < 64 ∧ letN x = some n ∧ lettI x = (n : Int) := by
  unfold lettI at *
  cases e : letN x with
  | none => rw [e] at h; simp only [] at h; omega
  | some n => exact ⟨n, letN_lt e, rfl, rfl⟩
theorem lettI_none {x : UInt8} (h : lettI x < 0) : letN x = none := by
  unfold lettI at *
  cases e : letN x with
  | none => rfl
  | some n => rw [e] at h; simp only [] at h; omega
theorem pr_fit {l : List Pr} (h : l.length ≤ 100) : (l.length + 1) * Enc.by_ Pr ≤ 140737488355328 ∧ l.length + 1 ≤ 9223372036854775807 := by
  have e : Enc.by_ Pr = 16 := rfl
  rw [e]; omega
theorem ext_put' {w : World} {H : Snap} (hw : Holds H w) (cs : Array Value) (T : TypeId) : Ext w H (w.alloc (.cells cs T)).drew (H.put w.heap.size (.cells cs T (0, 0))) := (ext_put hw cs T).drew
/-- One symbol of a form: what its round needs. -/
structure SymR (s : ByteArray) (R : Option Frm) (n k i0 : Nat) (last : Int) (l : List Pr) (r : List UInt8) (c0 b0 : UInt8) (j1 : Nat) : Prop where
  z0 : i0 < s.size
  z1 : j1 < s.size
  s0 : s[i0]'z0 = c0
  s1 : s[j1]'z1 = b0
  ej : IntKind.i64.wrap ((i0 : Int) + 1) = (j1 : Int)
  p0 : (0 : Int) ≤ (i0 : Int)
  p1 : (i0 : Int) < (s.size : Int)
  p2 : (0 : Int) ≤ (j1 : Int)
  p3 : (j1 : Int) < (s.size : Int)
  no : ¬ (last < (c0.toNat : Int) ∧ okSym (c0.toNat : Int) = true ∧ (65 ≤ b0.toNat ∧ b0.toNat ≤ 79)) → R = none
  yes : last < (c0.toNat : Int) → okSym (c0.toNat : Int) = true → (65 ≤ b0.toNat ∧ b0.toNat ≤ 79) → symsA n (-1) r = (symsA (n - (k + 1)) (c0.toNat : Int) (r.drop (2 * (k + 1)))).map fun x => (l ++ [⟨(c0.toNat : Int), (b0.toNat : Int) - 64⟩] ++ x.1, x.2)
  bd : -1 ≤ (c0.toNat : Int) ∧ (c0.toNat : Int) < 256
  nx : i0 + 2 = 4 + 2 * (k + 1) ∧ k + 1 ≤ n ∧ i0 + 2 ≤ 196 ∧ i0 + 2 ≤ 4 + 2 * n
theorem syms_round {s : ByteArray} {r : List UInt8} {n k i0 m : Nat} {last : Int} {l : List Pr} {R : Option Frm} (hs15 : s.size ≤ 1500) (hrd : ∀ j, (bys s).drop (4 + j) = r.drop j) (h2n : 2 * n ≤ r.length) (hn : n ≤ 96) (hie : i0 = 4 + 2 * k) (hkn : k < n)
    (hsy : symsA n (-1) r = (symsA (n - k) last (r.drop (2 * k))).map fun x => (l ++ x.1, x.2))
    (hR : R = (match symsA n (-1) r with
        | some (l, rest) => if rest.all (fun b => (letN b).isSome) then some (⟨m, l, rest⟩ : Frm) else none
        | none => none)) : ∃ c0 b0 j1, SymR s R n k i0 last l r c0 b0 j1 := by
  obtain ⟨c0, b0, r', ed, ed2, hc0, hb0⟩ := drop_two hrd hie (by omega)
  have hz0 : i0 < s.size := by have h1 := hc0.lt; rw [bys_len] at h1; exact h1
  have hz1 : i0 + 1 < s.size := by have h1 := hb0.lt; rw [bys_len] at h1; exact h1
  obtain ⟨j, hj⟩ : ∃ j, n - k = j + 1 := ⟨n - k - 1, by omega⟩
  rw [hj, ed] at hsy
  have hc9 := c0.toNat_lt
  refine ⟨c0, b0, i0 + 1, hz0, hz1, bys_at hz0 hc0, bys_at hz1 hb0, ?_, by omega, by omega, by omega, by omega, fun h => ?_, fun h1 h2 h3 => ?_, by omega, by omega⟩
  · rw [IntWalk.i64_in _ (by omega)]; omega
  · rw [hsy, symsA_no h] at hR
    exact hR
  · rw [hsy, symsA_yes ⟨h1, h2, h3⟩, ed2, show n - (k + 1) = j by omega, Option.map_map]
    congr 1
    funext x
    simp
end Go.Proofs.YthcfhmebikcfpaaGreatDoor
