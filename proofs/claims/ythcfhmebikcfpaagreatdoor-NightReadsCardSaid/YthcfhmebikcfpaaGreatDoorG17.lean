/- Lemmas and walks on which the claims of this seat lean: NGf. -/
import Derived.Test.YthcfhmebikcfpaaGreatDoorG13
import Derived.Test.YthcfhmebikcfpaaGreatDoorG16

set_option linter.all false

namespace Go.Proofs.YthcfhmebikcfpaaGreatDoor
open Go.RowKit

attribute [local go_sem] Holds.drew Holds.alloc Holds.drewN WB.holds Oper.semAt_some FW_fn FW_dep FW_round

theorem ints_rep (k : Nat) : ints (List.replicate (k + 1) 0) = ints (List.replicate k 0) ++ [(0 : Int)] := by unfold ints; rw [List.replicate_succ']; simp
theorem wpListIn_app {α : Type} [Enc α] {P : Program} {H : Snap} {base : Nat} {w : World} {t e : TypeId} {v : Value} {xs ys : List α} {ops : Array Oper} {rest : List Oper} {o : Oper} {a : Act} {Q : Exit → Act → World → Prop} {r : Option Nat} {k : Nat} (T : ElemT P t e α) (hgd : o.guard = none) (s x : Operand) (ho : o.op = .call { callee := .builtin .append, args := #[s, x], argTypes := #[t, t] })
    (hs : a.eval s = v) (hown : Own H base w e v xs) {u : Value} (hx : a.eval x = u) (hu : Sl H u ys) (hw : Holds H w) (hlen : (xs.length + ys.length) * Enc.by_ α ≤ 140737488355328) (h63 : xs.length + ys.length ≤ 9223372036854775807) (hb : base ≤ w.heap.size)
    (h : ∀ v' w', Own H base w' e v' (xs ++ ys) → w.grownBy w' v.ownBlock → Holds H w' → wpListIn (FW r) k P ops Q rest (a.put o.dst v') w') : wpListIn (FW r) k P ops Q (o :: rest) a w := by
  obtain ⟨v', w', hr, h2, h3, h4, _⟩ := run_app (P := P) T o.type hown hu hw hlen h63 hb
  refine wpListIn_plain hgd fun K hK => ?_
  unfold Oper.wpIn
  refine ⟨fun _ _ => trivial, ?_⟩
  rw [Oper.semAt_eq _ _ _ (fun c e => by rw [ho] at e; cases e)]
  unfold execOp
  simp only [ho, resolve, invoke, builtin, Sem.run_bind, Sem.run_pure, Result.andThen_ok, List.map_toArray, List.map_cons, List.map_nil, hs, hx, hr]
  exact hK _ _ (h v' w' h2 h3 h4)
theorem sym_fit {a b : Nat} (h : a + b ≤ 256) : (a + b) * 8 ≤ 140737488355328 ∧ a + b ≤ 9223372036854775807 := ⟨by omega, by omega⟩
theorem app_fit {xs ys : List Nat} (h : xs.length + ys.length ≤ 256) : ((ints xs).length + (ints ys).length) * Enc.by_ Int ≤ 140737488355328 ∧ (ints xs).length + (ints ys).length ≤ 9223372036854775807 := by
  rw [ints_len, ints_len]; exact sym_fit h
theorem cut_fit {cur : List Nod} {q cc : Nat} (h : q < cur.length) (hc : cur.length ≤ cc) (hl : cur.length ≤ 256) : wrap64 ((q : Int) + 1) = (q : Int) + 1 ∧ (0 : Int) ≤ (q : Int) + 1 ∧ (q : Int) + 1 ≤ (cur.length : Int) ∧ q ≤ cc ∧
    ((([] : List Nod).length + (cur.take q).length) * Enc.by_ Nod ≤ 140737488355328 ∧ ([] : List Nod).length + (cur.take q).length ≤ 9223372036854775807) ∧ (((cur.take q).length + (cur.drop (q + 1)).length) * Enc.by_ Nod ≤ 140737488355328 ∧ (cur.take q).length + (cur.drop (q + 1)).length ≤ 9223372036854775807) := by
  have e : Enc.by_ Nod = 32 := rfl
  rw [e, List.length_take, List.length_drop, List.length_nil, Nat.min_eq_left (Nat.le_of_lt h)]
  exact ⟨wrap64_in _ (by omega) (by omega), by omega, by omega, by omega, ⟨by omega, by omega⟩, by omega, by omega⟩
theorem cut_fit2 {q n cc : Nat} (h : q < n) (hc : n ≤ cc) (hl : n ≤ 256) : IntKind.i64.wrap ((q : Int) + 1) = (q : Int) + 1 := IntWalk.i64_in _ (by omega)
theorem join_light {ws : List Nat} {nl : List Nod} {bits : List Nat} (F : Forest ws nl bits) (h2 : 2 ≤ nl.length) (hsum : ws.sum ≤ 100000) : (joinX nl).w ≤ 1000000 := by
  obtain ⟨F2, hnd, hlt2, hout2⟩ := F.join h2
  have h1 := F2.weigh (joinX nl) (by simp)
  have h3 := sum_mem (f := bitAt ws) (n := ws.length) hnd (fun i hi => by rw [← F.len]; exact hlt2 i hi)
  have h4 : sumOn (fun i => if i ∈ (joinX nl).s then bitAt ws i else 0) (List.range ws.length) ≤ sumOn (bitAt ws) (List.range ws.length) := sumOn_le fun x _ => by
    show (if x ∈ (joinX nl).s then bitAt ws x else 0) ≤ bitAt ws x
    split <;> omega
  have h5 := costKey ws
  omega
/-- The node that was made is frozen. -/
theorem TSt.shut {w0 w : World} {H0 H : Snap} {XB : Nat} {lv bv sv : Value} {nl : List Nod} {bits xs : List Nat} {xw : Nat} (t : TSt w0 H0 XB w H lv nl bv bits xw xs sv) :
    ∃ H', SLe H H' ∧ GSt w0 H0 w H' lv nl bv bits ∧ Sl H' sv (ints xs) ∧ H' XB = some (.cells #[.int .i64 (xw : Int), sv] 100 (0, 0)) := by
  obtain ⟨H1, l1, hw1, hs1, same1⟩ := t.s.freeze t.g.x.holds
  have hx1 : Ext w0 H0 w H1 := ⟨t.g.x.below, hw1, fun b hb => (same1 b (fun e => by have := (t.s.lt b e).1; have := t.xbl; omega)).trans (t.g.x.same b hb)⟩
  have hn : ∀ k, lv.ownBlock = some k → sv.ownBlock ≠ some k := fun k e1 e2 => by
    obtain ⟨c1, h1⟩ := t.g.n.row_type e1
    obtain ⟨c2, h2⟩ := t.s.row_type e2
    rw [h1] at h2
    simp at h2
  have hb : ∀ k, bv.ownBlock = some k → sv.ownBlock ≠ some k := fun k e1 e2 => by
    have h1 := t.lb k e1
    have h2 := (t.s.lt k e2).1
    omega
  have hX : H1 XB = none := (same1 XB t.sXB).trans t.xbH
  have n1 := t.g.n.up l1 fun k hk => (same1 k (hn k hk)).trans (t.g.n.free k hk)
  have b1 := t.g.b.up l1 fun k hk => (same1 k (hb k hk)).trans (t.g.b.free k hk)
  have l2 := Snap.le_put hX (.cells #[.int .i64 (xw : Int), sv] 100 (0, 0))
  refine ⟨_, l1.trans l2, ⟨hx1.freeze t.xbl t.xb, n1.up l2 fun k hk => ?_, b1.up l2 fun k hk => ?_⟩, hs1.mono l2, Snap.put_same _ _ _⟩
  · rw [Snap.put_other _ _ (fun e => t.ln (by rw [hk, e]))]; exact n1.free k hk
  · rw [Snap.put_other _ _ (fun e => Nat.lt_irrefl _ (t.lb XB (by rw [hk, e])))]; exact b1.free k hk
theorem out_fit {k n : Nat} (h : k ≤ n) (hn : n ≤ 256) : (k + 1) * Enc.by_ Pr ≤ 140737488355328 ∧ k + 1 ≤ 9223372036854775807 := by
  have e : Enc.by_ Pr = 16 := rfl
  rw [e]; omega
def slLen : Value → Nat
  | .slice _ n _ => n
  | _ => 0
def storeNe (x y : Value) : Sem Unit := Instr.storeAt 100 x y
theorem storeAt_ne (x y : Value) : Instr.storeAt 100 x y = storeNe x y := rfl
theorem size_ne : (Tryz.prog.info? 100).map (·.size) = some 2 := by kernel_rfl
theorem run_storeNe_new {w : World} {n : Int} {a : Option Addr} {len c : Nat} :
    (storeNe (.pointer (some ⟨w.heap.size, 0, none⟩)) (.agg #[.int .i64 n, .slice a len c])).run Tryz.prog (w.alloc (.cells #[.int .i64 n, .slice a len c] 100)) = .ok () (w.alloc (.cells #[.int .i64 n, .slice a len c] 100)) := by
  have hn := heap_alloc_new w (.cells #[.int .i64 n, .slice a len c] 100)
  have c0 : (w.alloc (.cells #[.int .i64 n, .slice a len c] 100)).cell? ⟨w.heap.size, 0, none⟩ = some (.int .i64 n) := by rw [Lib.cell_of_heap hn]; rfl
  have c1 : (w.alloc (.cells #[.int .i64 n, .slice a len c] 100)).cell? ⟨w.heap.size, 1, none⟩ = some (.slice a len c) := by rw [Lib.cell_of_heap hn]; rfl
  have hth : (w.alloc (.cells #[.int .i64 n, .slice a len c] 100)).there w.heap.size 0 2 := fun j hj => by
    have : j = 0 ∨ j = 1 := by omega
    rcases this with rfl | rfl
    · exact ⟨by rw [c0]; rfl, Lib.frozen_of_heap hn 0⟩
    · exact ⟨by rw [c1]; rfl, Lib.frozen_of_heap hn 1⟩
  have h := run_storeAt_mid (P := Tryz.prog) _ w.heap.size 0 100 #[.int .i64 n, .slice a len c] hth size_ne (by simp; exact ⟨rfl, rfl⟩)
  refine Eq.trans h ?_
  show Result.ok () (((w.alloc (.cells #[.int .i64 n, .slice a len c] 100)).setCell ⟨w.heap.size, 0, none⟩ (.int .i64 n)).setCell ⟨w.heap.size, 1, none⟩ (.slice a len c)) = _
  rw [setCell_id c0, setCell_id c1]
theorem add_w {a b t : Nat} (h1 : a ≤ 1000000 * t) (h2 : b ≤ 1000000) (ht : t < 2) : wrap64 ((a : Int) + (b : Int)) = (a : Int) + (b : Int) ∧ a + b ≤ 1000000 * (t + 1) := ⟨wrap64_in _ (by omega) (by omega), by omega⟩
theorem TSt.start {w0 w : World} {H0 H : Snap} {lv bv : Value} {nl : List Nod} {bits : List Nat} (s : GSt w0 H0 w H lv nl bv bits) :
    TSt w0 H0 w.heap.size (w.alloc (.cells #[.int .i64 0, .slice none 0 0] 100)) H lv nl bv bits 0 [] (.slice none 0 0) :=
  ⟨s.alloc _, heap_alloc_new _ _, s.x.holds.none_of_ge (Nat.le_refl _), s.x.below.size, Own.nil _ _ _ _, fun g h => (s.b.lt g h).2, fun e => Nat.lt_irrefl _ (s.n.lt _ e).2⟩
attribute [local go_sem] run_storeNe_new
attribute [local go_sem ↓] storeAt_ne
set_option maxRecDepth 100000 in
set_option maxHeartbeats 4000000 in
theorem lengthsOf14_walk (s : ByteArray) (l : List Pr) (hl : l.length ≤ 256) (hn : ∀ p ∈ l, 0 ≤ p.n) (hsum : (wsOf l).sum ≤ 100000) (hcw : ∀ (W : World) (H : Snap), Holds H W → Calls Tryz.prog 41 #[.string s] W (PostO W H 69 l)) (H : Snap) (w : World) (hw : Holds H w) :
    Calls Tryz.prog 44 #[.string s] w (PostO w H 47 (lensOf l)) := by
  have hmem : ∀ p ∈ l, p.n.toNat ≤ 100000 := fun p hp => by
    have := sumOn_mem (f := fun x => x) (show p.n.toNat ∈ wsOf l from List.mem_map.2 ⟨p, hp, rfl⟩)
    rw [← sum_sumOn] at this
    omega
  have hI0 := Lib.hid (show I64 (0 : Int) by unfold I64; omega)
  replace hcw := Lib.hid hcw
  replace hmem := Lib.hid hmem
  go_enter Tryz.func44, Tryz.ntmps44
  go_wp2_with (first | ((go_at_call 41; refine (hcw.out _ H hw).mono ?_; rintro e w2 ⟨v2, H2, rfl, x2, o2⟩; obtain ⟨Ha, xa, _, hs, _⟩ := o2.close x2; obtain ⟨a, c, rfl, _, _⟩ := o2.form)))
  clear o2 x2 hcw
  go_loopw [4, 5, 6] (fun lv bv i wr => ∃ k : Nat, k ≤ l.length ∧ i = .int .i64 (k : Int) ∧ ∃ Hr : Snap, SLe Ha Hr ∧ GSt w H wr Hr lv (startTo l k) bv (List.replicate k 0)) (fun _ _ i _ => l.length - (intOf i).toNat)
  case atStart => exact ⟨0, Nat.zero_le _, rfl, Ha, SLe.refl _, xa, Own.nil _ _ _ _, Own.nil _ _ _ _⟩
  case round =>
    obtain ⟨k, hk, rfl, Hr, hle, st⟩ := hrel
    have hwr := st.x.holds
    by_cases hlk : k < l.length
    · obtain ⟨p, hp⟩ := At.mk hlk
      have hsr := hs.mono hle
      obtain ⟨b, o, c', he, hi, r1, r2⟩ := hsr.pr hp
      cases he
      have hk0 : (0 : Int) ≤ (k : Int) := by omega
      have hk1 : (k : Int) < (l.length : Int) := by omega
      have hpn := hn p hp.mem
      have hpm := hmem.out p hp.mem
      have st3 := st.ext (ext_put st.x.holds #[.int .i64 (k : Int)] 3)
      have hsl := startTo_len l hk
      have hrep : Enc.rep (Hr.put wr.heap.size (.cells #[.int .i64 (k : Int)] 3 (0, 0))) (⟨p.n.toNat, [k]⟩ : Nod) [.int .i64 p.n, .slice (some ⟨wr.heap.size, 0, none⟩) 1 1] := by
        refine ⟨_, by rw [show ((p.n.toNat : Nat) : Int) = p.n by omega], show p.n.toNat ≤ 1000000 by omega, ?_⟩
        refine ⟨_, 1, rfl, Nat.le_refl _, by omega, by simp [ints, Enc.by_], .inr ⟨wr.heap.size, 0, #[.int .i64 (k : Int)], 3, (0, 0), rfl, Snap.put_same _ _ _, by simp [ints, Enc.sz], ?_⟩⟩
        exact ⟨[.int .i64 (k : Int)], [], by simp [ints, Enc.sz], ⟨rfl, (by show I64 ((k : Nat) : Int); unfold I64; omega)⟩, rfl⟩
      have hle2 : SLe Ha (Hr.put wr.heap.size (.cells #[.int .i64 (k : Int)] 3 (0, 0))) := hle.trans (Snap.le_put (st.x.holds.none_of_ge (Nat.le_refl _)) _)
      have hb32 : ((startTo l k).length + 1) * Enc.by_ Nod ≤ 140737488355328 := by rw [hsl]; show (k + 1) * 32 ≤ _; omega
      have hb63 : (startTo l k).length + 1 ≤ 9223372036854775807 := by omega
      have hc32 : ((ints (List.replicate k 0)).length + 1) * Enc.by_ Int ≤ 140737488355328 := by rw [ints_len, List.length_replicate]; show (k + 1) * 8 ≤ _; omega
      have hc63 : (ints (List.replicate k 0)).length + 1 ≤ 9223372036854775807 := by rw [ints_len, List.length_replicate]; omega
      have hnx := startTo_succ hp
      have hnr := ints_rep k
      have hwk : wrap64 ((k : Int) + 1) = (k : Int) + 1 := wrap64_in _ (by omega) (by omega)
      replace hb32 := Lib.hid hb32
      replace hb63 := Lib.hid hb63
      replace hc32 := Lib.hid hc32
      replace hc63 := Lib.hid hc63
      replace hnx := Lib.hid hnx
      replace hnr := Lib.hid hnr
      replace hrep := Lib.hid hrep
      replace st3 := Lib.hid st3
      replace hle2 := Lib.hid hle2
      clear hsl hpn hpm hi st hle
      go_upto_region 7 with fail
      go_wp2_with (first | ((at_builtin; have hgd := st5; clear hgd; go_must (refine wpList_app1 (c := 1) (x := (0 : Int)) (cs := [.int .i64 0]) eInt rfl _ _ rfl rfl st5.b rfl ⟨rfl, hI0.out⟩ st5.x.holds hc32.out hc63.out (st5.x.below.size) ?_); intro v6 w6 own6 g6 hw6 _; have st7 := (st5.alloc _).putB (bits' := List.replicate (k + 1) 0) g6 (by rw [hnr.out]; exact own6))) | ((at_builtin; have hgd := hrep; clear hgd; go_must (refine wpList_app1 (c := 1) eNod14 rfl _ _ rfl rfl st3.out.n (show _ = _ from by show Value.slice (some ⟨wr.heap.size + 1, 0, none⟩) 1 1 = Value.slice (some ⟨(wr.alloc (.cells #[.int .i64 (k : Int)] 3)).heap.size, 0, none⟩) 1 1; rw [World.size_alloc]) hrep.out st3.out.x.holds hb32.out hb63.out (st3.out.x.below.size) ?_); intro v' w' own' gw hw' _; have st5 := (st3.out.alloc _).putN gw own')))
      go_roundw
      case rel => exact ⟨k + 1, by omega, by go_num, _, hle2.out, by rw [hnx.out]; exact st7⟩
      case measure => simp [intOf]; omega
    · have : k = l.length := by omega
      subst this
      have hst : startTo l l.length = startN (wsOf l) := by unfold startTo; rw [List.take_length]
      rw [hst] at st
      have hwl : (wsOf l).length = l.length := by unfold wsOf; simp
      obtain ⟨bits0, hb0, hbl⟩ : ∃ bits0, bits0 = (if (wsOf l).length = 1 then [1] else List.replicate (wsOf l).length 0) ∧ bits0.length = l.length := ⟨_, rfl, by split <;> simp_all⟩
      have hhuff : huffGo l.length (startN (wsOf l)) bits0 = huff (wsOf l) := by unfold huff; rw [hb0, hwl]
      have hF : Forest (wsOf l) (startN (wsOf l)) bits0 := Forest.start (by rw [hbl, hwl])
      have hbb : ∀ i, bitAt bits0 i + (startN (wsOf l)).length ≤ l.length + 1 := fun i => by
        rw [startN_len, hwl, hb0]
        split
        · have : bitAt [1] i ≤ 1 := by
            unfold bitAt
            rw [List.getD_eq_getElem?_getD]
            cases i with
            | zero => exact Nat.le_refl _
            | succ i => exact Nat.zero_le _
          omega
        · rw [bitAt_zero]; omega
      have hsl : (startN (wsOf l)).length = l.length := by rw [startN_len, hwl]
      have hfull : ∀ x ∈ startN (wsOf l), 0 < x.s.length := fun x hx => by
        obtain ⟨i, _, rfl⟩ := List.mem_mapIdx.1 hx
        exact Nat.one_pos
      obtain ⟨n0, hn0⟩ : ∃ n0, n0 = startN (wsOf l) := ⟨_, rfl⟩
      rw [← hn0] at st hhuff hF hbb hsl hfull
      obtain ⟨bz, hbz⟩ : ∃ bz, bz = List.replicate l.length 0 := ⟨_, rfl⟩
      have hbzl : bz.length = l.length := by rw [hbz]; simp
      rw [← hbz] at st
      obtain ⟨an, cn, rfl, _, _⟩ := st.n.form
      obtain ⟨ab, cb, rfl, _, _⟩ := st.b.form
      have hil : (ints bz).length = l.length := by rw [ints_len, hbzl]
      rw [hsl, hil] at st
      rw [hsl, hil]
      clear hil
      obtain ⟨BV, hBV⟩ : ∃ BV, Hid (BV = Value.slice ab l.length cb) := ⟨_, Lib.hid rfl⟩
      clear hst hmem hn0
      replace hhuff := Lib.hid hhuff
      replace hfull := Lib.hid hfull
      replace hbb := Lib.hid hbb
      replace hsl := Lib.hid hsl
      by_cases h1 : l.length = 1
      case' pos =>
        obtain ⟨g, cg, eo, hgl, s1, fz, hset⟩ := st.setB (k := 0) (b := 0) (by rw [hbz, h1]; rfl)
        rw [hbzl] at eo
        cases eo
        have stz := hset 1 (by omega)
        have e2 : bz.set 0 1 = bits0 := by rw [hbz, hb0, hwl, if_pos h1, h1]; rfl
        rw [e2] at stz
        have ht : ((l.length : Int) == 1) = true := by rw [beq_iff_eq]; omega
        have hi0 : (0 : Int) < (l.length : Int) := by omega
        have hi1 : 0 < l.length := by omega
        clear e2 hset hb0 h1 hbz hbzl
        go_upto_region 11 with fail
        rw [show ((1 : Nat) : Int) = 1 from rfl] at stz
        generalize wr.setCell ⟨g, 0, none⟩ (.int .i64 1) = wz at *
        rw [← hBV.out] at stz
        clear st s1 fz ht
      case' neg =>
        have e2 : bits0 = bz := by rw [hb0, hwl, if_neg h1, hbz]
        have stz := st
        rw [← e2, ← hBV.out] at stz
        have ht : ((l.length : Int) == 1) = false := by rw [beq_eq_false_iff_ne]; omega
        clear e2 hb0 h1 st hbz hbzl
        go_upto_region 11 with fail
        have hzz : ∃ wz : World, Hid (wz = wr) := ⟨_, Lib.hid rfl⟩
        generalize wr = wz at *
        clear ht hzz
      all_goals
        go_loopw [4] (fun lq wq => ∃ (n : Nat) (Hq : Snap) (nl : List Nod) (bits : List Nat), SLe Ha Hq ∧ GSt w H wq Hq lq nl BV bits ∧ Hid (huffGo n nl bits = huff (wsOf l)) ∧ nl.length ≤ n ∧ n ≤ 256 ∧ Forest (wsOf l) nl bits ∧ Hid (∀ i, bitAt bits i + nl.length ≤ l.length + 1) ∧ Hid (∀ x ∈ nl, 0 < x.s.length)) (fun lq _ => slLen lq)
        case atStart => exact ⟨l.length, Hr, _, bits0, hle, stz, hhuff, by rw [hsl.out]; exact Nat.le_refl _, hl, hF, hbb, hfull⟩
        case round =>
          clear stz hhuff hF hbb hsl hbl hfull
          obtain ⟨n, Hq, nl, bits, hleq, sq, hh, hnl, hn256, F, hbb, hfu⟩ := hrel
          obtain ⟨aq, cq, rfl, _, _⟩ := sq.n.form
          by_cases h2 : 2 ≤ nl.length
          · have ht2 : (1 : Int) < (nl.length : Int) := by omega
            have t0 := TSt.start sq
            go_upto_region 13 with fail
            generalize wr.heap.size = XB at *
            generalize wr.alloc (.cells #[.int .i64 0, .slice none 0 0] 100) = wz at *
            have hfl : (nl.flatMap Nod.s).length ≤ 256 := by
              have hpl := F.part.length_eq
              rw [List.length_range, hwl] at hpl
              omega
            have hfew := fun (k : Nat) (hk : k < 2) => stN_few h2 hfl hk
            replace hfew := Lib.hid hfew
            clear sq ht2 hfl
            go_wp2
            go_loopw [4, 8] (fun lq tv wq => ∃ (t : Nat) (Hp : Snap) (sv : Value), t ≤ 2 ∧ tv = .int .i64 (t : Int) ∧ SLe Ha Hp ∧ TSt w H XB wq Hp lq (stN nl t).2 BV bits (stN nl t).1.w (stN nl t).1.s sv ∧ (stN nl t).1.w ≤ 1000000 * t) (fun _ tv _ => 2 - (intOf tv).toNat)
            case atStart => exact ⟨0, Hq, _, by omega, rfl, hleq, t0, Nat.le_refl _⟩
            case round =>
              clear t0 hleq
              obtain ⟨t, Hp, sv, ht, rfl, hlep, T, hxw⟩ := hrel
              have ht0 : (0 : Int) ≤ (t : Int) := by omega
              by_cases htl : t < 2
              · have ht2 : (t : Int) < 2 := by omega
                have htl2 : t + 1 ≤ 2 := htl
                obtain ⟨hne, hcl, hss⟩ := hfew.out t htl
                have hnx : stN nl (t + 1) = (⟨(stN nl t).1.w + (lightN (stN nl t).2).w, (stN nl t).1.s ++ (lightN (stN nl t).2).s⟩, lightR (stN nl t).2) := rfl
                generalize stN nl t = q at *
                obtain ⟨⟨xw, xs⟩, cur⟩ := q
                simp only at hne hcl hss hnx T hxw
                obtain ⟨ac, cc, rfl, hT1, hT2⟩ := T.g.n.form
                obtain ⟨Hf, _, hwf, hsf, _⟩ := T.g.n.freeze T.g.x.holds
                have hlt := lightTo_lt hne cur.length (Nat.le_refl _)
                obtain ⟨x, hx⟩ := At.mk hlt
                have hN : lightN cur = x := by unfold lightN lightest; exact hx.getD _
                have hR : lightR cur = cur.eraseIdx (lightTo cur cur.length) := rfl
                rw [hN, hR] at hnx
                rw [hN] at hss
                obtain ⟨g, c', u, he, hxm, hsu, hbg, hHg, hgl, cx, cu, hfz⟩ := T.g.n.nod hx
                cases he
                obtain ⟨au, cu', rfl, _, _⟩ := hsu.form
                have hgx : g ≠ XB := fun e => T.ln (by rw [e]; rfl)
                have hcal := fun (W : World) (h : Holds Hf W) => lightest14_any _ cur hne (by omega) Hf W h hsf
                unfold lightest at hcal
                have hq0 : (0 : Int) ≤ ((lightTo cur cur.length : Nat) : Int) := by omega
                have hq1 : ((lightTo cur cur.length : Nat) : Int) < (cur.length : Int) := by omega
                have hqn : _ ∧ _ ∧ _ := ⟨hlt, hT1, hT2⟩
                generalize lightTo cur cur.length = q at *
                obtain ⟨hwp, hxw2⟩ := add_w hxw hxm htl
                replace hxw2 := Lib.hid hxw2
                replace hcal := Lib.hid hcal
                replace hnx := Lib.hid hnx
                replace hss := Lib.hid hss
                have hlen : cur.length ≤ 256 := Nat.le_trans hcl (Nat.le_trans hnl hn256)
                clear hN hR hne hcl hxw hxm htl hlt
                replace hqn := Lib.hid hqn
                go_upto_region 17 with (go_at_call 65; refine (hcal.out _ hwf).mono ?_; rintro e w5 ⟨rfl, hb5⟩; have y5 := (Ext.refl T.g.x.holds).step hb5 (T.g.x.holds.below hb5); have T5 := T.ext y5; have cx5 := y5.keep cx; have cu5 := y5.keep cu)
                have hw5 := T5.g.x.holds
                have k1 := fun X : WB Hp w5 => X.keep cx5
                have k2 := fun X : WB Hp w5 => X.keep (T5.setW 0).1
                refine (wpIn_wide (n := 3)).1 ?_
                show Code.wpIn (FW none) 3 _ _ _ _ _
                have hnq : Nonempty (WB Hp w5) := ⟨⟨w5, hw5, Below.refl _ _⟩⟩
                refine wpIn_region_qtail (C := fun w' => ∃ x : WB Hp w5, w' = x.w) 9 (by kernel_rfl) (by kernel_rfl) (by kernel_rfl) ⟨⟨World.drew w5, Holds.drew hw5, (Below.refl _ _).drew⟩, rfl⟩ ?_
                simp only [List.take_succ_cons, List.take_zero, List.drop_succ_cons, List.drop_zero]
                repeat go_big_quiet_step ((first | (fail)))
                refine wpQuiet_nil ?_
                clear hnq
                rintro w2 ⟨⟨_, hw2, hb2⟩, rfl⟩
                have T6 := T5.ext ⟨hb2, hw2, fun _ _ => rfl⟩
                obtain ⟨c6, f6, T7⟩ := T6.setW (xw + x.w)
                rw [Int.natCast_add] at T7
                gi_wp2
                have cu8 := (World.cell?_setCell_other w2 ⟨XB, 0, none⟩ ⟨g, q * 2 + 1, none⟩ (.int .i64 ((xw : Int) + (x.w : Int))) (by simp [hgx])).trans ((hb2.cell (p := ⟨g, q * 2 + 1, none⟩) (Nat.lt_of_lt_of_le hgl y5.below.size)).trans cu5)
                clear k1 k2 c6 f6 T6 T5 cx5 cu5 cx cu
                have hw8 := T7.g.x.holds
                generalize w2.setCell ⟨XB, 0, none⟩ (.int .i64 ((xw : Int) + (x.w : Int))) = w8 at *
                have k1 := fun X : WB Hp w8 => X.keep cu8
                obtain ⟨asv, csv, rfl, _, _⟩ := T7.s.form
                have cs8 : w8.cell? ⟨XB, 1, none⟩ = some (.slice asv (ints xs).length csv) := by rw [Lib.cell_of_heap T7.xb]; rfl
                have k2 := fun X : WB Hp w8 => X.keep cs8
                go_upto_region 18 with fail
                obtain ⟨hf8, hf63⟩ := app_fit hss.out
                replace hf8 := Lib.hid hf8
                replace hf63 := Lib.hid hf63
                refine (wpIn_wide (n := 3)).1 ?_
                show Code.wpIn (FW none) 3 _ _ _ _ _
                have hnq : Nonempty (WB Hp w8) := ⟨⟨w8, hw8, Below.refl _ _⟩⟩
                refine wpIn_region_qtail (C := fun w' => ∃ x : WB Hp w8, w' = x.w) 7 (by kernel_rfl) (by kernel_rfl) (by kernel_rfl) ⟨⟨World.drew w8, Holds.drew hw8, (Below.refl _ _).drew⟩, rfl⟩ ?_
                simp only [List.take_succ_cons, List.take_zero, List.drop_succ_cons, List.drop_zero]
                repeat go_big_quiet_step ((first | (fail)))
                refine wpQuiet_nil ?_
                clear hnq
                rintro w2 ⟨⟨_, hw2, hb2⟩, rfl⟩
                have T9 := Lib.hid (T7.ext ⟨hb2, hw2, fun _ _ => rfl⟩)
                gi_wp2_with (refine wpListIn_app eInt rfl _ _ rfl rfl T9.out.s rfl hsu hw2 hf8.out hf63.out (Nat.le_of_lt T9.out.lt) ?_; intro v10 w10 o10 g10 hw10; rw [← ints_append] at o10; obtain ⟨c10, f10, T10⟩ := T9.out.putS (xs' := xs ++ x.s) g10 o10; obtain ⟨a10, d10, rfl, _, _⟩ := o10.form)
                generalize w10.setCell ⟨XB, 1, none⟩ (.slice a10 (ints (xs ++ x.s)).length d10) = w11 at *
                obtain ⟨Hg, hlg, hwg, hsg, hsame⟩ := T10.g.n.freeze T10.g.x.holds
                obtain ⟨hql, hlc, hcm⟩ := hqn.out
                have hs1 := hsg.take (k := q) (Nat.le_of_lt hql)
                obtain ⟨A, hA, hs2⟩ := sl_tail hsg rfl hql hlc hcm
                obtain ⟨e1, e2, e3, e4, e5, e6⟩ := cut_fit hql hlc hlen
                replace e5 := Lib.hid e5
                replace e6 := Lib.hid e6
                have y0 := Ext.refl hwg
                clear k1 k2 c10 f10 T9 T7 o10 g10 cs8 cu8
                have e1' := cut_fit2 hql hlc hlen
                clear e1
                rw [show Enc.sz Nod = 2 from rfl] at hA
                have T10 := Lib.hid T10
                replace hlg := Lib.hid hlg
                replace hsame := Lib.hid hsame
                clear hsg y5 hsu hcal hss hw5 hwf hsf
                go_region_held3 (fun w' => Holds Hg w' ∧ Ext w11 Hg w' Hg) (first | assumption | exact ⟨by assumption, by assumption⟩ | (go_split_ands; exact ⟨Holds.drew (by assumption), Ext.drew (by assumption)⟩) | (go_split_ands; exact ⟨Holds.alloc (by assumption) _, Ext.alloc (by assumption) _⟩) | (go_split_ands; exact ⟨Holds.drew (Holds.alloc (by assumption) _), Ext.drew (Ext.alloc (by assumption) _)⟩)) (first | ((go_split_ands; refine step_appX (w0 := w11) (H0 := Hg) eNod14 rfl _ _ rfl (by first | exact y0.drew.alloc _ | exact (y0.alloc _).drew) rfl (by first | exact Own.emptyG rfl hwg.drew (Nat.le_refl _) | exact (Own.emptyG rfl hwg (Nat.le_refl _)).drew) rfl hs1 e5.out.1 e5.out.2 ?_; intro vB wB oB xB hwB hgB; rw [List.nil_append] at oB)) | ((go_split_ands; refine step_appX (w0 := w11) (H0 := Hg) eNod14 rfl _ _ rfl xB rfl oB rfl hs2 e6.out.1 e6.out.2 ?_; intro vC wC oC xC hwC hgC)))
                have T11 := T10.out.newF hlg.out hsame.out xC hwg oC
                rw [← List.eraseIdx_eq_take_drop_succ] at T11
                clear T10 oB oC xB hgB hgC hs1 hs2 y0 hA
                go_wp2
                go_roundw
                case rel => exact ⟨t + 1, Hg, _, htl2, by go_num, hlep.trans hlg.out, by rw [hnx.out]; exact T11, by rw [hnx.out]; exact hxw2.out⟩
                case measure => simp [intOf]; omega
              · have h22 : t = 2 := by omega
                subst h22
                have hj2 := stN_two nl
                rw [hj2] at T hxw
                have hlight := join_light F h2 hsum
                obtain ⟨Hc, hlc, sC, hsC, hXB⟩ := T.shut
                obtain ⟨aS, cS, rfl, _, _⟩ := hsC.form
                obtain ⟨ac, cc, rfl, _, _⟩ := sC.n.form
                have cX0 : ∀ w', Holds Hc w' → w'.cell? ⟨XB, 0, none⟩ = some (.int .i64 ((joinX nl).w : Int)) := fun w' hw' => cellH hXB hw' 0
                have cX1 : ∀ w', Holds Hc w' → w'.cell? ⟨XB, 1, none⟩ = some (.slice aS (ints (joinX nl).s).length cS) := fun w' hw' => cellH hXB hw' 1
                obtain ⟨F2, hnd, hlt2, hout2⟩ := F.join h2
                have hblen : bits.length = l.length := by rw [F.len, hwl]
                have hxl : (joinX nl).s.length ≤ 256 := by
                  have hjp := (join_perm h2).1
                  have hfl := (flat_perm hjp).length_eq
                  have hpl := F.part.length_eq
                  simp only [List.flatMap_cons, List.length_append] at hfl
                  rw [List.length_range, hwl] at hpl
                  show ((lightN nl).s ++ (lightN (lightR nl)).s).length ≤ 256
                  rw [List.length_append]
                  omega
                have hjs : 0 < (joinX nl).s.length := by
                  have := hfu.out _ ((join_perm h2).1.mem_iff.2 (by simp : lightN nl ∈ lightN nl :: lightN (lightR nl) :: joinR nl))
                  show 0 < ((lightN nl).s ++ (lightN (lightR nl)).s).length
                  rw [List.length_append]
                  omega
                have hixs := ints_len (joinX nl).s
                have hrepX : Enc.rep Hc (joinX nl) [.int .i64 ((joinX nl).w : Int), .slice aS (ints (joinX nl).s).length cS] := ⟨_, rfl, hlight, hsC⟩
                rw [hixs] at hrepX
                replace hrepX := Lib.hid hrepX
                replace hlc := Lib.hid (hlep.trans hlc)
                have hjl := Lib.hid (join_perm h2).2
                replace hxl := Lib.hid hxl
                replace hjs := Lib.hid hjs
                clear T hxw ht hlep hlight hXB hj2 hfew hout2
                go_wp2
                go_loopw [10] (fun i wx => ∃ j : Nat, j ≤ (joinX nl).s.length ∧ i = .int .i64 (j : Int) ∧ GSt w H wx Hc (.slice ac (joinR nl).length cc) (joinR nl) BV (incr bits ((joinX nl).s.take j))) (fun i _ => (joinX nl).s.length - (intOf i).toNat)
                case atStart => exact ⟨0, Nat.zero_le _, rfl, sC⟩
                case round =>
                  clear sC
                  obtain ⟨j, hj, rfl, sj⟩ := hrel
                  have hwj := sj.x.holds
                  have hj0 : (0 : Int) ≤ (j : Int) := by omega
                  by_cases hlj : j < (joinX nl).s.length
                  · obtain ⟨i, hi⟩ := At.mk hlj
                    obtain ⟨b1, o1, c1, he1, hr1, r1⟩ := hsC.int (ints_at hi)
                    cases he1
                    have hil := hlt2 i hi.mem
                    have hbjl : (incr bits ((joinX nl).s.take j)).length = l.length := by rw [incr_len, hblen]
                    obtain ⟨b, hb⟩ := At.mk (show i < (incr bits ((joinX nl).s.take j)).length by rw [incr_len]; exact hil)
                    have hqb : bitAt (incr bits ((joinX nl).s.take j)) i = b := by unfold bitAt; exact hb.getD _
                    obtain ⟨g1, cg1, eo1, hgl, s1, fz, hset⟩ := sj.setB hb
                    rw [hbjl, hBV.out] at eo1
                    cases eo1
                    have hbi : bitAt (incr bits ((joinX nl).s.take j)) i ≤ bitAt bits i + 1 := by
                      rw [incr_at (List.Nodup.sublist (List.take_sublist _ _) hnd) (fun k hk => hlt2 k (List.mem_of_mem_take hk))]
                      split <;> omega
                    have hbb1 := hbb.out i
                    have hb3 : b ≤ 1000 := by omega
                    have hnx : incr bits ((joinX nl).s.take (j + 1)) = (incr bits ((joinX nl).s.take j)).set i (b + 1) := by
                      rw [hi.take, ← hqb]; unfold incr; rw [List.foldl_append]; rfl
                    have stn := hset (b + 1) (by omega)
                    rw [← hnx, show ((b + 1 : Nat) : Int) = (b : Int) + 1 from rfl] at stn
                    have hi0 : (0 : Int) ≤ (i : Int) := by omega
                    have hi1 : (i : Int) < (l.length : Int) := by omega
                    have hj1 : (j : Int) < ((joinX nl).s.length : Int) := by omega
                    have g4 : wrap64 ((b : Int) + 1) = (b : Int) + 1 := wrap64_in _ (by omega) (by omega)
                    clear hset hnx hqb hbi hbb1 sj hb hil hb3
                    go_wp2_with fail
                    go_roundw
                    case rel => exact ⟨j + 1, hlj, by go_num, stn⟩
                    case measure => simp [intOf]; omega
                  · have hfin : (joinX nl).s.take j = (joinX nl).s := List.take_of_length_le (by omega)
                    rw [hfin] at sj
                    have hb32 : ((joinR nl).length + 1) * Enc.by_ Nod ≤ 140737488355328 := by show ((joinR nl).length + 1) * 32 ≤ _; have := hjl.out; omega
                    have hb63 : (joinR nl).length + 1 ≤ 9223372036854775807 := by have := hjl.out; omega
                    obtain ⟨m, rfl⟩ : ∃ m, n = m + 1 := ⟨n - 1, by omega⟩
                    have hh2 : huffGo m (joinR nl ++ [joinX nl]) (incr bits (joinX nl).s) = huff (wsOf l) := by rw [← huffGo_succ h2]; exact hh.out
                    have hbb2 : ∀ i, bitAt (incr bits (joinX nl).s) i + (joinR nl ++ [joinX nl]).length ≤ l.length + 1 := fun i => by
                      have h1 := hbb.out i
                      have h3 := hjl.out
                      rw [incr_at hnd hlt2, List.length_append, List.length_singleton]
                      split <;> omega
                    have hfu2 : ∀ x ∈ joinR nl ++ [joinX nl], 0 < x.s.length := fun x hx => by
                      rcases List.mem_append.1 hx with hx | hx
                      · exact hfu.out x ((join_perm h2).1.mem_iff.2 (by simp [hx]))
                      · rw [List.mem_singleton.1 hx]; exact hjs.out
                    have hln2 : (joinR nl ++ [joinX nl]).length ≤ m := by rw [List.length_append, List.length_singleton]; have := hjl.out; omega
                    have hm2 : m ≤ 256 := by omega
                    replace hh2 := Lib.hid hh2
                    replace hbb2 := Lib.hid hbb2
                    replace hfu2 := Lib.hid hfu2
                    replace hln2 := Lib.hid hln2
                    replace hb32 := Lib.hid hb32
                    replace hb63 := Lib.hid hb63
                    clear hh hbb hfu hnl hj0
                    go_wp2_with (first | ((at_builtin; have hgd := hrepX; clear hgd; go_must (refine wpList_app1 (c := 1) eNod14 rfl _ _ rfl rfl sj.n rfl hrepX.out sj.x.holds hb32.out hb63.out (sj.x.below.size) ?_); intro v' w' own' gw hw' _; have st4 := (sj.alloc _).putN gw own'; obtain ⟨an', cn', rfl, _, _⟩ := own'.form)))
                    go_roundw
                    case rel =>
                      rw [List.length_append, List.length_singleton] at st4
                      exact ⟨m, Hc, _, _, hlc.out, st4, hh2, hln2.out, hm2, F2, hbb2, hfu2⟩
                    case measure => have := hjl.out; simp [slLen]; omega
          · have hfin := hh.out
            rw [huffGo_one _ (show nl.length ≤ 1 by omega)] at hfin
            have ht2 : ¬ (1 : Int) < (nl.length : Int) := by omega
            obtain ⟨Hb, xb, lb, hsb, _⟩ := sq.b.close sq.x
            rw [hfin, hBV.out] at hsb
            have hsw := hs.mono (hleq.trans lb)
            have hfl : (huff (wsOf l)).length = l.length := by rw [huff_len, hwl]
            have hb14 : ∀ i, i < l.length → bitAt (huff (wsOf l)) i ≤ 257 := fun i _ => by have := hbb.out i; rw [hfin] at this; omega
            have hlens : lensOf l = outZ l (huff (wsOf l)) := rfl
            have holen := outZ_len hfl
            replace hlens := Lib.hid hlens
            clear sq F hh hbb hfu h2 hnl hn256 hfin hwl hleq lb
            generalize hhf : huff (wsOf l) = hf at *
            replace hb14 := Lib.hid hb14
            replace holen := Lib.hid holen
            go_wp2
            go_loopw [11, 12] (fun ov i wx => ∃ k : Nat, k ≤ l.length ∧ i = .int .i64 (k : Int) ∧ Own Hb w.heap.size wx 47 ov ((outZ l hf).take k) ∧ Ext w H wx Hb) (fun _ i _ => l.length - (intOf i).toNat)
            case atStart => exact ⟨0, Nat.zero_le _, rfl, Own.nil _ _ _ _, xb⟩
            case round =>
              clear xb
              obtain ⟨k, hk, rfl, own, xr⟩ := hrel
              have hwr := xr.holds
              have hk0 : (0 : Int) ≤ (k : Int) := by omega
              by_cases hlk : k < l.length
              · obtain ⟨p, hp⟩ := At.mk hlk
                obtain ⟨b1, o1, c1, he1, ⟨i1, i2⟩, r1, r2⟩ := hsw.pr hp
                cases he1
                obtain ⟨q, hq⟩ := At.mk (show k < hf.length by omega)
                have hqb : bitAt hf k = q := by unfold bitAt; exact hq.getD _
                obtain ⟨b2, o2, c2, he2, hr2, r3⟩ := hsb.int (ints_at hq)
                rw [ints_len, hfl] at he2
                cases he2
                (try (simp only [Nat.zero_add] at r3))
                have hq9 := hb14.out k hlk
                have hrep : Enc.rep Hb (⟨p.s, (q : Int)⟩ : Pr) [.int .i64 p.s, .int .i64 (q : Int)] := ⟨rfl, i1, by show I64 (q : Int); unfold I64; omega⟩
                have hat := outZ_at hfl hp
                rw [hqb] at hat
                have hnx := hat.take
                obtain ⟨f1, f2⟩ := out_fit hk hl
                have htl : ((outZ l hf).take k).length = k := by rw [List.length_take, holen.out]; omega
                rw [← htl] at f1 f2
                have hk1 : (k : Int) < (l.length : Int) := by omega
                replace hrep := Lib.hid hrep
                replace hnx := Lib.hid hnx
                replace f1 := Lib.hid f1
                replace f2 := Lib.hid f2
                clear hat hqb hq htl hq9 hp
                go_upto_region 29 with fail
                go_region_held3 (fun w' => Holds Hb w' ∧ Ext w H w' Hb) (first | assumption | exact ⟨by assumption, by assumption⟩ | (go_split_ands; exact ⟨Holds.drew (by assumption), Ext.drew (by assumption)⟩) | (go_split_ands; exact ⟨Holds.alloc (by assumption) _, Ext.alloc (by assumption) _⟩) | (go_split_ands; exact ⟨Holds.drew (Holds.alloc (by assumption) _), Ext.drew (Ext.alloc (by assumption) _)⟩)) (first | ((go_split_ands; refine step_appCX (w0 := w) (H0 := H) eLen rfl _ _ rfl (xr.drew.alloc _) rfl (own.drew.alloc _) rfl hrep.out (two_cells (heap_alloc_new _ _)) f1.out f2.out ?_; intro vB wB oB xB hwB gB)))
                rw [← hnx.out] at oB
                go_wp2
                go_roundw
                case rel => exact ⟨k + 1, hlk, by go_num, oB, xB⟩
                case measure => simp [intOf]; omega
              · have hall : (outZ l hf).take k = outZ l hf := List.take_of_length_le (by rw [holen.out]; omega)
                rw [hall, ← hlens.out] at own
                go_wp2_with fail
                go_ret
                exact ⟨_, Hb, rfl, xr, own⟩
end Go.Proofs.YthcfhmebikcfpaaGreatDoor
