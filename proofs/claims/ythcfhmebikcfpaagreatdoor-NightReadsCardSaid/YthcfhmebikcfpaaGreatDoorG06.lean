/- Lemmas and walks on which the claims of this seat lean: NNod NLit NCat. -/
import Derived.Test.YthcfhmebikcfpaaGreatDoorG04
import Derived.Test.YthcfhmebikcfpaaGreatDoorG05
import Derived.Deep.DeepAppendRoom
import Derived.Deep.RegionLaw
import Derived.Lib.AppendZerosOnto

set_option linter.all false

namespace Go.Proofs.YthcfhmebikcfpaaGreatDoor
open Go.RowKit

attribute [local go_sem] Holds.drew Holds.alloc Holds.drewN WB.holds Oper.semAt_some

def ints (s : List Nat) : List Int := s.map fun n : Nat => (n : Int)
theorem ints_len (s : List Nat) : (ints s).length = s.length := by unfold ints; simp
instance instEncNod : Enc Nod where
  sz := 2
  by_ := 32
  rep := fun H n cs => ∃ v, cs = [.int .i64 (n.w : Int), v] ∧ n.w ≤ 1000000 ∧ Sl H v (ints n.s)
  len := fun ⟨v, e, _⟩ => by rw [e]; rfl
  mono := fun k ⟨v, e, h1, h2⟩ => ⟨v, e, h1, h2.mono k⟩
  one := fun ⟨v, e, _, h⟩ u hu => by
    rw [e] at hu; simp at hu
    obtain ⟨a, c, rfl, _⟩ := h.form
    rcases hu with rfl | rfl <;> rfl
theorem eNod : ElemT Tryz.prog 91 94 Nod := .mk' (.agg #[.int .i64 0, .slice none 0 0]) Tryz.underlying91 (by kernel_rfl) rfl (by decide)

section
variable {α : Type} [Enc α] {P : Program} {H : Snap} {base : Nat} {w : World} {t e : TypeId} {v : Value} {xs : List α}

theorem Own.getG {k : Nat} {x : α} (o : Own H base w e v xs) (hx : At xs k x) : ∃ g c ds, v = .slice (some ⟨g, 0, none⟩) xs.length c ∧ Enc.rep H x ds ∧ base ≤ g ∧ H g = none ∧ g < w.heap.size ∧ (∀ (j : Nat) (u : Value), ds[j]? = some u → w.cell? ⟨g, k * Enc.sz α + j, none⟩ = some u) ∧ ∀ i, w.frozen? ⟨g, i, none⟩ = false := by
  obtain ⟨cells, ⟨hl, ho⟩, hr, hf, hb⟩ := o
  have hlt := hx.lt
  rcases ho with ⟨rfl, hn⟩ | ⟨g, cap, cur, rfl, hbg, hg, hnc, hcm, hcs, htake⟩
  · omega
  · obtain ⟨ds, hd, hj⟩ := reps.get hr hx
    refine ⟨g, cap, ds, rfl, hd, hbg, hf g rfl, (Array.getElem?_eq_some_iff.1 hg).1, fun j u hu => ?_, fun i => by simp [World.frozen?, hg]⟩
    have h1 := hj j u hu
    rw [← htake, List.getElem?_take] at h1
    split at h1
    · rw [cell_of_row w g _ _ _ _ hg]
      simpa using h1
    · cases h1
/-- A block that stands as it stood. -/
theorem Own.same {w' : World} (o : Own H base w e v xs) (h : ∀ b, v.ownBlock = some b → w'.heap[b]? = w.heap[b]?) : Own H base w' e v xs := by
  obtain ⟨cells, ⟨hl, ho⟩, hr, hf, hb⟩ := o
  refine ⟨cells, ⟨hl, ?_⟩, hr, hf, hb⟩
  rcases ho with hn | ⟨g, cap, cur, rfl, hbg, hg, rest⟩
  · exact .inl hn
  · exact .inr ⟨g, cap, cur, rfl, hbg, (h g rfl).trans hg, rest⟩
/-- 'append(s[:i], s[i+1:]...)' and 'clear' of the last place, where s is the call's own. -/
theorem own_cut (T : ElemT P t e α) (ty ty2 : TypeId) (z : Value) (hv : ∀ w, (zeroValue e).run P w = .ok z w) (hz : z.cells.size = Enc.sz α) (h1 : ∀ u ∈ z.cells.toList, u.oneCell' = true) (o : Own H base w e v xs) {i : Nat} (hi : i < xs.length) :
    ∃ g cap, v = .slice (some ⟨g, 0, none⟩) xs.length cap ∧ xs.length ≤ cap ∧ cap ≤ 9223372036854775807 ∧
      ∀ A : Addr, (xs.length = i + 1 ∨ A = ⟨g, (i + 1) * Enc.sz α, none⟩) → ∃ w1 w2, (Builtin.append_ #[t, t] ty #[.slice (some ⟨g, 0, none⟩) i cap, .slice (some A) (xs.length - (i + 1)) (cap - (i + 1))]).run P w = .ok (.slice (some ⟨g, 0, none⟩) (xs.length - 1) cap) w1 ∧
        (Builtin.clear_ #[t] ty2 #[.slice (some ⟨g, (xs.length - 1) * Enc.sz α, none⟩) 1 (cap - (xs.length - 1))]).run P w1 = .ok (.tuple #[]) w2 ∧ Own H base w2 e (.slice (some ⟨g, 0, none⟩) (xs.length - 1) cap) (xs.eraseIdx i) ∧ w.grownBy w2 (some g) := by
  obtain ⟨ti, tz, hti, htz, htsz, htby, htzs⟩ := T.inf
  obtain ⟨cells, ⟨hl, ho⟩, hr, hf, hb⟩ := o
  rcases ho with ⟨rfl, hn⟩ | ⟨g, cap, cur, rfl, hbg, hg, hnc, hcm, hcs, htake⟩
  · omega
  · refine ⟨g, cap, rfl, hnc, by simp only [maxLen] at hcm; omega, fun A hA => ?_⟩
    have e1 : xs = xs.take i ++ xs.drop i := (List.take_append_drop i xs).symm
    have e2 : xs.drop i = xs[i] :: xs.drop (i + 1) := List.drop_eq_getElem_cons hi
    have hr2 := hr
    rw [e1, e2] at hr2
    obtain ⟨c1, c2, ec, hr1, c3, c4, ec2, hrx, hr3⟩ := hr2.split
    have l1 := hr1.len
    have l3 := Enc.len hrx
    have l4 := hr3.len
    rw [List.length_take, Nat.min_eq_left (by omega)] at l1
    rw [List.length_drop] at l4
    have own1 : w.ownsRow base e (Enc.sz α) (.slice (some ⟨g, 0, none⟩) i cap) i c1 := by
      refine ⟨l1, .inr ⟨g, cap, cur, rfl, hbg, hg, by omega, hcm, hcs, ?_⟩⟩
      have := congrArg (List.take (i * Enc.sz α)) htake
      rw [List.take_take, Nat.min_eq_left (Nat.mul_le_mul_right _ (by omega)), ec, ← l1, List.take_left'  rfl] at this
      rw [← l1]; exact this
    have hcell : ∀ j u, c4[j]? = some u → w.cell? (A.add j) = some u := by
      intro j u hu
      have hj := (List.getElem?_eq_some_iff.1 hu).1
      rcases hA with hA | rfl
      · rw [l4, hA, Nat.sub_self, Nat.zero_mul] at hj; omega
      · rw [Addr.add_lit, cell_of_row w g _ _ _ _ hg]
        have hk : cells[(i + 1) * Enc.sz α + j]? = some u := by
          rw [ec, ec2, ← List.append_assoc, List.getElem?_append_right (by rw [List.length_append, l1, l3, Nat.add_mul]; omega)]
          rw [List.length_append, l1, l3]
          rw [show (i + 1) * Enc.sz α + j - (i * Enc.sz α + Enc.sz α) = j by rw [Nat.add_mul]; omega]
          exact hu
        rw [← htake, List.getElem?_take] at hk
        split at hk
        · simpa using hk
        · cases hk
    obtain ⟨w1, ha, ho1, hg1⟩ := run_append_own_spare (P := P) w base t ty e ti (Enc.sz α) T.und hti htsz g i cap c1 own1 A (xs.length - (i + 1)) (cap - (i + 1)) c4 l4 hcell hr3.one (by omega)
    rw [show i + (xs.length - (i + 1)) = xs.length - 1 by omega] at ha ho1
    obtain ⟨hl1, ho1⟩ := ho1
    rcases ho1 with ⟨h0, _⟩ | ⟨g', cap', cur1, hv', hbg', hgg, hnc1, hcm1, hcs1, htake1⟩
    · cases h0
    · cases hv'
      have hzl : (Builtin.zeroCells z.cells 1).toList = z.cells.toList := by
        apply List.ext_getElem
        · simp [Builtin.zeroCells]
        · intro k a b
          have hk : k < z.cells.size := by simpa using b
          simp only [Builtin.zeroCells, Nat.one_mul, Array.toList_map, Array.toList_range, List.getElem_map, List.getElem_range, Nat.mod_eq_of_lt hk, Array.getElem_toList]
          exact getElem!_pos z.cells k hk
      have hzz : z.cells.toList.length = Enc.sz α := by rw [← hz]; simp
      have hfit : (xs.length - 1) * Enc.sz α + z.cells.toList.length ≤ cur1.size := by
        rw [hcs1, hzz]
        have := Nat.mul_le_mul_right (Enc.sz α) (show (xs.length - 1) + 1 ≤ cap by omega)
        rwa [Nat.add_mul, Nat.one_mul] at this
      have hst := run_storeCells_at P g ((xs.length - 1) * Enc.sz α) e z.cells.toList 0 cur1 w1 hgg (by simpa using hfit) h1
      simp only [Nat.add_zero] at hst
      have hclr : (Builtin.clear_ #[t] ty2 #[.slice (some ⟨g, (xs.length - 1) * Enc.sz α, none⟩) 1 (cap - (xs.length - 1))]).run P w1 = .ok (.tuple #[]) (w1.setRow g (cur1.toList.take ((xs.length - 1) * Enc.sz α) ++ z.cells.toList ++ cur1.toList.drop ((xs.length - 1) * Enc.sz α + z.cells.toList.length)).toArray) := by
        simp [Builtin.clear_, run_underlying T.und, hv, hzl, hst]
      have er : xs.eraseIdx i = xs.take i ++ xs.drop (i + 1) := List.eraseIdx_eq_take_drop_succ ..
      have el : (xs.eraseIdx i).length = xs.length - 1 := by rw [List.length_eraseIdx_of_lt hi]
      refine ⟨w1, _, ha, hclr, ⟨c1 ++ c4, ⟨?_, .inr ⟨g, cap, _, by rw [el], hbg, setRow_heap w1 g cur1 _ e _ hgg, by rw [el]; omega, hcm, ?_, ?_⟩⟩, by rw [er]; exact hr1.append hr3, hf, Nat.le_trans (Nat.mul_le_mul_right _ (by rw [el]; omega)) hb⟩, hg1.trans ⟨rfl, rfl, rfl, by simp, fun k _ hk => setRow_other w1 g k _ (fun e => hk (by simp [e]))⟩⟩
      · rw [el]; exact hl1
      · have hs1 : cur1.toList.length = cur1.size := by simp
        simp only [List.size_toArray, List.length_append, List.length_take, List.length_drop, hs1, hzz] at hfit ⊢
        omega
      · have hs1 : cur1.toList.length = cur1.size := by simp
        rw [hzz] at hfit
        rw [el, List.take_append_of_le_length (by simp only [List.length_append, List.length_take, hs1, hzz]; omega), List.take_append_of_le_length (by simp only [List.length_take, hs1]; omega), List.take_take, Nat.min_self, htake1]
end

theorem Own.nod {H : Snap} {base : Nat} {w : World} {e : TypeId} {v : Value} {l : List Nod} {k : Nat} {x : Nod} (o : Own H base w e v l) (hx : At l k x) :
    ∃ g c u, v = .slice (some ⟨g, 0, none⟩) l.length c ∧ x.w ≤ 1000000 ∧ Sl H u (ints x.s) ∧ base ≤ g ∧ H g = none ∧ g < w.heap.size ∧ w.cell? ⟨g, k * 2, none⟩ = some (.int .i64 (x.w : Int)) ∧ w.cell? ⟨g, k * 2 + 1, none⟩ = some u ∧ ∀ i, w.frozen? ⟨g, i, none⟩ = false := by
  obtain ⟨g, c, ds, hv, ⟨u, hd, h1, h2⟩, hb, hn, hlt, hc, hf⟩ := o.getG hx
  exact ⟨g, c, u, hv, h1, h2, hb, hn, hlt, hc 0 _ (by rw [hd]; rfl), hc 1 _ (by rw [hd]; rfl), hf⟩

theorem step_runA {P : Program} {ops : Array Oper} {o : Oper} {a : Act} {w : World} {Q : Exit → Act → World → Prop} {K : Act → World → Prop} {E : Prop} {t : TypeId} {v' : Value} {w' : World} (hgd : o.guard = none) (s x : Operand) (ho : o.op = .call { callee := .builtin .append, args := #[s, x], argTypes := #[t, t] })
    (hr : (Builtin.append_ #[t, t] o.type #[a.eval s, a.eval x]).run P w = .ok v' w') (h : K (a.put o.dst v') w') : if Region.wanted o (yielded ops a.tmps) = true then Oper.wp P o a w K Q else E := by
  rw [if_pos (by simp [Region.wanted, hgd])]
  unfold Oper.wp execOp
  simp only [ho, resolve, invoke, builtin, Sem.run_bind, Sem.run_pure, Result.andThen_ok, List.map_toArray, List.map_cons, List.map_nil, hr]
  exact h
theorem zeroNod (w : World) : (zeroValue 94).run Tryz.prog w = .ok (.agg #[.int .i64 0, .slice none 0 0]) w := by kernel_rfl
set_option maxRecDepth 100000 in
set_option maxHeartbeats 1000000 in
theorem nDelete_any (v : Value) (l : List Nod) (i : Nat) (hi : i < l.length) (hl : l.length ≤ 1000) (H : Snap) (base : Nat) (w : World) (o : Own H base w 94 v l) :
    Calls Tryz.prog 86 #[v, .int .i64 (i : Int), .int .i64 ((i : Int) + 1)] w (fun e w' => ∃ v', e = .returned v' ∧ Own H base w' 94 v' (l.eraseIdx i) ∧ w.grownBy w' v.ownBlock ∧ v'.ownBlock = v.ownBlock) := by
  obtain ⟨g, cap, rfl, hnc, hcm, hrun⟩ := own_cut eNod 91 0 (.agg #[.int .i64 0, .slice none 0 0]) zeroNod rfl (by simp [Value.cells]; exact ⟨rfl, rfl⟩) o.drew hi
  have hne : ((i : Int) == (i : Int) + 1) = false := by rw [beq_eq_false_iff_ne]; omega
  obtain ⟨A, hA, hAg⟩ : ∃ A : Addr, (if cap = i + 1 then some (⟨g, 0, none⟩ : Addr) else some ⟨g, (i + 1) * 2, none⟩) = some A ∧ (l.length = i + 1 ∨ A = ⟨g, (i + 1) * 2, none⟩) := by
    by_cases h : cap = i + 1
    · exact ⟨⟨g, 0, none⟩, by rw [if_pos h], .inl (by omega)⟩
    · exact ⟨⟨g, (i + 1) * 2, none⟩, by rw [if_neg h], .inr rfl⟩
  obtain ⟨w1, w2, hap, hcl, ho, hg⟩ := hrun A hAg
  clear hrun hAg o
  rw [show Enc.sz Nod = 2 from rfl] at hcl
  have hcn : ¬ cap = l.length - 1 := by omega
  have hln : l.length ≤ 1000 := hl
  generalize hn : l.length = n at *
  replace hap := Lib.hid hap
  replace ho := Lib.hid ho
  replace hg := Lib.hid hg
  have q1 : i + (n - (i + 1)) = n - 1 := by omega
  have q2 : n - (n - 1) = 1 := by omega
  have hic : i ≤ cap := by omega
  have hjc : i + 1 ≤ cap := by omega
  have h01 : (0 : Int) ≤ (i : Int) + 1 := by omega
  have h02 : (i : Int) + 1 ≤ (n : Int) := by omega
  go_enter Tryz.func86, Tryz.ntmps86
  go_wp2_with fail
  go_region_law (refine step_runA rfl (.tmp 22) (.tmp 25) (t := 91) rfl (hap.out) ?_)
  go_wp2
  go_ret
  exact ⟨_, rfl, ho.out, ⟨hg.out.os, hg.out.tape, hg.out.output, hg.out.size, hg.out.block⟩, rfl⟩

end Go.Proofs.YthcfhmebikcfpaaGreatDoor

namespace Go.Proofs.YthcfhmebikcfpaaGreatDoor
open Go.RowKit

attribute [local go_sem] Holds.drew Holds.alloc Holds.drewN WB.holds Oper.semAt_some

theorem lightTo_bd (l : List Nod) : ∀ k, k ≤ l.length → lightTo l k ≤ k
  | 0, _ => Nat.le_refl _
  | k + 1, hk => by
    have := lightTo_bd l k (by omega)
    unfold lightTo
    split <;> omega
theorem getD_at {l : List Nod} {k : Nat} {x : Nod} (h : At l k x) : l.getD k default = x := h.getD _
theorem lightTo_yes {l : List Nod} {k : Nat} {x y : Nod} (hx : At l k x) (hy : At l (lightTo l k) y) (h : x.w < y.w) : lightTo l (k + 1) = k := by
  unfold lightTo
  rw [if_pos (by rw [getD_at hx, getD_at hy]; exact h)]
theorem lightTo_no {l : List Nod} {k : Nat} {x y : Nod} (hx : At l k x) (hy : At l (lightTo l k) y) (h : ¬ x.w < y.w) : lightTo l (k + 1) = lightTo l k := by
  show (if _ then _ else _) = _
  rw [if_neg (by rw [getD_at hx, getD_at hy]; exact h)]

theorem cell_lt {W : World} {b o : Nat} {v : Value} (h : W.cell? ⟨b, o, none⟩ = some v) : b < W.heap.size := by
  rcases Nat.lt_or_ge b W.heap.size with h' | h'
  · exact h'
  · simp [World.cell?, Array.getElem?_eq_none h'] at h
theorem WB.keep {H : Snap} {w0 : World} (X : WB H w0) {b o : Nat} {v : Value} (h : w0.cell? ⟨b, o, none⟩ = some v) : X.w.cell? ⟨b, o, none⟩ = some v := (X.old b o (cell_lt h)).trans h
theorem Ext.keep {H0 H : Snap} {w0 w : World} (x : Ext w0 H0 w H) {b o : Nat} {v : Value} (h : w0.cell? ⟨b, o, none⟩ = some v) : w.cell? ⟨b, o, none⟩ = some v := (bcell x.below b o (cell_lt h)).trans h
theorem new_cell (w : World) (cs : Array Value) (T : TypeId) (i : Nat) : (w.alloc (.cells cs T)).cell? ⟨w.heap.size, i, none⟩ = cs[i]? := by rw [Lib.cell_of_heap (heap_alloc_new w _)]

set_option maxRecDepth 100000 in
set_option maxHeartbeats 2000000 in
theorem nLightest_any (nb : Nat) (v : Value) (l : List Nod) (hl : l ≠ []) (hl2 : l.length ≤ 1000) (H : Snap) (w : World) (hw : Holds H w) (base : Nat) (hb : base ≤ w.heap.size) (hnb : w.heap[nb]? = some (.cells #[v] 91 (0, 0))) (o : Own H base w 94 v l) :
    Calls Tryz.prog 63 #[.pointer (some ⟨nb, 0, none⟩)] w (fun e w' => ∃ u v', e = .returned (.agg #[.int .i64 ((lightN l).w : Int), u]) ∧ (lightN l).w ≤ 1000000 ∧ Sl H u (ints (lightN l).s) ∧ w'.heap[nb]? = some (.cells #[v'] 91 (0, 0)) ∧ Own H base w' 94 v' (lightR l) ∧ v'.ownBlock = v.ownBlock ∧
      w'.os = w.os ∧ w'.tape = w.tape ∧ w'.output = w.output ∧ w.heap.size ≤ w'.heap.size ∧ ∀ b, b < w.heap.size → b ≠ nb → v.ownBlock ≠ some b → w'.heap[b]? = w.heap[b]?) := by
  have hlt := lightTo_lt hl l.length (Nat.le_refl _)
  obtain ⟨a0, c0, rfl, hc0, hc1⟩ := o.form
  have hnbl : nb < w.heap.size := (Array.getElem?_eq_some_iff.1 hnb).1
  have x1 := (Ext.refl hw).alloc (.cells #[.int .i64 0, .slice none 0 0] 94)
  have hR := heap_alloc_new w (.cells #[.int .i64 0, .slice none 0 0] 94)
  have hRl : w.heap.size < (w.alloc (.cells #[.int .i64 0, .slice none 0 0] 94)).heap.size := by simp
  have o1 := o.alloc (.cells #[.int .i64 0, .slice none 0 0] 94)
  have hnb1 := (heap_alloc_old w (.cells #[.int .i64 0, .slice none 0 0] 94) hnbl).trans hnb
  have hbl := (Below.refl w.heap.size w).alloc (Nat.le_refl _) (.cells #[.int .i64 0, .slice none 0 0] 94)
  have hRnb : w.heap.size ≠ nb := by omega
  have hRo : ∀ g, a0 = some ⟨g, 0, none⟩ → g ≠ w.heap.size := fun g e e2 => by
    have := (o.lt g (by rw [e]; rfl)).2
    omega
  have hng : ∀ g, a0 = some ⟨g, 0, none⟩ → g ≠ nb := fun g e e2 => by
    obtain ⟨cur, hcur⟩ := o.row_type (k := g) (by rw [e]; rfl)
    rw [e2, hnb] at hcur
    simp at hcur
  go_enter Tryz.func63, Tryz.ntmps63
  go_upto_region 2 with fail
  have hw1 := x1.holds
  clear x1 hnb o
  generalize hRe : w.heap.size = R at *
  generalize w.alloc (.cells #[.int .i64 0, .slice none 0 0] 94) = w1 at *
  have hnl1 : nb < w1.heap.size := (Array.getElem?_eq_some_iff.1 hnb1).1
  have hcn : w1.cell? ⟨nb, 0, none⟩ = some (.slice a0 l.length c0) := by rw [Lib.cell_of_heap hnb1]; rfl
  go_wp2
  go_loopw [3, 11] (fun bv i wr => ∃ k : Nat, k ≤ l.length ∧ i = .int .i64 (k : Int) ∧ bv = .int .i64 ((lightTo l k : Nat) : Int) ∧ Ext w1 H wr H) (fun _ i _ => l.length - (intOf i).toNat)
  case atStart => exact ⟨0, Nat.zero_le _, rfl, rfl, Ext.refl hw1⟩
  case round =>
    obtain ⟨k, hk, rfl, rfl, xr⟩ := hrel
    have hwr := xr.holds
    have or := o1.ext hw1 xr
    have hk0 : (0 : Int) ≤ (k : Int) := by omega
    by_cases hlk : k < l.length
    · have hk1 : (k : Int) < (l.length : Int) := by omega
      obtain ⟨x, hx⟩ := At.mk hlk
      have hlb := lightTo_bd l k hk
      obtain ⟨y, hy⟩ := At.mk (show lightTo l k < l.length by omega)
      obtain ⟨g, c, u, he, hxw, hsu, _, hHg, hgl, cx, cu, hfz⟩ := or.nod hx
      obtain ⟨g2, c2, u2, he2, hyw, _, _, _, _, cy, _, _⟩ := or.nod hy
      cases he
      cases he2
      obtain ⟨au, cu', rfl, _, _⟩ := hsu.form
      have hb0 : (0 : Int) ≤ ((lightTo l k : Nat) : Int) := by omega
      have hb1 : ((lightTo l k : Nat) : Int) < (l.length : Int) := by omega
      have hyes := lightTo_yes hx hy
      have hno := lightTo_no hx hy
      replace hyes := Lib.hid hyes
      replace hno := Lib.hid hno
      generalize hq : lightTo l k = q at *
      have cnr := xr.keep hcn
      have xa := xr.alloc (.cells #[.int .i64 (x.w : Int), .slice au (ints x.s).length cu'] 94)
      have e1 := Lib.cell?_alloc_some (.cells #[.int .i64 (x.w : Int), .slice au (ints x.s).length cu'] 94) cnr
      have e2 := Lib.cell?_alloc_some (.cells #[.int .i64 (x.w : Int), .slice au (ints x.s).length cu'] 94) cy
      have e3 := new_cell wr #[.int .i64 (x.w : Int), .slice au (ints x.s).length cu'] 94 0
      go_upto_region 5 with fail
      generalize wr.heap.size = C at *
      generalize wr.alloc (.cells #[.int .i64 (x.w : Int), .slice au (ints x.s).length cu'] 94) = wa at *
      have hwa := xa.holds
      have f1 := fun X : WB H wa => X.keep e1
      have f2 := fun X : WB H wa => X.keep e2
      have f3 : ∀ X : WB H wa, X.w.cell? ⟨C, 0, none⟩ = some (.int .i64 (x.w : Int)) := fun X => X.keep e3
      clear xr
      by_cases hc : x.w < y.w
      · have hci : (x.w : Int) < (y.w : Int) := by omega
        refine wp_region_quietB H (by kernel_rfl) (by kernel_rfl) hwa (fun hne => ?_)
        repeat go_big_quiet_step ((first | fail))
        refine wpQuiet_nil ?_
        rintro ⟨w2, hw2, hb2⟩
        clear hne
        have x2 := xa.step (hb2.mono xa.below.size) hw2
        go_wp2
        go_roundw
        case rel => exact ⟨k + 1, by omega, by go_num, by rw [hyes.out hc], x2⟩
        case measure => simp [intOf]; omega
      · have hci : ¬ (x.w : Int) < (y.w : Int) := by omega
        refine wp_region_quietB H (by kernel_rfl) (by kernel_rfl) hwa (fun hne => ?_)
        repeat go_big_quiet_step ((first | fail))
        refine wpQuiet_nil ?_
        rintro ⟨w2, hw2, hb2⟩
        clear hne
        have x2 := xa.step (hb2.mono xa.below.size) hw2
        go_wp2
        go_roundw
        case rel => exact ⟨k + 1, by omega, by go_num, by rw [hno.out hc], x2⟩
        case measure => simp [intOf]; omega
    · have : k = l.length := by omega
      subst this
      obtain ⟨x, hx⟩ := At.mk hlt
      have hN : lightN l = x := by unfold lightN lightest; exact hx.getD _
      have hRr : lightR l = l.eraseIdx (lightTo l l.length) := rfl
      replace hN := Lib.hid hN
      replace hRr := Lib.hid hRr
      obtain ⟨g, c, u, he, hxw, hsu, _, hHg, hgl, cx, cu, hfz⟩ := or.nod hx
      cases he
      obtain ⟨au, cu', rfl, _, _⟩ := hsu.form
      have hb0 : (0 : Int) ≤ ((lightTo l l.length : Nat) : Int) := by omega
      have hb1 : ((lightTo l l.length : Nat) : Int) < (l.length : Int) := by omega
      have cnr := xr.keep hcn
      have hnr := (xr.below.block nb hnl1).trans hnb1
      have hRw := (xr.below.block R hRl).trans hR
      have xa := xr.alloc (.cells #[.int .i64 (x.w : Int), .slice au (ints x.s).length cu'] 94)
      have oa := or.alloc (.cells #[.int .i64 (x.w : Int), .slice au (ints x.s).length cu'] 94)
      have hna := (heap_alloc_old wr (.cells #[.int .i64 (x.w : Int), .slice au (ints x.s).length cu'] 94) (Array.getElem?_eq_some_iff.1 hnr).1).trans hnr
      have hRa := (heap_alloc_old wr (.cells #[.int .i64 (x.w : Int), .slice au (ints x.s).length cu'] 94) (Array.getElem?_eq_some_iff.1 hRw).1).trans hRw
      have hCa := heap_alloc_new wr (.cells #[.int .i64 (x.w : Int), .slice au (ints x.s).length cu'] 94)
      have hCn : wr.heap.size ≠ nb := by have := (Array.getElem?_eq_some_iff.1 hnr).1; omega
      have hCR : wr.heap.size ≠ R := by have := (Array.getElem?_eq_some_iff.1 hRw).1; omega
      have hCg : g ≠ wr.heap.size := by omega
      have hRg := hRo g rfl
      generalize hq : lightTo l l.length = q at *
      have hdel := nDelete_any _ l q hlt hl2 H base _ oa
      have bla := (hbl.trans (xr.below.mono (Nat.le_of_lt hRl))).alloc (by have := xr.below.size; omega) (.cells #[.int .i64 (x.w : Int), .slice au (ints x.s).length cu'] 94)
      generalize hC : wr.heap.size = C at *
      go_upto_region 9 with fail
      generalize wr.alloc (.cells #[.int .i64 (x.w : Int), .slice au (ints x.s).length cu'] 94) = wa at *
      have can : wa.cell? ⟨nb, 0, none⟩ = some (.slice (some ⟨g, 0, none⟩) l.length c0) := by rw [Lib.cell_of_heap hna]; rfl
      have hgn := hng g rfl
      clear hcn cnr cx cu hfz oa
      go_upto_region 10 with (go_at_call 86; refine hdel.mono ?_; rintro e wd ⟨v', rfl, od, gd, hvb⟩; obtain ⟨a2, c2, rfl, _, _⟩ := od.form; have hnd := (gd.block nb (Array.getElem?_eq_some_iff.1 hna).1 (fun e => by simp [Value.ownBlock] at e; omega)).trans hna; have cnd := Lib.cell_of_heap (j := 0) hnd; have fnd := Lib.frozen_of_heap hnd 0)
      obtain ⟨v', hv'⟩ : ∃ v', v' = Value.slice a2 (l.eraseIdx q).length c2 := ⟨_, rfl⟩
      have hCd := (gd.block C (Array.getElem?_eq_some_iff.1 hCa).1 (fun e => by simp [Value.ownBlock] at e; omega)).trans hCa
      have hRd := (gd.block R (Array.getElem?_eq_some_iff.1 hRa).1 (fun e => by simp [Value.ownBlock] at e; omega)).trans hRa
      rw [← hv'] at od hvb
      go_upto_region 10 with fail
      rw [← hv']
      have hn2 := heap_set_same (i := 0) hnd v'
      have hC2 := (heap_setCell_other wd ⟨nb, 0, none⟩ C v' hCn).trans hCd
      have hR2 := (heap_setCell_other wd ⟨nb, 0, none⟩ R v' hRnb).trans hRd
      have vg : v'.ownBlock = some g := hvb
      have o2 := od.setCell (a := ⟨nb, 0, none⟩) (by rw [vg]; simp; omega) v'
      have hall : ∀ b, b < R → b ≠ nb → some g ≠ some b → (wd.setCell ⟨nb, 0, none⟩ v').heap[b]? = w.heap[b]? := fun b h1 h2 h3 => by
        have h4 : b < wa.heap.size := by have := bla.size; omega
        exact (heap_setCell_other wd ⟨nb, 0, none⟩ b v' h2).trans ((gd.block b h4 (fun e => h3 (by simpa [Value.ownBlock] using e.symm))).trans (bla.block b h1))
      have hos : (wd.setCell ⟨nb, 0, none⟩ v').os = w.os := gd.os.trans bla.os
      have htp : (wd.setCell ⟨nb, 0, none⟩ v').tape = w.tape := gd.tape.trans bla.tape
      have hop : (wd.setCell ⟨nb, 0, none⟩ v').output = w.output := gd.output.trans bla.output
      have hsz : R ≤ (wd.setCell ⟨nb, 0, none⟩ v').heap.size := by have h1 := gd.size; have h2 := bla.size; simp; omega
      clear hdel hnd hCd hRd od gd cnd fnd can hCa hRa bla hna
      generalize wd.setCell ⟨nb, 0, none⟩ v' = we at *
      have c1 := Lib.cell_of_heap (j := 0) hC2
      have c2 := Lib.cell_of_heap (j := 1) hC2
      have r1 := Lib.cell_of_heap (j := 0) hR2
      have r2 := Lib.cell_of_heap (j := 1) hR2
      have f1 := Lib.frozen_of_heap hR2 0
      have f2 := Lib.frozen_of_heap hR2 1
      have hrow := heap_set_same (i := 1) (heap_set_same (i := 0) hR2 (.int .i64 (x.w : Int))) (.slice au (ints x.s).length cu')
      have hn3 := ((heap_setCell_other (we.setCell ⟨R, 0, none⟩ (.int .i64 (x.w : Int))) ⟨R, 1, none⟩ nb (.slice au (ints x.s).length cu') (fun e => hRnb e.symm)).trans (heap_setCell_other we ⟨R, 0, none⟩ nb (.int .i64 (x.w : Int)) (fun e => hRnb e.symm))).trans hn2
      have o3 := (o2.setCell (a := ⟨R, 0, none⟩) (by rw [vg]; simp; omega) (.int .i64 (x.w : Int))).setCell (a := ⟨R, 1, none⟩) (by rw [vg]; simp; omega) (.slice au (ints x.s).length cu')
      have hall3 : ∀ b, b < R → b ≠ nb → some g ≠ some b → ((we.setCell ⟨R, 0, none⟩ (.int .i64 (x.w : Int))).setCell ⟨R, 1, none⟩ (.slice au (ints x.s).length cu')).heap[b]? = w.heap[b]? := fun b h1 h2 h3 =>
        ((heap_setCell_other (we.setCell ⟨R, 0, none⟩ (.int .i64 (x.w : Int))) ⟨R, 1, none⟩ b _ (by show b ≠ R; omega)).trans (heap_setCell_other we ⟨R, 0, none⟩ b _ (by show b ≠ R; omega))).trans (hall b h1 h2 h3)
      replace hrow := Lib.hid hrow
      replace hn3 := Lib.hid hn3
      replace hall3 := Lib.hid hall3
      clear hall hn2 hC2 hR2 o2
      go_wp2
      refine bodyPost_ret (results_cell_row rfl _ _ R 94 _ (0, 0) _ rfl hrow.out Tryz.underlying94 rfl (by kernel_rfl)) rfl ?_
      rw [hN.out, hRr.out]
      refine ⟨_, v', rfl, hxw, hsu, hn3.out, o3, hvb, hos, htp, hop, by rw [hRe]; simpa using hsz, ?_⟩
      intro b h1 h2 h3
      exact hall3.out b (by omega) h2 h3
end Go.Proofs.YthcfhmebikcfpaaGreatDoor

namespace Go.Proofs.YthcfhmebikcfpaaGreatDoor
open Go.RowKit

attribute [local go_sem] Holds.drew Holds.alloc Holds.drewN WB.holds Oper.semAt_some

theorem wpList_runA {P : Program} {ops : Array Oper} {rest : List Oper} {o : Oper} {a : Act} {w : World} {Q : Exit → Act → World → Prop} {t t2 : TypeId} {v' : Value} {w' : World} (hgd : o.guard = none) (s x : Operand) (ho : o.op = .call { callee := .builtin .append, args := #[s, x], argTypes := #[t, t2] })
    (hr : (Builtin.append_ #[t, t2] o.type #[a.eval s, a.eval x]).run P w = .ok v' w') (h : wpList P ops Q rest (a.put o.dst v') w') : wpList P ops Q (o :: rest) a w := by
  refine wpList_plain hgd fun K hK => ?_
  unfold Oper.wp execOp
  simp only [ho, resolve, invoke, builtin, Sem.run_bind, Sem.run_pure, Result.andThen_ok, List.map_toArray, List.map_cons, List.map_nil, hr]
  exact hK _ _ h
set_option maxRecDepth 100000 in
theorem nGrow_any (n : Nat) (h0 : 0 < n) (hn : n ≤ 100000) (H : Snap) (w : World) (hw : Holds H w) :
    Calls Tryz.prog 87 #[.slice none 0 0, .int .i64 (n : Int)] w (fun e w' => ∃ v, e = .returned v ∧ Ext w H w' H ∧ Own H w.heap.size w' 3 v ([] : List Int)) := by
  obtain ⟨i, z, hi, hz, hsz, hby, hzs⟩ := eInt.inf
  have hs1 : i.size = 1 := hsz
  have hb8 : i.bytes = 8 := hby
  have hz1 : z.cells.size = 1 := hzs
  have hrz : ∀ ty, (Builtin.append_ #[92, 3] ty #[.slice none 0 0, .int .i64 (n : Int)]).run Tryz.prog w = _ := fun ty =>
    Lib.run_append_grow_zeros w 92 3 ty 3 i z .i64 .i64 Tryz.underlying92 Tryz.underlying3 hi hz none 0 0 [] (run_firstCells_none w.drew i.size 0 0 0) n h0 (by omega) (by omega) (by omega) (by rw [hb8]; omega)
      (by unfold Builtin.nextslicecap; rw [if_pos (by omega), hb8]; omega)
  have hge := grownCap_ge w (0 + n) 0 3
  have hle := grownCap_le_maxLen w (0 + n) 0 3 (by unfold maxLen; omega)
  generalize grownCap w (0 + n) 0 3 = G at *
  obtain ⟨cur, hcur⟩ : ∃ cur : Array Value, cur = ([] : List Value).toArray ++ Builtin.zeroCells z.cells n ++ Builtin.zeroCells z.cells (G - (0 + n)) := ⟨_, rfl⟩
  have hcs : cur.size = G := by
    rw [hcur]
    simp [Builtin.zeroCells, hz1]
    omega
  rw [← hcur] at hrz
  have hG : G ≤ 9223372036854775807 := by simp only [maxLen] at hle; omega
  have hx := (Ext.refl hw).drew.alloc (.cells cur 3)
  have hnew := heap_alloc_new w.drew (.cells cur 3)
  rw [show 0 + n = n by omega] at hrz hge
  have e1 : ¬ ((n : Int) < 0) := by omega
  have e2 : (0 : Int) < (n : Int) := by omega
  have e3 : wrap64 ((n : Int) - 0) = (n : Int) := by rw [Int.sub_zero]; exact wrap64_in _ (by omega) (by omega)
  have e4 : wrap64 (n : Int) = (n : Int) := wrap64_in _ (by omega) (by omega)
  clear hcur hi hz hzs
  replace hcs := Lib.hid hcs
  replace hx := Lib.hid hx
  replace hnew := Lib.hid hnew
  replace hge := Lib.hid hge
  replace hle := Lib.hid hle
  go_enter Tryz.func87, Tryz.ntmps87
  go_upto_region 4 with fail
  have e8 : decide ((0 : Int) < (n : Int)) = true := by simp; omega
  replace hrz := Lib.hid hrz
  go_wp2_with (first | (at_builtin; refine wpList_runA rfl (.tmp 20) (.tmp 21) (t := 92) (t2 := 3) rfl (hrz.out _) ?_))
  go_ret
  refine ⟨_, rfl, hx.out, [], ⟨rfl, .inr ⟨w.heap.size, G, cur, rfl, Nat.le_refl _, hnew.out, Nat.zero_le _, hle.out, by simpa [Enc.sz] using hcs.out, by simp⟩⟩, rfl, fun k hk => ?_, by simp⟩
  simp [Value.ownBlock] at hk
  exact hw.none_of_ge (by omega)

def catA (ls : List (List Int)) : List Int := ls.flatten
theorem sumLen_take {ls : List (List Int)} {k : Nat} {x : List Int} (h : At ls k x) : (catA (ls.take (k + 1))) = catA (ls.take k) ++ x := by
  unfold catA; rw [h.take]; simp
set_option maxRecDepth 100000 in
set_option maxHeartbeats 2000000 in
theorem nConcat_any (v : Value) (ls : List (List Int)) (hls : ls.length ≤ 1000) (h0 : 0 < (catA ls).length) (hn : (catA ls).length ≤ 100000) (H : Snap) (w : World) (hw : Holds H w) (hs : Sl H v ls) :
    Calls Tryz.prog 64 #[v] w (PostO w H 3 (catA ls)) := by
  obtain ⟨a, c, rfl, _, _⟩ := hs.form
  have hle : ∀ k, (catA (ls.take k)).length ≤ 100000 := fun k => by
    refine Nat.le_trans ?_ hn
    have e : catA ls = catA (ls.take k) ++ catA (ls.drop k) := by unfold catA; rw [← List.flatten_append, List.take_append_drop]
    rw [e, List.length_append]
    omega
  go_enter Tryz.func64, Tryz.ntmps64
  go_wp2
  go_loopw [3, 11] (fun sv i wr => ∃ k : Nat, k ≤ ls.length ∧ i = .int .i64 (k : Int) ∧ sv = .int .i64 ((catA (ls.take k)).length : Int) ∧ Ext w H wr H) (fun _ i _ => ls.length - (intOf i).toNat)
  case atStart => exact ⟨0, Nat.zero_le _, rfl, rfl, Ext.refl hw⟩
  case round =>
    obtain ⟨k, hk, rfl, rfl, xr⟩ := hrel
    have hwr := xr.holds
    by_cases hlk : k < ls.length
    · obtain ⟨x, hx⟩ := At.mk hlk
      obtain ⟨b, o, c', u, he, hu, hr⟩ := hs.list hx
      cases he
      obtain ⟨au, cu, rfl, _, _⟩ := hu.form
      have hk0 : (0 : Int) ≤ (k : Int) := by omega
      have hk1 : (k : Int) < (ls.length : Int) := by omega
      have h1 := hle (k + 1)
      have hnext := congrArg List.length (sumLen_take hx)
      rw [List.length_append] at hnext
      rw [hnext] at h1
      generalize (catA (ls.take k)).length = q at *
      have g4 : wrap64 ((q : Int) + (x.length : Int)) = (q : Int) + (x.length : Int) := wrap64_in _ (by omega) (by omega)
      have g5 : ¬ ((q : Int) + (x.length : Int) < 0) := by omega
      replace hnext := Lib.hid hnext
      go_wp2
      go_roundw
      case rel => exact ⟨k + 1, by omega, by go_num, by rw [hnext.out]; go_num, xr⟩
      case measure => simp [intOf]; omega
    · have hfin : catA (ls.take k) = catA ls := by rw [List.take_of_length_le (by omega)]
      rw [hfin]
      go_wp2_with (go_at_call 87; refine (nGrow_any _ h0 hn H _ hwr).mono ?_; rintro e wg ⟨vg, rfl, xg, og⟩; obtain ⟨ag, cg, rfl, _, _⟩ := og.form)
      have x2 := xr.trans xg
      have o2 := og.weaken xr.below.size
      clear og xg xr hfin
      rw [← show catA (ls.take 0) = [] from rfl] at o2
      go_loopw [6, 27] (fun ov i wq => ∃ j : Nat, j ≤ ls.length ∧ i = .int .i64 (j : Int) ∧ Own H w.heap.size wq 3 ov (catA (ls.take j)) ∧ Ext w H wq H) (fun _ i _ => ls.length - (intOf i).toNat)
      case atStart => exact ⟨0, Nat.zero_le _, rfl, o2, x2⟩
      case round =>
        obtain ⟨j, hj, rfl, own, xq⟩ := hrel
        have hwq := xq.holds
        by_cases hlj : j < ls.length
        · obtain ⟨x, hx⟩ := At.mk hlj
          obtain ⟨b, o, c', u, he, hu, hr⟩ := hs.list hx
          cases he
          have hj0 : (0 : Int) ≤ (j : Int) := by omega
          have hj1 : (j : Int) < (ls.length : Int) := by omega
          have h1 := hle (j + 1)
          have hnext := sumLen_take hx
          rw [hnext, List.length_append] at h1
          obtain ⟨au, cu, rfl, _, _⟩ := hu.form
          replace hnext := Lib.hid hnext
          go_wp2_with (first | ((at_builtin; have hgd := own; clear hgd; go_must (refine wpList_appX eInt rfl _ _ rfl xq rfl own rfl hu (by simp [Enc.by_]; omega) (by omega) ?_); intro vA wA ownA xA hwA _)))
          go_roundw
          case rel => exact ⟨j + 1, by omega, by go_num, by rw [hnext.out]; exact ownA, xA⟩
          case measure => simp [intOf]; omega
        · have hfin : catA (ls.take j) = catA ls := by rw [List.take_of_length_le (by omega)]
          rw [hfin] at own
          go_wp2_with fail
          go_ret
          exact ⟨_, H, rfl, xq, own⟩
end Go.Proofs.YthcfhmebikcfpaaGreatDoor
