/- The walks of trains.plans' inner function, by induction; of the function that trains.plans returns; of trains.plans and trains.cases. The walks of trains.plans and trains.cases: they return functions that are ranged over. -/
import Derived.Test.YteijmboophnmgaaIt4

namespace Go.Proofs.Yteijmboophnmgaa
open Go.RowKit

attribute [local go_sem] Holds.drew Holds.alloc Holds.drewN WB.holds

theorem from_any (HF : Snap) (n0 l W0 : Nat) (vm vb vt : Value) (h : House) (hv : Valid h) (stop : Int) (hstop : I64 stop) (PB YB HB FB SB UB R : Nat) (E : Env HF l vm vb vt h stop PB YB HB FB SB UB R)
    (xs : List (List (List Int))) (J Jx : Snap → List (List (List Int)) → World → Prop) (hJ : Abides n0 J) (hJx : Abides n0 Jx) (hY : Rounds h HF l W0 xs J Jx) :
    ∀ (n : Nat) (f : List (List Int)) (pre : List (List (List Int))) (W : World) (vs : List Value), GoodF h f → mu h f ≤ n → pre ++ plansF h stop n f <+: xs → St HF n0 UB R 3 24 W vs (ub f.flatten) (fullP h.ms.length f) → J (snapI HF UB R vs W) pre W → ∀ i : Int, i + 1 = f.length →
      Calls Try.prog 103 #[.int .i64 i, .pointer (some ⟨PB, 0, none⟩), .pointer (some ⟨YB, 0, none⟩), .pointer (some ⟨HB, 0, none⟩), .pointer (some ⟨FB, 0, none⟩), .pointer (some ⟨SB, 0, none⟩), .pointer (some ⟨UB, 0, none⟩)] W
        (FromEnd HF n0 UB R h.ms.length f (plansF h stop n f) pre J Jx) := by
  intro n
  induction n with
  | zero =>
    intro f pre W vs hg hmu hpre s hj i hi
    have hlen := hg.ne
    obtain ⟨m, hm⟩ : ∃ m, f.length = m + 1 := ⟨f.length - 1, by omega⟩
    obtain rfl : i = (m : Int) := by omega
    exact from_step HF n0 l W0 vm vb vt h hv stop hstop PB YB HB FB SB UB R E xs J Jx hJ hJx hY (fun _ => []) f hg (fun f' _ _ _ _ hlt => absurd hlt (by omega)) pre hpre W vs s hj m hm
  | succ n ih =>
    intro f pre W vs hg hmu hpre s hj i hi
    have hlen := hg.ne
    obtain ⟨m, hm⟩ : ∃ m, f.length = m + 1 := ⟨f.length - 1, by omega⟩
    obtain rfl : i = (m : Int) := by omega
    exact from_step HF n0 l W0 vm vb vt h hv stop hstop PB YB HB FB SB UB R E xs J Jx hJ hJx hY (plansF h stop n) f hg (fun f' pre' W' vs' hg' hlt hpre' s' hj' i' hi' => ih f' pre' W' vs' hg' (by omega) hpre' s' hj' i' hi') pre hpre W vs s hj m hm

theorem run_makeLists (n : Nat) (hn : n ≤ 3) (w : World) : (Instr.makeSlice 63 (.int .i64 (n : Int)) (.int .i64 (n : Int))).run Try.prog w = .ok (.slice (some ⟨w.heap.size, 0, none⟩) n n) (w.alloc (.cells (List.replicate n (Value.slice none 0 0)).toArray 24)) := by
  obtain ⟨i, z, hi, hz', hsz, hby, hzs⟩ := eList.inf
  have hz : (Try.prog.info? 24).map (·.zero) = some (some (.slice none 0 0)) := by kernel_rfl
  obtain rfl : z = .slice none 0 0 := by rw [hi] at hz; simp at hz; rw [hz] at hz'; exact (Option.some.inj hz').symm
  have hr := run_make (P := Try.prog) w 63 24 i (.slice none 0 0) eList.und hi hz' .i64 .i64 (n : Int) (n : Int) (by omega) (Int.le_refl _) (by rw [hby]; simp only [Enc.by_]; omega) (by omega)
  simp only [Int.toNat_natCast] at hr
  rw [hr, hsz]
  have : madeCells (Value.slice none 0 0).cells (n * Enc.sz (List Int)) = (List.replicate n (Value.slice none 0 0)).toArray := by
    apply Array.ext
    · simp [madeCells, Enc.sz]
    · intro k h1 h2
      simp [madeCells, Value.cells, Nat.mod_one]
  rw [this]

theorem hA {w : World} {k : Nat} {o : Obj} (o' : Obj) (h : w.heap[k]? = some o) : (w.alloc o').heap[k]? = some o := (heap_alloc_old w o' (Array.getElem?_eq_some_iff.1 h).1).trans h
theorem hN {w : World} {k : Nat} (o : Obj) (hk : k = w.heap.size) : (w.alloc o).heap[k]? = some o := by subst hk; exact heap_alloc_new w o

set_option maxRecDepth 100000 in
set_option maxHeartbeats 8000000 in
theorem plans1_any (vm vb vt : Value) (h : House) (hv : Valid h) (stop : Int) (hstop : I64 stop) (HB SB : Nat) (H : Snap) (w : World) (hw : Holds H w) (hh : Hou H vm vb vt h) (hHB : H HB = some (.cells (houV vm vb vt h).cells 26 (0, 0))) (hSB : H SB = some (.cells #[.int .i64 stop] 3 (0, 0))) :
    Iter Try.prog 102 #[.pointer (some ⟨HB, 0, none⟩), .pointer (some ⟨SB, 0, none⟩)] (encP h) (plansOf h stop) w H := by
  obtain ⟨am, cm, rfl, hm1, hm2⟩ := hh.m.form
  have hm3 := hv.m3
  intro l J Jx W HW hx hJ hJx hY h0
  have hleW := hx.le hw
  have hW := hx.holds
  obtain ⟨hc0, hc1, hc2, hc3⟩ := cellsHou (hleW _ _ hHB)
  refine Calls.mono (R := IterEnd HW (plansOf h stop) J Jx) ?_ (fun _ _ h => h)
  have hmf : ∀ (fn : Fn) (first cap : Array Value) (w : World), (Instr.makeFunc fn first cap).run Try.prog w = .ok (.func fn first cap) w := fun _ _ _ _ => rfl
  have hmk := run_makeLists h.ms.length hm3
  go_enter Try.func102, Try.ntmps102
  go_wp2_with fail
  have hn : ∀ k, W.heap.size ≤ k → HW k = none := fun k hk => hW.none_of_ge hk
  obtain ⟨YB, hYB⟩ : ∃ YB, Hid (YB = W.heap.size) := ⟨_, rfl⟩
  obtain ⟨W5, hW5⟩ : ∃ W5, Hid (W5 = ((((W.alloc (.cells #[.func (.yield l) #[] #[]] 113)).alloc (.cells (List.replicate h.ms.length (Value.slice none 0 0)).toArray 24)).alloc (.cells #[.slice (some ⟨YB + 1, 0, none⟩) h.ms.length h.ms.length] 63)).alloc (.cells #[.int .i64 ((0 : Nat) : Int)] 3)).alloc
      (.cells #[.func (.func 103) #[] #[.pointer (some ⟨YB + 1 + 1, 0, none⟩), .pointer (some ⟨YB, 0, none⟩), .pointer (some ⟨HB, 0, none⟩), .pointer (some ⟨YB + 1 + 1 + 1 + 1, 0, none⟩), .pointer (some ⟨SB, 0, none⟩), .pointer (some ⟨YB + 1 + 1 + 1, 0, none⟩)]] 104)) := ⟨_, rfl⟩
  have hb5 : Below W.heap.size W W5 := by
    rw [hW5.out]
    exact (((((Below.refl _ W).alloc (Nat.le_refl _) _).alloc (by simp) _).alloc (by simp; omega) _).alloc (by simp; omega) _).alloc (by simp; omega) _
  have k0 : W5.heap[YB]? = some (.cells #[.func (.yield l) #[] #[]] 113 (0, 0)) := by
    rw [hW5.out]; exact hA _ (hA _ (hA _ (hA _ (hN _ hYB.out))))
  have k1 : W5.heap[YB + 1]? = some (.cells (List.replicate h.ms.length (Value.slice none 0 0)).toArray 24 (0, 0)) := by
    rw [hW5.out]; exact hA _ (hA _ (hA _ (hN _ (by simp [hYB.out]))))
  have k2 : W5.heap[YB + 1 + 1]? = some (.cells #[.slice (some ⟨YB + 1, 0, none⟩) h.ms.length h.ms.length] 63 (0, 0)) := by
    rw [hW5.out]; exact hA _ (hA _ (hN _ (by simp [hYB.out])))
  have k3 : W5.heap[YB + 1 + 1 + 1]? = some (.cells #[.int .i64 ((0 : Nat) : Int)] 3 (0, 0)) := by
    rw [hW5.out]; exact hA _ (hN _ (by simp [hYB.out]))
  have k4 : W5.heap[YB + 1 + 1 + 1 + 1]? = some (.cells #[.func (.func 103) #[] #[.pointer (some ⟨YB + 1 + 1, 0, none⟩), .pointer (some ⟨YB, 0, none⟩), .pointer (some ⟨HB, 0, none⟩), .pointer (some ⟨YB + 1 + 1 + 1 + 1, 0, none⟩), .pointer (some ⟨SB, 0, none⟩), .pointer (some ⟨YB + 1 + 1 + 1, 0, none⟩)]] 104 (0, 0)) := by
    rw [hW5.out]; exact hN _ (by simp [hYB.out])
  have hyb := hYB.out
  rw [← hyb]
  have hWW : Hid (((((W.alloc (.cells #[.func (.yield l) #[] #[]] 113)).alloc (.cells (Array.replicate h.ms.length (Value.slice none 0 0)) 24)).alloc (.cells #[.slice (some ⟨YB + 1, 0, none⟩) h.ms.length h.ms.length] 63)).alloc (.cells #[.int .i64 0] 3)).alloc
      (.cells #[.func (.func 103) #[] #[.pointer (some ⟨YB + 1 + 1, 0, none⟩), .pointer (some ⟨YB, 0, none⟩), .pointer (some ⟨HB, 0, none⟩), .pointer (some ⟨YB + 1 + 1 + 1 + 1, 0, none⟩), .pointer (some ⟨SB, 0, none⟩), .pointer (some ⟨YB + 1 + 1 + 1, 0, none⟩)]] 104) = W5) := by
    show _ = _; rw [hW5.out]; simp
  rw [hWW.out]
  clear hWW hW5
  -- what is frozen from here on
  have hHF : Holds (((HW.put YB (.cells #[.func (.yield l) #[] #[]] 113 (0, 0))).put (YB + 1 + 1) (.cells #[.slice (some ⟨YB + 1, 0, none⟩) h.ms.length h.ms.length] 63 (0, 0))).put (YB + 1 + 1 + 1 + 1) (.cells #[.func (.func 103) #[] #[.pointer (some ⟨YB + 1 + 1, 0, none⟩), .pointer (some ⟨YB, 0, none⟩), .pointer (some ⟨HB, 0, none⟩), .pointer (some ⟨YB + 1 + 1 + 1 + 1, 0, none⟩), .pointer (some ⟨SB, 0, none⟩), .pointer (some ⟨YB + 1 + 1 + 1, 0, none⟩)]] 104 (0, 0))) W5 :=
    (((hW.below hb5).put k0).put k2).put k4
  have hHle : SLe HW (((HW.put YB (.cells #[.func (.yield l) #[] #[]] 113 (0, 0))).put (YB + 1 + 1) (.cells #[.slice (some ⟨YB + 1, 0, none⟩) h.ms.length h.ms.length] 63 (0, 0))).put (YB + 1 + 1 + 1 + 1) (.cells #[.func (.func 103) #[] #[.pointer (some ⟨YB + 1 + 1, 0, none⟩), .pointer (some ⟨YB, 0, none⟩), .pointer (some ⟨HB, 0, none⟩), .pointer (some ⟨YB + 1 + 1 + 1 + 1, 0, none⟩), .pointer (some ⟨SB, 0, none⟩), .pointer (some ⟨YB + 1 + 1 + 1, 0, none⟩)]] 104 (0, 0))) := by
    refine ((Snap.le_put (hn _ (by omega)) _).trans (Snap.le_put ?_ _)).trans (Snap.le_put ?_ _)
    · rw [Snap.put_other _ _ (by omega)]; exact hn _ (by omega)
    · rw [Snap.put_other _ _ (by omega), Snap.put_other _ _ (by omega)]; exact hn _ (by omega)
  have q0 := Snap.put_same HW YB (.cells #[.func (.yield l) #[] #[]] 113 (0, 0))
  obtain ⟨HF, hF⟩ : ∃ HF, Hid ((((HW.put YB (.cells #[.func (.yield l) #[] #[]] 113 (0, 0))).put (YB + 1 + 1) (.cells #[.slice (some ⟨YB + 1, 0, none⟩) h.ms.length h.ms.length] 63 (0, 0))).put (YB + 1 + 1 + 1 + 1) (.cells #[.func (.func 103) #[] #[.pointer (some ⟨YB + 1 + 1, 0, none⟩), .pointer (some ⟨YB, 0, none⟩), .pointer (some ⟨HB, 0, none⟩), .pointer (some ⟨YB + 1 + 1 + 1 + 1, 0, none⟩), .pointer (some ⟨SB, 0, none⟩), .pointer (some ⟨YB + 1 + 1 + 1, 0, none⟩)]] 104 (0, 0))) = HF) := ⟨_, rfl⟩
  have e0 : HF YB = some (.cells #[.func (.yield l) #[] #[]] 113 (0, 0)) := by rw [← hF.out, Snap.put_other _ _ (by omega), Snap.put_other _ _ (by omega), Snap.put_same]
  have e2 : HF (YB + 1 + 1) = some (.cells #[.slice (some ⟨YB + 1, 0, none⟩) h.ms.length h.ms.length] 63 (0, 0)) := by rw [← hF.out, Snap.put_other _ _ (by omega), Snap.put_same]
  have e4 : HF (YB + 1 + 1 + 1 + 1) = some (.cells #[.func (.func 103) #[] #[.pointer (some ⟨YB + 1 + 1, 0, none⟩), .pointer (some ⟨YB, 0, none⟩), .pointer (some ⟨HB, 0, none⟩), .pointer (some ⟨YB + 1 + 1 + 1 + 1, 0, none⟩), .pointer (some ⟨SB, 0, none⟩), .pointer (some ⟨YB + 1 + 1 + 1, 0, none⟩)]] 104 (0, 0)) := by rw [← hF.out, Snap.put_same]
  have e1 : HF (YB + 1) = none := by rw [← hF.out, Snap.put_other _ _ (by omega), Snap.put_other _ _ (by omega), Snap.put_other _ _ (by omega)]; exact hn _ (by omega)
  have e3 : HF (YB + 1 + 1 + 1) = none := by rw [← hF.out, Snap.put_other _ _ (by omega), Snap.put_other _ _ (by omega), Snap.put_other _ _ (by omega)]; exact hn _ (by omega)
  have eo : ∀ b, b < W.heap.size → HF b = HW b := fun b hb => by rw [← hF.out, Snap.put_other _ _ (by omega), Snap.put_other _ _ (by omega), Snap.put_other _ _ (by omega)]
  rw [hF.out] at hHF hHle
  clear hF q0
  have E : Env HF l (.slice am h.ms.length cm) vb vt h stop (YB + 1 + 1) YB HB (YB + 1 + 1 + 1 + 1) SB (YB + 1 + 1 + 1) (YB + 1) :=
    ⟨e2, e0, hHle _ _ (hleW _ _ hHB), e4, hHle _ _ (hleW _ _ hSB), hh.mono (hleW.trans hHle)⟩
  have hown : ∀ k, ownB (YB + 1 + 1 + 1) (YB + 1) (List.replicate h.ms.length (Value.slice none 0 0)) k = true → k = YB + 1 + 1 + 1 ∨ k = YB + 1 := fun k hk => by
    rcases ownB_iff.1 hk with h | h | ⟨v, hv, e⟩
    · exact .inl h
    · exact .inr h
    · rw [List.eq_of_mem_replicate hv] at e; cases e
  have hgs := goodF_start hv
  have hms1 := hv.m1
  have hfull : fullP h.ms.length [[]] = List.replicate h.ms.length [] := by
    unfold fullP
    rw [List.length_singleton]
    obtain ⟨d, hd⟩ : ∃ d, h.ms.length = d + 1 := ⟨h.ms.length - 1, by omega⟩
    rw [hd, Nat.add_sub_cancel, List.replicate_succ]; rfl
  have s : St HF W.heap.size (YB + 1 + 1 + 1) (YB + 1) 3 24 W5 (List.replicate h.ms.length (Value.slice none 0 0)) (ub ([[]] : List (List Int)).flatten) (fullP h.ms.length [[]]) := by
    rw [hfull]
    refine ⟨hHF, k3, k1, by simp, fun m l v hl hv => ?_, fun k hk => ?_, by omega, fun v hv => ?_, fun m m' v v' _ hv _ => ?_, fun x hx => ?_⟩
    · have e1 := List.eq_of_mem_replicate hl.mem
      have e2 := List.eq_of_mem_replicate hv.mem
      rw [e1, e2]; exact ⟨rfl, .inl ⟨rfl, rfl⟩⟩
    · rcases hown k hk with rfl | rfl
      · exact ⟨e3, by omega⟩
      · exact ⟨e1, by omega⟩
    · rw [List.eq_of_mem_replicate hv]; exact ⟨by simp [Value.ownBlock], by simp [Value.ownBlock]⟩
    · rw [List.eq_of_mem_replicate hv.mem]; exact .inl rfl
    · obtain ⟨l', hl', hx'⟩ := List.mem_flatten.1 hx
      rw [List.eq_of_mem_replicate hl'] at hx'; cases hx'
  have hsn : ∀ b, b < W.heap.size → snapI HF (YB + 1 + 1 + 1) (YB + 1) (List.replicate h.ms.length (Value.slice none 0 0)) W5 b = HW b := fun b hb => by
    have ho : ownB (YB + 1 + 1 + 1) (YB + 1) (List.replicate h.ms.length (Value.slice none 0 0)) b = false := by
      cases ho : ownB (YB + 1 + 1 + 1) (YB + 1) (List.replicate h.ms.length (Value.slice none 0 0)) b with
      | false => rfl
      | true => rcases hown b ho with e | e <;> omega
    cases hk : HF b with
    | some o => rw [snapI_hf _ hk, ← eo b hb, hk]
    | none => rw [snapI_none _ hk ho, ← eo b hb, hk]
  have t : Turn W.heap.size W HW W5 (snapI HF (YB + 1 + 1 + 1) (YB + 1) (List.replicate h.ms.length (Value.slice none 0 0)) W5) := by
    refine ⟨hb5, fun b cs t fr e hb => ?_, hsn, s.holds⟩
    have hlt := (Array.getElem?_eq_some_iff.1 e).1
    exact ⟨(hb5.block b hlt).trans e, (hsn b hlt).trans hb⟩
  have hj := hJ _ _ _ _ _ h0 hW t
  have hR : Rounds h HF l W.heap.size (plansOf h stop) J Jx := fun Hc pre x W1 args m hw hle => hY Hc pre x W1 args m hw (hHle.trans hle)
  refine (from_any HF W.heap.size l W.heap.size (.slice am h.ms.length cm) vb vt h hv stop hstop (YB + 1 + 1) YB HB (YB + 1 + 1 + 1 + 1) SB (YB + 1 + 1 + 1) (YB + 1) E (plansOf h stop) J Jx hJ hJx hR (mu h [[]]) [[]] [] W5 _ hgs (Nat.le_refl _) (List.prefix_refl _) s hj 0 (by simp)).mono ?_
  rintro e W' ⟨vs', s', (⟨rfl, hj'⟩ | ⟨rfl, q, hq, hj'⟩)⟩
  · go_wp2_with fail
    go_end0
    exact ⟨⟨_, rfl⟩, _, s'.holds, hHle.trans (snapI_le W'), .inl hj'⟩
  · go_wp2_with fail
    go_end0
    exact ⟨⟨_, rfl⟩, _, s'.holds, hHle.trans (snapI_le W'), .inr ⟨q, hq, hj'⟩⟩

end Go.Proofs.Yteijmboophnmgaa

namespace Go.Proofs.Yteijmboophnmgaa
open Go.RowKit

attribute [local go_sem] Holds.drew Holds.alloc Holds.drewN WB.holds

/-- A call hands back a function that can be ranged over. -/
def Maker {α : Type} (gf : FuncId) (enc : Snap → α → Array Value → Prop) (xs : List α) (w : World) (H : Snap) (e : Ending) (w' : World) : Prop :=
  ∃ lb H', e = .returned (.func (.func gf) #[] lb) ∧ Ext w H w' H' ∧ Iter Try.prog gf lb enc xs w' H'

theorem casesF_any (vm vb vt : Value) (h : House) (H : Snap) (w : World) (hw : Holds H w) (hh : Hou H vm vb vt h) (hm3 : h.ms.length ≤ 3) :
    Calls Try.prog 70 #[houV vm vb vt h] w (Maker 101 encC (casesOf h) w H) := by
  have hmf : ∀ (fn : Fn) (first cap : Array Value) (w : World), (Instr.makeFunc fn first cap).run Try.prog w = .ok (.func fn first cap) w := fun _ _ _ _ => rfl
  go_enter Try.func70, Try.ntmps70
  go_wp2_with (first | (refine wpList_boxF rfl _ rfl (Ext.refl hw) ?_; intro B w1 H1 hle hx hB hBw; have hBH := Lib.hid hB; clear hB hw; have hw1 := hx.holds))
  go_ret
  exact ⟨_, H1, rfl, hx, cases1_any vm vb vt h B H1 w1 hw1 (hh.mono hle) hBH.out hm3⟩

theorem plansMk_any (vm vb vt : Value) (h : House) (hv : Valid h) (stop : Int) (hstop : I64 stop) (H : Snap) (w : World) (hw : Holds H w) (hh : Hou H vm vb vt h) :
    Calls Try.prog 71 #[houV vm vb vt h, .int .i64 stop] w (Maker 102 (encP h) (plansOf h stop) w H) := by
  have hmf : ∀ (fn : Fn) (first cap : Array Value) (w : World), (Instr.makeFunc fn first cap).run Try.prog w = .ok (.func fn first cap) w := fun _ _ _ _ => rfl
  go_enter Try.func71, Try.ntmps71
  go_wp2_with (first | (refine wpList_boxF rfl _ rfl (Ext.refl hw) ?_; intro B w1 H1 hle hx hB hBw; have hBH := Lib.hid hB; clear hB hw; have hw1 := hx.holds))
  go_ret
  have hn : H1 w1.heap.size = none := hw1.none_of_ge (Nat.le_refl _)
  have hx2 := (hx.alloc (.cells #[.int .i64 stop] 3)).freeze hx.below.size (heap_alloc_new w1 _)
  have hle2 := Snap.le_put hn (.cells #[.int .i64 stop] 3 (0, 0))
  exact ⟨_, _, rfl, hx2, plans1_any vm vb vt h hv stop hstop B w1.heap.size _ _ hx2.holds ((hh.mono hle).mono hle2) (hle2 _ _ hBH.out) (Snap.put_same _ _ _)⟩

end Go.Proofs.Yteijmboophnmgaa
