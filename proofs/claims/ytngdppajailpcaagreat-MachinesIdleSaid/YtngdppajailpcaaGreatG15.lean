/- Lemmas and walks on which the claims of this seat lean: MNs3 MAll MBef. -/
import Derived.Test.YtngdppajailpcaaGreatG06
import Derived.Test.YtngdppajailpcaaGreatG14
import Derived.Carry

set_option linter.all false

namespace Go.Proofs.YtngdppajailpcaaGreat
open Go.RowKit
open Go.ChangeMaps (setBlock heap_setBlock_same heap_setBlock_other)

attribute [local go_sem] Holds.drew Holds.alloc Holds.drewN WB.holds Oper.semAt_some FW_fn FW_dep FW_round run_loadShV run_indexShV run_indexRow
attribute [local go_sem ↓] loadAt_sh index_sh index_row

theorem nfrom_any (HF : Snap) (n0 : Nat) (vm vb vt vo ve : Value) (h : Hall) (hv : ValidH h) (stop : Int) (hstop : I64 stop) (PB HB GB FB SB MB R : Nat) (E : NEnv HF vm vb vt vo ve h stop PB HB GB FB SB MB R) :
    ∀ (n : Nat) (f : List (List Int)) (ks : List Cnt) (o : Obj) (W : World) (vs : List Value), GoodF h.hs f → mu h.hs f ≤ n → KMap o ks → ks.length + (plansF h.hs stop n f).length ≤ 1000000000 → MSt HF n0 MB R 3 24 W vs o (fullP h.hs.ms.length f) → ∀ i : Int, i + 1 = f.length →
      Calls Tryz.prog 97 #[.int .i64 i, .int .i64 (ub f.flatten : Nat), .pointer (some ⟨PB, 0, none⟩), .pointer (some ⟨HB, 0, none⟩), .pointer (some ⟨GB, 0, none⟩), .pointer (some ⟨FB, 0, none⟩), .pointer (some ⟨SB, 0, none⟩)] W
        (NEnd HF n0 MB R h.hs.ms.length f (ks ++ keepP h (plansF h.hs stop n f)) W) := by
  intro n
  induction n with
  | zero =>
    intro f ks o W vs hg hmu hko hks s i hi
    have hlen := hg.ne
    obtain ⟨m, hm⟩ : ∃ m, f.length = m + 1 := ⟨f.length - 1, by omega⟩
    obtain rfl : i = (m : Int) := by omega
    exact nfrom_step HF n0 vm vb vt vo ve h hv stop hstop PB HB GB FB SB MB R E (fun _ => []) f hg (fun f' _ _ _ _ _ hlt => absurd hlt (by omega)) ks hks o hko W vs s m hm
  | succ n ih =>
    intro f ks o W vs hg hmu hko hks s i hi
    have hlen := hg.ne
    obtain ⟨m, hm⟩ : ∃ m, f.length = m + 1 := ⟨f.length - 1, by omega⟩
    obtain rfl : i = (m : Int) := by omega
    exact nfrom_step HF n0 vm vb vt vo ve h hv stop hstop PB HB GB FB SB MB R E (plansF h.hs stop n) f hg (fun f' ks' o' W' vs' hg' hlt hko' hks' s' i' hi' => ih f' ks' o' W' vs' hg' (by omega) hko' hks' s' i' hi') ks hks o hko W vs s m hm

/-- The cells of the variable 'from'. -/
def fromC (PB HB GB FB SB : Nat) : Array Value := #[.func (.func 97) #[] #[.pointer (some ⟨PB, 0, none⟩), .pointer (some ⟨HB, 0, none⟩), .pointer (some ⟨GB, 0, none⟩), .pointer (some ⟨FB, 0, none⟩), .pointer (some ⟨SB, 0, none⟩)]]

theorem needs_start {w w3 : World} {H H1 : Snap} {MB HB SB : Nat} {vm vb vt vo ve : Value} {h : Hall} (hv : ValidH h) {stop : Int} (kx : Ext w H w3 H1) (hn : ∀ k, MB ≤ k → H1 k = none) (hbw : w.heap.size ≤ MB)
    (k0 : w3.heap[MB]? = some (.map #[] 0)) (k1 : w3.heap[MB + 1]? = some (.cells #[.map (some MB)] 126 (0, 0))) (ks : w3.heap.size = MB + 1 + 1)
    (hHB : H1 HB = some (.cells (halV vm vb vt vo ve h).cells 72 (0, 0))) (hSB : H1 SB = some (.cells #[.int .i64 stop] 3 (0, 0))) (hh : Hal H1 vm vb vt vo ve h) :
    ∃ HF, Ext w H (((w3.alloc (.cells (Array.replicate h.hs.ms.length (Value.slice none 0 0)) 24)).alloc (.cells #[.slice (some ⟨MB + 1 + 1, 0, none⟩) h.hs.ms.length h.hs.ms.length] 27)).alloc (.cells (fromC (MB + 1 + 1 + 1) HB (MB + 1) (MB + 1 + 1 + 1 + 1) SB) 127)) HF ∧ SLe H1 HF ∧
      NEnv HF vm vb vt vo ve h stop (MB + 1 + 1 + 1) HB (MB + 1) (MB + 1 + 1 + 1 + 1) SB MB (MB + 1 + 1) ∧
      MSt HF w.heap.size MB (MB + 1 + 1) 3 24 (((w3.alloc (.cells (Array.replicate h.hs.ms.length (Value.slice none 0 0)) 24)).alloc (.cells #[.slice (some ⟨MB + 1 + 1, 0, none⟩) h.hs.ms.length h.hs.ms.length] 27)).alloc (.cells (fromC (MB + 1 + 1 + 1) HB (MB + 1) (MB + 1 + 1 + 1 + 1) SB) 127))
        (List.replicate h.hs.ms.length (Value.slice none 0 0)) (.map #[] 0) (fullP h.hs.ms.length [[]]) := by
  have y0 := ((kx.alloc (.cells (Array.replicate h.hs.ms.length (Value.slice none 0 0)) 24)).alloc (.cells #[.slice (some ⟨MB + 1 + 1, 0, none⟩) h.hs.ms.length h.hs.ms.length] 27)).alloc (.cells (fromC (MB + 1 + 1 + 1) HB (MB + 1) (MB + 1 + 1 + 1 + 1) SB) 127)
  have q0 : (((w3.alloc (.cells (Array.replicate h.hs.ms.length (Value.slice none 0 0)) 24)).alloc (.cells #[.slice (some ⟨MB + 1 + 1, 0, none⟩) h.hs.ms.length h.hs.ms.length] 27)).alloc (.cells (fromC (MB + 1 + 1 + 1) HB (MB + 1) (MB + 1 + 1 + 1 + 1) SB) 127)).heap[MB]? = _ := hA _ (hA _ (hA _ k0))
  have q1 : (((w3.alloc (.cells (Array.replicate h.hs.ms.length (Value.slice none 0 0)) 24)).alloc (.cells #[.slice (some ⟨MB + 1 + 1, 0, none⟩) h.hs.ms.length h.hs.ms.length] 27)).alloc (.cells (fromC (MB + 1 + 1 + 1) HB (MB + 1) (MB + 1 + 1 + 1 + 1) SB) 127)).heap[MB + 1]? = _ := hA _ (hA _ (hA _ k1))
  have q2 : (((w3.alloc (.cells (Array.replicate h.hs.ms.length (Value.slice none 0 0)) 24)).alloc (.cells #[.slice (some ⟨MB + 1 + 1, 0, none⟩) h.hs.ms.length h.hs.ms.length] 27)).alloc (.cells (fromC (MB + 1 + 1 + 1) HB (MB + 1) (MB + 1 + 1 + 1 + 1) SB) 127)).heap[MB + 1 + 1]? = _ := hA _ (hA _ (hN (.cells (Array.replicate h.hs.ms.length (Value.slice none 0 0)) 24) (by rw [ks])))
  have q3 : (((w3.alloc (.cells (Array.replicate h.hs.ms.length (Value.slice none 0 0)) 24)).alloc (.cells #[.slice (some ⟨MB + 1 + 1, 0, none⟩) h.hs.ms.length h.hs.ms.length] 27)).alloc (.cells (fromC (MB + 1 + 1 + 1) HB (MB + 1) (MB + 1 + 1 + 1 + 1) SB) 127)).heap[MB + 1 + 1 + 1]? = _ := hA _ (hN (.cells #[.slice (some ⟨MB + 1 + 1, 0, none⟩) h.hs.ms.length h.hs.ms.length] 27) (by simp [ks]))
  have q4 : (((w3.alloc (.cells (Array.replicate h.hs.ms.length (Value.slice none 0 0)) 24)).alloc (.cells #[.slice (some ⟨MB + 1 + 1, 0, none⟩) h.hs.ms.length h.hs.ms.length] 27)).alloc (.cells (fromC (MB + 1 + 1 + 1) HB (MB + 1) (MB + 1 + 1 + 1 + 1) SB) 127)).heap[MB + 1 + 1 + 1 + 1]? = _ := hN (.cells (fromC (MB + 1 + 1 + 1) HB (MB + 1) (MB + 1 + 1 + 1 + 1) SB) 127) (by simp [ks])
  generalize ((w3.alloc (.cells (Array.replicate h.hs.ms.length (Value.slice none 0 0)) 24)).alloc (.cells #[.slice (some ⟨MB + 1 + 1, 0, none⟩) h.hs.ms.length h.hs.ms.length] 27)).alloc (.cells (fromC (MB + 1 + 1 + 1) HB (MB + 1) (MB + 1 + 1 + 1 + 1) SB) 127) = W5 at *
  have y1 := ((y0.freeze (by omega) q1).freeze (by omega) q3).freeze (by omega) q4
  have hle1 : SLe H1 _ := Snap.le_put (hn (MB + 1) (by omega)) (.cells #[.map (some MB)] 126 (0, 0))
  have hle2 := Snap.le_put (H := H1.put (MB + 1) (.cells #[.map (some MB)] 126 (0, 0))) (b := MB + 1 + 1 + 1) (by rw [Snap.put_other _ _ (by omega)]; exact hn _ (by omega)) (.cells #[.slice (some ⟨MB + 1 + 1, 0, none⟩) h.hs.ms.length h.hs.ms.length] 27 (0, 0))
  have hle3 := Snap.le_put (H := (H1.put (MB + 1) (.cells #[.map (some MB)] 126 (0, 0))).put (MB + 1 + 1 + 1) (.cells #[.slice (some ⟨MB + 1 + 1, 0, none⟩) h.hs.ms.length h.hs.ms.length] 27 (0, 0))) (b := MB + 1 + 1 + 1 + 1) (by rw [Snap.put_other _ _ (by omega), Snap.put_other _ _ (by omega)]; exact hn _ (by omega)) (.cells (fromC (MB + 1 + 1 + 1) HB (MB + 1) (MB + 1 + 1 + 1 + 1) SB) 127 (0, 0))
  have hle := hle1.trans (hle2.trans hle3)
  have e0 : ((H1.put (MB + 1) (.cells #[.map (some MB)] 126 (0, 0))).put (MB + 1 + 1 + 1) (.cells #[.slice (some ⟨MB + 1 + 1, 0, none⟩) h.hs.ms.length h.hs.ms.length] 27 (0, 0))).put (MB + 1 + 1 + 1 + 1) (.cells (fromC (MB + 1 + 1 + 1) HB (MB + 1) (MB + 1 + 1 + 1 + 1) SB) 127 (0, 0)) MB = none := by
    rw [Snap.put_other _ _ (by omega), Snap.put_other _ _ (by omega), Snap.put_other _ _ (by omega)]; exact hn _ (by omega)
  have e2 : ((H1.put (MB + 1) (.cells #[.map (some MB)] 126 (0, 0))).put (MB + 1 + 1 + 1) (.cells #[.slice (some ⟨MB + 1 + 1, 0, none⟩) h.hs.ms.length h.hs.ms.length] 27 (0, 0))).put (MB + 1 + 1 + 1 + 1) (.cells (fromC (MB + 1 + 1 + 1) HB (MB + 1) (MB + 1 + 1 + 1 + 1) SB) 127 (0, 0)) (MB + 1 + 1) = none := by
    rw [Snap.put_other _ _ (by omega), Snap.put_other _ _ (by omega), Snap.put_other _ _ (by omega)]; exact hn _ (by omega)
  have hown : ∀ k, ownB MB (MB + 1 + 1) (List.replicate h.hs.ms.length (Value.slice none 0 0)) k = true → k = MB ∨ k = MB + 1 + 1 := fun k hk => by
    rcases ownB_iff.1 hk with h | h | ⟨v, hv, e⟩
    · exact .inl h
    · exact .inr h
    · rw [List.eq_of_mem_replicate hv] at e; cases e
  have hms1 := hv.hs.m1
  have hfull : fullP h.hs.ms.length [[]] = List.replicate h.hs.ms.length [] := by
    unfold fullP
    rw [List.length_singleton]
    obtain ⟨d, hd⟩ : ∃ d, h.hs.ms.length = d + 1 := ⟨h.hs.ms.length - 1, by omega⟩
    rw [hd, Nat.add_sub_cancel, List.replicate_succ]; rfl
  refine ⟨_, y1, hle, ⟨(hle3 _ _ (Snap.put_same _ _ _)), hle _ _ hHB, hle3 _ _ (hle2 _ _ (Snap.put_same _ _ _)), Snap.put_same _ _ _, hle _ _ hSB, hh.mono hle⟩, ?_⟩
  rw [hfull]
  refine ⟨y1.holds, q0, by rw [q2]; simp, by simp, fun m l v hl hv => ?_, fun k hk => ?_, by omega, fun v hv => ?_, fun m m' v v' _ hv _ => ?_, fun x hx => ?_⟩
  · have e1 := List.eq_of_mem_replicate hl.mem
    have e2 := List.eq_of_mem_replicate hv.mem
    rw [e1, e2]; exact ⟨rfl, .inl ⟨rfl, rfl⟩⟩
  · rcases hown k hk with rfl | rfl
    · exact ⟨e0, by omega⟩
    · exact ⟨e2, by omega⟩
  · rw [List.eq_of_mem_replicate hv]; exact ⟨by simp [Value.ownBlock], by simp [Value.ownBlock]⟩
  · rw [List.eq_of_mem_replicate hv.mem]; exact .inl rfl
  · obtain ⟨l', hl', hx'⟩ := List.mem_flatten.1 hx
    rw [List.eq_of_mem_replicate hl'] at hx'; cases hx'

/-- A shelf laid cell by cell. -/
theorem fold_sh {c : Cnt} (hl : c.length = 12) : Array.foldl (fun cs (x : Value × Nat) => cs.setIfInBounds x.2 x.1) #[.int .i64 0, .int .i64 0, .int .i64 0, .int .i64 0, .int .i64 0, .int .i64 0, .int .i64 0, .int .i64 0, .int .i64 0, .int .i64 0, .int .i64 0, .int .i64 0] (shC c).zipIdx 0 12 = shC c := by
  obtain ⟨a, b, c', d, e, f, g, i, j, k, m, n, rfl⟩ := list12 hl
  simp [shC, List.zipIdx]

set_option maxRecDepth 100000 in
set_option maxHeartbeats 8000000 in
theorem needs_any (vm vb vt vo ve : Value) (h : Hall) (hv : ValidH h) (stop : Int) (hstop : I64 stop) (H : Snap) (w : World) (hw : Holds H w) (hh : Hal H vm vb vt vo ve h) :
    Calls Tryz.prog 67 #[halV vm vb vt vo ve h, .int .i64 stop] w (Post w H fun v H' => ∃ ss : List Shf, Sl H' v ss ∧ Dom (ss.map Shf.c) (needsA h stop) ∧ Dom (needsA h stop) (ss.map Shf.c) ∧ ∀ s ∈ ss, Cn s.c) := by
  obtain ⟨am, cm, rfl, hm1, hm2⟩ := hh.hs.m.form
  have hm3 := hv.hs.m3
  have hmf : ∀ (fn : Fn) (first cap : Array Value) (w : World), (Instr.makeFunc fn first cap).run Tryz.prog w = .ok (.func fn first cap) w := fun _ _ _ _ => rfl
  have hmk := run_makeLists h.hs.ms.length hm3
  have hmm := fun w => run_makeMap (P := Tryz.prog) 126 w
  go_enter Tryz.func67, Tryz.ntmps67
  go_upto_region 2 with (first | (have hgd := hx0; clear hgd; refine wpList_boxF rfl _ rfl hx0 ?_; intro SB w1 H1 hle1 hx hSB hSBw; have hw1 := hx.holds; have hSB2 : H1 SB = some (.cells #[.int .i64 stop] 3 (0, 0)) := hSB; clear hSB hx0 hw0; replace hc0 := lift hle1 hc0; replace hc1 := lift hle1 hc1; replace hc2 := lift hle1 hc2; replace hc3 := lift hle1 hc3; replace hc4 := lift hle1 hc4; replace hc5 := lift hle1 hc5) | (refine wpList_boxF rfl _ rfl (Ext.refl hw) ?_; intro HB w0 H0 hle hx0 hHB hHBw; clear hw; have hw0 := hx0.holds; obtain ⟨hc0, hc1, hc2, hc3, hc4, hc5⟩ := cellsHal hHB))
  obtain ⟨MB, hMB⟩ : ∃ MB, Hid (MB = w1.heap.size) := ⟨_, rfl⟩
  rw [← hMB.out]
  have hn : ∀ k, MB ≤ k → H1 k = none := fun k hk => hw1.none_of_ge (by rw [← hMB.out]; exact hk)
  have hbw : w.heap.size ≤ MB := by rw [hMB.out]; exact hx.below.size
  have kx := (hx.alloc (.map #[] 0)).alloc (.cells #[.map (some MB)] 126)
  have hw3 := kx.holds
  have k0 : ((w1.alloc (.map #[] 0)).alloc (.cells #[.map (some MB)] 126)).heap[MB]? = some (.map #[] 0) := hA _ (hN _ hMB.out)
  have k1 : ((w1.alloc (.map #[] 0)).alloc (.cells #[.map (some MB)] 126)).heap[MB + 1]? = some (.cells #[.map (some MB)] 126 (0, 0)) := hN _ (by simp [hMB.out])
  have ks : ((w1.alloc (.map #[] 0)).alloc (.cells #[.map (some MB)] 126)).heap.size = MB + 1 + 1 := by simp [hMB.out]
  clear hx hw1
  generalize (w1.alloc (.map #[] 0)).alloc (.cells #[.map (some MB)] 126) = w3 at *
  have hhc := (hh.mono hle).mono hle1
  replace hHB := hle1 _ _ hHB
  have hHB2 : H1 HB = some (.cells (halV (.slice am h.hs.ms.length cm) vb vt vo ve h).cells 72 (0, 0)) := hHB
  clear hHB
  go_upto_region 5 with fail
  obtain ⟨HF, y5, hleF, E, s5⟩ := needs_start hv kx hn hbw k0 k1 ks hHB2 hSB2 hhc
  have hfold : ∀ (PB HB GB FB SB : Nat), (#[.func (.func 97) #[] #[.pointer (some ⟨PB, 0, none⟩), .pointer (some ⟨HB, 0, none⟩), .pointer (some ⟨GB, 0, none⟩), .pointer (some ⟨FB, 0, none⟩), .pointer (some ⟨SB, 0, none⟩)]] : Array Value) = fromC PB HB GB FB SB := fun _ _ _ _ _ => rfl
  rw [hfold]
  clear kx hw3 k0 k1 ks hfold hmf hmk hmm hc0 hc1 hc2 hc3 hc4 hc5
  generalize ((w3.alloc (.cells (Array.replicate h.hs.ms.length (Value.slice none 0 0)) 24)).alloc (.cells #[.slice (some ⟨MB + 1 + 1, 0, none⟩) h.hs.ms.length h.hs.ms.length] 27)).alloc (.cells (fromC (MB + 1 + 1 + 1) HB (MB + 1) (MB + 1 + 1 + 1 + 1) SB) 127) = W5 at *
  have hw5 := y5.holds
  have hcF := cellH E.fb hw5 0
  simp at hcF
  have hlen := plansOf_len hv.hs stop
  have hcall := nfrom_any HF w.heap.size _ _ _ _ _ h hv stop hstop _ _ _ _ _ _ _ E (mu h.hs [[]]) [[]] [] (.map #[] 0) W5 _ (goodF_start hv.hs) (Nat.le_refl _) KMap.start (by unfold plansOf at hlen; simp; omega) s5 0 (by simp)
  simp only [List.nil_append, List.flatten_cons, List.flatten_nil, List.append_nil] at hcall
  replace hcall := Lib.hid hcall
  go_upto_region 7 with (go_at_call 97; refine hcall.out.mono ?_; rintro e W6 ⟨vs6, o6, s6, hk6, hb6, r6, rfl⟩)
  clear hcall
  have hcM := fun (w : World) (hw : Holds HF w) => cellH E.gb hw 0
  simp at hcM
  obtain ⟨K, hKe⟩ : ∃ K, Hid (K = needsA h stop) := ⟨_, rfl⟩
  have hk6' : KMap o6 K := by rw [hKe.out]; exact hk6
  have hKlen : K.length ≤ 100000000 := by
    rw [hKe.out]
    have h1 := keepP_len h (plansOf h.hs stop)
    have h2 := plansOf_len hv.hs stop
    exact Nat.le_trans h1 h2
  clear hk6
  obtain ⟨D, hown6, hD⟩ := hk6'.owns s6.ub
  have hKcn := hk6'.cn
  have hDK : ∀ c ∈ K, Maps.has D (klOf c) = true := fun c hc => (hD _).2 ⟨c, hc, rfl⟩
  have hMfree := (s6.new MB (ownB_iff.2 (.inl rfl))).1
  have x6 : Ext w H W6 HF := ⟨y5.below.trans hb6, s6.hf, y5.same⟩
  have hw6 := x6.holds
  have hsz := size_le hown6

  clear s6 s5 y5 hw5 hb6 hk6' hcF hlen hn
  go_wp2_with (at_range; refine wpList_range_own _ rfl _ 126 rfl 84 3 keyed_sh Tryz.underlying126 R0 MB K.length D rfl hown6 ?_; intro w7 hrg7 hg7 hs7)
  go_frame
  have x7 : Ext w H w7 HF := ⟨x6.below.grown hg7 x6.below.size (fun _ e => by cases e), x6.holds.grown hg7 (fun _ e => by cases e), x6.same⟩
  have hr1 : HF W6.heap.size = none := hw6.none_of_ge (Nat.le_refl _)
  have hr1b : w.heap.size ≤ W6.heap.size := x6.below.size
  generalize W6.heap.size = r1 at *
  clear x6 hg7 hs7 hw6 hown6
  go_loopw [8] (fun v wr => ∃ (left : Lit → Bool) (cnt : Nat) (acc : List Shf), wr.ranges Tryz.prog 84 R0 MB r1 K.length D left cnt ∧ Gath K left (acc.map Shf.c) ∧ (∀ kl, left kl = true → ∃ c ∈ K, kl = klOf c) ∧ acc.length + cnt ≤ K.length ∧ Ext w H wr HF ∧ Own HF w.heap.size wr 84 v acc) (fun _ wr => wr.rangeLeft MB r1)
  case atStart => exact ⟨_, _, [], hrg7, Gath.start hDK, fun kl e => (hD kl).1 e, by simpa using hsz, x7, Own.nil _ _ _ _⟩
  case round =>
    clear hrg7 x7 hsz
    obtain ⟨left, cnt, acc, hrg, hga, hlk, hcl, xr, hown⟩ := hrel
    obtain ⟨av, cv, ev, _, _⟩ := hown.form
    subst ev
    have hwr := xr.holds
    go_upto_region 9 with (at_next; refine wpList_nextSh rfl _ rfl hKcn hlk rfl hrg ?_ ?_)
    · intro hc0 hl0
      have hdom := hga.dom hKcn hl0
      have hcnA : ∀ s ∈ acc, Cn s.c := fun s hs => hKcn _ (hga.out _ (List.mem_map.2 ⟨s, hs, rfl⟩)).1
      go_wp2
      go_ret
      obtain ⟨H8, x8, _, s8, _⟩ := hown.close xr
      exact ⟨_, H8, rfl, x8, acc, s8, by rw [← hKe.out]; exact hdom.1, by rw [← hKe.out]; exact hdom.2, hcnA⟩
    · intro c ev w8 cnt8 hcK hcn hlc hrg8 hlt8 hg8 hs8 hen8
      clear hs8
      have own8 := hown.kept hg8 (hown.ne_iter hrg)
      have x8 := xr.next hg8 hr1 hr1b
      have hld := left_sub hlk (klOf c)
      go_upto_region 10 with (refine wpList_storeSh rfl _ _ rfl rfl rfl (ShV.new x8.holds x8.below.size) (by rfl) hcn.len (x8.alloc _) (Nat.le_refl _) ?_; intro w9 hrS x9 hO9 hz9)
      have hg9 : w8.grownBy w9 none := grown_of x8 x9 (by rw [hz9]; simp) (fun k hk => (hO9 k (by omega)).trans (Below.heap_alloc _ _ _ hk))
      have own9 := own8.kept0 hg9
      have hrg9 := hrg8.kept hg9 (by simp) (by simp)
      clear hO9 hz9 hg9 own8 x8 hrg8 hg8 hen8 xr hown hwr
      generalize w8.heap.size = S at *
      have hw9 := x9.holds
      have own9M := hrg9.owns
      go_wp2_with (at_range; refine wpList_range_own _ rfl _ 126 rfl 84 3 keyed_sh Tryz.underlying126 R0 MB K.length D rfl own9M ?_; intro w10 hrh10 hg10 hs10)
      go_frame
      have x10 := x9.next0 hg10
      have own10 := own9.kept0 hg10
      have hrg10 := hrg9.kept hg10 (by simp) (by simp)
      have hS10 := hrS.kept hg10 (by simp)
      have hr2 : HF w9.heap.size = none := hw9.none_of_ge (Nat.le_refl _)
      have hr2b : w.heap.size ≤ w9.heap.size := x9.below.size
      have hr12 : r1 ≠ w9.heap.size := Nat.ne_of_lt hrg9.lt
      have hS2 : S ≠ w9.heap.size := Nat.ne_of_lt hrS.lt
      generalize w9.heap.size = r2 at *
      clear x9 hw9 own9 hrg9 hrS hg10 hs10 own9M
      go_loopw [10] (fun v wq => ∃ (left2 : Lit → Bool) (cnt2 : Nat) (b : Bool), v = .bool b ∧ LeastSo K left2 c b ∧ (∀ kl, left2 kl = true → ∃ c ∈ K, kl = klOf c) ∧ wq.ranges Tryz.prog 84 R0 MB r2 K.length D left2 cnt2 ∧
          wq.ranges Tryz.prog 84 R0 MB r1 K.length D (fun z => left z && !z.sameKey (klOf c)) cnt8 ∧ Ext w H wq HF ∧ Own HF w.heap.size wq 84 (.slice av acc.length cv) acc ∧ ShV HF w.heap.size wq S c) (fun _ wq => wq.rangeLeft MB r2)
      case atStart => exact ⟨_, _, true, rfl, LeastSo.start hDK c, fun kl e => (hD kl).1 e, hrh10, hrg10, x10, own10, hS10⟩
      case round =>
        clear hrh10 hrg10 x10 own10 hS10
        obtain ⟨left2, cnt2, b, rfl, hls, hlk2, hrq2, hrq1, xq, hown, hrS⟩ := hrel
        have hwq := xq.holds
        have hldS := mid_row hrS.at_ hcn.len
        go_upto_region 13 with (at_next; refine wpList_nextSh rfl _ rfl hKcn hlk2 rfl hrq2 ?_ ?_)
        · intro hc0 hl0
          have hmin := hls.done hcK hl0
          have s1 : (shC c).size = 12 := by rw [shC_size, hcn.len]
          have hlen : acc.length + 1 ≤ 100000000 := by omega
          have hfo := fold_sh hcn.len
          have hsame := xq.same
          clear hrq2
          cases b
          · have hno : ¬ isMin K c := fun h => by have := hmin.2 h; cases this
            go_wp2
            go_roundw
            case rel => exact ⟨_, cnt8, acc, hrq1, hga.no hKcn hcK hno, hld, by omega, xq, hown⟩
            case measure => rw [hrq1.left_eq, hrg.left_eq]; exact hlt8
          · have hyes : isMin K c := hmin.1 rfl
            obtain ⟨H4, x4, l4, own4, hit4⟩ := xq.iter hrq1 hbw hr1b hMfree hr1 hown
            have hw4 := x4.holds
            clear hwq xq hown
            go_wp2_with (first | ((at_builtin; have hgd := own4; clear hgd; refine wpList_app1R eShf _ _ x4 own4 (x := ⟨c⟩) (c.map (Value.int .i64)) ⟨by simp [shC], hcn⟩ (by simp [Enc.by_]; omega) (by omega) rfl rfl rfl rfl ?_; intro vA wA hownA hxA hwA)))
            have hrA := hit4 _ hxA.holds
            go_roundw
            case rel => exact ⟨_, cnt8, acc ++ [⟨c⟩], hrA, by rw [List.map_append]; exact hga.yes hKcn hyes, hld, by simp; omega, ⟨hxA.below, hxA.holds.mono l4, hsame⟩, Own.flat (A := H4) (B := HF) hownA (fun _ _ h => h) l4⟩
            case measure => rw [hrA.left_eq, hrg.left_eq]; exact hlt8
        · intro d ev2 w12 cnt12 hdK hdn hld2 hrg12 hlt12 hg12 hs12 hen12
          clear hs12
          have own12 := hown.kept hg12 (hown.ne_iter hrq2)
          have x12 := xq.next hg12 hr2 hr2b
          have hrq12 := hrq1.kept hg12 (by simp; exact Ne.symm hrq2.ne) (by simp; exact hr12)
          have hS12 := hrS.kept hg12 (by simp; exact hS2)
          go_upto_region 14 with (refine wpList_storeSh rfl _ _ rfl rfl rfl (ShV.new x12.holds x12.below.size) (by rfl) hdn.len (x12.alloc _) (Nat.le_refl _) ?_; intro w13 hrT x13 hO13 hz13)
          have hg13 : w12.grownBy w13 none := grown_of x12 x13 (by rw [hz13]; simp) (fun k hk => (hO13 k (by omega)).trans (Below.heap_alloc _ _ _ hk))
          have own13 := own12.kept0 hg13
          have hrg13 := hrg12.kept hg13 (by simp) (by simp)
          have hrq13 := hrq12.kept hg13 (by simp) (by simp)
          have hS13 := hS12.kept hg13 (by simp)
          have hls2 := hls.step hKcn hdK
          have hld3 := left_sub hlk2 (klOf d)
          have hST : S ≠ w12.heap.size := Nat.ne_of_lt hS12.lt
          clear hO13 hz13 hg13 own12 x12 hrg12 hg12 hen12 xq hown hwq hS12 hrS hrq12 hrq1 hls hldS
          generalize w12.heap.size = T at *
          have hldS := mid_row hS13.at_ hcn.len
          have hldT := mid_row hrT.at_ hdn.len
          have hw13 := x13.holds
          have s1 : (shC c).size = 12 := by rw [shC_size, hcn.len]
          have s2 : (shC d).size = 12 := by rw [shC_size, hdn.len]
          have hEq := fun w => run_eql_sh w hcn hdn
          have fin : ∀ w2 : World, w13.grownBy w2 none → ∃ (left2 : Lit → Bool) (cnt2 : Nat) (b' : Bool), Value.bool (b && (decide (c = d) || !cntLe d c)) = .bool b' ∧ LeastSo K left2 c b' ∧ (∀ kl, left2 kl = true → ∃ c ∈ K, kl = klOf c) ∧ w2.ranges Tryz.prog 84 R0 MB r2 K.length D left2 cnt2 ∧
              w2.ranges Tryz.prog 84 R0 MB r1 K.length D (fun z => left z && !z.sameKey (klOf c)) cnt8 ∧ Ext w H w2 HF ∧ Own HF w.heap.size w2 84 (.slice av acc.length cv) acc ∧ ShV HF w.heap.size w2 S c := fun w2 hg =>
            ⟨_, cnt12, _, rfl, hls2, hld3, hrg13.kept hg (by simp) (by simp), hrq13.kept hg (by simp) (by simp), x13.next0 hg, own13.kept0 hg, hS13.kept hg (by simp)⟩
          have hlt : ∀ w2 : World, w13.grownBy w2 none → w2.rangeLeft MB r2 < wr.rangeLeft MB r2 := fun w2 hg => by
            rw [(hrg13.kept hg (by simp) (by simp)).left_eq, hrq2.left_eq]; exact hlt12
          have hg0 : w13.grownBy w13 none := grown_below (Below.refl _ _)
          clear hrT x13 own13 hrg13 hrq13 hS13 hls2 hld3 hrq2
          replace fin := Lib.hid fin
          replace hlt := Lib.hid hlt
          cases b
          · go_wp2
            go_roundw
            case rel => exact fin.out _ hg0
            case measure => exact hlt.out _ hg0
          · by_cases hcd : c = d
            · have hdec : decide (c = d) = true := decide_eq_true hcd
              rw [hdec] at fin hEq
              clear hcd hdec
              go_wp2
              go_roundw
              case rel => exact fin.out _ hg0
              case measure => exact hlt.out _ hg0
            · have hdec : decide (c = d) = false := decide_eq_false hcd
              rw [hdec] at fin hEq
              clear hcd hdec
              go_wp2_with (first | (go_at_call 96; refine (has_any _ _ hcn hdn HF _ hw13).mono ?_; rintro e w2 ⟨rfl, hb2⟩; have hg2 := grown_below hb2))
              go_roundw
              case rel => exact fin.out _ hg2
              case measure => exact hlt.out _ hg2

end Go.Proofs.YtngdppajailpcaaGreat

namespace Go.Proofs.YtngdppajailpcaaGreat
open Go.RowKit

attribute [local go_sem] Holds.drew Holds.alloc Holds.drewN WB.holds Oper.semAt_some FW_fn FW_dep FW_round run_loadShV run_indexShV run_indexRow
attribute [local go_sem ↓] loadAt_sh index_sh index_row

/-- Each lies above the other. -/
def Agr (l m : List Cnt) : Prop := Dom l m ∧ Dom m l
structure Agree (a b : List (List Cnt)) : Prop where
  d1 : Doms a b
  d2 : Doms b a
theorem Doms.snoc : ∀ {a b : List (List Cnt)} {l m : List Cnt}, Doms a b → Dom l m → Doms (a ++ [l]) (b ++ [m])
  | _, _, _, _, .nil, h => .cons h .nil
  | _, _, _, _, .cons h k, h' => .cons h (k.snoc h')
theorem Agree.snoc {a b : List (List Cnt)} {l m : List Cnt} (h : Agree a b) (k : Agr l m) : Agree (a ++ [l]) (b ++ [m]) := ⟨h.d1.snoc k.1, h.d2.snoc k.2⟩

set_option maxRecDepth 100000 in
set_option maxHeartbeats 4000000 in
theorem all_any (vm vb vt vo ve : Value) (h : Hall) (hv : ValidH h) (H : Snap) (w : World) (hw : Holds H w) (hh : Hal H vm vb vt vo ve h) :
    Calls Tryz.prog 56 #[halV vm vb vt vo ve h] w (Post w H fun v H' => ∃ L : List (List Shf), Sl H' v L ∧ Agree (L.map (·.map Shf.c)) (allA h) ∧ ∀ l ∈ L, ∀ s ∈ l, Cn s.c) := by
  have hm3 := hv.hs.m3
  have hclen : (casesOf h.hs).length ≤ 4 := Nat.le_trans (casesTo_len h.hs _) (by omega)
  have hcm : ∀ c ∈ casesOf h.hs, -1 ≤ c ∧ c < h.hs.ms.length := fun c hc => casesOf_mem hc
  replace hcm := Lib.hid hcm
  go_enter Tryz.func56, Tryz.ntmps56
  go_upto_region 1 with (refine wpList_boxF rfl _ rfl (Ext.refl hw) ?_; intro B w1 H1 hle hx hB hBw; obtain ⟨hc0, hc1, hc2, hc3, hc4, hc5⟩ := cellsHal hB; clear hB hw; have hw1 := hx.holds)
  have hhc := hh.mono hle
  go_upto_region 2 with (go_at_call 71; refine (casesM_any _ _ _ _ _ h H1 _ hw1 hhc hm3).mono ?_; rintro e w2 ⟨v2, H2, rfl, x2, o2⟩; obtain ⟨a2, c2, rfl, _, _⟩ := o2.form)
  obtain ⟨H3, x3, l3, s3, _⟩ := (o2.weaken hx.below.size).close (hx.trans x2)
  have hw3 := x3.holds
  have l13 : SLe H1 H3 := (x2.le hw1).trans l3
  replace hhc := hhc.mono l13
  replace hc0 := lift l13 hc0
  replace hc1 := lift l13 hc1
  replace hc2 := lift l13 hc2
  replace hc3 := lift l13 hc3
  replace hc4 := lift l13 hc4
  replace hc5 := lift l13 hc5
  clear x2 o2 l3 hw1 hx l13
  go_wp2
  go_loopw [2, 8] (fun v i wr => ∃ (k : Nat) (acc : List (List Shf)) (Hc : Snap), k ≤ (casesOf h.hs).length ∧ i = .int .i64 k ∧ SLe H3 Hc ∧ Ext w H wr Hc ∧ Own Hc w.heap.size wr 100 v acc ∧ acc.length = k ∧
      Agree (acc.map (·.map Shf.c)) (((casesOf h.hs).take k).map (needsA h)) ∧ ∀ l ∈ acc, ∀ s ∈ l, Cn s.c) (fun _ i _ => (casesOf h.hs).length - (intOf i).toNat)
  case atStart => exact ⟨0, [], H3, Nat.zero_le _, rfl, SLe.refl _, x3, Own.nil _ _ _ _, rfl, ⟨.nil, .nil⟩, by simp⟩
  case round =>
    clear hw3 x3
    obtain ⟨k, acc, Hc, hk, rfl, l4, xr, hown, hal, hag, hcn⟩ := hrel
    have hwr := xr.holds
    have hacl : acc.length ≤ 4 := by omega
    replace hal := Lib.hid hal
    obtain ⟨av, cv, ev, _, _⟩ := hown.form
    subst ev
    by_cases hlk : k < (casesOf h.hs).length
    · obtain ⟨x, hx⟩ := At.mk hlk
      have hsI : I64 x := by have := hcm.out x hx.mem; unfold I64; omega
      obtain ⟨b, o, c, he, hi, hr⟩ := s3.int hx
      cases he
      replace hr := lift l4 hr
      have hhr := hhc.mono l4
      have hcc0 := lift l4 hc0
      have hcc1 := lift l4 hc1
      have hcc2 := lift l4 hc2
      have hcc3 := lift l4 hc3
      have hcc4 := lift l4 hc4
      have hcc5 := lift l4 hc5
      have htk : (casesOf h.hs).take (k + 1) = (casesOf h.hs).take k ++ [x] := hx.take
      replace htk := Lib.hid htk
      go_wp2_with (first | ((at_builtin; have hgd := ss; clear hgd; refine wpList_app1L eShfs _ _ xN ownN ss hss (by omega) rfl rfl rfl rfl ?_; intro vA wA hownA hxA hwA)) | (go_at_call 67; refine (needs_any _ _ _ _ _ h hv x hsI Hc _ hwr hhr).mono ?_; rintro e wn ⟨vn, Hn, rfl, xn, ss, hss, hd1, hd2, hcs⟩; obtain ⟨an, cn, rfl, _, _⟩ := hss.form; have ownN := hown.ext hwr xn; have xN := xr.trans xn; have lN := xn.le hwr))
      go_roundw
      case rel => exact ⟨k + 1, acc ++ [ss], Hn, by omega, by go_num, l4.trans lN, hxA, hownA, by simp [hal.out], by
        rw [htk.out, List.map_append, List.map_append]; exact hag.snoc ⟨hd1, hd2⟩, fun l hl => by
        rcases List.mem_append.1 hl with h | h
        · exact hcn l h
        · rw [List.mem_singleton.1 h]; exact hcs⟩
      case measure => simp [intOf]; omega
    · have hk' : k = (casesOf h.hs).length := by omega
      go_wp2
      go_ret
      obtain ⟨H5, x5, l5, s5, _⟩ := hown.close xr
      rw [hk', List.take_length] at hag
      exact ⟨_, H5, rfl, x5, acc, s5, hag, hcn⟩

end Go.Proofs.YtngdppajailpcaaGreat

namespace Go.Proofs.YtngdppajailpcaaGreat
open Go.RowKit

attribute [local go_sem] Holds.drew Holds.alloc Holds.drewN WB.holds Oper.semAt_some FW_fn FW_dep FW_round run_loadShV run_indexShV run_indexRow
attribute [local go_sem ↓] loadAt_sh index_sh index_row

theorem cmpL_append : ∀ {a b : List Int}, a.length = b.length → ∀ (x y : List Int), cmpL (a ++ x) (b ++ y) = if cmpL a b = 0 then cmpL x y else cmpL a b
  | [], [], _, x, y => by simp [cmpL]
  | u :: a, v :: b, hl, x, y => by
    have ih := cmpL_append (a := a) (b := b) (by simpa using hl) x y
    show cmpL (u :: (a ++ x)) (v :: (b ++ y)) = _
    by_cases e : cmp3 u v = 0
    · have h1 : cmpL (u :: (a ++ x)) (v :: (b ++ y)) = cmpL (a ++ x) (b ++ y) := by rw [cmpL, if_pos e]
      have h2 : cmpL (u :: a) (v :: b) = cmpL a b := by rw [cmpL, if_pos e]
      simp only [h1, h2, ih]
    · have h1 : cmpL (u :: (a ++ x)) (v :: (b ++ y)) = cmp3 u v := by rw [cmpL, if_neg e]
      have h2 : cmpL (u :: a) (v :: b) = cmp3 u v := by rw [cmpL, if_neg e]
      simp only [h1, h2, if_neg e]
theorem cmpL_earlier : ∀ {a b : List Int}, a.length = b.length → (cmpL a b < 0 ↔ earlier a b = true)
  | [], [], _ => by simp [cmpL, earlier]
  | u :: a, v :: b, hl => by
    have ih := cmpL_earlier (a := a) (b := b) (by simpa using hl)
    simp only [cmpL, earlier]
    by_cases e : u = v
    · rw [if_pos (cmp3_eq.2 e), if_pos e]; exact ih
    · rw [if_neg (mt cmp3_eq.1 e), if_neg e]
      unfold cmp3
      split
      · simp; assumption
      · split <;> simp <;> omega
theorem cmpL_bd9 : ∀ (a b : List Int), -1 ≤ cmpL a b ∧ cmpL a b ≤ 1
  | [], [] => by simp [cmpL]
  | [], _ :: _ => by simp [cmpL]
  | _ :: _, [] => by simp [cmpL]
  | u :: a, v :: b => by
    simp only [cmpL]
    split
    · exact cmpL_bd9 a b
    · exact cmp3_bd u v

/-- A page's numbers. -/
def pageOf (c : Cnt) (k : Nat) : List Int := (c.drop (3 * k)).take 3
theorem pageOf_next (c : Cnt) (k : Nat) : c.drop (3 * k) = pageOf c k ++ c.drop (3 * (k + 1)) := by
  unfold pageOf
  rw [show 3 * (k + 1) = 3 * k + 3 by omega, ← List.drop_drop]
  exact (List.take_append_drop 3 _).symm
theorem pageOf_len {c : Cnt} (hl : c.length = 12) {k : Nat} (hk : k < 4) : (pageOf c k).length = 3 := by unfold pageOf; simp [hl]; omega

/-- A page of a shelf that is frozen, as a slice. -/
theorem Sl.page {H : Snap} {b : Nat} {c : Cnt} {t : TypeId} (h : H b = some (.cells (shC c) t (0, 0))) (hc : Cn c) {k : Nat} (hk : k < 4) : Sl H (.slice (some ⟨b, k * 3, none⟩) 3 3) (pageOf c k) := by
  have hl := pageOf_len hc.len hk
  refine ⟨some ⟨b, k * 3, none⟩, 3, by rw [hl], by omega, by omega, by simp only [Enc.by_]; omega, .inr ⟨b, k * 3, shC c, t, (0, 0), rfl, h, by simp [Enc.sz, shC_size, hc.len]; omega, ?_⟩⟩
  rw [reps_int]
  constructor
  · unfold pageOf shC
    simp [Enc.sz, hc.len, List.map_drop, List.map_take, Nat.mul_comm]
  · intro x hx
    unfold pageOf at hx
    have hx' := List.mem_of_mem_drop (List.mem_of_mem_take hx)
    have := hc.bd x hx'
    unfold I64; omega

set_option maxRecDepth 100000 in
set_option maxHeartbeats 4000000 in
theorem before_any (c d : Cnt) (hc : Cn c) (hd : Cn d) (H : Snap) (w : World) (hw : Holds H w) :
    Calls Tryz.prog 91 #[.agg (shC c), .agg (shC d)] w (PostV w (.int .i64 (cmpL d c))) := by
  obtain ⟨C, hC⟩ : ∃ C, Hid (C = cmpL d c) := ⟨_, rfl⟩
  rw [← hC.out]
  go_enter Tryz.func91, Tryz.ntmps91
  go_upto_region 1 with (first | (have hgd := hx0; clear hgd; refine wpList_boxF rfl _ rfl hx0 ?_; intro T w1 H1 hle1 hx hT hTb; have hw1 := hx.holds) | (refine wpList_boxF rfl _ rfl (Ext.refl hw) ?_; intro S w0 H0 hle hx0 hS hSb))
  have hS1 : H1 S = some (.cells (shC c) 84 (0, 0)) := hle1 _ _ hS
  have hT1 : H1 T = some (.cells (shC d) 84 (0, 0)) := hT
  clear hS hT hx0 hw
  go_wp2
  go_loopw [7] (fun i wr => ∃ k : Nat, k ≤ 4 ∧ i = .int .i64 k ∧ Hid (cmpL (d.drop (3 * k)) (c.drop (3 * k)) = C) ∧ Ext w H wr H1) (fun i _ => 4 - (intOf i).toNat)
  case atStart => exact ⟨0, by omega, rfl, hC.out.symm, hx⟩
  case round =>
    clear hx hw1
    obtain ⟨k, hk, rfl, hcm, xr⟩ := hrel
    have hwr := xr.holds
    by_cases hlk : k < 4
    · have p1 := Sl.page hS1 hc hlk
      have p2 := Sl.page hT1 hd hlk
      have hk0 : (0 : Int) ≤ (k : Int) := by omega
      have hk1 : (k : Int) < 4 := by omega
      have hn1 := pageOf_next c k
      have hn2 := pageOf_next d k
      have hcm2 := hcm.out
      rw [hn1, hn2, cmpL_append (by rw [pageOf_len hd.len hlk, pageOf_len hc.len hlk])] at hcm2
      have hbd := cmpL_bd9 (pageOf d k) (pageOf c k)
      clear hn1 hn2 hcm
      go_upto_region 4 with fail
      by_cases hz : cmpL (pageOf d k) (pageOf c k) = 0
      · rw [if_pos hz] at hcm2
        replace hcm2 := Lib.hid hcm2
        have hcp := fun (W : World) (hW : Holds H1 W) => by
          have := compare_any _ _ _ _ H1 W hW p2 p1
          rw [hz] at this
          exact this
        replace hcp := Lib.hid hcp
        clear hz hbd
        refine wp_region_quietB H1 (by kernel_rfl) (by kernel_rfl) hwr (fun hne => ?_)
        repeat go_big_quiet_step ((first | (go_at_call 123; exact Calls.quietB (hcp.out _ (WB.holds _)))))
        refine wpQuiet_nil ?_
        rintro ⟨w2, hw2, hb2⟩
        clear hne
        have x2 : Ext w H w2 H1 := xr.step (hb2.mono xr.below.size) hw2
        go_wp2
        go_roundw
        case rel => exact ⟨k + 1, by omega, by go_num, hcm2, x2⟩
        case measure => simp [intOf]; omega
      · rw [if_neg hz] at hcm2
        have hcp := fun (W : World) (hW : Holds H1 W) => by
          have := compare_any _ _ _ _ H1 W hW p2 p1
          rw [hcm2] at this
          exact this
        rw [hcm2] at hz
        have hne : (C != 0) = true := by simpa using hz
        replace hcp := Lib.hid hcp
        clear hz hbd hcm2
        refine wp_region_quietB H1 (by kernel_rfl) (by kernel_rfl) hwr (fun hne => ?_)
        repeat go_big_quiet_step ((first | (go_at_call 123; exact Calls.quietB (hcp.out _ (WB.holds _)))))
        refine wpQuiet_nil ?_
        rintro ⟨w2, hw2, hb2⟩
        clear hne
        have x2 : Ext w H w2 H1 := xr.step (hb2.mono xr.below.size) hw2
        go_wp2
        go_ret
        exact ⟨rfl, x2.below⟩
    · have hk4 : k = 4 := by omega
      have hz : C = 0 := by
        have := hcm.out
        rw [hk4, List.drop_eq_nil_of_le (by rw [hd.len]; omega), List.drop_eq_nil_of_le (by rw [hc.len]; omega)] at this
        exact this.symm
      replace hz := Lib.hid hz
      clear hcm
      go_wp2
      go_ret
      exact ⟨by rw [hz.out]; rfl, xr.below⟩

end Go.Proofs.YtngdppajailpcaaGreat
