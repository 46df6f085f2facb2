/- Lemmas and walks on which the claims of this seat lean: NCod. -/
import Derived.Test.YthcfhmebikcfpaaGreatDoorG04
import Derived.Test.YthcfhmebikcfpaaGreatDoorG07
import Derived.Deep.RegionLaw
import Derived.Lib.RabinKarpLaws

set_option linter.all false

namespace Go.Proofs.YthcfhmebikcfpaaGreatDoor
open Go.RowKit
open Go.ChangeMaps (setBlock heap_setBlock_same heap_setBlock_other)

attribute [local go_sem] Holds.drew Holds.alloc Holds.drewN WB.holds Oper.semAt_some

/-! ### Maps of numbers to strings, of which each key was put once -/

abbrev KV := List (Int × ByteArray)
def kvEnts (kvs : KV) : List MapEntry := kvs.mapIdx fun i kv => ⟨.int .i64 kv.1, .string kv.2, i⟩
def mapKV (kvs : KV) : Obj := .map (kvEnts kvs).toArray kvs.length
theorem kvEnts_snoc (kvs : KV) (k : Int) (s : ByteArray) : kvEnts (kvs ++ [(k, s)]) = kvEnts kvs ++ [⟨.int .i64 k, .string s, kvs.length⟩] := by
  unfold kvEnts
  rw [List.mapIdx_append]
  simp
theorem sameNow_int (k j : Int) : Instr.sameNow (.int .i64) (.int .i64 k) (.int .i64 j) = some (k == j) := by simp [Instr.sameNow]
theorem findNow_none {k : Int} : ∀ (es : List MapEntry) (i : Nat), (∀ e ∈ es, ∃ j, e.key = .int .i64 j ∧ j ≠ k) → Instr.findNow (.int .i64) (.int .i64 k) es i = some none
  | [], _, _ => rfl
  | e :: es, i, h => by
    obtain ⟨j, hj, hne⟩ := h e (by simp)
    unfold Instr.findNow
    rw [hj]
    have : Instr.sameNow (.int .i64) (.int .i64 k) (.int .i64 j) = some false := by
      rw [sameNow_int]
      congr 1
      rw [beq_eq_false_iff_ne]; exact fun e => hne e.symm
    rw [this]
    exact findNow_none es (i + 1) fun x hx => h x (by simp [hx])
theorem findNow_some {k : Int} {v : Value} : ∀ (es : List MapEntry) (i : Nat), (∀ e ∈ es, ∃ j, e.key = .int .i64 j) → (∃ e ∈ es, e.key = .int .i64 k) → (∀ e ∈ es, e.key = .int .i64 k → e.val = v) → ∃ n, Instr.findNow (.int .i64) (.int .i64 k) es i = some (some (n, v))
  | [], _, _, ⟨_, h, _⟩, _ => by cases h
  | e :: es, i, h1, h2, h3 => by
    obtain ⟨j, hj⟩ := h1 e (by simp)
    unfold Instr.findNow
    rw [hj]
    by_cases hk : k = j
    · subst hk
      have : Instr.sameNow (.int .i64) (.int .i64 k) (.int .i64 k) = some true := by
        rw [sameNow_int]; simp
      rw [this]
      exact ⟨i, by rw [h3 e (by simp) hj]⟩
    · have : Instr.sameNow (.int .i64) (.int .i64 k) (.int .i64 j) = some false := by
        rw [sameNow_int]
        congr 1
        rw [beq_eq_false_iff_ne]; exact hk
      rw [this]
      refine findNow_some es (i + 1) (fun x hx => h1 x (by simp [hx])) ?_ fun x hx => h3 x (by simp [hx])
      obtain ⟨x, hx, he⟩ := h2
      rcases List.mem_cons.1 hx with rfl | hx
      · rw [hj] at he; simp at he; exact absurd he.symm hk
      · exact ⟨x, hx, he⟩
/-- What a key's value is. -/
def lookKV (kvs : KV) (k : Int) : ByteArray := match kvs.find? (fun kv => kv.1 == k) with | some kv => kv.2 | none => ⟨#[]⟩
def hasKV (kvs : KV) (k : Int) : Bool := kvs.any fun kv => kv.1 == k
theorem kvEnts_mem {kvs : KV} {e : MapEntry} (h : e ∈ kvEnts kvs) : ∃ kv ∈ kvs, e.key = .int .i64 kv.1 ∧ e.val = .string kv.2 := by
  unfold kvEnts at h
  obtain ⟨i, hi, rfl⟩ := List.mem_mapIdx.1 h
  exact ⟨kvs[i], List.getElem_mem hi, rfl, rfl⟩
theorem mem_kvEnts {kvs : KV} {kv : Int × ByteArray} (h : kv ∈ kvs) : ∃ e ∈ kvEnts kvs, e.key = .int .i64 kv.1 ∧ e.val = .string kv.2 := by
  obtain ⟨i, hi, rfl⟩ := List.getElem_of_mem h
  exact ⟨_, List.mem_mapIdx.2 ⟨i, hi, rfl⟩, rfl, rfl⟩
theorem kv_unique : ∀ {kvs : KV}, (kvs.map Prod.fst).Nodup → ∀ {x y : Int × ByteArray}, x ∈ kvs → y ∈ kvs → x.1 = y.1 → x = y
  | [], _, _, _, hx, _, _ => by cases hx
  | kv :: kvs, hd, x, y, hx, hy, e => by
    rw [List.map_cons, List.nodup_cons] at hd
    rcases List.mem_cons.1 hx with ex | hx2
    · rcases List.mem_cons.1 hy with ey | hy2
      · rw [ex, ey]
      · exact absurd (show kv.1 ∈ kvs.map Prod.fst from List.mem_map.2 ⟨y, hy2, by rw [← e, ex]⟩) hd.1
    · rcases List.mem_cons.1 hy with ey | hy2
      · exact absurd (show kv.1 ∈ kvs.map Prod.fst from List.mem_map.2 ⟨x, hx2, by rw [e, ey]⟩) hd.1
      · exact kv_unique hd.2 hx2 hy2 e
theorem run_findKV {kvs : KV} (hd : (kvs.map Prod.fst).Nodup) (k : Int) : (hasKV kvs k = true → ∃ n, Instr.findNow (.int .i64) (.int .i64 k) (kvEnts kvs) 0 = some (some (n, .string (lookKV kvs k)))) ∧ (hasKV kvs k = false → Instr.findNow (.int .i64) (.int .i64 k) (kvEnts kvs) 0 = some none ∧ lookKV kvs k = ⟨#[]⟩) := by
  constructor
  · intro h
    unfold hasKV at h
    obtain ⟨kv, hm, hk⟩ := List.any_eq_true.1 h
    have hk : kv.1 = k := by simpa using hk
    have hl : lookKV kvs k = kv.2 := by
      unfold lookKV
      cases hf : kvs.find? (fun kv => kv.1 == k) with
      | none => rw [List.find?_eq_none] at hf; exact absurd (by simpa using hk) (hf kv hm)
      | some y =>
        have h1 := List.mem_of_find?_eq_some hf
        have h2 := List.find?_some hf
        have h2 : y.1 = k := by simpa using h2
        rw [kv_unique hd h1 hm (by rw [h2, hk])]
    rw [hl]
    refine findNow_some _ 0 (fun e he => by obtain ⟨x, _, h1, _⟩ := kvEnts_mem he; exact ⟨_, h1⟩) ?_ fun e he hek => ?_
    · obtain ⟨e, he, h1, _⟩ := mem_kvEnts hm
      exact ⟨e, he, by rw [h1, hk]⟩
    · obtain ⟨x, hx, h1, h2⟩ := kvEnts_mem he
      rw [h2]
      rw [h1] at hek
      simp at hek
      rw [kv_unique hd hx hm (by rw [hek, hk])]
  · intro h
    unfold hasKV at h
    rw [List.any_eq_false] at h
    refine ⟨findNow_none _ 0 fun e he => ?_, ?_⟩
    · obtain ⟨x, hx, h1, _⟩ := kvEnts_mem he
      exact ⟨_, h1, by have := h x hx; simpa using this⟩
    · unfold lookKV
      rw [List.find?_eq_none.2 fun x hx => by have := h x hx; simpa using this]
theorem zero_str (w : World) : (zeroValue 9).run Tryz.prog w = .ok (.string ⟨#[]⟩) w := by kernel_rfl
theorem run_lookKV {w : World} {b : Nat} {kvs : KV} (hb : w.heap[b]? = some (mapKV kvs)) (hd : (kvs.map Prod.fst).Nodup) (k : Int) :
    (Instr.lookup 59 (.map (some b)) (.int .i64 k) false).run Tryz.prog w = .ok (.string (lookKV kvs k)) w ∧
    (Instr.lookup 59 (.map (some b)) (.int .i64 k) true).run Tryz.prog w = .ok (.tuple #[.string (lookKV kvs k), .bool (hasKV kvs k)]) w := by
  have ht := Tryz.underlying59
  have hk := Tryz.underlying3
  have hb2 : w.heap[b]? = some (.map (kvEnts kvs).toArray kvs.length) := hb
  have hck : ∀ em, (Instr.checkKey em 10000 3 (.int .i64 k)).run Tryz.prog w = .ok () w := fun em => by
    unfold Instr.checkKey
    rw [Sem.run_bind, run_underlying hk w]
    rfl
  obtain ⟨h1, h2⟩ := run_findKV hd k
  cases h : hasKV kvs k with
  | true =>
    clear h2
    obtain ⟨n, hn⟩ := h1 h
    constructor <;> simp [Instr.lookup, run_underlying ht, MapKept.run_getObj_map hb2, hck, Instr.findKey, run_underlying hk, hn, Result.andThen]
  | false =>
    obtain ⟨hn, hl⟩ := h2 h
    rw [hl]
    constructor <;> simp [Instr.lookup, run_underlying ht, MapKept.run_getObj_map hb2, hck, Instr.findKey, run_underlying hk, hn, zero_str, Result.andThen]
theorem run_putKV {w : World} {b : Nat} {kvs : KV} (hb : w.heap[b]? = some (mapKV kvs)) {k : Int} (hk0 : k ∉ kvs.map Prod.fst) (s : ByteArray) :
    (Instr.mapUpdate 59 (.map (some b)) (.int .i64 k) (.string s)).run Tryz.prog w = .ok () (setBlock w b (mapKV (kvs ++ [(k, s)]))) := by
  have ht := Tryz.underlying59
  have hk := Tryz.underlying3
  have hb2 : w.heap[b]? = some (.map (kvEnts kvs).toArray kvs.length) := hb
  have hck : ∀ em, (Instr.checkKey em 10000 3 (.int .i64 k)).run Tryz.prog w = .ok () w := fun em => by
    unfold Instr.checkKey
    rw [Sem.run_bind, run_underlying hk w]
    rfl
  have hn : Instr.findNow (.int .i64) (.int .i64 k) (kvEnts kvs) 0 = some none := findNow_none _ 0 fun e he => by
    obtain ⟨x, hx, h1, _⟩ := kvEnts_mem he
    exact ⟨_, h1, fun e => hk0 (by rw [← e]; exact List.mem_map.2 ⟨x, hx, rfl⟩)⟩
  have e : mapKV (kvs ++ [(k, s)]) = .map ((kvEnts kvs).toArray.push ⟨.int .i64 k, .string s, kvs.length⟩) (kvs.length + 1) := by
    unfold mapKV
    rw [kvEnts_snoc]
    simp
  rw [e]
  simp [Instr.mapUpdate, run_underlying ht, MapKept.run_getObj_map hb2, hck, Instr.findKey, run_underlying hk, hn, MapKept.run_setObj_map _ hb2, Result.andThen, setBlock]

theorem below_setBlock {w : World} {b B : Nat} (hB : B ≤ b) (o : Obj) : Below B w (setBlock w b o) :=
  ⟨rfl, rfl, rfl, by simp [setBlock], fun k hk => by
    unfold setBlock
    show (w.heap.setIfInBounds b o)[k]? = _
    rw [Array.getElem?_setIfInBounds_ne (by omega)]⟩
def codeKV (l m : List Pr) : KV := m.map fun p => (p.s, strB (codeOf l p.s))
theorem codeKV_keys {l m : List Pr} (hr : (l.map Pr.s).Pairwise (· < ·)) (hp : m.Perm l) : ((codeKV l m).map Prod.fst).Nodup := by
  unfold codeKV
  rw [List.map_map]
  have h : (m.map Pr.s).Nodup := (hp.map Pr.s).nodup_iff.2 (hr.imp fun h => by omega)
  exact h
theorem codeKV_snoc {l m : List Pr} {k : Nat} {p : Pr} (h : At m k p) : codeKV l (m.take (k + 1)) = codeKV l (m.take k) ++ [(p.s, strB (codeOf l p.s))] := by
  unfold codeKV; rw [h.take, List.map_append]; rfl

set_option maxRecDepth 100000 in
set_option maxHeartbeats 4000000 in
theorem nCoded_any (v : Value) (l : List Pr) (hl : l.length ≤ 256) (C : IsCode l) (H : Snap) (w : World) (hw : Holds H w) (hs : Sl H v l) :
    Calls Tryz.prog 33 #[v] w (fun e w' => ∃ MB, e = .returned (.map (some MB)) ∧ Ext w H w' H ∧ w.heap.size ≤ MB ∧ w'.heap[MB]? = some (mapKV (codeKV l (sortA l)))) := by
  have hsm : ∀ p ∈ l, SmallP p := fun p hp => by
    have h1 := C.pos p hp
    have h2 := (C.ok p hp).2
    exact ⟨by omega, by omega⟩
  have hclo := nClone_any v l (by omega) H w hw hs
  go_enter Tryz.func33, Tryz.ntmps33
  go_upto_region 2 with (go_at_call 52; refine hclo.mono ?_; rintro e w2 ⟨v2, H2, rfl, x2, o2⟩; obtain ⟨a2, c2, rfl, _, _⟩ := o2.form)
  have hm := sortA_perm l
  have hms := sortA_sorted l
  have hml : (sortA l).length = l.length := hm.length_eq
  have hsort : ∀ g, a2 = some ⟨g, 0, none⟩ → Calls Tryz.prog 53 #[.slice a2 l.length c2, .func (.func 54) #[] #[]] w2 (fun e w' => ∃ H3, e = .returned (.tuple #[]) ∧ Ext w H w' H3 ∧ Sl H3 (.slice a2 l.length c2) (sortA l)) := fun g hg => by
    subst hg
    refine (nSort_any g c2 l hsm (by omega) H2 w.heap.size w2 o2).mono ?_
    rintro e w3 ⟨rfl, o3, q1, q2, q3, q4, q5⟩
    have hgb : w.heap.size ≤ g := (o2.lt g rfl).1
    have hgf : H2 g = none := o2.free g rfl
    have x3 : Ext w H w3 H2 := ⟨⟨q1.trans x2.below.os, q2.trans x2.below.tape, q3.trans x2.below.output, Nat.le_trans x2.below.size q4, fun b hb => (q5 b (Nat.lt_of_lt_of_le hb x2.below.size) (by omega)).trans (x2.below.block b hb)⟩, ⟨fun b o e => (q5 b (x2.holds.lt e) (fun e2 => by rw [e2, hgf] at e; cases e)).trans (x2.holds.at_ b o e)⟩, x2.same⟩
    obtain ⟨H3, x4, _, s4, _⟩ := o3.close x3
    exact ⟨H3, rfl, x4, s4⟩
  have hsort2 : Calls Tryz.prog 53 #[.slice a2 l.length c2, .func (.func 54) #[] #[]] w2 (fun e w' => ∃ H3, e = .returned (.tuple #[]) ∧ Ext w H w' H3 ∧ Sl H3 (.slice a2 l.length c2) (sortA l)) := by
    by_cases h0 : 0 < l.length
    · obtain ⟨x, hx⟩ := At.mk h0
      obtain ⟨g, c', e, _⟩ := o2.pr hx
      cases e
      exact hsort g rfl
    · have e0 : l = [] := List.eq_nil_of_length_eq_zero (by omega)
      subst e0
      obtain ⟨H3, x4, _, s4, _⟩ := o2.close x2
      refine (Go.Proofs.AnyF.slices_SortFunc_none { Tryz.sortLen with } a2 c2 _ w2).mono ?_
      rintro e w' ⟨rfl, rfl⟩
      exact ⟨H3, rfl, x4, by rw [show sortA [] = [] by unfold sortA; simp]; exact s4⟩
  clear hsort o2 hclo hsm
  go_upto_region 3 with (go_at_call 53; refine hsort2.mono ?_; rintro e w3 ⟨H3, rfl, x3, s3⟩)
  clear x2 hsort2
  have hmm := fun w => run_makeMap (P := Tryz.prog) 59 w
  have x4 := x3.alloc (.map #[] 0)
  have hM := heap_alloc_new w3 (.map #[] 0)
  have hMw := x3.below.size
  have hMH : H3 w3.heap.size = none := x3.holds.none_of_ge (Nat.le_refl _)
  generalize hmm2 : sortA l = m at *
  replace hmm2 := Lib.hid hmm2
  generalize hLL : l.length = nL at *
  subst hml
  replace hLL := Lib.hid hLL
  go_upto_region 4 with fail
  generalize w3.heap.size = MB at *
  generalize w3.alloc (.map #[] 0) = w4 at *
  clear x3 hmm
  go_wp2
  go_loopw [4, 5, 17] (fun nv qv i wr => ∃ k n q : Nat, k ≤ m.length ∧ i = .int .i64 (k : Int) ∧ nv = .int .i64 (n : Int) ∧ qv = .int .i64 (q : Int) ∧ Hid (NextB m k n q) ∧ Ext w H wr H3 ∧ wr.heap[MB]? = some (mapKV (codeKV l (m.take k)))) (fun _ _ i _ => m.length - (intOf i).toNat)
  case atStart => exact ⟨0, 0, 0, Nat.zero_le _, rfl, rfl, rfl, Lib.hid (NextB.start m), x4, hM⟩
  case round =>
    obtain ⟨k, n, q, hk, rfl, rfl, rfl, hN, xr, hmr⟩ := hrel
    have hwr := xr.holds
    have hk0 : (0 : Int) ≤ (k : Int) := by omega
    by_cases hlk : k < m.length
    · obtain ⟨p, hp⟩ := At.mk hlk
      have hpl := hm.mem_iff.1 hp.mem
      obtain ⟨hsy, h15⟩ := C.ok p hpl
      have hps := C.pos p hpl
      obtain ⟨i, hi, hil⟩ := List.getElem_of_mem hpl
      have hai : At l i p := by show l[i]? = _; rw [List.getElem?_eq_getElem hi, hil]
      have hstr := preS_strt C.b15 C.rise hm hms hp hai
      obtain ⟨hsh1, hsh2⟩ := hN.out.shift hp h15
      have hNn := hN.out.next hms hp h15
      have hql := hN.out.low p hp
      have hcode : codeOf l p.s = binB (n * 2 ^ (p.n.toNat - q)) p.n.toNat := by
        rw [codeOf_at C.rise hai, hsh1, hstr]
        unfold codeAt
        rw [bitsN_at hai]
        unfold strt
        rw [bitsN_at hai]
      have hpre := preS_le hm k
      have hkr := C.kraftN
      have hnb : n * 2 ^ (p.n.toNat - q) ≤ 32768 := by
        have h1 := Nat.le_mul_of_pos_right (n * 2 ^ (p.n.toNat - q)) (Nat.two_pow_pos (15 - p.n.toNat))
        omega
      obtain ⟨b, o, c', he, hi2, r1, r2⟩ := s3.pr hp
      cases he
      obtain ⟨ps, pn⟩ := p
      simp only at *
      obtain ⟨d, rfl⟩ := Int.eq_ofNat_of_zero_le (show 0 ≤ pn by omega)
      rw [Int.toNat_natCast] at *
      have hk1 : (k : Int) < (m.length : Int) := by omega
      have e1 := new_cell wr #[.int .i64 ps, .int .i64 (d : Int)] 47 1
      have e0 := new_cell wr #[.int .i64 ps, .int .i64 (d : Int)] 47 0
      have hwN : wrap64 ((n : Int) * 2 ^ (d - q)) = ((n * 2 ^ (d - q) : Nat) : Int) := by
        rw [show (n : Int) * 2 ^ (d - q) = ((n * 2 ^ (d - q) : Nat) : Int) by simp]
        exact wrap64_in _ (by omega) (by omega)
      generalize n * 2 ^ (d - q) = N at *
      have xx := xr.alloc (.cells #[.int .i64 ps, .int .i64 (d : Int)] 47)
      have hmx := (heap_alloc_old wr (.cells #[.int .i64 ps, .int .i64 (d : Int)] 47) (Array.getElem?_eq_some_iff.1 hmr).1).trans hmr
      have g1 : wrap64 ((d : Int) - (q : Int)) = (d : Int) - (q : Int) := wrap64_in _ (by omega) (by omega)
      have g2 : (0 : Int) ≤ (d : Int) - (q : Int) := by omega
      have g3 : ((d : Int) - (q : Int)).toNat = d - q := by omega
      go_upto_region 10 with fail
      rw [hwN]
      clear hwN
      replace hNn := Lib.hid hNn
      generalize wr.heap.size = X at *
      generalize wr.alloc (.cells #[.int .i64 ps, .int .i64 (d : Int)] 47) = wx at *
      have hbu := Bu.fresh wx
      have xb := xx.alloc (.cells #[.pointer none, .slice none 0 0] 51)
      have hBb := xx.below.size
      have hH3lt := fun b o (e : H3 b = some o) => xx.holds.lt e
      have hXM : X ≠ MB := fun e => by
        have h1 := hmx
        unfold World.cell? at e0
        rw [e, h1] at e0
        cases e0
      have hXl := cell_lt e0
      have hMl := (Array.getElem?_eq_some_iff.1 hmx).1
      have e0b := Lib.cell?_alloc_some (.cells #[.pointer none, .slice none 0 0] 51) e0
      have hmb := (heap_alloc_old wx (.cells #[.pointer none, .slice none 0 0] 51) hMl).trans hmx
      go_upto_region 11 with fail
      have hbl : wx.heap.size < (wx.alloc (.cells #[.pointer none, .slice none 0 0] 51)).heap.size := by simp
      generalize wx.alloc (.cells #[.pointer none, .slice none 0 0] 51) = wb at *
      generalize wx.heap.size = BB at *
      clear xr hmr xx hmx e0 e1 r1 r2 hwr hsh1 hsh2
      have hbin := binB_len d N
      go_wp2
      go_loopw [9] (fun i wq => ∃ j : Nat, j ≤ d ∧ i = .int .i64 ((j : Int) - 1) ∧ Bu BB BB ((binB N d).take (d - j)) wq ∧ Below BB wb wq) (fun i _ => (intOf i + 1).toNat)
      case atStart => exact ⟨d, Nat.le_refl _, by go_num, by rw [Nat.sub_self, List.take_zero]; exact hbu, Below.refl _ _⟩
      case round =>
        obtain ⟨j, hj, rfl, hbq, hbelow⟩ := hrel
        by_cases hj0 : 0 < j
        · obtain ⟨t, rfl⟩ : ∃ t, j = t + 1 := ⟨j - 1, by omega⟩
          have hti : ((t + 1 : Nat) : Int) - 1 = (t : Int) := by omega
          rw [hti]
          have ht0 : (0 : Int) ≤ (t : Int) := by omega
          have hdv : ((N / 2 ^ t : Nat) : Int) = (N : Int) / 2 ^ t := by simp
          have hand : bits BinOp.and IntKind.i64 ((N : Int) / 2 ^ t) 1 = ((N / 2 ^ t % 2 : Nat) : Int) := by
            rw [← hdv]
            exact Go.Proofs.and_one _ (Nat.lt_of_le_of_lt (Nat.div_le_self N (2 ^ t)) (Nat.lt_of_le_of_lt hnb (by decide)))
          obtain ⟨c, hc⟩ : ∃ c : UInt8, c = (if N / 2 ^ t % 2 = 0 then 48 else 49) := ⟨_, rfl⟩
          have hbyte : (48 + bits BinOp.and IntKind.i64 ((N : Int) / 2 ^ t) 1 % 256) % 256 = (c.toNat : Int) := by
            rw [hand, hc]
            rcases Nat.mod_two_eq_zero_or_one (N / 2 ^ t) with h | h
            · rw [h]; rfl
            · rw [h]; rfl
          have hat : At (binB N d) (d - (t + 1)) c := by
            have := binB_at d N t (by omega)
            rw [show d - 1 - t = d - (t + 1) by omega, ← hc] at this
            exact this
          have htk := hat.take
          rw [show d - (t + 1) + 1 = d - t by omega] at htk
          have hwt : wrap64 ((t : Int) - 1) = (t : Int) - 1 := wrap64_in _ (by omega) (by omega)
          have hlen : ((binB N d).take (d - (t + 1))).length ≤ 1000000 := by rw [List.length_take]; omega
          replace htk := Lib.hid htk
          clear hand hdv hc hat
          go_wp2_with (first | (go_at_call 32; go_must (rw [hbyte]; refine (bu_byte c hbq hlen (Nat.le_trans (Nat.le_of_lt hbl) hbelow.size)).mono ?_); rintro e w3 ⟨rfl, hbu3, hb3⟩))
          go_roundw
          case rel => exact ⟨t, by omega, by go_num, by rw [htk.out]; exact hbu3, hbelow.trans hb3⟩
          case measure => simp [intOf] <;> omega
        · have hjj0 : j = 0 := by omega
          subst hjj0
          rw [Nat.sub_zero, List.take_of_length_le (Nat.le_of_eq hbin)] at hbq
          have e0q : wr.cell? ⟨X, 0, none⟩ = some (.int .i64 ps) := by rw [hbelow.cell (p := ⟨X, 0, none⟩) hXl]; exact e0b
          have hmq := (hbelow.block MB hMl).trans hmb
          have hwq : Holds H3 wr := ⟨fun b o e => (hbelow.block b (hH3lt b o e)).trans (xb.holds.at_ b o e)⟩
          have xq := xb.step (hbelow.mono hBb) hwq
          have hBq : BB ≤ wr.heap.size := Nat.le_trans (Nat.le_of_lt hbl) hbelow.size
          have hfresh : ps ∉ (codeKV l (m.take k)).map Prod.fst := by
            intro hc
            have hnd : (m.map Pr.s).Nodup := (hm.map Pr.s).nodup_iff.2 (C.rise.imp fun h => by omega)
            obtain ⟨kv, hkv, ekv⟩ := List.mem_map.1 hc
            obtain ⟨r, hr, er⟩ := List.mem_map.1 hkv
            have e3 : r.s = ps := by rw [← ekv, ← er]
            obtain ⟨j, hj, ej⟩ := List.mem_take_iff_getElem.1 hr
            have hkm : k < m.length := hlk
            have h1 : (m.map Pr.s)[j]'(by simp; omega) = (m.map Pr.s)[k]'(by simpa using hkm) := by
              rw [List.getElem_map, List.getElem_map, ej, e3]
              have : m[k] = ⟨ps, (d : Int)⟩ := by have := hp; unfold At at this; rw [List.getElem?_eq_getElem hkm] at this; exact Option.some.inj this
              rw [this]
            exact (List.pairwise_iff_getElem.1 hnd) j k (by simp; omega) (by simpa using hkm) (by omega) h1
          have hsnoc := codeKV_snoc (l := l) hp
          rw [hcode] at hsnoc
          replace hsnoc := Lib.hid hsnoc
          replace hfresh := Lib.hid hfresh
          clear hbelow e0b hmb xb hbl hbu
          have hneg : ((0 : Nat) : Int) - 1 = -1 := by omega
          rw [hneg]
          go_upto_region 15 with fail
          go_cut [] (fun wc => Ext w H wc H3 ∧ wc.heap[MB]? = some (mapKV (codeKV l (m.take (k + 1)))))
          case first =>
            first
            | go_region_held3 (fun w' => Holds H3 w' ∧ Ext w H w' H3 ∧ w'.cell? ⟨X, 0, none⟩ = some (.int .i64 ps))
                (first | exact ⟨by assumption, by assumption, by assumption⟩ | (go_split_ands; exact ⟨Holds.drew (by assumption), Ext.drew (by assumption), by assumption⟩))
                (first | (go_split_ands; go_at_call 36; refine (bu_str (show Bu BB BB (binB N d) (World.drew wr) from hbq) hBq).mono ?_; rintro e w5 ⟨rfl, hb5⟩; have k3 : w5.cell? ⟨X, 0, none⟩ = some (.int .i64 ps) := (hb5.cell (p := ⟨X, 0, none⟩) hXl).trans e0q; have hm5 : w5.heap[MB]? = some (mapKV (codeKV l (m.take k))) := (hb5.block MB hMl).trans hmq; have k1 : Holds H3 w5 := ⟨fun b o e => (hb5.block b (hH3lt b o e)).trans (hwq.at_ b o e)⟩; have k2 : Ext w H w5 H3 := xq.drew.step (hb5.mono hBb) k1; have hput5 := run_putKV hm5 hfresh.out (strB (binB N d)); have k5 : Holds H3 (setBlock w5 MB (mapKV (codeKV l (m.take k) ++ [(ps, strB (binB N d))]))) := ⟨fun b o e => (heap_setBlock_other hm5 _ (fun e2 => by rw [e2, hMH] at e; cases e)).trans (k1.at_ b o e)⟩; have k6 : Ext w H (setBlock w5 MB (mapKV (codeKV l (m.take k) ++ [(ps, strB (binB N d))]))) H3 := k2.step (below_setBlock hMw _) k5; have k7 : (setBlock w5 MB (mapKV (codeKV l (m.take k) ++ [(ps, strB (binB N d))]))).cell? ⟨X, 0, none⟩ = some (.int .i64 ps) := by (unfold World.cell?; rw [heap_setBlock_other hm5 _ hXM]; exact k3)))
            | fail
            all_goals
              go_wp2_with fail
              go_meet
              exact ⟨k6, by rw [hsnoc.out]; exact heap_setBlock_same hm5 _⟩
          case rest =>
            obtain ⟨xc, hmc⟩ := hcut
            have g8 : wrap64 ((N : Int) + 1) = (N : Int) + 1 := wrap64_in _ (by omega) (by omega)
            clear hfresh hsnoc hwq xq e0q hmq hbq
            go_wp2
            go_roundw
            case rel => exact ⟨k + 1, N + 1, d, by omega, by go_num, by go_num, rfl, hNn, xc, hmc⟩
            case measure => simp [intOf] <;> omega
    · have hk2 : k = m.length := by omega
      rw [hk2, List.take_length] at hmr
      have xf : Ext w H wr H := ⟨xr.below, xr.holds.mono (xr.le hw), fun _ _ => rfl⟩
      go_wp2_with fail
      go_ret
      exact ⟨MB, rfl, xf, hMw, by rw [hmm2.out]; exact hmr⟩
end Go.Proofs.YthcfhmebikcfpaaGreatDoor
