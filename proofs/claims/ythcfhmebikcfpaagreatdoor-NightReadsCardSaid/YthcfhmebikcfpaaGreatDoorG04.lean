/- Lemmas and walks on which the claims of this seat lean: NRef1 NRef2 NRef3 NCode NMake NRef4 NRef5 NBld NPrg1 NBldS NMsg. -/
import Derived.Test.YthcfhmebikcfpaaGreatDoorG02
import Derived.Test.YthcfhmebikcfpaaGreatDoorG03
import Derived.Lib.Builder
import Derived.Lib.AppendStr
import Derived.Lib.UnsafeStr
import Derived.Laws.Externs
import Derived.Lib.Slices
import Derived.Lib.Strings

set_option linter.all false

namespace Go.Proofs.YthcfhmebikcfpaaGreatDoor
open Go.RowKit

attribute [local go_sem] Holds.drew Holds.alloc Holds.drewN WB.holds Oper.semAt_some

/-- The bytes of a string. -/
def bys (s : ByteArray) : List UInt8 := s.data.toList
theorem bys_len (s : ByteArray) : (bys s).length = s.size := rfl
def okByte (b : UInt8) : Bool := within (b.toNat : Int) 32 126
def isTextA (s : ByteArray) : Bool := decide (s.size ≤ 48) && (bys s).all okByte

theorem within14_any (n lo hi : Int) (w : World) : Calls Tryz.prog 73 #[.int .i64 n, .int .i64 lo, .int .i64 hi] w (PostV w (.bool (within n lo hi))) := by
  go_enter Tryz.func73, Tryz.ntmps73
  go_wp2_with (first | (go_at_call 98; refine (within_any _ _ _ _).mono ?_; rintro e w2 ⟨rfl, rfl⟩))
  go_ret
  exact ⟨rfl, Below.refl _ _⟩
theorem wrap64_in (n : Int) (h1 : -9223372036854775808 ≤ n) (h2 : n ≤ 9223372036854775807) : wrap64 n = n := by
  unfold wrap64; omega

set_option maxRecDepth 100000 in
theorem isText14_any (s : ByteArray) (w : World) :
    Calls Tryz.prog 56 #[.string s] w (PostV w (.bool (isTextA s))) := by
  cases hs : decide (s.size ≤ 48)
  · have e : isTextA s = false := by unfold isTextA; rw [hs]; rfl
    have hg : ¬ ((s.size : Int) ≤ 48) := by rw [decide_eq_false_iff_not] at hs; omega
    rw [e]
    go_enter Tryz.func56, Tryz.ntmps56
    go_wp2
    go_ret
    exact ⟨rfl, Below.refl _ _⟩
  · have hg : (s.size : Int) ≤ 48 := by rw [decide_eq_true_eq] at hs; omega
    have e : isTextA s = (bys s).all okByte := by unfold isTextA; rw [hs]; rfl
    rw [e]
    go_enter Tryz.func56, Tryz.ntmps56
    go_wp2
    go_loopw [3] (fun i wr => ∃ k : Nat, k ≤ s.size ∧ i = .int .i64 k ∧ Hid (((bys s).take k).all okByte = true) ∧ Below w.heap.size w wr) (fun i _ => s.size - (intOf i).toNat)
    case atStart => exact ⟨0, Nat.zero_le _, rfl, rfl, Below.refl _ _⟩
    case round =>
      obtain ⟨k, hk, rfl, hok, hbr⟩ := hrel
      by_cases hlk : k < s.size
      · obtain ⟨x, hx⟩ := At.mk (show k < (bys s).length from hlk)
        have hk0 : (0 : Int) ≤ (k : Int) := by omega
        have hk1 : (k : Int) < (s.size : Int) := by omega
        have hsk : s[k] = x := by
          have h1 : (bys s)[k]? = some x := hx
          rw [List.getElem?_eq_getElem (show k < (bys s).length from hlk)] at h1
          exact Option.some.inj h1
        have hxl : x.toNat < 256 := x.toNat_lt
        have hwx : wrap64 (x.toNat : Int) = (x.toNat : Int) := wrap64_in _ (by omega) (by omega)
        have hwt : ∀ (W : World), Calls Tryz.prog 73 #[.int .i64 (x.toNat : Int), .int .i64 32, .int .i64 126] W (PostV W (.bool (okByte x))) := fun W => within14_any _ _ _ W
        replace hwt := Lib.hid hwt
        cases g : okByte x
        · rw [g] at hwt
          have hall : (bys s).all okByte = false := by
            rw [List.all_eq_false]; exact ⟨x, hx.mem, by rw [g]; decide⟩
          replace hall := Lib.hid hall
          clear g
          go_wp2_with (first | (go_at_call 73; go_must (refine (hwt.out _).mono ?_); rintro e w2 ⟨rfl, hb2⟩))
          go_ret
          exact ⟨ret_bool hall.out.symm, hbr.trans (hb2.mono hbr.size)⟩
        · rw [g] at hwt
          have hnext : ((bys s).take (k + 1)).all okByte = true := by
            rw [hx.take, List.all_append, hok.out]; simp [g]
          replace hnext := Lib.hid hnext
          clear g
          go_wp2_with (first | (go_at_call 73; go_must (refine (hwt.out _).mono ?_); rintro e w2 ⟨rfl, hb2⟩))
          go_roundw
          case rel => exact ⟨k + 1, by omega, by go_num, hnext, hbr.trans (hb2.mono hbr.size)⟩
          case measure => simp [intOf]; omega
      · go_wp2_with fail
        go_ret
        have := hok.out
        rw [List.take_of_length_le (by rw [bys_len]; omega)] at this
        exact ⟨ret_bool this.symm, hbr⟩

theorem ret_str {a b : ByteArray} (h : a = b) : Ending.returned (.string a) = .returned (.string b) := by rw [h]
/-- The message of the first k texts. -/
def msgTo (l : List ByteArray) (k : Nat) : List UInt8 := (l.take k).flatMap fun s => bys s ++ [10]
def msgOf (l : List ByteArray) : List UInt8 := l.flatMap fun s => bys s ++ [10]
def strB (l : List UInt8) : ByteArray := ⟨l.toArray⟩
theorem bys_strB (l : List UInt8) : bys (strB l) = l := rfl
theorem msgTo_succ {l : List ByteArray} {k : Nat} {s : ByteArray} (hs : At l k s) : strB (msgTo l (k + 1)) = strB (msgTo l k) ++ (s ++ ⟨#[10]⟩) := by
  unfold msgTo
  rw [hs.take, List.flatMap_append]
  simp only [List.flatMap_cons, List.flatMap_nil, List.append_nil]
  apply ByteArray.ext
  apply Array.ext'
  simp [strB, bys]

theorem msgTo_len {l : List ByteArray} (hb : ∀ s ∈ l, s.size ≤ 200) : ∀ k, (msgTo l k).length ≤ 201 * k := by
  intro k
  unfold msgTo
  have key : ∀ m : List ByteArray, (∀ s ∈ m, s.size ≤ 200) → (m.flatMap fun s => bys s ++ [10]).length ≤ 201 * m.length := by
    intro m
    induction m with
    | nil => intro _; simp
    | cons s m ih =>
      intro h
      have h1 := ih fun x hx => h x (by simp [hx])
      have h2 := h s (by simp)
      rw [List.flatMap_cons, List.length_append, List.length_append, bys_len, List.length_cons]
      simp only [List.length_cons, List.length_nil]
      omega
  have h1 := key (l.take k) fun s hs => hb s (List.mem_of_mem_take hs)
  have h2 : (l.take k).length ≤ k := by rw [List.length_take]; omega
  omega

set_option maxRecDepth 100000 in
theorem message14_any (v : Value) (l : List ByteArray) (H : Snap) (w : World) (hw : Holds H w) (hs : Sl H v l) (hl : l.length ≤ 60) (hb : ∀ s ∈ l, s.size ≤ 200) :
    Calls Tryz.prog 42 #[v] w (PostV w (.string (strB (msgOf l)))) := by
  obtain ⟨a, c, rfl, _, _⟩ := hs.form
  go_enter Tryz.func42, Tryz.ntmps42
  go_wp2
  go_loopw [3, 4] (fun m i wr => ∃ k : Nat, k ≤ l.length ∧ i = .int .i64 k ∧ m = .string (strB (msgTo l k)) ∧ Ext w H wr H) (fun _ i _ => l.length - (intOf i).toNat)
  case atStart => exact ⟨0, Nat.zero_le _, rfl, rfl, Ext.refl hw⟩
  case round =>
    obtain ⟨k, hk, rfl, rfl, hxr⟩ := hrel
    have hwr := hxr.holds
    by_cases hlk : k < l.length
    · obtain ⟨x, hx⟩ := At.mk hlk
      obtain ⟨b, o, c', he, hi, hr⟩ := hs.str hx
      cases he
      have hk0 : (0 : Int) ≤ (k : Int) := by omega
      have hk1 : (k : Int) < (l.length : Int) := by omega
      have hnext := msgTo_succ hx
      have hml : (strB (msgTo l k)).size ≤ 201 * k := msgTo_len hb k
      have hxs := hb x hx.mem
      generalize strB (msgTo l k) = m at *
      have hnb : ¬ 9223372036854775807 < m.size + (x.size + 1) := by omega
      clear hml
      replace hnext := Lib.hid hnext
      go_wp2_with fail
      go_roundw
      case rel => exact ⟨k + 1, by omega, by go_num, by rw [hnext.out], hxr⟩
      case measure => simp [intOf]; omega
    · go_wp2_with fail
      go_ret
      have e : msgTo l k = msgOf l := by unfold msgTo msgOf; rw [List.take_of_length_le (by omega)]
      exact ⟨ret_str (by rw [e]), hxr.below⟩

end Go.Proofs.YthcfhmebikcfpaaGreatDoor

namespace Go.Proofs.YthcfhmebikcfpaaGreatDoor
open Go.RowKit

attribute [local go_sem] Holds.drew Holds.alloc Holds.drewN WB.holds Oper.semAt_some

def okSym (n : Int) : Bool := (n == 10) || within n 32 126
def pow15 (n : Int) : Int := 2 ^ (15 - n).toNat
def okPr (last : Int) (p : Pr) : Bool := decide (last < p.s) && (okSym p.s && within p.n 1 15)
def codeGo : List Pr → Int → Int → Option Int
  | [], _, sum => some sum
  | p :: l, last, sum => if okPr last p then codeGo l p.s (sum + pow15 p.n) else none
def isCodeA (l : List Pr) : Bool := match codeGo l (-1) 0 with
  | none => false
  | some s => decide (s ≤ 32768)

theorem isSymbol14_any (n : Int) (w : World) : Calls Tryz.prog 75 #[.int .i64 n] w (PostV w (.bool (okSym n))) := by
  unfold okSym
  cases g : (n == 10)
  · go_enter Tryz.func75, Tryz.ntmps75
    go_wp2_with (first | (go_at_call 73; refine (within14_any _ _ _ _).mono ?_; rintro e w2 ⟨rfl, hb2⟩))
    go_ret
    exact ⟨rfl, hb2⟩
  · go_enter Tryz.func75, Tryz.ntmps75
    go_wp2
    go_ret
    exact ⟨rfl, Below.refl _ _⟩

theorem pow15_bd {n : Int} (h : within n 1 15 = true) : 1 ≤ pow15 n ∧ pow15 n ≤ 16384 := by
  rw [within_iff] at h
  obtain ⟨k, rfl⟩ : ∃ k : Nat, n = (k : Int) := ⟨n.toNat, by omega⟩
  have : k = 1 ∨ k = 2 ∨ k = 3 ∨ k = 4 ∨ k = 5 ∨ k = 6 ∨ k = 7 ∨ k = 8 ∨ k = 9 ∨ k = 10 ∨ k = 11 ∨ k = 12 ∨ k = 13 ∨ k = 14 ∨ k = 15 := by omega
  rcases this with rfl | rfl | rfl | rfl | rfl | rfl | rfl | rfl | rfl | rfl | rfl | rfl | rfl | rfl | rfl <;> decide

set_option maxRecDepth 100000 in
set_option maxHeartbeats 2000000 in
theorem isCode14_any (v : Value) (l : List Pr) (hl : l.length ≤ 1000) (H : Snap) (w : World) (hw : Holds H w) (hs : Sl H v l) :
    Calls Tryz.prog 78 #[v] w (PostV w (.bool (isCodeA l))) := by
  obtain ⟨a, c, rfl, _, _⟩ := hs.form
  go_enter Tryz.func78, Tryz.ntmps78
  go_wp2
  go_loopw [3, 4, 5] (fun la su i wr => ∃ (k : Nat) (last sum : Int), k ≤ l.length ∧ i = .int .i64 k ∧ la = .int .i64 last ∧ su = .int .i64 sum ∧ Hid (codeGo (l.drop k) last sum = codeGo l (-1) 0) ∧ I64 last ∧ (0 ≤ sum ∧ sum ≤ 16384 * k) ∧ Ext w H wr H) (fun _ _ i _ => l.length - (intOf i).toNat)
  case atStart => exact ⟨0, -1, 0, Nat.zero_le _, rfl, rfl, rfl, rfl, by unfold I64; omega, by omega, Ext.refl hw⟩
  case round =>
    obtain ⟨k, last, sum, hk, rfl, rfl, rfl, hgo, hla, hsu, hxr⟩ := hrel
    have hwr := hxr.holds
    by_cases hlk : k < l.length
    · obtain ⟨p, hp⟩ := At.mk hlk
      obtain ⟨b, o, c', he, ⟨i1, i2⟩, hr1, hr2⟩ := hs.pr hp
      cases he
      have hd : l.drop k = p :: l.drop (k + 1) := by
        rw [List.drop_eq_getElem_cons hlk]
        congr 1
        have := hp; unfold At at this; rw [List.getElem?_eq_getElem hlk] at this; exact Option.some.inj this
      have hgo2 := hgo.out
      rw [hd] at hgo2
      have hk0 : (0 : Int) ≤ (k : Int) := by omega
      have hk1 : (k : Int) < (l.length : Int) := by omega
      have hsym := fun (W : World) => isSymbol14_any p.s W
      have hwit := fun (W : World) => within14_any p.n 1 15 W
      have hno : okPr last p = false → isCodeA l = false := fun g => by
        unfold isCodeA
        rw [← hgo2]
        show (match (if okPr last p then codeGo (l.drop (k + 1)) p.s (sum + pow15 p.n) else none) with | none => false | some s => decide (s ≤ 32768)) = false
        rw [g]; rfl
      go_upto_region 6 with fail
      have hn_ : H (World.heap wr).size = none := ((Ext.refl hwr)).holds.none_of_ge (Nat.le_refl _)
      have hxz := (((Ext.refl hwr)).alloc (.cells #[.int .i64 p.s, .int .i64 p.n] 47)).freeze ((Ext.refl hwr)).below.size (heap_alloc_new wr _)
      have hle := Snap.le_put hn_ (.cells #[.int .i64 p.s, .int .i64 p.n] 47 (0, 0))
      have hput := Snap.put_same H (World.heap wr).size (.cells #[.int .i64 p.s, .int .i64 p.n] 47 (0, 0))
      clear hn_
      generalize Snap.put H (World.heap wr).size (.cells #[.int .i64 p.s, .int .i64 p.n] 47 (0, 0)) = H2 at *
      generalize World.alloc wr (.cells #[.int .i64 p.s, .int .i64 p.n] 47) = wz at *
      generalize (World.heap wr).size = cv at *
      have hwz := hxz.holds
      have hv0 : ∀ w, Holds H2 w → w.cell? ⟨cv, 0, none⟩ = some (.int .i64 p.s) := fun w hw => cellH hput hw 0
      have hv1 : ∀ w, Holds H2 w → w.cell? ⟨cv, 1, none⟩ = some (.int .i64 p.n) := fun w hw => cellH hput hw 1
      have hfin : ∀ wq, Below wr.heap.size wr wq → Below w.heap.size w wq := fun wq hq => hxr.below.trans (hq.mono hxr.below.size)
      replace hfin := Lib.hid hfin
      have hbk : ∀ wq, Below wr.heap.size wr wq → Ext w H wq H := fun wq hq => hxr.step (hq.mono hxr.below.size) (hwr.below hq)
      replace hbk := Lib.hid hbk
      clear hput hwr hxr hgo
      by_cases g1 : last < p.s
      · have n1 : ¬ p.s ≤ last := by omega
        cases g2 : okSym p.s
        · have hno2 := hno (by unfold okPr; rw [g2]; simp)
          rw [g2] at hsym
          replace hsym := Lib.hid hsym
          replace hno2 := Lib.hid hno2
          clear hno g2 hgo2
          go_wp2_with (first | (have hgd := hwz; clear hgd; go_at_call 75; refine (hsym.out _).mono ?_; rintro e w2 ⟨rfl, hb2⟩; have hw2 := hwz.below hb2; have b2 := hxz.below.trans (hb2.mono hxz.below.size)))
          go_ret
          exact ⟨ret_bool hno2.out.symm, hfin.out _ b2⟩
        · rw [g2] at hsym
          replace hsym := Lib.hid hsym
          cases g3 : within p.n 1 15
          · have hno2 := hno (by unfold okPr; rw [g3]; simp)
            rw [g3] at hwit
            replace hwit := Lib.hid hwit
            replace hno2 := Lib.hid hno2
            clear hno g2 g3 hgo2
            go_wp2_with (first | (have hgd := hw2; clear hgd; go_at_call 73; refine (hwit.out _).mono ?_; rintro e w3 ⟨rfl, hb3⟩; have hw3 := hw2.below hb3; have b3 := b2.trans (hb3.mono b2.size)) | (have hgd := hwz; clear hgd; go_at_call 75; refine (hsym.out _).mono ?_; rintro e w2 ⟨rfl, hb2⟩; have hw2 := hwz.below hb2; have b2 := hxz.below.trans (hb2.mono hxz.below.size)))
            go_ret
            exact ⟨ret_bool hno2.out.symm, hfin.out _ b3⟩
          · rw [g3] at hwit
            have hpw := pow15_bd g3
            have hok : okPr last p = true := by unfold okPr; rw [g2, g3, decide_eq_true g1]; rfl
            have hgo3 : codeGo (l.drop (k + 1)) p.s (sum + pow15 p.n) = codeGo l (-1) 0 := by
              rw [← hgo2]
              show _ = (if okPr last p then codeGo (l.drop (k + 1)) p.s (sum + pow15 p.n) else none)
              rw [hok]; rfl
            have hwi := within_iff.1 g3
            replace hwit := Lib.hid hwit
            replace hgo3 := Lib.hid hgo3
            clear hno g2 g3 hgo2 hok
            go_upto_region 8 with (first | (have hgd := hw2; clear hgd; go_at_call 73; refine (hwit.out _).mono ?_; rintro e w3 ⟨rfl, hb3⟩; have hw3 := hw2.below hb3; have b3 := b2.trans (hb3.mono b2.size)) | (have hgd := hwz; clear hgd; go_at_call 75; refine (hsym.out _).mono ?_; rintro e w2 ⟨rfl, hb2⟩; have hw2 := hwz.below hb2; have b2 := hxz.below.trans (hb2.mono hxz.below.size)))
            have h15 : IntKind.i64.wrap (15 - p.n) = 15 - p.n := IntWalk.i64_in _ (by omega)
            have h0 : 0 ≤ p.n ∧ p.n ≤ 15 := by omega
            refine wp_region_quietB H2 (by kernel_rfl) (by kernel_rfl) hw3 (fun hne => ?_)
            repeat go_big_quiet_step ((first | fail))
            refine wpQuiet_nil ?_
            rintro ⟨w2, hw2, hb2⟩
            clear hne
            go_wp2_with fail
            go_roundw
            case rel => exact ⟨k + 1, p.s, sum + pow15 p.n, by omega, by go_num, rfl, by show Value.int .i64 (wrap64 (sum + wrap64 (pow15 p.n))) = _; rw [wrap64_in (pow15 p.n) (by omega) (by omega), wrap64_in _ (by omega) (by omega)], hgo3, i1, by omega, hbk.out _ (b3.trans (hb2.mono b3.size))⟩
            case measure => simp [intOf]; omega
      · have n1 : p.s ≤ last := by omega
        have hno2 := hno (by unfold okPr; rw [decide_eq_false g1]; rfl)
        replace hno2 := Lib.hid hno2
        clear hno hgo2
        go_wp2
        go_ret
        exact ⟨ret_bool hno2.out.symm, hfin.out _ hxz.below⟩
    · go_wp2_with fail
      go_ret
      have h0 := hgo.out
      rw [List.drop_of_length_le (by omega)] at h0
      have e : isCodeA l = decide (sum ≤ 32768) := by unfold isCodeA; rw [← h0]; rfl
      exact ⟨ret_bool e.symm, hxr.below⟩

end Go.Proofs.YthcfhmebikcfpaaGreatDoor

namespace Go.Proofs.YthcfhmebikcfpaaGreatDoor
open Go.RowKit

attribute [local go_sem] Holds.drew Holds.alloc Holds.drewN WB.holds Oper.semAt_some

def noSnap : Snap := fun _ => none
theorem noHolds (w : World) : Holds noSnap w := ⟨fun _ _ e => by cases e⟩
/-- A number with so many binary digits. -/
def binB : Nat → Nat → List UInt8
  | _, 0 => []
  | n, d + 1 => binB (n / 2) d ++ [if n % 2 = 0 then 48 else 49]
theorem binB_succ (n d : Nat) : binB n (d + 1) = binB (n / 2) d ++ [if n % 2 = 0 then 48 else 49] := rfl
theorem binB_len : ∀ (d n : Nat), (binB n d).length = d
  | 0, _ => rfl
  | d + 1, n => by rw [binB_succ, List.length_append, binB_len d]; rfl

set_option maxRecDepth 100000 in
theorem binary14_any : ∀ (d n : Nat), d ≤ 1000 → n ≤ 1000000000 → ∀ w : World, Calls Tryz.prog 77 #[.int .i64 (n : Int), .int .i64 (d : Int)] w (PostV w (.string (strB (binB n d))))
  | 0, n, hd, hn, w => by
    go_enter Tryz.func77, Tryz.ntmps77
    go_wp2
    go_ret
    exact ⟨rfl, Below.refl _ _⟩
  | d + 1, n, hd, hn, w => by
    have ih := fun (w : World) => binary14_any d (n / 2) (by omega) (by omega) w
    have hp : ((d + 1 : Nat) : Int) = (d : Int) + 1 := by omega
    have hz : ((d : Int) + 1 == 0) = false := by rw [beq_eq_false_iff_ne]; omega
    have hq : Int.tdiv (n : Int) 2 = ((n / 2 : Nat) : Int) := rfl
    have hdd : IntKind.i64.wrap ((d : Int) + 1 - 1) = (d : Int) := by rw [IntWalk.i64_in _ (by omega)]; omega
    have hlen := binB_len d (n / 2)
    have hres : strB (binB n (d + 1)) = strB (binB (n / 2) d) ++ strB [if n % 2 = 0 then 48 else 49] := by
      rw [binB_succ]
      apply ByteArray.ext
      apply Array.ext'
      simp [strB]
    rw [hp, hres]
    clear hp hres
    have hsz : (strB (binB (n / 2) d)).size = d := by show (binB (n / 2) d).length = d; exact hlen
    generalize strB (binB (n / 2) d) = s at *
    have hb : ¬ 9223372036854775807 < s.size + 1 := by omega
    replace ih := Lib.hid ih
    replace hsz := Lib.hid hsz
    rcases Nat.mod_two_eq_zero_or_one n with h2 | h2
    · have hr : Int.tmod (n : Int) 2 = 0 := by show (((n % 2 : Nat)) : Int) = 0; omega
      rw [h2]
      go_enter Tryz.func77, Tryz.ntmps77
      go_upto_region 3 with fail
      refine wp_region_quietB noSnap (by kernel_rfl) (by kernel_rfl) (noHolds _) (fun hne => ?_)
      repeat go_big_quiet_step ((first | (go_at_call 77; exact Calls.quietB (ih.out _))))
      refine wpQuiet_nil ?_
      rintro ⟨w2, hw2, hb2⟩
      clear hne
      go_wp2
      go_ret
      exact ⟨rfl, hb2⟩
    · have hr : Int.tmod (n : Int) 2 = 1 := by show (((n % 2 : Nat)) : Int) = 1; omega
      rw [h2]
      go_enter Tryz.func77, Tryz.ntmps77
      go_upto_region 3 with fail
      refine wp_region_quietB noSnap (by kernel_rfl) (by kernel_rfl) (noHolds _) (fun hne => ?_)
      repeat go_big_quiet_step ((first | (go_at_call 77; exact Calls.quietB (ih.out _))))
      refine wpQuiet_nil ?_
      rintro ⟨w2, hw2, hb2⟩
      clear hne
      go_wp2
      go_ret
      exact ⟨rfl, hb2⟩

end Go.Proofs.YthcfhmebikcfpaaGreatDoor

namespace Go.Proofs.YthcfhmebikcfpaaGreatDoor

def bitsN (l : List Pr) (j : Nat) : Nat := (l.getD j default).n.toNat
theorem bitsN_at {l : List Pr} {j : Nat} {p : Pr} (h : At l j p) : bitsN l j = p.n.toNat := by unfold bitsN; rw [h.getD]
/-- All bits are from 1 to 15. -/
def Bits15 (l : List Pr) : Prop := ∀ p ∈ l, 1 ≤ p.n ∧ p.n ≤ 15
theorem Bits15.at {l : List Pr} (h : Bits15 l) {j : Nat} (hj : j < l.length) : 1 ≤ bitsN l j ∧ bitsN l j ≤ 15 := by
  obtain ⟨p, hp⟩ := At.mk hj
  have := h p hp.mem
  rw [bitsN_at hp]; omega
def isBef (l : List Pr) (b i j : Nat) : Bool := decide (bitsN l j < b) || (decide (bitsN l j = b) && decide (j < i))
def befS (l : List Pr) (b i : Nat) : Nat := sumOn (fun j => if isBef l b i j then 2 ^ (15 - bitsN l j) else 0) (List.range l.length)
theorem sumOn_one {f g : Nat → Nat} {n i : Nat} (hi : i < n) (h : ∀ j, j < n → j ≠ i → f j = g j) : sumOn f (List.range n) + g i = sumOn g (List.range n) + f i := by
  induction n with
  | zero => omega
  | succ n ih =>
    rw [List.range_succ, sumOn_append, sumOn_append, sumOn_cons, sumOn_cons, sumOn_nil, sumOn_nil]
    by_cases e : i = n
    · subst e
      rw [sumOn_congr fun x hx => h x (by have := List.mem_range.1 hx; omega) (by have := List.mem_range.1 hx; omega)]
      omega
    · have := ih (by omega) fun j hj hne => h j (by omega) hne
      have h2 := h n (by omega) (fun e2 => e e2.symm)
      omega
theorem befS_step {l : List Pr} {b i : Nat} (hi : i < l.length) : befS l b (i + 1) = befS l b i + if bitsN l i = b then 2 ^ (15 - b) else 0 := by
  have h := sumOn_one (f := fun j => if isBef l b (i + 1) j then 2 ^ (15 - bitsN l j) else 0) (g := fun j => if isBef l b i j then 2 ^ (15 - bitsN l j) else 0) hi fun j _ hne => by
    have e : isBef l b (i + 1) j = isBef l b i j := by
      unfold isBef
      rw [show decide (j < i + 1) = decide (j < i) by rw [Bool.eq_iff_iff, decide_eq_true_eq, decide_eq_true_eq]; omega]
    show (if isBef l b (i + 1) j then _ else _) = _
    rw [e]
  have e1 : isBef l b i i = decide (bitsN l i < b) := by unfold isBef; simp
  have e2 : isBef l b (i + 1) i = (decide (bitsN l i < b) || decide (bitsN l i = b)) := by unfold isBef; simp
  simp only [e1, e2] at h
  unfold befS
  by_cases k : bitsN l i = b
  · rw [if_pos k]
    simp only [k, Nat.lt_irrefl, decide_false, decide_true, Bool.false_or, if_true] at h
    simp at h
    omega
  · rw [if_neg k]
    simp only [k, decide_false, Bool.or_false] at h
    omega
theorem befS_next (l : List Pr) (b : Nat) : befS l (b + 1) 0 = befS l b l.length := by
  unfold befS
  refine sumOn_congr fun j hj => ?_
  have hj := List.mem_range.1 hj
  have e : isBef l (b + 1) 0 j = isBef l b l.length j := by
    unfold isBef
    simp only [Nat.not_lt_zero, decide_false, Bool.and_false, Bool.or_false, hj, decide_true, Bool.and_true]
    rw [Bool.eq_iff_iff, decide_eq_true_eq, Bool.or_eq_true, decide_eq_true_eq, decide_eq_true_eq]; omega
  rw [e]
theorem befS_start {l : List Pr} (h : Bits15 l) : befS l 1 0 = 0 := by
  unfold befS
  rw [sumOn_congr (g := fun _ => 0) fun j hj => ?_]
  · generalize List.range l.length = r
    induction r with
    | nil => rfl
    | cons x r ih => rw [sumOn_cons, ih]
  · have hj := List.mem_range.1 hj
    have := h.at hj
    have e : isBef l 1 0 j = false := by unfold isBef; simp; omega
    rw [e]; rfl
theorem befS_bd (l : List Pr) (b i : Nat) : befS l b i ≤ 32768 * l.length := by
  unfold befS
  have h1 := sumOn_le (f := fun j => if isBef l b i j then 2 ^ (15 - bitsN l j) else 0) (g := fun _ => 32768) (s := List.range l.length) fun j _ => by
    show (if isBef l b i j then 2 ^ (15 - bitsN l j) else 0) ≤ 32768
    split
    · have : 2 ^ (15 - bitsN l j) ≤ 2 ^ 15 := Nat.pow_le_pow_right (by omega) (by omega)
      omega
    · omega
  have h2 : ∀ r : List Nat, sumOn (fun _ => 32768) r = 32768 * r.length := by
    intro r
    induction r with
    | nil => rfl
    | cons x r ih => rw [sumOn_cons, ih, List.length_cons]; omega
  rw [h2, List.length_range] at h1
  exact h1
/-- The bits of the symbol at a place. -/
def codeAt (l : List Pr) (i : Nat) : List UInt8 := binB (befS l (bitsN l i) i / 2 ^ (15 - bitsN l i)) (bitsN l i)
def codesA (l : List Pr) : List ByteArray := (List.range l.length).map fun i => strB (codeAt l i)
/-- .. of those that have been written so far, else nothing. -/
def codesTo (l : List Pr) (b i : Nat) : List ByteArray := (List.range l.length).map fun j => if isBef l b i j then strB (codeAt l j) else ⟨#[]⟩
theorem codesTo_len (l : List Pr) (b i : Nat) : (codesTo l b i).length = l.length := by unfold codesTo; simp
theorem codesA_len (l : List Pr) : (codesA l).length = l.length := by unfold codesA; simp
theorem codesTo_start {l : List Pr} (h : Bits15 l) : codesTo l 1 0 = List.replicate l.length ⟨#[]⟩ := by
  apply List.ext_getElem (by rw [codesTo_len, List.length_replicate])
  intro j h1 h2
  rw [codesTo_len] at h1
  have := h.at h1
  have e : isBef l 1 0 j = false := by unfold isBef; simp; omega
  simp [codesTo, e]
theorem codesTo_end {l : List Pr} (h : Bits15 l) : codesTo l 16 0 = codesA l := by
  apply List.ext_getElem (by rw [codesTo_len, codesA_len])
  intro j h1 h2
  rw [codesTo_len] at h1
  have := h.at h1
  have e : isBef l 16 0 j = true := by unfold isBef; simp; omega
  simp [codesTo, codesA, e]
theorem codesTo_next (l : List Pr) (b : Nat) : codesTo l (b + 1) 0 = codesTo l b l.length := by
  unfold codesTo
  refine List.map_congr_left fun j hj => ?_
  have hj := List.mem_range.1 hj
  have e : isBef l (b + 1) 0 j = isBef l b l.length j := by
    unfold isBef
    simp only [Nat.not_lt_zero, decide_false, Bool.and_false, Bool.or_false, hj, decide_true, Bool.and_true]
    rw [Bool.eq_iff_iff, decide_eq_true_eq, Bool.or_eq_true, decide_eq_true_eq, decide_eq_true_eq]; omega
  rw [e]
theorem codesTo_skip {l : List Pr} {b i : Nat} (_hi : i < l.length) (h : bitsN l i ≠ b) : codesTo l b (i + 1) = codesTo l b i := by
  unfold codesTo
  refine List.map_congr_left fun j hj => ?_
  have e : isBef l b (i + 1) j = isBef l b i j := by
    unfold isBef
    by_cases e2 : j = i
    · subst e2; simp [h]
    · rw [show decide (j < i + 1) = decide (j < i) by rw [Bool.eq_iff_iff, decide_eq_true_eq, decide_eq_true_eq]; omega]
  rw [e]
theorem codesTo_put {l : List Pr} {b i : Nat} (hi : i < l.length) (h : bitsN l i = b) : codesTo l b (i + 1) = (codesTo l b i).set i (strB (codeAt l i)) := by
  apply List.ext_getElem (by rw [List.length_set, codesTo_len, codesTo_len])
  intro j h1 h2
  rw [codesTo_len] at h1
  rw [List.getElem_set]
  by_cases e : i = j
  · subst e
    rw [if_pos rfl]
    have e2 : isBef l b (i + 1) i = true := by unfold isBef; simp [h]
    simp [codesTo, e2]
  · rw [if_neg e]
    have e2 : isBef l b (i + 1) j = isBef l b i j := by
      unfold isBef
      rw [show decide (j < i + 1) = decide (j < i) by rw [Bool.eq_iff_iff, decide_eq_true_eq, decide_eq_true_eq]; omega]
    simp [codesTo, e2]

end Go.Proofs.YthcfhmebikcfpaaGreatDoor

namespace Go.Proofs.YthcfhmebikcfpaaGreatDoor
open Go.RowKit

theorem reps_rep {α : Type} [Enc α] {H : Snap} {x0 : α} {zv : Value} (h : Enc.rep H x0 [zv]) : ∀ n, reps H (List.replicate n x0) (List.replicate n zv)
  | 0 => rfl
  | n + 1 => ⟨[zv], List.replicate n zv, rfl, h, reps_rep h n⟩
/-- 'make([]T, n)' where an element is one cell. -/
theorem wpList_makeZ {α : Type} [Enc α] {P : Program} {H : Snap} {base : Nat} {w : World} {t e : TypeId} {ops : Array Oper} {rest : List Oper} {o : Oper} {a : Act} {Q : Exit → Act → World → Prop} (T : ElemT P t e α) (h1 : Enc.sz α = 1) (x0 : α) (zv : Value) (hone : zv.cells = #[zv]) (hrep : Enc.rep H x0 [zv])
    (hz : (P.info? e).map (·.zero) = some (some zv))
    (hgd : o.guard = none) (x y : Operand) (ho : o.op = .makeSlice t x y) (n : Nat) (hx : a.eval x = .int .i64 (n : Int)) (hy : a.eval y = .int .i64 (n : Int)) (hn : n * Enc.by_ α ≤ 140737488355328) (hn2 : n ≤ 140737488355328) (hw : Holds H w) (hb : base ≤ w.heap.size)
    (h : ∀ v' w', Own H base w' e v' (List.replicate n x0) → w.grownBy w' none → Holds H w' → wpList P ops Q rest (a.put o.dst v') w') : wpList P ops Q (o :: rest) a w := by
  obtain ⟨i, z, hi, hz', hsz, hby, hzs⟩ := T.inf
  obtain rfl : z = zv := by rw [hi] at hz; simp at hz; rw [hz] at hz'; exact (Option.some.inj hz').symm
  obtain ⟨w', hr, ho', hg⟩ := run_make_full (P := P) w base t e i z (Enc.sz α) T.und hi hz' hsz .i64 .i64 n (by rw [hby, Nat.mul_comm]; omega) (by simp only [maxLen]; omega) hb
  refine wpList_plain hgd fun K hK => ?_
  unfold Oper.wp execOp
  simp only [ho, hx, hy, Sem.run_bind, hr, Result.andThen_ok, Sem.run_pure]
  have hw' : Holds H w' := hw.grown hg (by simp)
  refine hK _ _ (h _ _ ⟨(madeCells z.cells (n * Enc.sz α)).toList, by simpa using ho', ?_, fun k hk => ?_, by simpa using hn⟩ hg hw')
  · have e : (madeCells z.cells (n * Enc.sz α)).toList = List.replicate n z := by
      rw [h1, Nat.mul_one, hone]
      simp [madeCells]
      apply List.ext_getElem
      · simp
      · intro k _ _; simp [Nat.mod_one]
    rw [e]
    exact reps_rep hrep n
  · simp [Value.ownBlock] at hk; exact hw.none_of_ge (by omega)

theorem reps_set1 {α : Type} [Enc α] (h1 : Enc.sz α = 1) {H : Snap} {y : α} {a : Value} (hy : Enc.rep H y [a]) : ∀ {xs : List α} {cs : List Value} {k : Nat}, reps H xs cs → k < xs.length →
    reps H (xs.set k y) (cs.set k a)
  | [], _, _, _, hk => by simp at hk
  | x :: xs, cs, k, ⟨c1, c2, e, hx, h2⟩, hk => by
    have hl := Enc.len hx
    rw [h1] at hl
    match c1, hl with
    | [p], _ =>
      subst e
      cases k with
      | zero => exact ⟨[a], c2, rfl, hy, h2⟩
      | succ k => exact ⟨[p], c2.set k a, rfl, hx, reps_set1 h1 hy h2 (by simpa using hk)⟩
/-- The element at a place of a slice of the call's own, of one cell. -/
theorem Own.at1 {α : Type} [Enc α] (h1 : Enc.sz α = 1) {H : Snap} {base : Nat} {w : World} {e : TypeId} {v : Value} {xs : List α} {k : Nat} (h : Own H base w e v xs) (hk : k < xs.length) :
    ∃ g c, v = .slice (some ⟨g, 0, none⟩) xs.length c ∧ base ≤ g ∧ H g = none ∧ g < w.heap.size ∧ (∃ u, w.cell? ⟨g, k, none⟩ = some u) ∧ w.frozen? ⟨g, k, none⟩ = false ∧
      ∀ (y : α) (p : Value), Enc.rep H y [p] → Own H base (w.setCell ⟨g, k, none⟩ p) e v (xs.set k y) := by
  obtain ⟨cells, ⟨hl, ho⟩, hr, hf, hb⟩ := h
  rcases ho with ⟨rfl, hn⟩ | ⟨g, cap, cur, rfl, hbg, hg, hnc, hcm, hcs, htake⟩
  · omega
  · rw [h1, Nat.mul_one] at hl hcs htake
    have hk2 : k < cur.size := by omega
    refine ⟨g, cap, rfl, hbg, hf g rfl, (Array.getElem?_eq_some_iff.1 hg).1, ⟨cur[k], ?_⟩, by simp [World.frozen?, hg], fun y p hy => ?_⟩
    · rw [cell_of_row w g k cur e (0, 0) hg]; exact Array.getElem?_eq_getElem hk2
    refine ⟨_, ⟨?_, .inr ⟨g, cap, cur.setIfInBounds k p, by rw [List.length_set], hbg, heap_setCell_row hg _, by rw [List.length_set]; exact hnc, hcm, by simp [h1, hcs], ?_⟩⟩, reps_set1 h1 hy hr hk, hf, by rw [List.length_set]; exact hb⟩
    · simp [h1, hl]
    · rw [List.length_set, h1, Nat.mul_one]
      simp only [Array.toList_setIfInBounds]
      rw [List.take_set, htake]

end Go.Proofs.YthcfhmebikcfpaaGreatDoor

namespace Go.Proofs.YthcfhmebikcfpaaGreatDoor
open Go.RowKit

attribute [local go_sem] Holds.drew Holds.alloc Holds.drewN WB.holds Oper.semAt_some

/-- What next and last are, with so many symbols before. -/
structure NextAt (l : List Pr) (b k n q : Nat) : Prop where
  q15 : q ≤ b
  sum : n * 2 ^ (15 - q) = befS l b k
  zero : q = 0 → n = 0
theorem NextAt.le {l : List Pr} {b k n q : Nat} (h : NextAt l b k n q) (hl : l.length ≤ 1000) : n ≤ 32768000 := by
  have h1 := befS_bd l b k
  have h2 : n * 1 ≤ n * 2 ^ (15 - q) := Nat.mul_le_mul_left _ Nat.one_le_two_pow
  rw [h.sum] at h2
  omega
theorem NextAt.twice {l : List Pr} {b k n q : Nat} (h : NextAt l b k n q) (hb : b ≤ 15) (h1 : q < b) : NextAt l b k (n * 2) (q + 1) := by
  refine ⟨h1, ?_, fun e => by omega⟩
  rw [← h.sum, show 15 - q = (15 - (q + 1)) + 1 by omega, Nat.pow_succ]
  rw [Nat.mul_assoc, Nat.mul_comm 2]
theorem NextAt.full {l : List Pr} {b k n q : Nat} (h : NextAt l b k n q) (h1 : q = 0 ∨ q = b) : n * 2 ^ (15 - b) = befS l b k ∧ n = befS l b k / 2 ^ (15 - b) := by
  have e : n * 2 ^ (15 - b) = befS l b k := by
    rcases h1 with e | e
    · have := h.sum; rw [h.zero e, Nat.zero_mul] at *; exact this
    · subst e; exact h.sum
  refine ⟨e, ?_⟩
  rw [← e, Nat.mul_div_cancel _ (Nat.two_pow_pos _)]

set_option maxRecDepth 100000 in
set_option maxHeartbeats 4000000 in
theorem codesOf14_any (v : Value) (l : List Pr) (hl : l.length ≤ 1000) (h15 : Bits15 l) (H : Snap) (w : World) (hw : Holds H w) (hs : Sl H v l) :
    Calls Tryz.prog 79 #[v] w (PostO w H 9 (codesA l)) := by
  obtain ⟨a, c, rfl, _, _⟩ := hs.form
  go_enter Tryz.func79, Tryz.ntmps79
  go_upto_region 2 with (refine wpList_makeZ (H := H) (base := w.heap.size) eStr rfl ⟨#[]⟩ (.string ⟨#[]⟩) rfl ⟨rfl, by decide⟩ (by kernel_rfl) rfl _ _ rfl l.length rfl rfl (by simp [Enc.by_]; omega) (by omega) hw (Nat.le_refl _) ?_; intro v1 w1 o1 g1 hw1)
  have x1 : Ext w H w1 H := (Ext.refl hw).grown g1 (fun k e => by cases e) (fun k e => by cases e)
  rw [← codesTo_start h15] at o1
  obtain ⟨a1, c1, e1, _, _⟩ := o1.form
  rw [codesTo_len] at e1
  subst e1
  clear g1 hw1
  have hend := codesTo_end h15
  replace hend := Lib.hid hend
  go_wp2
  go_loopw [4, 5, 6, 7] (fun ne la b _ wr => ∃ (n q B : Nat), (1 ≤ B ∧ B ≤ 16) ∧ b = .int .i64 (B : Int) ∧ ne = .int .i64 (n : Int) ∧ la = .int .i64 (q : Int) ∧ NextAt l B 0 n q ∧ Own H w.heap.size wr 9 (.slice a1 l.length c1) (codesTo l B 0) ∧ Ext w H wr H) (fun _ _ b _ _ => 16 - (intOf b).toNat)
  case atStart => exact ⟨0, 0, 1, by omega, rfl, rfl, rfl, ⟨by omega, by rw [befS_start h15], fun _ => rfl⟩, o1, x1⟩
  case round =>
    clear o1 x1
    obtain ⟨n, q, B, hB, rfl, rfl, rfl, hN, own, xr⟩ := hrel
    by_cases hB15 : B ≤ 15
    · have hB1 : (B : Int) ≤ 15 := by omega
      go_wp2_with fail
      go_loopw [4, 5, 7] (fun ne la i wr => ∃ (n q k : Nat), k ≤ l.length ∧ i = .int .i64 (k : Int) ∧ ne = .int .i64 (n : Int) ∧ la = .int .i64 (q : Int) ∧ NextAt l B k n q ∧ Own H w.heap.size wr 9 (.slice a1 l.length c1) (codesTo l B k) ∧ Ext w H wr H) (fun _ _ i _ => l.length - (intOf i).toNat)
      case atStart => exact ⟨n, q, 0, Nat.zero_le _, rfl, rfl, rfl, hN, own, xr⟩
      case round =>
        clear hN own xr
        obtain ⟨n, q, k, hk, rfl, rfl, rfl, hN, own, xr⟩ := hrel
        have hwr := xr.holds
        by_cases hlk : k < l.length
        · obtain ⟨p, hp⟩ := At.mk hlk
          obtain ⟨b, o, c', he, ⟨i1, i2⟩, hr1, hr2⟩ := hs.pr hp
          cases he
          have hpb := h15 p hp.mem
          have hbn := bitsN_at hp
          have hk0 : (0 : Int) ≤ (k : Int) := by omega
          have hk1 : (k : Int) < (l.length : Int) := by omega
          by_cases hpe : p.n = (B : Int)
          · have hbB : bitsN l k = B := by rw [hbn, hpe]; rfl
            have hnn : (p.n != (B : Int)) = false := by rw [bne_eq_false_iff_eq]; exact hpe
            have hstep := befS_step (b := B) hlk
            rw [if_pos hbB] at hstep
            have hput := codesTo_put hlk hbB
            replace hstep := Lib.hid hstep
            replace hput := Lib.hid hput
            rw [hpe] at hr2
            go_wp2_with fail
            go_loopw [4, 5] (fun ne la wr => ∃ (n q : Nat), ne = .int .i64 (n : Int) ∧ la = .int .i64 (q : Int) ∧ NextAt l B k n q ∧ Own H w.heap.size wr 9 (.slice a1 l.length c1) (codesTo l B k) ∧ Ext w H wr H) (fun _ la _ => B - (intOf la).toNat)
            case atStart => exact ⟨n, q, rfl, rfl, hN, own, xr⟩
            case round =>
              clear hN own xr hwr
              obtain ⟨n, q, rfl, rfl, hN, own, xr⟩ := hrel
              have hwr := xr.holds
              have hnb := hN.le hl
              by_cases hq : 0 < q ∧ q < B
              · obtain ⟨q1, q2⟩ := hq
                have hq1 : (0 : Int) < (q : Int) := by omega
                have hq2 : (q : Int) < (B : Int) := by omega
                have hT := hN.twice hB15 q2
                have hw1 : IntKind.i64.wrap ((n : Int) * 2) = ((n * 2 : Nat) : Int) := by rw [IntWalk.i64_in _ (by omega)]; omega
                go_wp2_with fail
                go_roundw
                case rel => exact ⟨n * 2, q + 1, by show Value.int .i64 ((n : Int) * 2) = .int .i64 ((n * 2 : Nat) : Int); congr 1, by go_num, hT, own, xr⟩
                case measure => simp [intOf]; omega
              · have hqq : q = 0 ∨ q = B := by have := hN.q15; omega
                obtain ⟨f1, f2⟩ := hN.full hqq
                have hco : strB (codeAt l k) = strB (binB n B) := by unfold codeAt; rw [hbB, ← f2]
                have hbi := fun (W : World) => binary14_any B n (by omega) (by omega) W
                have hsz : (strB (binB n B)).size = B := binB_len B n
                have hnew : NextAt l B (k + 1) (n + 1) B := ⟨Nat.le_refl _, by rw [hstep.out, ← f1, Nat.add_mul, Nat.one_mul], fun e => by omega⟩
                have hrepS : (strB (codeAt l k)).size ≤ 140737488355328 := by rw [hco, hsz]; omega
                rw [← hco] at hbi
                replace hbi := Lib.hid hbi
                have hkc : k < (codesTo l B k).length := by rw [codesTo_len]; exact hlk
                obtain ⟨g, c9, hev, hgb, hgH, hgl, _, _, _⟩ := own.at1 rfl hkc
                rw [codesTo_len] at hev
                cases hev
                have hw1 : IntKind.i64.wrap ((n : Int) + 1) = (n : Int) + 1 := IntWalk.i64_in _ (by omega)
                have hsets : ∀ w2, Below wr.heap.size wr w2 → (∃ u, w2.cell? ⟨g, k, none⟩ = some u) ∧ w2.frozen? ⟨g, k, none⟩ = false ∧ Own H w.heap.size (w2.setCell ⟨g, k, none⟩ (.string (strB (codeAt l k)))) 9 (.slice (some ⟨g, 0, none⟩) l.length c1) (codesTo l B (k + 1)) ∧ Ext w H (w2.setCell ⟨g, k, none⟩ (.string (strB (codeAt l k)))) H := fun w2 hb2 => by
                  have own2 := own.ext hwr ⟨hb2, hwr.below hb2, fun _ _ => rfl⟩
                  have x2 : Ext w H w2 H := xr.step (hb2.mono xr.below.size) (hwr.below hb2)
                  obtain ⟨g', c', hev, _, _, _, hu, hf, hset⟩ := own2.at1 rfl hkc
                  rw [codesTo_len] at hev
                  cases hev
                  refine ⟨hu, hf, ?_, x2.setCell (a := ⟨g, k, none⟩) hgb hgH _⟩
                  rw [hput.out]
                  exact hset _ _ ⟨rfl, hrepS⟩
                replace hsets := Lib.hid hsets
                generalize strB (codeAt l k) = code at *
                clear hco hsz f1 f2 hrepS hkc own xr hN
                rcases hqq with hq0 | hq0
                all_goals
                  subst hq0
                  go_wp2_with (first | (go_at_call 77; refine (hbi.out _).mono ?_; rintro e w2 ⟨rfl, hb2⟩; obtain ⟨⟨u2, hcl2⟩, hfz2, hown2, hx2⟩ := hsets.out _ hb2))
                  go_roundw
                  case rel => exact ⟨n + 1, _, k + 1, by omega, by go_num, by show Value.int .i64 ((n : Int) + 1) = .int .i64 ((n + 1 : Nat) : Int); rfl, rfl, hnew, hown2, hx2⟩
                  case measure => simp [intOf]; omega
          · have hbB : bitsN l k ≠ B := by rw [hbn]; intro e; apply hpe; omega
            have hnn : (p.n != (B : Int)) = true := by rw [bne_iff_ne]; exact hpe
            have hstep := befS_step (b := B) hlk
            rw [if_neg hbB, Nat.add_zero] at hstep
            have hskip := codesTo_skip hlk hbB
            go_wp2_with fail
            go_roundw
            case rel => exact ⟨n, q, k + 1, by omega, by go_num, rfl, rfl, ⟨hN.q15, by rw [hstep]; exact hN.sum, hN.zero⟩, by rw [hskip]; exact own, xr⟩
            case measure => simp [intOf]; omega
        · have hke : k = l.length := by omega
          have hnx := befS_next l B
          have hcx := codesTo_next l B
          subst hke
          rw [← hcx] at own
          go_wp2_with fail
          go_roundw
          case rel => exact ⟨n, q, B + 1, by omega, by go_num, rfl, rfl, ⟨by have := hN.q15; omega, by rw [hnx]; exact hN.sum, hN.zero⟩, own, xr⟩
          case measure => simp [intOf]; omega
    · have hB16 : B = 16 := by omega
      subst hB16
      rw [hend.out] at own
      go_wp2_with fail
      go_ret
      exact ⟨_, H, rfl, xr, own⟩

end Go.Proofs.YthcfhmebikcfpaaGreatDoor

namespace Go.Proofs.YthcfhmebikcfpaaGreatDoor
open Go.RowKit

attribute [local go_sem] Holds.drew Holds.alloc Holds.drewN WB.holds Oper.semAt_some

theorem codeGo_all : ∀ {l : List Pr} {last sum t : Int}, codeGo l last sum = some t → (∀ p ∈ l, last < p.s ∧ okSym p.s = true ∧ within p.n 1 15 = true) ∧ (l.map Pr.s).Pairwise (· < ·) ∧ t = sum + ((l.map fun p => pow15 p.n).foldr (· + ·) 0)
  | [], last, sum, t, h => by
    have : sum = t := by simpa [codeGo] using h
    subst this
    exact ⟨fun p hp => (by cases hp), by simp, by simp⟩
  | p :: l, last, sum, t, h => by
    unfold codeGo at h
    by_cases g : okPr last p = true
    · rw [if_pos g] at h
      unfold okPr at g
      simp only [Bool.and_eq_true, decide_eq_true_eq] at g
      obtain ⟨g1, g2, g3⟩ := g
      obtain ⟨h1, h2, h3⟩ := codeGo_all h
      refine ⟨fun q hq => ?_, ?_, ?_⟩
      · rcases List.mem_cons.1 hq with rfl | hq
        · exact ⟨g1, g2, g3⟩
        · have := h1 q hq; exact ⟨by omega, this.2⟩
      · rw [List.map_cons, List.pairwise_cons]
        exact ⟨fun x hx => by
          obtain ⟨q, hq, rfl⟩ := List.mem_map.1 hx
          exact (h1 q hq).1, h2⟩
      · rw [h3, List.map_cons, List.foldr_cons]; omega
    · rw [if_neg g] at h; cases h
structure IsCode (l : List Pr) : Prop where
  ok : ∀ p ∈ l, okSym p.s = true ∧ 1 ≤ p.n ∧ p.n ≤ 15
  rise : (l.map Pr.s).Pairwise (· < ·)
  kraft : (l.map fun p => pow15 p.n).foldr (· + ·) 0 ≤ 32768
theorem isCodeA_code {l : List Pr} (h : isCodeA l = true) : IsCode l := by
  unfold isCodeA at h
  cases e : codeGo l (-1) 0 with
  | none => rw [e] at h; cases h
  | some t =>
    rw [e] at h
    have ht : t ≤ 32768 := of_decide_eq_true h
    obtain ⟨h1, h2, h3⟩ := codeGo_all e
    exact ⟨fun p hp => ⟨(h1 p hp).2.1, within_iff.1 (h1 p hp).2.2⟩, h2, by omega⟩
theorem IsCode.b15 {l : List Pr} (h : IsCode l) : Bits15 l := fun p hp => (h.ok p hp).2

/-- The place of a symbol. -/
def findS (l : List Pr) (s : Int) : Option Nat := l.findIdx? (fun p => p.s == s)
theorem findS_none {l : List Pr} {s : Int} (h : ∀ p ∈ l, p.s ≠ s) : findS l s = none := by
  unfold findS; rw [List.findIdx?_eq_none_iff]; intro p hp; simpa using h p hp
theorem findS_some {l : List Pr} {s : Int} {k : Nat} {p : Pr} (hp : At l k p) (e : p.s = s) (h : ∀ q ∈ l.take k, q.s ≠ s) : findS l s = some k := by
  unfold findS
  rw [List.findIdx?_eq_some_iff_getElem]
  have hk := hp.lt
  have hpe : l[k] = p := by have := hp; unfold At at this; rw [List.getElem?_eq_getElem hk] at this; exact Option.some.inj this
  refine ⟨hk, by rw [hpe, e]; simp, fun j hj => ?_⟩
  have := h l[j] (List.mem_take_iff_getElem.2 ⟨j, by omega, rfl⟩)
  simpa using this
def codeR (l : List Pr) (s : Int) : ByteArray := if isCodeA l then (match findS l s with | none => ⟨#[]⟩ | some i => strB (codeAt l i)) else ⟨#[]⟩
def codeE (l : List Pr) (s : Int) : Int := if isCodeA l then (if (findS l s).isSome then 0 else 3) else 1

def areE (l : List ByteArray) : Int := if 20 < l.length then 2 else if l.all isTextA then 0 else 1
set_option maxRecDepth 100000 in
theorem areTexts14_any (v : Value) (l : List ByteArray) (H : Snap) (w : World) (hw : Holds H w) (hs : Sl H v l) :
    Calls Tryz.prog 37 #[v] w (PostV w (.int .i64 (areE l))) := by
  obtain ⟨a, c, rfl, _, _⟩ := hs.form
  by_cases h20 : 20 < l.length
  · have e : areE l = 2 := by unfold areE; rw [if_pos h20]
    have hg : ¬ ((l.length : Int) ≤ 20) := by omega
    have hg2 : ¬ (l.length ≤ 20) := by omega
    rw [e]
    go_enter Tryz.func37, Tryz.ntmps37
    go_wp2
    go_ret
    exact ⟨rfl, Below.refl _ _⟩
  · have e : areE l = if l.all isTextA then 0 else 1 := by unfold areE; rw [if_neg h20]
    have hg : (l.length : Int) ≤ 20 := by omega
    have hg2 : l.length ≤ 20 := by omega
    replace e := Lib.hid e
    go_enter Tryz.func37, Tryz.ntmps37
    go_wp2
    go_loopw [3] (fun i wr => ∃ k : Nat, k ≤ l.length ∧ i = .int .i64 (k : Int) ∧ Hid ((l.take k).all isTextA = true) ∧ Ext w H wr H) (fun i _ => l.length - (intOf i).toNat)
    case atStart => exact ⟨0, Nat.zero_le _, rfl, rfl, Ext.refl hw⟩
    case round =>
      obtain ⟨k, hk, rfl, hok, xr⟩ := hrel
      have hwr := xr.holds
      by_cases hlk : k < l.length
      · obtain ⟨x, hx⟩ := At.mk hlk
        obtain ⟨b, o, c', he, hi, hr⟩ := hs.str hx
        cases he
        have hk0 : (0 : Int) ≤ (k : Int) := by omega
        have hk1 : (k : Int) < (l.length : Int) := by omega
        have ht := fun (W : World) => isText14_any x W
        cases g : isTextA x
        · have hall : l.all isTextA = false := by rw [List.all_eq_false]; exact ⟨x, hx.mem, by rw [g]; decide⟩
          rw [g] at ht
          replace ht := Lib.hid ht
          replace hall := Lib.hid hall
          clear g
          go_wp2_with (first | (go_at_call 56; refine (ht.out _).mono ?_; rintro e w2 ⟨rfl, hb2⟩))
          go_ret
          rw [e.out, hall.out]
          exact ⟨rfl, xr.below.trans (hb2.mono xr.below.size)⟩
        · have hnext : (l.take (k + 1)).all isTextA = true := by rw [hx.take, List.all_append, hok.out]; simp [g]
          rw [g] at ht
          replace ht := Lib.hid ht
          replace hnext := Lib.hid hnext
          clear g
          go_wp2_with (first | (go_at_call 56; refine (ht.out _).mono ?_; rintro e w2 ⟨rfl, hb2⟩))
          go_roundw
          case rel => exact ⟨k + 1, by omega, by go_num, hnext, xr.step (hb2.mono xr.below.size) (hwr.below hb2)⟩
          case measure => simp [intOf]; omega
      · have hall : l.all isTextA = true := by have := hok.out; rw [List.take_of_length_le (by omega)] at this; exact this
        replace hall := Lib.hid hall
        go_wp2_with fail
        go_ret
        rw [e.out, hall.out]
        exact ⟨rfl, xr.below⟩

end Go.Proofs.YthcfhmebikcfpaaGreatDoor

namespace Go.Proofs.YthcfhmebikcfpaaGreatDoor
open Go.RowKit

abbrev bldT : Nat := 51
abbrev IsBld (B b : Nat) (l : List UInt8) (w : World) : Prop := Lib.IsBuilder 51 5 B b (Lib.byteCells l) w
theorem bld_size : (Tryz.prog.info? 51).map (·.size) = some 2 := by kernel_rfl
theorem bld_lies : liesAt Tryz.prog Tryz.prog.depth 51 (2 / Tryz.prog.cellsOf 51) 0 51 1 = true := by kernel_rfl
theorem byte_info : (Tryz.prog.info? 5).map (fun i => (i.zero, i.size, i.bytes)) = some (some (.int .u8 0), 1, 1) := by kernel_rfl

set_option maxHeartbeats 1000000 in
set_option maxRecDepth 100000 in
theorem bld_check_used (b : Nat) (w : World) (h0 : w.cell? ⟨b, 0, none⟩ = some (.pointer (some ⟨b, 0, none⟩))) :
    Calls Tryz.prog 51 #[.pointer (some ⟨b, 0, none⟩)] w fun e w' => e = .returned (.tuple #[]) ∧ w' = w := by
  obtain ⟨j, hj, _⟩ := Option.map_eq_some_iff.1 bld_size
  go_enter Tryz.func51, Tryz.ntmps51
  go_wp2
  rw [Lib.run_neq_ptr_same w _ Tryz.underlying48 hj]
  go_wp2
  go_end0
  exact ⟨rfl, rfl⟩

set_option maxHeartbeats 1000000 in
set_option maxRecDepth 100000 in
theorem bld_check_fresh (b : Nat) (w : World) (h0 : w.cell? ⟨b, 0, none⟩ = some (.pointer none)) (hsh : w.shape? b = some (51, 2)) (hfz : w.frozen? ⟨b, 0, none⟩ = false) :
    Calls Tryz.prog 51 #[.pointer (some ⟨b, 0, none⟩)] w fun e w' => e = .returned (.tuple #[]) ∧ w' = w.setCell ⟨b, 0, none⟩ (.pointer (some ⟨b, 0, none⟩)) := by
  obtain ⟨j, hj, hjs⟩ := Option.map_eq_some_iff.1 bld_size
  go_enter Tryz.func51, Tryz.ntmps51
  go_wp2
  rw [Lib.run_to_unsafe w ⟨b, 0, none⟩ Tryz.underlying48 Tryz.underlying117 hj (by rw [hjs]; decide) hsh (Nat.zero_lt_succ 1)]
  simp only [Result.andThen]
  rw [Oper.upon_value]
  go_wp2
  rw [run_callFunc_extern Tryz.func81 (by kernel_rfl) (by kernel_rfl) (by kernel_rfl) (e := Extern.AbiNoEscape.same) (by kernel_rfl)]
  rw [Lib.run_noEscape]
  simp only [Result.andThen]
  rw [Oper.upon_value]
  go_wp2
  rw [Lib.run_from_unsafe w ⟨b, 0, none⟩ Tryz.underlying117 Tryz.underlying48 hj hsh bld_lies]
  simp only [Result.andThen]
  rw [Oper.upon_value]
  go_wp2
  go_end0
  exact ⟨rfl, rfl⟩

theorem bld_check (B b : Nat) (bs : List Value) (w : World) (h : Lib.IsBuilder 51 5 B b bs w) :
    Calls Tryz.prog 51 #[.pointer (some ⟨b, 0, none⟩)] w fun e w' => e = .returned (.tuple #[]) ∧ (Lib.BuilderAt 51 5 B b (.pointer (some ⟨b, 0, none⟩)) bs w' ∧ Below B w w') := by
  rcases h with h | h
  · refine (bld_check_fresh b w h.cell0 h.shape h.frozen0).mono ?_
    rintro e w' ⟨rfl, rfl⟩
    exact ⟨rfl, h.used _, (Below.refl B w).setCell (p := ⟨b, 0, none⟩) h.1 _⟩
  · refine (bld_check_used b w h.cell0).mono ?_
    rintro e w' ⟨rfl, rfl⟩
    exact ⟨rfl, h, Below.refl B _⟩

set_option maxHeartbeats 2000000 in
set_option maxRecDepth 100000 in
theorem bld_byte (B b : Nat) (bs : List Value) (c : Int) (w : World) (h : Lib.IsBuilder 51 5 B b bs w) (hlen : bs.length + 1 ≤ 140737488355328) (hBw : B ≤ w.heap.size) :
    Calls Tryz.prog 32 #[.pointer (some ⟨b, 0, none⟩), .int .u8 c] w fun e w' => e = .returned .nilIface ∧ (Lib.BuilderAt 51 5 B b (.pointer (some ⟨b, 0, none⟩)) (bs ++ [.int .u8 c]) w' ∧ Below B w w') := by
  obtain ⟨i0, hi, hz0, hz1, hz2⟩ := info_parts byte_info
  go_enter Tryz.func32, Tryz.ntmps32
  go_wp2_with (go_at_call 51; refine (bld_check B b bs _ h).mono ?_)
  rintro e w1 ⟨rfl, h1, hb1⟩
  obtain ⟨hB, v, hbk, hown, hne⟩ := h1
  have c0 : w1.cell? ⟨b, 0, none⟩ = some (.pointer (some ⟨b, 0, none⟩)) := by rw [Lib.cell_of_heap hbk]; rfl
  have c1 : w1.cell? ⟨b, 1, none⟩ = some v := by rw [Lib.cell_of_heap hbk]; rfl
  go_wp2_with (at_builtin; refine wpList_append_own _ rfl _ _ 49 rfl B 5 i0 (.int .u8 0) 1 1 Tryz.underlying49 hi hz0 hz1 hz2 rfl (by decide) _ _ _ rfl (hown.alloc _) ⟨w1.heap.size, 0, none⟩ 1 1 [.int .u8 c] rfl rfl ?c1 ?c2 ?c3 ?c4 ?c5 ?_)
  case c1 =>
    intro j u hj
    match j, hj with
    | 0, hj => simp at hj; subst hj; simp [Addr.add]
  case c2 => intro u hu; simp at hu; subst hu; rfl
  case c3 => unfold maxLen; omega
  case c4 => omega
  case c5 => have := hb1.size; simp; omega
  intro v' w2 hown' hgrow _
  have hlt : b < w1.heap.size := by
    rcases Nat.lt_or_ge b w1.heap.size with h' | h'
    · exact h'
    · simp [Array.getElem?_eq_none h'] at hbk
  have hb2 : w2.heap[b]? = some (.cells #[.pointer (some ⟨b, 0, none⟩), v] 51 (0, 0)) := by
    rw [hgrow.block b (by simp; omega) (fun e => hne e.symm), Lib.alloc_old w1 _ b hlt]
    exact hbk
  have d0 : w2.cell? ⟨b, 0, none⟩ = some (.pointer (some ⟨b, 0, none⟩)) := by rw [Lib.cell_of_heap hb2]; rfl
  have d1 : w2.cell? ⟨b, 1, none⟩ = some v := by rw [Lib.cell_of_heap hb2]; rfl
  have f1 : w2.frozen? ⟨b, 1, none⟩ = false := Lib.frozen_of_heap hb2 1
  obtain ⟨g, cap, rfl⟩ : ∃ g cap, v' = .slice (some ⟨g, 0, none⟩) (bs.length + 1) cap := by
    rcases hown'.2 with ⟨_, h0⟩ | ⟨g, cap, cur, hv, _⟩
    · omega
    · exact ⟨g, cap, hv⟩
  go_wp2
  go_ret
  refine ⟨rfl, ?_, ?_⟩
  · exact Lib.BuilderAt.put (T := 51) (e := 5) hB hb2 (bs' := bs ++ [.int .u8 c]) (by simpa using hown') (by decide)
  · exact ((hb1.alloc (by have := hb1.size; omega) _).grown hgrow (by have := hb1.size; simp; omega) (fun k hk => (hown.lt k hk).1)).setCell (p := ⟨b, 1, none⟩) hB _

set_option maxHeartbeats 2000000 in
set_option maxRecDepth 100000 in
theorem bld_string (B b : Nat) (bs : List Value) (s : ByteArray) (w : World) (h : Lib.IsBuilder 51 5 B b bs w) (hlen : bs.length + s.size ≤ 140737488355328) (hBw : B ≤ w.heap.size) :
    Calls Tryz.prog 30 #[.pointer (some ⟨b, 0, none⟩), .string s] w fun e w' => e = .returned (.tuple #[.int .i64 s.size, .nilIface]) ∧ (Lib.BuilderAt 51 5 B b (.pointer (some ⟨b, 0, none⟩)) (bs ++ Lib.strCells s) w' ∧ Below B w w') := by
  obtain ⟨i0, hi, hz0, hz1, hz2⟩ := info_parts byte_info
  go_enter Tryz.func30, Tryz.ntmps30
  go_wp2_with (go_at_call 51; refine (bld_check B b bs _ h).mono ?_)
  rintro e w1 ⟨rfl, h1, hb1⟩
  obtain ⟨hB, v, hbk, hown, hne⟩ := h1
  have c0 : w1.cell? ⟨b, 0, none⟩ = some (.pointer (some ⟨b, 0, none⟩)) := by rw [Lib.cell_of_heap hbk]; rfl
  have c1 : w1.cell? ⟨b, 1, none⟩ = some v := by rw [Lib.cell_of_heap hbk]; rfl
  go_wp2_with (at_builtin; refine Lib.wpList_append_own_string _ rfl _ _ 49 9 rfl B 5 i0 Tryz.underlying49 Tryz.underlying9 hi hz0 hz1 hz2 _ _ _ rfl hown s rfl ?c3 ?c4 ?c5 ?_)
  case c3 => unfold maxLen; omega
  case c4 => omega
  case c5 => have := hb1.size; omega
  intro v' w2 hown' hgrow _
  have hlt : b < w1.heap.size := by
    rcases Nat.lt_or_ge b w1.heap.size with h' | h'
    · exact h'
    · simp [Array.getElem?_eq_none h'] at hbk
  have hb2 : w2.heap[b]? = some (.cells #[.pointer (some ⟨b, 0, none⟩), v] 51 (0, 0)) := by
    rw [hgrow.block b hlt (fun e => hne e.symm)]
    exact hbk
  have d0 : w2.cell? ⟨b, 0, none⟩ = some (.pointer (some ⟨b, 0, none⟩)) := by rw [Lib.cell_of_heap hb2]; rfl
  have d1 : w2.cell? ⟨b, 1, none⟩ = some v := by rw [Lib.cell_of_heap hb2]; rfl
  have f1 : w2.frozen? ⟨b, 1, none⟩ = false := Lib.frozen_of_heap hb2 1
  obtain ⟨ao, n', cap, rfl⟩ : ∃ ao n' cap, v' = .slice ao n' cap := by
    rcases hown'.2 with ⟨hv, _⟩ | ⟨g, cap, cur, hv, _⟩
    · exact ⟨_, _, _, hv⟩
    · exact ⟨_, _, _, hv⟩
  go_wp2
  go_ret2
  refine ⟨rfl, ?_, ?_⟩
  · exact Lib.BuilderAt.put (T := 51) (e := 5) hB hb2 (bs' := bs ++ Lib.strCells s) (by simpa [Lib.strCells_length] using hown') (by decide)
  · exact (hb1.grown hgrow (by have := hb1.size; omega) (fun k hk => (hown.lt k hk).1)).setCell (p := ⟨b, 1, none⟩) hB _
end Go.Proofs.YthcfhmebikcfpaaGreatDoor

namespace Go.Proofs.YthcfhmebikcfpaaGreatDoor
open Go.RowKit

attribute [local go_sem] Holds.drew Holds.alloc Holds.drewN WB.holds Oper.semAt_some

theorem okByte_iff {b : UInt8} : okByte b = true ↔ 32 ≤ (b.toNat : Int) ∧ (b.toNat : Int) ≤ 126 := by unfold okByte; rw [within_iff]

theorem isMark14_any (x : UInt8) (w : World) : Calls Tryz.prog 68 #[.int .u8 (x.toNat : Int)] w (PostV w (.bool (okByte x))) := by
  by_cases h1 : (32 : Int) ≤ (x.toNat : Int)
  · by_cases h2 : (x.toNat : Int) ≤ 126
    · have e : okByte x = true := okByte_iff.2 ⟨h1, h2⟩
      rw [e]
      go_enter Tryz.func68, Tryz.ntmps68
      go_wp2
      go_ret
      exact ⟨rfl, Below.refl _ _⟩
    · have e : okByte x = false := by rw [Bool.eq_false_iff]; intro h; exact h2 (okByte_iff.1 h).2
      rw [e]
      go_enter Tryz.func68, Tryz.ntmps68
      go_wp2
      go_ret
      exact ⟨rfl, Below.refl _ _⟩
  · have e : okByte x = false := by rw [Bool.eq_false_iff]; intro h; exact h1 (okByte_iff.1 h).1
    rw [e]
    go_enter Tryz.func68, Tryz.ntmps68
    go_wp2
    go_ret
    exact ⟨rfl, Below.refl _ _⟩

set_option maxRecDepth 100000 in
theorem nIsText_any (s : ByteArray) (hsz : s.size ≤ 1000000) (w : World) :
    Calls Tryz.prog 61 #[.string s] w (PostV w (.bool (isTextA s))) := by
  have e : isTextA s = (decide (s.size ≤ 48) && (bys s).all okByte) := rfl
  replace e := Lib.hid e
  go_enter Tryz.func61, Tryz.ntmps61
  go_wp2
  go_loopw [6] (fun i wr => ∃ k : Nat, k ≤ s.size ∧ i = .int .i64 k ∧ Hid (((bys s).take k).all okByte = true) ∧ Below w.heap.size w wr) (fun i _ => s.size - (intOf i).toNat)
  case atStart => exact ⟨0, Nat.zero_le _, rfl, rfl, Below.refl _ _⟩
  case round =>
    obtain ⟨k, hk, rfl, hok, hbr⟩ := hrel
    by_cases hlk : k < s.size
    · obtain ⟨x, hx⟩ := At.mk (show k < (bys s).length from hlk)
      have hk0 : (0 : Int) ≤ (k : Int) := by omega
      have hk1 : (k : Int) < (s.size : Int) := by omega
      have hsk : s[k] = x := by
        have h1 : (bys s)[k]? = some x := hx
        rw [List.getElem?_eq_getElem (show k < (bys s).length from hlk)] at h1
        exact Option.some.inj h1
      have hwk : wrap64 ((k : Int) + 1) = (k : Int) + 1 := wrap64_in _ (by omega) (by omega)
      have hwt : ∀ (W : World), Calls Tryz.prog 68 #[.int .u8 (x.toNat : Int)] W (PostV W (.bool (okByte x))) := fun W => isMark14_any x W
      replace hwt := Lib.hid hwt
      cases g : okByte x
      · rw [g] at hwt
        have hall : (bys s).all okByte = false := by
          rw [List.all_eq_false]; exact ⟨x, hx.mem, by rw [g]; decide⟩
        replace hall := Lib.hid hall
        clear g
        go_wp2_with (first | (go_at_call 68; go_must (refine (hwt.out _).mono ?_); rintro e w2 ⟨rfl, hb2⟩))
        go_ret
        exact ⟨ret_bool (by rw [e.out, hall.out, Bool.and_false]), hbr.trans (hb2.mono hbr.size)⟩
      · rw [g] at hwt
        have hnext : ((bys s).take (k + 1)).all okByte = true := by
          rw [hx.take, List.all_append, hok.out]; simp [g]
        replace hnext := Lib.hid hnext
        clear g
        go_wp2_with (first | (go_at_call 68; go_must (refine (hwt.out _).mono ?_); rintro e w2 ⟨rfl, hb2⟩))
        go_roundw
        case rel => exact ⟨k + 1, by omega, by go_num, hnext, hbr.trans (hb2.mono hbr.size)⟩
        case measure => simp [intOf]; omega
    · go_wp2_with fail
      go_ret
      have := hok.out
      rw [List.take_of_length_le (by rw [bys_len]; omega)] at this
      exact ⟨ret_bool (by rw [e.out, this, Bool.and_true, decide_eq_decide]; omega), hbr⟩

theorem nNot_any (s : ByteArray) (hsz : s.size ≤ 1000000) (w : World) :
    Calls Tryz.prog 60 #[.string s] w (PostV w (.bool (!isTextA s))) := by
  go_enter Tryz.func60, Tryz.ntmps60
  go_wp2_with (first | (go_at_call 61; refine (nIsText_any _ hsz _).mono ?_; rintro e w2 ⟨rfl, hb2⟩))
  go_ret
  exact ⟨rfl, hb2⟩

def notText (s : ByteArray) : Bool := !isTextA s
theorem notText_all (l : List ByteArray) : l.any notText = !l.all isTextA := by
  induction l with
  | nil => rfl
  | cons x l ih => rw [List.any_cons, List.all_cons, ih, Bool.not_and]; rfl
def idxN (l : List ByteArray) : Int := match l.findIdx? notText with | none => -1 | some k => k

set_option maxRecDepth 100000 in
theorem nIndex_any (v : Value) (l : List ByteArray) (H : Snap) (w : World) (hw : Holds H w) (hs : Sl H v l) (hl : l.length ≤ 100000) (hz : ∀ s ∈ l, s.size ≤ 1000000) :
    Calls Tryz.prog 85 #[v, .func (.func 60) #[] #[]] w (PostV w (.int .i64 (idxN l))) := by
  obtain ⟨a, c, rfl, _, _⟩ := hs.form
  have e : idxN l = (match l.findIdx? notText with | none => -1 | some k => (k : Int)) := rfl
  replace e := Lib.hid e
  go_enter Tryz.func85, Tryz.ntmps85
  go_wp2
  go_loopw [8] (fun i wr => ∃ k : Nat, k ≤ l.length ∧ i = .int .i64 (k : Int) ∧ Hid ((l.take k).any notText = false) ∧ Ext w H wr H) (fun i _ => l.length - (intOf i).toNat)
  case atStart => exact ⟨0, Nat.zero_le _, rfl, rfl, Ext.refl hw⟩
  case round =>
    obtain ⟨k, hk, rfl, hno, xr⟩ := hrel
    have hwr := xr.holds
    by_cases hlk : k < l.length
    · obtain ⟨x, hx⟩ := At.mk hlk
      obtain ⟨b, o, c', he, hi, hr⟩ := hs.str hx
      cases he
      have hk0 : (0 : Int) ≤ (k : Int) := by omega
      have hk1 : (k : Int) < (l.length : Int) := by omega
      have hnt := fun W => nNot_any x (hz x hx.mem) W
      cases g : isTextA x
      · rw [g] at hnt
        have hf : l.findIdx? notText = some k := by
          rw [List.findIdx?_eq_some_iff_getElem]
          have hpe : l[k] = x := by have := hx; unfold At at this; rw [List.getElem?_eq_getElem hlk] at this; exact Option.some.inj this
          refine ⟨hlk, by rw [hpe]; unfold notText; rw [g]; rfl, fun j hj => ?_⟩
          have := (List.any_eq_false.1 hno.out) l[j] (List.mem_take_iff_getElem.2 ⟨j, by omega, rfl⟩)
          simpa using this
        replace hf := Lib.hid hf
        replace hnt := Lib.hid hnt
        clear g
        go_wp2_with (first | (go_at_call 60; refine (hnt.out _).mono ?_; rintro e w2 ⟨rfl, hb2⟩))
        go_ret
        rw [e.out, hf.out]
        exact ⟨rfl, xr.below.trans (hb2.mono xr.below.size)⟩
      · rw [g] at hnt
        have hnext : (l.take (k + 1)).any notText = false := by rw [hx.take, List.any_append, hno.out]; simp [notText, g]
        replace hnext := Lib.hid hnext
        replace hnt := Lib.hid hnt
        clear g
        go_wp2_with (first | (go_at_call 60; refine (hnt.out _).mono ?_; rintro e w2 ⟨rfl, hb2⟩))
        go_roundw
        case rel => exact ⟨k + 1, by omega, by go_num, hnext, xr.step (hb2.mono xr.below.size) (hwr.below hb2)⟩
        case measure => simp [intOf]; omega
    · have hf : l.findIdx? notText = none := by
        rw [List.findIdx?_eq_none_iff]
        intro x hx
        have := List.any_eq_false.1 hno.out x (by rw [List.take_of_length_le (by omega)]; exact hx)
        simpa using this
      replace hf := Lib.hid hf
      go_wp2_with fail
      go_ret
      rw [e.out, hf.out]
      exact ⟨rfl, xr.below⟩

theorem idxN_any (l : List ByteArray) : decide (0 ≤ idxN l) = l.any notText := by
  unfold idxN
  cases h : l.findIdx? notText with
  | none =>
    rw [List.findIdx?_eq_none_iff] at h
    have : l.any notText = false := List.any_eq_false.2 fun x hx => by rw [h x hx]; decide
    rw [this]; rfl
  | some k =>
    rw [List.findIdx?_eq_some_iff_getElem] at h
    obtain ⟨h1, h2, _⟩ := h
    have : l.any notText = true := List.any_eq_true.2 ⟨l[k], List.getElem_mem h1, h2⟩
    rw [this]
    simp

theorem nContains_any (v : Value) (l : List ByteArray) (H : Snap) (w : World) (hw : Holds H w) (hs : Sl H v l) (hl : l.length ≤ 100000) (hz : ∀ s ∈ l, s.size ≤ 1000000) :
    Calls Tryz.prog 59 #[v, .func (.func 60) #[] #[]] w (PostV w (.bool (!l.all isTextA))) := by
  have e : decide (0 ≤ idxN l) = !l.all isTextA := by rw [idxN_any, notText_all]
  replace e := Lib.hid e
  go_enter Tryz.func59, Tryz.ntmps59
  go_wp2_with (first | (go_at_call 85; refine (nIndex_any _ l H _ hw hs hl hz).mono ?_; rintro e2 w2 ⟨rfl, hb2⟩))
  go_ret
  exact ⟨ret_bool e.out, hb2⟩

set_option maxRecDepth 100000 in
theorem nCheck_any (v : Value) (l : List ByteArray) (H : Snap) (w : World) (hw : Holds H w) (hs : Sl H v l) (hz : ∀ s ∈ l, s.size ≤ 1000000) :
    Calls Tryz.prog 39 #[v] w (PostV w (.int .i64 (areE l))) := by
  obtain ⟨a, c, rfl, _, _⟩ := hs.form
  by_cases h20 : 20 < l.length
  · have e : areE l = 2 := by unfold areE; rw [if_pos h20]
    have hg : (20 : Int) < (l.length : Int) := by omega
    rw [e]
    go_enter Tryz.func39, Tryz.ntmps39
    go_wp2
    go_ret
    exact ⟨rfl, Below.refl _ _⟩
  · have e : areE l = if l.all isTextA then 0 else 1 := by unfold areE; rw [if_neg h20]
    have hg : ¬ (20 : Int) < (l.length : Int) := by omega
    have hc := nContains_any (.slice a l.length c) l H w hw hs (by omega) hz
    cases g : l.all isTextA
    · rw [g] at e hc
      rw [e]
      replace hc := Lib.hid hc
      clear e g
      go_enter Tryz.func39, Tryz.ntmps39
      go_wp2_with (first | (go_at_call 59; refine hc.out.mono ?_; rintro e2 w2 ⟨rfl, hb2⟩))
      go_ret
      exact ⟨rfl, hb2⟩
    · rw [g] at e hc
      rw [e]
      replace hc := Lib.hid hc
      clear e g
      go_enter Tryz.func39, Tryz.ntmps39
      go_wp2_with (first | (go_at_call 59; refine hc.out.mono ?_; rintro e2 w2 ⟨rfl, hb2⟩))
      go_ret
      exact ⟨rfl, hb2⟩
end Go.Proofs.YthcfhmebikcfpaaGreatDoor

namespace Go.Proofs.YthcfhmebikcfpaaGreatDoor
open Go.RowKit

theorem byte_cells : Tryz.prog.cellsOf 5 = 1 := by kernel_rfl

set_option maxHeartbeats 1000000 in
set_option maxRecDepth 100000 in
theorem bld_str (B b : Nat) (l : List UInt8) (w : World) (h : Lib.IsBuilder 51 5 B b (Lib.byteCells l) w) (h0 : l ≠ []) :
    Calls Tryz.prog 36 #[.pointer (some ⟨b, 0, none⟩)] w fun e w' => e = .returned (.string ⟨l.toArray⟩) ∧ Below B w w' := by
  obtain ⟨p, hB, v, hbk, hown, hne⟩ : ∃ p, Lib.BuilderAt 51 5 B b p (Lib.byteCells l) w := by
    rcases h with h | h
    · exact ⟨_, h⟩
    · exact ⟨_, h⟩
  have hl0 : l.length ≠ 0 := by simpa using h0
  rw [Lib.byteCells_length] at hown
  obtain ⟨g, cap, cur, rfl, hbg, hg, hnc, hcm, hcs, htake⟩ : ∃ g cap cur, v = .slice (some ⟨g, 0, none⟩) l.length cap ∧ B ≤ g ∧ w.heap[g]? = some (.cells cur 5 (0, 0)) ∧ l.length ≤ cap ∧ cap ≤ maxLen ∧ cur.size = cap * 1 ∧ cur.toList.take (l.length * 1) = Lib.byteCells l := by
    rcases hown.2 with ⟨_, hz⟩ | ⟨g, cap, cur, hv, r⟩
    · exact absurd hz hl0
    · exact ⟨g, cap, cur, hv, r⟩
  have c1 : w.drew.cell? ⟨b, 1, none⟩ = some (.slice (some ⟨g, 0, none⟩) l.length cap) := by
    have : w.drew.heap[b]? = some (.cells #[p, .slice (some ⟨g, 0, none⟩) l.length cap] 51 (0, 0)) := hbk
    rw [Lib.cell_of_heap this]; rfl
  have hSD : (Builtin.unsafeSliceData_ #[49] 86 #[.slice (some ⟨g, 0, none⟩) l.length cap]).run Tryz.prog w.drew = .ok (.pointer (some ⟨g, 0, none⟩)) w.drew :=
    Lib.run_unsafeSliceData_row _ _ _ _ _ _ (by omega)
  have hUS : (Builtin.unsafeString_ #[86, 3] 9 #[.pointer (some ⟨g, 0, none⟩), .int .i64 l.length]).run Tryz.prog w.drew = .ok (.string ⟨l.toArray⟩) (w.drew.freeze ⟨g, 0, none⟩ l.length) := by
    refine Lib.run_unsafeString_row w.drew 86 3 9 5 Tryz.underlying86 byte_cells g cur.size (by have hg' : w.drew.heap[g]? = some (.cells cur 5 (0, 0)) := hg; simp [World.shape?, hg']) l h0 (by omega) (by unfold maxLen at hcm; omega) ?_
    intro j x hx
    have := hown.cells (g := g) rfl j (.int .u8 x.toNat) (by simp [Lib.byteCells, hx])
    exact this
  go_enter Tryz.func36, Tryz.ntmps36
  go_wp2
  go_region
  all_goals (go_wp2; go_ret; exact ⟨rfl, Lib.below_freeze (Below.drew (Below.refl B w)) (p := ⟨g, 0, none⟩) hbg _⟩)


theorem bld_unsafe_none (W : World) (q : Option Addr) : (Builtin.unsafeString_ #[86, 3] 9 #[.pointer q, .int .i64 0]).run Tryz.prog W = .ok (.string .empty) W :=
  Lib.run_unsafeString_none W _ _ _ q

set_option maxHeartbeats 2000000 in
set_option maxRecDepth 100000 in
theorem bld_str_nil (B b : Nat) (p : Value) (w : World) (hbk : w.heap[b]? = some (.cells #[p, .slice none 0 0] 51 (0, 0))) :
    Calls Tryz.prog 36 #[.pointer (some ⟨b, 0, none⟩)] w fun e w' => e = .returned (.string ⟨#[]⟩) ∧ Below B w w' := by
  have hUS := bld_unsafe_none 
  have c1 : w.drew.cell? ⟨b, 1, none⟩ = some (.slice none 0 0) := by
    have : w.drew.heap[b]? = some (.cells #[p, .slice none 0 0] 51 (0, 0)) := hbk
    rw [Lib.cell_of_heap this]; rfl
  have hSD : (Builtin.unsafeSliceData_ #[49] 86 #[.slice none 0 0]).run Tryz.prog w.drew = .ok (.pointer none) w.drew := rfl
  go_enter Tryz.func36, Tryz.ntmps36
  go_wp2
  go_region
  all_goals (go_wp2; go_ret; exact ⟨rfl, Below.drew (Below.refl B w)⟩)

set_option maxHeartbeats 2000000 in
set_option maxRecDepth 100000 in
theorem bld_str_noroom (B b g : Nat) (p : Value) (cur : Array Value) (w : World) (hBw : B ≤ w.heap.size) (hbk : w.heap[b]? = some (.cells #[p, .slice (some ⟨g, 0, none⟩) 0 0] 51 (0, 0))) (hg : w.heap[g]? = some (.cells cur 5 (0, 0))) :
    Calls Tryz.prog 36 #[.pointer (some ⟨b, 0, none⟩)] w fun e w' => e = .returned (.string ⟨#[]⟩) ∧ Below B w w' := by
  have hUS := bld_unsafe_none 
  have hlt : b < w.heap.size := by
    rcases Nat.lt_or_ge b w.heap.size with h' | h'
    · exact h'
    · simp [Array.getElem?_eq_none h'] at hbk
  have c1 : w.drew.cell? ⟨b, 1, none⟩ = some (.slice (some ⟨g, 0, none⟩) 0 0) := by
    have : w.drew.heap[b]? = some (.cells #[p, .slice (some ⟨g, 0, none⟩) 0 0] 51 (0, 0)) := hbk
    rw [Lib.cell_of_heap this]; rfl
  have hSD : (Builtin.unsafeSliceData_ #[49] 86 #[.slice (some ⟨g, 0, none⟩) 0 0]).run Tryz.prog w.drew = .ok (.pointer (some ⟨w.drew.heap.size, 0, none⟩)) (w.drew.alloc (.view ⟨g, 0, none⟩ 5)) :=
    Lib.run_unsafeSliceData_zero w.drew _ _ 5 Tryz.underlying86 ⟨g, 0, none⟩ 0 (5, cur.size) (by have hg' : w.drew.heap[g]? = some (.cells cur 5 (0, 0)) := hg; simp [World.shape?, hg'])
  have c2 : (w.drew.alloc (.view ⟨g, 0, none⟩ 5)).cell? ⟨b, 1, none⟩ = some (.slice (some ⟨g, 0, none⟩) 0 0) := by
    have : (w.drew.alloc (.view ⟨g, 0, none⟩ 5)).heap[b]? = _ := (Lib.alloc_old w.drew _ b hlt).trans hbk
    rw [Lib.cell_of_heap this]; rfl
  -- (the same fact as the how-to's newer walk spells the world; and of w itself, to which the elder walk comes down)
  have c3 : (w.alloc (.view ⟨g, 0, none⟩ 5)).drew.cell? ⟨b, 1, none⟩ = some (.slice (some ⟨g, 0, none⟩) 0 0) := c2
  have c0 : w.cell? ⟨b, 1, none⟩ = some (.slice (some ⟨g, 0, none⟩) 0 0) := c1
  go_enter Tryz.func36, Tryz.ntmps36
  go_wp2
  go_region
  all_goals (go_wp2; go_ret; exact ⟨rfl, (Below.drew (Below.refl B w)).alloc hBw _⟩)

set_option maxHeartbeats 2000000 in
set_option maxRecDepth 100000 in
theorem bld_str_room (B b g cap : Nat) (p : Value) (w : World) (hc0 : cap ≠ 0) (hbk : w.heap[b]? = some (.cells #[p, .slice (some ⟨g, 0, none⟩) 0 cap] 51 (0, 0))) :
    Calls Tryz.prog 36 #[.pointer (some ⟨b, 0, none⟩)] w fun e w' => e = .returned (.string ⟨#[]⟩) ∧ Below B w w' := by
  have hUS := bld_unsafe_none 
  have c1 : w.drew.cell? ⟨b, 1, none⟩ = some (.slice (some ⟨g, 0, none⟩) 0 cap) := by
    have : w.drew.heap[b]? = some (.cells #[p, .slice (some ⟨g, 0, none⟩) 0 cap] 51 (0, 0)) := hbk
    rw [Lib.cell_of_heap this]; rfl
  have hSD : (Builtin.unsafeSliceData_ #[49] 86 #[.slice (some ⟨g, 0, none⟩) 0 cap]).run Tryz.prog w.drew = .ok (.pointer (some ⟨g, 0, none⟩)) w.drew :=
    Lib.run_unsafeSliceData_row _ _ _ _ _ _ hc0
  clear hc0
  go_enter Tryz.func36, Tryz.ntmps36
  go_wp2
  go_region
  all_goals (go_wp2; go_ret; exact ⟨rfl, Below.drew (Below.refl B w)⟩)

theorem bld_str_empty (B b : Nat) (w : World) (h : Lib.IsBuilder 51 5 B b [] w) (hBw : B ≤ w.heap.size) :
    Calls Tryz.prog 36 #[.pointer (some ⟨b, 0, none⟩)] w fun e w' => e = .returned (.string ⟨#[]⟩) ∧ Below B w w' := by
  obtain ⟨p, hB, v, hbk, hown, hne⟩ : ∃ p, Lib.BuilderAt 51 5 B b p [] w := by
    rcases h with h | h
    · exact ⟨_, h⟩
    · exact ⟨_, h⟩
  rcases hown.2 with ⟨rfl, _⟩ | ⟨g, cap, cur, rfl, hbg, hg, _, _, _, _⟩
  · exact bld_str_nil  B b p w hbk
  · by_cases hc0 : cap = 0
    · subst hc0
      exact bld_str_noroom  B b g p cur w hBw hbk hg
    · exact bld_str_room  B b g cap p w hc0 hbk

theorem bld_str_any (B b : Nat) (l : List UInt8) (w : World) (h : Lib.IsBuilder 51 5 B b (Lib.byteCells l) w) (hBw : B ≤ w.heap.size) :
    Calls Tryz.prog 36 #[.pointer (some ⟨b, 0, none⟩)] w fun e w' => e = .returned (.string ⟨l.toArray⟩) ∧ Below B w w' := by
  cases l with
  | nil => exact bld_str_empty  B b w h hBw
  | cons x r => exact bld_str  B b (x :: r) w h (by simp)

end Go.Proofs.YthcfhmebikcfpaaGreatDoor

namespace Go.Proofs.YthcfhmebikcfpaaGreatDoor
open Go.RowKit

attribute [local go_sem] Holds.drew Holds.alloc Holds.drewN WB.holds Oper.semAt_some

/-- A builder of the call's own that holds these bytes. -/
def Bu (B b : Nat) (l : List UInt8) (w : World) : Prop := IsBld B b l w
theorem Bu.fresh (w : World) : Bu w.heap.size w.heap.size [] (w.alloc (.cells #[.pointer none, .slice none 0 0] 51)) := Lib.fresh_isBuilder _ _ w
theorem bu_string {B b : Nat} {l : List UInt8} {w : World} (s : ByteArray) (h : Bu B b l w) (hl : l.length + s.size ≤ 1000000) (hB : B ≤ w.heap.size) :
    Calls Tryz.prog 30 #[.pointer (some ⟨b, 0, none⟩), .string s] w fun e w' => e = .returned (.tuple #[.int .i64 s.size, .nilIface]) ∧ Bu B b (l ++ bys s) w' ∧ Below B w w' := by
  refine (bld_string B b _ s w h (by rw [Lib.byteCells_length]; omega) hB).mono ?_
  rintro e w' ⟨he, h1, h2⟩
  refine ⟨he, Or.inr ?_, h2⟩
  rw [Lib.strCells_eq, ← Lib.byteCells_append] at h1
  exact h1
theorem bu_byte {B b : Nat} {l : List UInt8} {w : World} (x : UInt8) (h : Bu B b l w) (hl : l.length ≤ 1000000) (hB : B ≤ w.heap.size) :
    Calls Tryz.prog 32 #[.pointer (some ⟨b, 0, none⟩), .int .u8 (x.toNat : Int)] w fun e w' => e = .returned .nilIface ∧ Bu B b (l ++ [x]) w' ∧ Below B w w' := by
  refine (bld_byte B b _ _ w h (by rw [Lib.byteCells_length]; omega) hB).mono ?_
  rintro e w' ⟨he, h1, h2⟩
  refine ⟨he, Or.inr ?_, h2⟩
  have : Lib.byteCells l ++ [.int .u8 (x.toNat : Int)] = Lib.byteCells (l ++ [x]) := by rw [Lib.byteCells_append]; rfl
  rw [this] at h1
  exact h1
theorem bu_str {B b : Nat} {l : List UInt8} {w : World} (h : Bu B b l w) (hB : B ≤ w.heap.size) :
    Calls Tryz.prog 36 #[.pointer (some ⟨b, 0, none⟩)] w fun e w' => e = .returned (.string (strB l)) ∧ Below B w w' :=
  bld_str_any B b l w h hB

theorem msgTo_next {l : List ByteArray} {k : Nat} {s : ByteArray} (hs : At l k s) : msgTo l (k + 1) = msgTo l k ++ bys s ++ [10] := by
  unfold msgTo
  rw [hs.take, List.flatMap_append]
  simp

set_option maxRecDepth 100000 in
theorem nMessage_any (v : Value) (l : List ByteArray) (H : Snap) (w : World) (hw : Holds H w) (hs : Sl H v l) (hl : l.length ≤ 60) (hb : ∀ s ∈ l, s.size ≤ 200) :
    Calls Tryz.prog 35 #[v] w (PostV w (.string (strB (msgOf l)))) := by
  obtain ⟨a, c, rfl, _, _⟩ := hs.form
  go_enter Tryz.func35, Tryz.ntmps35
  go_wp2
  go_loopw [8] (fun i wr => ∃ k : Nat, k ≤ l.length ∧ i = .int .i64 k ∧ Bu w.heap.size w.heap.size (msgTo l k) wr ∧ Ext w H wr H) (fun i _ => l.length - (intOf i).toNat)
  case atStart => exact ⟨0, Nat.zero_le _, rfl, Bu.fresh w, (Ext.refl hw).alloc _⟩
  case round =>
    obtain ⟨k, hk, rfl, hbu, hxr⟩ := hrel
    have hwr := hxr.holds
    by_cases hlk : k < l.length
    · obtain ⟨x, hx⟩ := At.mk hlk
      obtain ⟨b, o, c', he, hi, hr⟩ := hs.str hx
      cases he
      have hk0 : (0 : Int) ≤ (k : Int) := by omega
      have hk1 : (k : Int) < (l.length : Int) := by omega
      have hnext := msgTo_next hx
      have hml : (msgTo l k).length ≤ 201 * k := msgTo_len hb k
      have hxs := hb x hx.mem
      have hml2 : (msgTo l k).length + x.size ≤ 1000000 := by omega
      replace hnext := Lib.hid hnext
      replace hml := Lib.hid hml
      go_wp2_with (first | ((go_at_call 32; refine (bu_byte 10 hbu2 (by rw [List.length_append, bys_len]; omega) hx2.below.size).mono ?_; rintro e w3 ⟨rfl, hbu3, hb3⟩; have hx3 := hx2.step hb3 (hw.below (hx2.below.trans hb3)))) | ((go_at_call 30; refine (bu_string x hbu hml2 hxr.below.size).mono ?_; rintro e w2 ⟨rfl, hbu2, hb2⟩; have hx2 := hxr.step hb2 (hw.below (hxr.below.trans hb2)))))
      go_roundw
      case rel => exact ⟨k + 1, by omega, by go_num, by rw [hnext.out]; exact hbu3, hx3⟩
      case measure => simp [intOf]; omega
    · have hfin : msgTo l k = msgOf l := by unfold msgTo msgOf; rw [List.take_of_length_le (by omega)]
      rw [hfin] at hbu
      go_wp2_with (first | (go_at_call 36; refine (bu_str hbu hxr.below.size).mono ?_; rintro e w2 ⟨rfl, hb2⟩))
      go_ret
      exact ⟨rfl, hxr.below.trans hb2⟩
end Go.Proofs.YthcfhmebikcfpaaGreatDoor
