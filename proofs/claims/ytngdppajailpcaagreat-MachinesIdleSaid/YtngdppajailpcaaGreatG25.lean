/- Lemmas and walks on which the claims of this seat lean: MOpm. -/
import Derived.Test.YtngdppajailpcaaGreatG16

set_option linter.all false

namespace Go.Proofs.YtngdppajailpcaaGreat
open Go.RowKit

def storeHm (x y : Value) : Sem Unit := Instr.storeAt 29 x y
theorem storeAt_hm (x y : Value) : Instr.storeAt 29 x y = storeHm x y := rfl
theorem size_hm : (Tryz.prog.info? 29).map (·.size) = some 6 := by kernel_rfl

/-- Block b is a hall's six cells, of the call's own. -/
structure HmV (H : Snap) (base : Nat) (w : World) (b : Nat) (cs : Array Value) : Prop where
  at_ : w.heap[b]? = some (.cells cs 29 (0, 0))
  size : cs.size = 6
  base : base ≤ b
  free : H b = none
theorem HmV.lt {H : Snap} {base b : Nat} {w : World} {cs : Array Value} (h : HmV H base w b cs) : b < w.heap.size := (Array.getElem?_eq_some_iff.1 h.at_).1
theorem HmV.new {H : Snap} {base : Nat} {w : World} (hw : Holds H w) (hb : base ≤ w.heap.size) : HmV H base (w.alloc (.cells #[.slice none 0 0, .slice none 0 0, .slice none 0 0, .int .i64 0, .slice none 0 0, .slice none 0 0] 29)) w.heap.size #[.slice none 0 0, .slice none 0 0, .slice none 0 0, .int .i64 0, .slice none 0 0, .slice none 0 0] :=
  ⟨heap_alloc_new w _, rfl, hb, hw.none_of_ge (Nat.le_refl _)⟩
theorem HmV.step {H : Snap} {base b : Nat} {w w' : World} {cs : Array Value} (h : HmV H base w b cs) (hb : Below w.heap.size w w') : HmV H base w' b cs := ⟨(hb.block b h.lt).trans h.at_, h.size, h.base, h.free⟩

theorem HmV.ext {H H' : Snap} {base b : Nat} {w w' : World} {cs : Array Value} (h : HmV H base w b cs) (x : Ext w H w' H') : HmV H' base w' b cs := ⟨(x.below.block b h.lt).trans h.at_, h.size, h.base, (x.same b h.lt).trans h.free⟩

theorem run_storeHm {H : Snap} {base b : Nat} {w : World} {cs cs' : Array Value} (h : HmV H base w b cs) (hs : cs'.size = 6) (h1 : cs'.all (·.oneCell') = true) :
    (storeHm (.pointer (some ⟨b, 0, none⟩)) (.agg cs')).run Tryz.prog w = .ok () (w.setCells b 0 cs'.toList) ∧ (w.setCells b 0 cs'.toList).heap[b]? = some (.cells cs' 29 (0, 0)) := by
  have hth : w.there b 0 cs'.size := fun j hj => by
    rw [hs] at hj
    rw [Nat.zero_add, cell_of_row w b j _ _ _ h.at_]
    refine ⟨?_, by simp [World.frozen?, h.at_]⟩
    rw [Array.getElem?_eq_getElem (by rw [h.size]; exact hj)]; rfl
  refine ⟨run_storeAt_mid (P := Tryz.prog) w b 0 29 cs' hth (by rw [hs]; exact size_hm) h1, ?_⟩
  have hr := setCells_row (t := 29) b cs'.toList 0 w cs.toList (by rw [h.at_]) (by simp [hs, h.size])
  rw [hr]
  have e1 : cs'.toList.length = 6 := by rw [Array.length_toList, hs]
  have e2 : cs.toList.length = 6 := by rw [Array.length_toList, h.size]
  rw [List.drop_eq_nil_of_le (by rw [e1, e2]; omega)]
  simp

set_option maxRecDepth 20000 in
/-- The store, as the walk leaves it in a region that draws. -/
theorem upon_storeHm {o : Oper} {a : Act} {w w0 : World} {H H0 : Snap} {base b : Nat} {cs cs' : Array Value} {Q : Exit → Act → World → Prop} {K : Act → World → Prop} {f : Unit → World → Result Next} (h : HmV H base w b cs) (hs : cs'.size = 6) (h1 : cs'.all (·.oneCell') = true) (hX : Ext w0 H0 w H) (hb : w0.heap.size ≤ base)
    (hk : ∀ w', HmV H base w' b cs' → Ext w0 H0 w' H → (∀ k, k ≠ b → w'.heap[k]? = w.heap[k]?) → w'.heap.size = w.heap.size → Oper.upon Tryz.prog o a K Q (f () w')) :
    Oper.upon Tryz.prog o a K Q (((storeHm (.pointer (some ⟨b, 0, none⟩)) (.agg cs')).run Tryz.prog w).andThen f) := by
  obtain ⟨hr, hat⟩ := run_storeHm h hs h1
  rw [hr]
  have hbb := h.base
  have ho : ∀ k, k ≠ b → (w.setCells b 0 cs'.toList).heap[k]? = w.heap[k]? := fun k hk => setCells_other b _ _ _ k hk
  exact hk _ ⟨hat, hs, h.base, h.free⟩ (hX.step ((setCells_below b _ _ _).mono (by omega)) ⟨fun k o e => by
    have hne : k ≠ b := by
      rintro rfl; rw [h.free] at e; cases e
    rw [ho k hne]; exact hX.holds.at_ k o e⟩) ho (setCells_size b _ _ _)

end Go.Proofs.YtngdppajailpcaaGreat
