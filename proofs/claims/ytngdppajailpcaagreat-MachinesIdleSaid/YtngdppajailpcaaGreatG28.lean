/- Lemmas and walks on which the claims of this seat lean: MWith. -/
import Derived.Test.YtngdppajailpcaaGreatG24

set_option linter.all false

namespace Go.Proofs.YtngdppajailpcaaGreat
open Go.RowKit

attribute [local go_sem] Holds.drew Holds.alloc Holds.drewN WB.holds Oper.semAt_some FW_fn FW_dep FW_round

/-- Counts and others, added for the first places. -/
def addTo (c d : Cnt) (n : Nat) : Cnt := mk12 fun k => gT c k + if k < n then gT d k else 0
theorem addTo_len (c d : Cnt) (n : Nat) : (addTo c d n).length = 12 := mk12_len _
theorem addTo_zero {c : Cnt} (d : Cnt) (hc : c.length = 12) : addTo c d 0 = c := gt_ext (mk12_len _) hc fun k hk => by
  unfold addTo; rw [gt_mk _ hk]; simp
theorem addTo_at (c d : Cnt) {n : Nat} (hn : n < 12) : gT (addTo c d n) n = gT c n := by unfold addTo; rw [gt_mk _ hn, if_neg (by omega)]; omega
theorem addTo_succ (c d : Cnt) {n : Nat} (_hn : n < 12) : (addTo c d n).set n (gT c n + gT d n) = addTo c d (n + 1) := by
  unfold addTo
  rw [mk12_set]
  refine mk12_congr fun k hk => ?_
  by_cases e : k = n
  · subst e; rw [if_pos rfl, if_pos (by omega)]
  · rw [if_neg e]
    by_cases e2 : k < n
    · rw [if_pos e2, if_pos (by omega)]
    · rw [if_neg e2, if_neg (by omega)]
theorem setOk_one {p : Plate} (h : okPlate p = true) : setOk [p] = true := setOk_iff.2 ⟨fun q hq => by rw [List.mem_singleton.1 hq]; exact h, by simp⟩
theorem one_counts {p : Plate} (h : okPlate p = true) : countsOf [p] = zero12.set (plc p).toNat p.mn := by
  have hp := okPlate_plc h
  show addP zero12 p = _
  unfold addP
  rw [gt_zero (by omega), Int.zero_add]
theorem addTo_all {c : Cnt} (hc : c.length = 12) {p : Plate} (h : okPlate p = true) (h1 : p.mn = 1) : addTo c (countsOf [p]) 12 = c.set (plc p).toNat (gT c (plc p).toNat + 1) := by
  have hp := okPlate_plc h
  rw [one_counts h, h1]
  refine gt_ext (mk12_len _) (by rw [List.length_set]; exact hc) fun k hk => ?_
  unfold addTo
  rw [gt_mk _ hk, if_pos hk, gt_set (by rw [Cn.zero.len]; omega), gt_set (by rw [hc]; omega), gt_zero hk]
  split
  · rename_i e; rw [e]
  · omega
theorem plate_lit {w0 w : World} {H0 H : Snap} (hx : Ext w0 H0 w H) (p : Plate) (h1 : I64 p.pg) (h2 : I64 p.br) (h3 : I64 p.mn) : ∃ H2, SLe H H2 ∧ Ext w0 H0 (w.alloc (.cells #[.int .i64 p.pg, .int .i64 p.br, .int .i64 p.mn] 62)) H2 ∧ Sl H2 (.slice (some ⟨w.heap.size, 0, none⟩) 1 1) [p] :=
  Ext.lit (xs := [p]) (cs := [.int .i64 p.pg, .int .i64 p.br, .int .i64 p.mn]) hx ⟨_, [], rfl, plateRep H p h1 h2 h3, rfl⟩ _ (by simp [Enc.by_]) (by simp)
/-- A set with one plate more. -/
def withO (set : List Plate) (p : Plate) : List Plate := setOf (addTo (countsOf set) (countsOf [p]) 12)

end Go.Proofs.YtngdppajailpcaaGreat
