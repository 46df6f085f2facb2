/- Sets of at most five numbers, as bits. -/
import Derived.Test.YteijmboophnmgaaBase
import Derived.Test.YteijmboophnmgaaPlain
namespace Go.Proofs.Yteijmboophnmgaa
open Go.RowKit

def ub (acc : List Int) : Nat := acc.foldl (fun u b => u ||| 2 ^ b.toNat) 0
theorem ub_snoc (acc : List Int) (b : Int) : ub (acc ++ [b]) = ub acc ||| 2 ^ b.toNat := by unfold ub; rw [List.foldl_append]; rfl
theorem ub_lt_go {n : Nat} (hn : n ≤ 5) : ∀ (acc : List Int) (u : Nat), u < 2 ^ 5 → (∀ x ∈ acc, 0 ≤ x ∧ x ≤ (n : Int) - 1) → acc.foldl (fun u b => u ||| 2 ^ b.toNat) u < 2 ^ 5
  | [], _, hu, _ => hu
  | b :: acc, u, hu, h => by
    refine ub_lt_go hn acc _ (Nat.or_lt_two_pow hu ?_) (fun x hx => h x (by simp [hx]))
    have := h b (by simp)
    exact Nat.pow_lt_pow_right (by decide) (by omega)
theorem ub_lt {n : Nat} (hn : n ≤ 5) {acc : List Int} (h : ∀ x ∈ acc, 0 ≤ x ∧ x ≤ (n : Int) - 1) : ub acc < 32 := ub_lt_go hn acc 0 (by decide) h
theorem ub_test_go (b : Nat) : ∀ (acc : List Int) (u : Nat), (∀ x ∈ acc, 0 ≤ x) → (acc.foldl (fun u b => u ||| 2 ^ b.toNat) u).testBit b = (u.testBit b || decide ((b : Int) ∈ acc))
  | [], u, _ => by simp
  | c :: acc, u, h => by
    simp only [List.foldl_cons]
    rw [ub_test_go b acc _ (fun x hx => h x (by simp [hx])), Nat.testBit_or, Nat.testBit_two_pow]
    have hc := h c (by simp)
    have : decide (c.toNat = b) = decide ((b : Int) = c) := decide_eq_decide.2 (by omega)
    rw [this, Bool.or_assoc]
    congr 1
    simp
theorem ub_test {acc : List Int} (h : ∀ x ∈ acc, 0 ≤ x) (b : Nat) : (ub acc).testBit b = decide ((b : Int) ∈ acc) := by
  unfold ub; rw [ub_test_go b acc 0 h]; simp

theorem bits_and5 : ∀ u : Fin 32, ∀ b : Fin 5, bits .and .i64 ((u.val : Int) / 2 ^ b.val) 1 = ((u.val / 2 ^ b.val % 2 : Nat) : Int) := by decide
theorem bits_or5 : ∀ u : Fin 32, ∀ b : Fin 5, bits .or .i64 (u.val : Int) (2 ^ b.val) = ((u.val ||| 2 ^ b.val : Nat) : Int) := by decide
theorem bits_andNot5 : ∀ u : Fin 32, ∀ b : Fin 5, u.val.testBit b.val = false → bits .andNot .i64 ((u.val ||| 2 ^ b.val : Nat) : Int) (2 ^ b.val) = (u.val : Int) := by decide

/-- 'used >> b & 1' -/
theorem used_bit {n : Nat} (hn : n ≤ 5) {acc : List Int} (h : ∀ x ∈ acc, 0 ≤ x ∧ x ≤ (n : Int) - 1) {b : Nat} (hb : b < n) : bits .and .i64 ((ub acc : Int) / 2 ^ b) 1 = if (b : Int) ∈ acc then 1 else 0 := by
  have h1 := bits_and5 ⟨ub acc, ub_lt hn h⟩ ⟨b, by omega⟩
  simp only at h1
  rw [h1]
  have h2 := ub_test (fun x hx => (h x hx).1) b
  rw [Nat.testBit_eq_decide_div_mod_eq] at h2
  by_cases hm : (b : Int) ∈ acc
  · rw [decide_eq_true hm] at h2
    rw [if_pos hm, of_decide_eq_true h2]; rfl
  · rw [decide_eq_false hm] at h2
    rw [if_neg hm]
    have := of_decide_eq_false h2
    omega
/-- 'used |= 1 << b' -/
theorem used_or {n : Nat} (hn : n ≤ 5) {acc : List Int} (h : ∀ x ∈ acc, 0 ≤ x ∧ x ≤ (n : Int) - 1) {b : Nat} (hb : b < n) : bits .or .i64 (ub acc : Int) (2 ^ b) = (ub (acc ++ [(b : Int)]) : Nat) := by
  have h1 := bits_or5 ⟨ub acc, ub_lt hn h⟩ ⟨b, by omega⟩
  simp only at h1
  rw [h1, ub_snoc, Int.toNat_natCast]
theorem used_andNot {n : Nat} (hn : n ≤ 5) {acc : List Int} (h : ∀ x ∈ acc, 0 ≤ x ∧ x ≤ (n : Int) - 1) {b : Nat} (hb : b < n) (hm : (b : Int) ∉ acc) : bits .andNot .i64 (ub (acc ++ [(b : Int)]) : Nat) (2 ^ b) = (ub acc : Int) := by
  have h2 := ub_test (fun x hx => (h x hx).1) b
  rw [decide_eq_false hm] at h2
  have h1 := bits_andNot5 ⟨ub acc, ub_lt hn h⟩ ⟨b, by omega⟩ h2
  simp only at h1
  rw [ub_snoc, Int.toNat_natCast, h1]

theorem pow_small : ∀ b : Fin 5, 0 ≤ (2 : Int) ^ b.val ∧ (2 : Int) ^ b.val ≤ 16 := by decide
theorem pow_wrap {b : Nat} (hb : b < 5) : wrap64 (2 ^ b) = 2 ^ b := by
  have := pow_small ⟨b, hb⟩
  simp only at this
  unfold wrap64
  generalize (2 : Int) ^ b = x at *
  omega

end Go.Proofs.Yteijmboophnmgaa
