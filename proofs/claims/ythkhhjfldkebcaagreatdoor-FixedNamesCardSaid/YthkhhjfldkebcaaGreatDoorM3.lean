/- Plain arithmetic for the square root by bits. No program is named here. -/
import Derived.Test.YthkhhjfldkebcaaGreatDoorM2
namespace Go.Proofs.YthkhhjfldkebcaaGreatDoor
open Go

/-- What the search for a root keeps: n is made of the bits from 2^j on; the bit to come is B. -/
def RootInv (A n B : Int) : Prop := ∃ j : Nat, ∃ m : Int, 0 ≤ m ∧ n = m * 2 ^ j ∧ (B = if j = 0 then 0 else 2 ^ (j - 1)) ∧ n + 2 ^ j ≤ 9223372036854775808 ∧ n * n ≤ A ∧ A < (n + 2 ^ j) * (n + 2 ^ j)

theorem RootInv.start {A : Int} (h0 : 0 ≤ A) (h1 : A < 85070591730234615865843651857942052864) : RootInv A 0 4611686018427387904 :=
  ⟨63, 0, by omega, by omega, by decide, by decide, by omega, by simpa using h1⟩
theorem RootInv.bounds {A n B : Int} (h : RootInv A n B) : 0 ≤ n ∧ 0 ≤ B ∧ n ≤ 9223372036854775807 ∧ B ≤ 4611686018427387904 ∧ n + B ≤ 9223372036854775808 := by
  obtain ⟨j, m, hm, rfl, rfl, h2, -, -⟩ := h
  have hp : (0 : Int) < 2 ^ j := Int.pow_pos (by omega)
  have hn := Int.mul_nonneg hm (Int.le_of_lt hp)
  split
  · omega
  · rename_i hj
    obtain ⟨i, rfl⟩ := Nat.exists_eq_succ_of_ne_zero hj
    have hq : (0 : Int) < 2 ^ i := Int.pow_pos (by omega)
    simp only [Nat.succ_eq_add_one, Int.pow_succ, Nat.add_sub_cancel] at *
    omega
theorem RootInv.or {A n B : Int} (h : RootInv A n B) (hB : 0 < B) : bits .or .u64 n B = n + B := by
  have hb := h.bounds
  obtain ⟨j, m, hm, rfl, rfl, h2, -, -⟩ := h
  by_cases hj : j = 0
  · simp [hj] at hB
  · obtain ⟨i, rfl⟩ := Nat.exists_eq_succ_of_ne_zero hj
    have hq : (0 : Int) < 2 ^ i := Int.pow_pos (by omega)
    rw [if_neg hj] at *
    refine or_add m _ _ hm (by omega) ?_ ?_
    · simp only [Nat.succ_eq_add_one, Int.pow_succ, Nat.add_sub_cancel] at *; omega
    · simp only [Nat.succ_eq_add_one, Int.pow_succ, Nat.add_sub_cancel] at *; omega
theorem RootInv.step {A n B : Int} (h : RootInv A n B) (hB : 0 < B) : ∃ j : Nat, B = 2 ^ j ∧ B / 2 = (if j = 0 then 0 else 2 ^ (j - 1)) ∧ ∃ m : Int, 0 ≤ m ∧ n = (m + m) * 2 ^ j ∧ n + B + B ≤ 9223372036854775808 ∧ n * n ≤ A ∧ A < (n + B + B) * (n + B + B) := by
  obtain ⟨j, m, hm, hn, hB', h2, h3, h4⟩ := h
  by_cases hj : j = 0
  · simp [hj] at hB'; omega
  · obtain ⟨i, rfl⟩ := Nat.exists_eq_succ_of_ne_zero hj
    rw [if_neg hj] at hB'
    simp only [Nat.succ_eq_add_one, Nat.add_sub_cancel] at hB'
    simp only [Nat.succ_eq_add_one, Int.pow_succ] at *
    have e : n + 2 ^ i * 2 = n + B + B := by omega
    rw [e] at h2 h4
    refine ⟨i, hB', ?_, m, hm, ?_, h2, h3, h4⟩
    · rw [hB']
      split
      · rename_i hi; subst hi; decide
      · rename_i hi
        obtain ⟨k, rfl⟩ := Nat.exists_eq_succ_of_ne_zero hi
        simp only [Nat.succ_eq_add_one, Int.pow_succ, Nat.add_sub_cancel]; omega
    · have : m * (2 ^ i * 2) = m * 2 ^ i * 2 := by rw [Int.mul_assoc]
      rw [hn, Int.add_mul]; omega
theorem RootInv.yes {A n B : Int} (h : RootInv A n B) (hB : 0 < B) (hc : (n + B) * (n + B) ≤ A) : RootInv A (n + B) (B / 2) := by
  obtain ⟨j, hj, hh, m, hm, hn, h2, h3, h4⟩ := h.step hB
  refine ⟨j, m + m + 1, by omega, ?_, hh, ?_, hc, ?_⟩
  · rw [Int.add_mul, ← hn, ← hj]; omega
  · rw [← hj]; exact h2
  · rw [← hj]; exact h4
theorem RootInv.no {A n B : Int} (h : RootInv A n B) (hB : 0 < B) (hc : A < (n + B) * (n + B)) : RootInv A n (B / 2) := by
  obtain ⟨j, hj, hh, m, hm, hn, h2, h3, h4⟩ := h.step hB
  refine ⟨j, m + m, by omega, hn, hh, ?_, h3, ?_⟩
  · rw [← hj]; omega
  · rw [← hj]; exact hc
/-- n is the root of A, rounded down. -/
structure IsRoot (A n : Int) : Prop where
  nn : 0 ≤ n
  le : n * n ≤ A
  lt : A < (n + 1) * (n + 1)
theorem RootInv.done {A n : Int} (h : RootInv A n 0) : IsRoot A n := by
  have hb := h.bounds
  obtain ⟨j, m, hm, hn, hB', h2, h3, h4⟩ := h
  by_cases hj : j = 0
  · subst hj; exact ⟨hb.1, h3, by simpa using h4⟩
  · rw [if_neg hj] at hB'
    have hq : (0 : Int) < 2 ^ (j - 1) := Int.pow_pos (by omega)
    omega
theorem sq_lt {a b : Int} (ha : 0 ≤ a) (h : a < b) : a * a < b * b := by
  have h1 := Int.mul_le_mul_of_nonneg_left (Int.le_of_lt h) ha
  have h2 := Int.mul_lt_mul_of_pos_right h (by omega : 0 < b)
  omega
theorem lt_of_sq {a b : Int} (hb : 0 ≤ b) (h : a * a < b * b) : a < b := by
  rcases Int.lt_or_le a b with h' | h'
  · exact h'
  · have := Int.mul_le_mul h' h' hb (by omega); omega
theorem IsRoot.unique {A n m : Int} (h : IsRoot A n) (k : IsRoot A m) : n = m := by
  have a : n < m + 1 := lt_of_sq (by have := k.nn; omega) (by have := h.le; have := k.lt; omega)
  have b : m < n + 1 := lt_of_sq (by have := h.nn; omega) (by have := k.le; have := h.lt; omega)
  omega
theorem IsRoot.bound {A n m : Int} (h : IsRoot A n) (hm : 0 ≤ m) (hA : A < (m + 1) * (m + 1)) : n ≤ m := by
  have a : n < m + 1 := lt_of_sq (by omega) (by have := h.le; omega)
  omega
end Go.Proofs.YthkhhjfldkebcaaGreatDoor
