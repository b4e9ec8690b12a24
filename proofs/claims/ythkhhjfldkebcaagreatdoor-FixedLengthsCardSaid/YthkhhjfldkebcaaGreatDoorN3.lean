/- Plain law: the length of a unit, rounded up and down. -/
import Derived.Test.YthkhhjfldkebcaaGreatDoorN2
namespace Go.Proofs.YthkhhjfldkebcaaGreatDoor
open Go.RowKit Go.Proofs Go.Shelf

theorem roo_up {A : Int} (h0 : 0 ≤ A) (h1 : A ≤ 4294967296) : ∃ n, rooR A 121 = .ok n ∧ 0 ≤ n ∧ n ≤ 65536 := by
  have R := isq_spec h0
  have hn := R.nn
  have hb : isq A ≤ 65536 := R.bound (m := 65536) (by omega) (by omega)
  have h2 : isq A + b2i (rbump 121 A (isq A)) ≤ 65536 ∧ 0 ≤ isq A + b2i (rbump 121 A (isq A)) := by
    by_cases he : isq A = 65536
    · have : rbump 121 A (isq A) = false := by
        have hl := R.le
        rw [he] at hl ⊢
        unfold rbump
        have : (65536 : Int) * 65536 = A := by omega
        simp [this]
      rw [this]; simp only [b2i, Bool.false_eq_true, if_false]; omega
    · have := b2i_le (rbump 121 A (isq A)); omega
  refine ⟨sgn (isq A + b2i (rbump 121 A (isq A))) false, ?_, ?_, ?_⟩
  · unfold rooR fitR; rw [if_pos (by omega)]
  · simp only [sgn, Bool.false_eq_true, if_false]; omega
  · simp only [sgn, Bool.false_eq_true, if_false]; omega
theorem roo_down {A : Int} (h0 : 4294574089 ≤ A) (h1 : A ≤ 4294967296) : ∃ n, rooR A 120 = .ok n ∧ 65532 < n ∧ n ≤ 65536 := by
  have R := isq_spec (A := A) (by omega)
  have hn := R.nn
  have hb : isq A ≤ 65536 := R.bound (m := 65536) (by omega) (by omega)
  have hl : 65533 ≤ isq A := by
    by_cases h : isq A < 65533
    · have := R.lt
      have h2 := Int.mul_le_mul (show isq A + 1 ≤ 65533 by omega) (show isq A + 1 ≤ 65533 by omega) (by omega) (by omega)
      omega
    · omega
  have : rbump 120 A (isq A) = false := by unfold rbump rndB; simp
  refine ⟨sgn (isq A) false, ?_, ?_, ?_⟩
  · unfold rooR fitR; rw [this]; simp only [b2i, Bool.false_eq_true, if_false, Int.add_zero]; rw [if_pos (by omega)]
  · simp only [sgn, Bool.false_eq_true, if_false]; omega
  · simp only [sgn, Bool.false_eq_true, if_false]; omega
theorem len_ok {x y how : Int} (h : Val x ∧ Val y) (hh : HowOk how) : lenR x y how = rooR (sq x y) (119 + how.toNat) := by
  unfold lenR; rw [if_pos h, if_pos hh]
end Go.Proofs.YthkhhjfldkebcaaGreatDoor
