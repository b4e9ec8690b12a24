/- Plain law: a spot of length one, its turns and its length. -/
import Derived.Test.YthkhhjfldkebcaaGreatDoorN1
namespace Go.Proofs.YthkhhjfldkebcaaGreatDoor
open Go.RowKit Go.Proofs Go.Shelf

theorem sq_neg_left (x y : Int) : sq (-y) x = sq x y := by unfold sq; rw [sz_neg]; exact Int.add_comm _ _
theorem sq_neg_both (x y : Int) : sq (-x) (-y) = sq x y := by unfold sq; rw [sz_neg, sz_neg]
theorem share_zero {s : Int} (hs : 0 < s) : shareN s 0 = 0 :=
  IsShare.unique (shareN_spec s 0) ⟨by omega, by omega, Shr.zero s 0, fun k h _ hk => by
    unfold Shr at hk
    have h1 := Int.mul_pos (Int.mul_pos h h) hs
    omega⟩
theorem unitC_neg {s : Int} (hs : 0 < s) (x : Int) : unitC s (-x) = -unitC s x := by
  unfold unitC
  rw [sz_neg]
  by_cases h0 : x = 0
  · subst h0
    rw [show sz 0 = 0 from rfl, share_zero hs]; rfl
  · unfold sgn
    by_cases h1 : x < 0
    · rw [if_neg (by simp; omega), if_pos (by simp; omega)]; omega
    · rw [if_pos (by simp; omega), if_neg (by simp; omega)]
theorem unitC_val (s x : Int) : -65536 ≤ unitC s x ∧ unitC s x ≤ 65536 ∧ sz (unitC s x) = shareN s (sz x) := by
  obtain ⟨h0, h1, -, -⟩ := shareN_spec s (sz x)
  unfold unitC
  generalize shareN s (sz x) = n at *
  unfold sgn sz
  split <;> (try split) <;> omega
/-- The square of a unit's length. -/
theorem unit_sq {x y : Int} (hs : 0 < sq x y) : sq (unitC (sq x y) x) (unitC (sq x y) y) ≤ 4294967296 ∧ 4294574089 ≤ sq (unitC (sq x y) x) (unitC (sq x y) y) := by
  have e1 := (unitC_val (sq x y) x).2.2
  have e2 := (unitC_val (sq x y) y).2.2
  have hx := shareN_spec (sq x y) (sz x)
  have hy := shareN_spec (sq x y) (sz y)
  rw [show sq (unitC (sq x y) x) (unitC (sq x y) y) = shareN (sq x y) (sz x) * shareN (sq x y) (sz x) + shareN (sq x y) (sz y) * shareN (sq x y) (sz y) by unfold sq at e1 e2 ⊢; rw [e1, e2]]
  have hsum : sz x * sz x + sz y * sz y = sq x y := rfl
  obtain ⟨p0, p1, p2, p3⟩ := hx
  obtain ⟨q0, q1, q2, q3⟩ := hy
  have p4 := p3 (shareN (sq x y) (sz x) + 1) (by omega)
  have q4 := q3 (shareN (sq x y) (sz y) + 1) (by omega)
  clear p3 q3 e1 e2
  unfold Shr at p2 q2 p4 q4
  generalize sq x y = s at *
  generalize shareN s (sz x) = p at *
  generalize shareN s (sz y) = q at *
  generalize sz x * sz x = X at *
  generalize sz y * sz y = Y at *
  constructor
  · refine Int.le_of_mul_le_mul_right (a := s) ?_ hs
    rw [Int.add_mul]; omega
  · by_cases hp : p = 65536
    · subst hp
      have := Int.mul_nonneg q0 q0
      omega
    · by_cases hq : q = 65536
      · subst hq
        have := Int.mul_nonneg p0 p0
        omega
      · have p5 := p4 (by omega)
        have q5 := q4 (by omega)
        have h : 4294967296 < (p + 1) * (p + 1) + (q + 1) * (q + 1) := by
          refine Int.lt_of_mul_lt_mul_right (a := s) ?_ (Int.le_of_lt hs)
          rw [Int.add_mul]; omega
        have e1 : (p + 1) * (p + 1) = p * p + 2 * p + 1 := by rw [Int.add_mul, Int.mul_add]; omega
        have e2 : (q + 1) * (q + 1) = q * q + 2 * q + 1 := by rw [Int.add_mul, Int.mul_add]; omega
        omega
end Go.Proofs.YthkhhjfldkebcaaGreatDoor
