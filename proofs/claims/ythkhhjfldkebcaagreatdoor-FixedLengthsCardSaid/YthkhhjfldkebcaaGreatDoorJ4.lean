/- Plain law: what FixedTriangle needs of two spots. -/
import Derived.Test.YthkhhjfldkebcaaGreatDoorJ3
import Derived.Test.YthkhhjfldkebcaaGreatDoorN3
namespace Go.Proofs.YthkhhjfldkebcaaGreatDoor
open Go.RowKit Go.Proofs Go.Shelf

theorem sz_sq (a : Int) : sz a * sz a = a * a := by
  unfold sz; split
  · rw [Int.neg_mul_neg]
  · rfl
theorem sq_eq (x y : Int) : sq x y = x * x + y * y := by unfold sq; rw [sz_sq, sz_sq]
theorem self_nn (a : Int) : 0 ≤ a * a := by rw [← sz_sq]; exact Int.mul_nonneg (sz_nn a) (sz_nn a)
theorem le_of_sq {a b : Int} (hb : 0 ≤ b) (h : a * a ≤ b * b) : a ≤ b := by
  rcases Int.lt_or_le b a with h' | h'
  · have h1 := Int.mul_le_mul (show b + 1 ≤ a by omega) (show b + 1 ≤ a by omega) (by omega) (by omega)
    have e : (b + 1) * (b + 1) = b * b + 2 * b + 1 := by grind
    omega
  · exact h'

/-- A root that is rounded up. -/
theorem up_spec {A n : Int} (h0 : 0 ≤ A) (h : rooR A 121 = .ok n) : 0 ≤ n ∧ n ≤ 70368744177664 ∧ A ≤ n * n ∧ isq A ≤ n ∧ n ≤ isq A + 1 ∧ (isq A * isq A = A → n = isq A) := by
  have R := isq_spec h0
  obtain ⟨r0, r1, r2⟩ := R
  unfold rooR fitR at h
  generalize isq A = q at *
  by_cases he : q * q = A
  · have : rbump 121 A q = false := by unfold rbump; simp [he]
    rw [this] at h
    simp only [b2i, Bool.false_eq_true, if_false, Int.add_zero, sgn] at h
    by_cases hq : q ≤ 70368744177664
    · rw [if_pos hq] at h
      injection h with h
      subst h
      exact ⟨r0, hq, by omega, by omega, by omega, fun _ => rfl⟩
    · rw [if_neg hq] at h; cases h
  · have : rbump 121 A q = true := by unfold rbump rndB; simp [he]
    rw [this] at h
    simp only [b2i, if_true, Bool.false_eq_true, if_false, sgn] at h
    by_cases hq : q + 1 ≤ 70368744177664
    · rw [if_pos hq] at h
      injection h with h
      subst h
      exact ⟨by omega, hq, by omega, by omega, by omega, fun k => absurd k he⟩
    · rw [if_neg hq] at h; cases h
/-- A root that is rounded down. -/
theorem down_spec {A : Int} (hq : isq A ≤ 70368744177664) : rooR A 120 = .ok (isq A) := by
  have : rbump 120 A (isq A) = false := by unfold rbump rndB; simp
  unfold rooR fitR
  rw [this]
  simp only [b2i, Bool.false_eq_true, if_false, Int.add_zero, sgn]
  rw [if_pos hq]

theorem cauchy (x y u v : Int) : (x * u + y * v) * (x * u + y * v) ≤ (x * x + y * y) * (u * u + v * v) := by
  have e : (x * x + y * y) * (u * u + v * v) - (x * u + y * v) * (x * u + y * v) = (x * v - y * u) * (x * v - y * u) := by grind
  have := self_nn (x * v - y * u)
  omega
theorem dot_le {x y u v X Y : Int} (hX : 0 ≤ X) (hY : 0 ≤ Y) (h1 : x * x + y * y ≤ X * X) (h2 : u * u + v * v ≤ Y * Y) : x * u + y * v ≤ X * Y := by
  refine le_of_sq (Int.mul_nonneg hX hY) ?_
  have a := cauchy x y u v
  have b : (x * x + y * y) * (u * u + v * v) ≤ X * X * (Y * Y) := Int.mul_le_mul h1 h2 (by have := self_nn u; have := self_nn v; omega) (Int.mul_nonneg hX hX)
  have e : X * X * (Y * Y) = X * Y * (X * Y) := by grind
  omega
/-- The triangle's law. -/
theorem triangle {x y u v X Y Z : Int} (hX : 0 ≤ X) (hY : 0 ≤ Y) (h1 : x * x + y * y ≤ X * X) (h2 : u * u + v * v ≤ Y * Y)
    (h : rooR ((x + u) * (x + u) + (y + v) * (y + v)) 121 = .ok Z) : Z ≤ X + Y := by
  have d := dot_le hX hY h1 h2
  have e : (x + u) * (x + u) + (y + v) * (y + v) = (x * x + y * y) + (u * u + v * v) + 2 * (x * u + y * v) := by grind
  have e2 : (X + Y) * (X + Y) = X * X + Y * Y + 2 * (X * Y) := by grind
  have h0 : 0 ≤ (x + u) * (x + u) + (y + v) * (y + v) := by have := self_nn (x + u); have := self_nn (y + v); omega
  have hC : (x + u) * (x + u) + (y + v) * (y + v) ≤ (X + Y) * (X + Y) := by omega
  clear e e2 d h1 h2
  generalize (x + u) * (x + u) + (y + v) * (y + v) = C at *
  obtain ⟨-, -, -, q1, q2, q3⟩ := up_spec h0 h
  obtain ⟨r0, r1, r2⟩ := isq_spec h0
  have hq : isq C ≤ X + Y := le_of_sq (by omega) (by omega)
  by_cases he : isq C = X + Y
  · have := q3 (by rw [he] at r1 ⊢; omega)
    omega
  · omega

/-- The sign of a number. -/
def sig (n : Int) : Int := if n < 0 then -1 else if n = 0 then 0 else 1
theorem sz_mul (a b : Int) : sz a * sz b = if decide (a < 0) != decide (b < 0) then -(a * b) else a * b := by
  unfold sz
  by_cases h1 : a < 0 <;> by_cases h2 : b < 0 <;> simp [h1, h2, Int.neg_mul, Int.mul_neg]
theorem turnV_sig (x1 y1 x2 y2 : Int) : turnV (sz x1 * sz y2) (sz y1 * sz x2) (decide (x1 < 0) != decide (y2 < 0)) (decide (y1 < 0) != decide (x2 < 0)) = sig (x1 * y2 - y1 * x2) := by
  have hp := Int.mul_nonneg (sz_nn x1) (sz_nn y2)
  have hq := Int.mul_nonneg (sz_nn y1) (sz_nn x2)
  have ep := sz_mul x1 y2
  have eq := sz_mul y1 x2
  generalize sz x1 * sz y2 = p at *
  generalize sz y1 * sz x2 = q at *
  generalize x1 * y2 = P at *
  generalize y1 * x2 = Q at *
  generalize (decide (x1 < 0) != decide (y2 < 0)) = m at *
  generalize (decide (y1 < 0) != decide (x2 < 0)) = n at *
  unfold turnV sig cmpI
  cases m <;> cases n <;> simp at ep eq ⊢ <;> subst ep eq <;> (repeat' split) <;> omega
theorem sig_neg (n : Int) : sig (-n) = -sig n := by unfold sig; repeat' split
                                                    all_goals omega

theorem tri_facts {x1 y1 x2 y2 X Y Z : Int} (hv : Val x1 ∧ Val y1 ∧ Val x2 ∧ Val y2) (hX : lenR x1 y1 2 = .ok X) (hY : lenR x2 y2 2 = .ok Y)
    (hs : Val (x1 + x2) ∧ Val (y1 + y2)) (hZ : lenR (x1 + x2) (y1 + y2) 2 = .ok Z) :
    ∃ D s own : Int, leftV x1 y1 = (-y1, x1) ∧ lenR (-y1) x1 2 = .ok X ∧ lenR x1 y1 1 = .ok D ∧ inR x1 y1 X = .ok true ∧ inR x1 y1 (D - 1) = .ok false ∧ farR x1 y1 (-y1) x1 = .ok 0 ∧
      turnR x1 y1 x2 y2 = .ok s ∧ turnR x2 y2 x1 y1 = .ok (-s) ∧ turnR x1 y1 (-y1) x1 = .ok own ∧ -1 ≤ s ∧ s ≤ 1 ∧ 0 ≤ own ∧ own ≤ 1 ∧ (own = 1 ↔ ¬ (x1 = 0 ∧ y1 = 0)) ∧
      Z ≤ X + Y ∧ D ≤ X ∧ X ≤ D + 1 ∧ 0 ≤ X ∧ X ≤ 70368744177664 ∧ 0 ≤ Y ∧ Y ≤ 70368744177664 ∧ 0 ≤ Z ∧ Z ≤ 70368744177664 ∧ 0 ≤ D ∧ D ≤ 70368744177664 := by
  obtain ⟨v1, v2, v3, v4⟩ := hv
  have w1 : Val (-y1) := ⟨by have := v2.2; omega, by have := v2.1; omega⟩
  rw [len_ok ⟨v1, v2⟩ (by decide)] at hX
  rw [len_ok ⟨v3, v4⟩ (by decide)] at hY
  rw [len_ok hs (by decide)] at hZ
  change rooR _ 121 = _ at hX hY hZ
  have nX := sq_nn x1 y1
  obtain ⟨X0, X1, X2, X3, X4, X5⟩ := up_spec nX hX
  obtain ⟨Y0, Y1, Y2, -, -, -⟩ := up_spec (sq_nn x2 y2) hY
  obtain ⟨Z0, Z1, -, -, -, -⟩ := up_spec (sq_nn _ _) hZ
  obtain ⟨r0, r1, r2⟩ := isq_spec nX
  have hD : lenR x1 y1 1 = .ok (isq (sq x1 y1)) := by rw [len_ok ⟨v1, v2⟩ (by decide)]; exact down_spec (by omega)
  have tri : Z ≤ X + Y := by
    rw [sq_eq] at hZ Y2
    have X2' := X2
    rw [sq_eq] at X2'
    exact triangle X0 Y0 X2' Y2 hZ
  refine ⟨isq (sq x1 y1), sig (x1 * y2 - y1 * x2), sig (x1 * x1 + y1 * y1), ?_, ?_, hD, ?_, ?_, ?_, ?_, ?_, ?_, ?_, ?_, ?_, ?_, ?_, tri, X3, X4, X0, X1, Y0, Y1, Z0, Z1, r0, by omega⟩
  · unfold leftV; rw [if_pos ⟨v1, v2⟩]
  · rw [len_ok ⟨w1, v1⟩ (by decide), sq_neg_left]; exact hX
  · unfold inR
    rw [if_pos ⟨v1, v2⟩, if_pos ⟨by omega, X1⟩]
    have : inB x1 y1 X = true := by
      unfold inB cmpI
      rw [sz_sq]
      simp only [Bool.and_eq_true, decide_eq_true_eq]
      refine ⟨X0, ?_⟩
      repeat' split
      all_goals omega
    rw [this]
  · unfold inR
    rw [if_pos ⟨v1, v2⟩, if_pos ⟨by omega, by omega⟩]
    have : inB x1 y1 (isq (sq x1 y1) - 1) = false := by
      unfold inB cmpI
      rw [sz_sq]
      by_cases h0 : 0 ≤ isq (sq x1 y1) - 1
      · have h1 : (isq (sq x1 y1) - 1) * (isq (sq x1 y1) - 1) = isq (sq x1 y1) * isq (sq x1 y1) - 2 * isq (sq x1 y1) + 1 := by grind
        rw [if_neg (by omega), if_pos (by omega)]; simp
      · have h2 : decide (0 ≤ isq (sq x1 y1) - 1) = false := by simpa using h0
        rw [h2]; rfl
    rw [this]
  · unfold farR
    rw [if_pos ⟨⟨v1, v2⟩, w1, v1⟩, sq_neg_left]
    unfold cmpI; simp
  · unfold turnR; rw [if_pos ⟨v1, v2, v3, v4⟩, turnV_sig]
  · unfold turnR; rw [if_pos ⟨v3, v4, v1, v2⟩, turnV_sig, ← sig_neg]
    congr 2; grind
  · unfold turnR; rw [if_pos ⟨v1, v2, w1, v1⟩, turnV_sig]
    congr 2; grind
  · unfold sig; repeat' split
    all_goals omega
  · unfold sig; repeat' split
    all_goals omega
  · have a := self_nn x1; have b := self_nn y1
    unfold sig; repeat' split
    all_goals omega
  · unfold sig; repeat' split
    all_goals omega
  · have a := self_nn x1; have b := self_nn y1
    constructor
    · rintro h ⟨rfl, rfl⟩; simp [sig] at h
    · intro h
      have : x1 * x1 + y1 * y1 ≠ 0 := fun h0 => h (by
        rw [← sq_eq] at h0; 
        have e1 : x1 * x1 = 0 := by rw [sq_eq] at h0; omega
        have e2 : y1 * y1 = 0 := by rw [sq_eq] at h0; omega
        exact ⟨by rcases Int.mul_eq_zero.1 e1 with h | h <;> exact h, by rcases Int.mul_eq_zero.1 e2 with h | h <;> exact h⟩)
      unfold sig; rw [if_neg (by omega), if_neg this]
end Go.Proofs.YthkhhjfldkebcaaGreatDoor
