/- The walk of FixedUnits at a spot that has a unit. -/
import Derived.Test.YthkhhjfldkebcaaGreatDoorN4
namespace Go.Proofs.YthkhhjfldkebcaaGreatDoor
open Go.RowKit Go.Proofs Go.Shelf

/-- What the walk needs of a spot that has a unit. -/
theorem unit_facts {x y : Int} (h : Val x ∧ Val y) (hs : sq x y ≠ 0) : ∃ P Q n k : Int,
    unitR x y = .ok (P, Q) ∧ unitR (-y) x = .ok (-Q, P) ∧ unitR (-x) (-y) = .ok (-P, -Q) ∧ leftV x y = (-y, x) ∧ leftV P Q = (-Q, P) ∧
    lenR P Q 2 = .ok n ∧ lenR P Q 1 = .ok k ∧ n ≤ 65536 ∧ 65532 < k ∧ -65536 ≤ P ∧ P ≤ 65536 ∧ -65536 ≤ Q ∧ Q ≤ 65536 := by
  have h0 := sq_nn x y
  have hpos : 0 < sq x y := by omega
  obtain ⟨a1, a2, -⟩ := unitC_val (sq x y) x
  obtain ⟨b1, b2, -⟩ := unitC_val (sq x y) y
  obtain ⟨c1, c2⟩ := unit_sq (x := x) (y := y) hpos
  obtain ⟨n, hn, -, hn1⟩ := roo_up (A := sq (unitC (sq x y) x) (unitC (sq x y) y)) (by omega) c1
  obtain ⟨k, hk, hk0, -⟩ := roo_down (A := sq (unitC (sq x y) x) (unitC (sq x y) y)) c2 c1
  have hV : Val (unitC (sq x y) x) ∧ Val (unitC (sq x y) y) := ⟨⟨by omega, by omega⟩, by omega, by omega⟩
  have v1 := h.1.1; have v2 := h.1.2; have v3 := h.2.1; have v4 := h.2.2
  refine ⟨unitC (sq x y) x, unitC (sq x y) y, n, k, ?_, ?_, ?_, ?_, ?_, ?_, ?_, hn1, hk0, a1, a2, b1, b2⟩
  · unfold unitR; rw [if_pos h, if_neg hs]
  · unfold unitR; rw [if_pos ⟨⟨by omega, by omega⟩, by omega, by omega⟩, sq_neg_left, if_neg hs, unitC_neg hpos]
  · unfold unitR; rw [if_pos ⟨⟨by omega, by omega⟩, by omega, by omega⟩, sq_neg_both, if_neg hs, unitC_neg hpos, unitC_neg hpos]
  · unfold leftV; rw [if_pos h]
  · unfold leftV; rw [if_pos hV]
  · rw [len_ok hV (by decide)]; exact hn
  · rw [len_ok hV (by decide)]; exact hk
end Go.Proofs.YthkhhjfldkebcaaGreatDoor
