/- Why Protected does not answer, turned round. -/
import Derived.Test.YtomcpgdpjpjioaaPt
namespace Go.Proofs.Ytomcpgdpjpjioaa
open Go.RowKit Go.Proofs Go.Shelf

theorem prE_zero {c : Cd} {n team : Int} {l : List St} : prE c n team l = 0 ↔ ccB c = true ∧ chkB l = true ∧ (0 ≤ team ∧ team ≤ 1) ∧ 0 ≤ n ∧ n ≤ 16 := by
  unfold prE
  split
  · rename_i h
    simp only [Bool.and_eq_true, decide_eq_true_eq] at h
    obtain ⟨⟨h1, h2⟩, h3⟩ := h
    constructor
    · intro h; exact ⟨h1, h2, h3, by by_cases e : 0 ≤ n ∧ n ≤ 16; exact e; rw [if_neg e] at h; cases h⟩
    · rintro ⟨-, -, -, h⟩; rw [if_pos h]
  · rename_i h
    simp only [Bool.and_eq_true, decide_eq_true_eq] at h
    constructor
    · intro h; cases h
    · rintro ⟨h1, h2, h3, -⟩; exact absurd ⟨⟨h1, h2⟩, h3⟩ h
theorem ccB_facts {c : Cd} (h : ccB c = true) : (0 ≤ c.f ∧ c.f ≤ 16) ∧ (0 ≤ c.t ∧ c.t ≤ 16) ∧ (0 ≤ c.s ∧ c.s ≤ 16) := by
  unfold ccB okN at h
  simp only [Bool.and_eq_true, decide_eq_true_eq] at h
  exact ⟨h.1.1.1.1, h.1.1.1.2, h.1.1.2⟩
end Go.Proofs.Ytomcpgdpjpjioaa
