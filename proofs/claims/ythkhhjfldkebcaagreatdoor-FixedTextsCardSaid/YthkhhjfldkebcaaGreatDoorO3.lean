/- Plain law: the four results of one quotient, and those of the turned one; those of a root. -/
import Derived.Test.YthkhhjfldkebcaaGreatDoorV
namespace Go.Proofs.YthkhhjfldkebcaaGreatDoor
open Go.RowKit Go.Proofs Go.Shelf

/-- Four results go together. -/
def Together (c d u n : Int) : Prop := d ≤ n ∧ n ≤ u ∧ u - d ≤ 1 ∧ ((c = d ∧ 0 ≤ d) ∨ (c = u ∧ u ≤ 0)) ∧ -70368744177664 ≤ d ∧ u ≤ 70368744177664

theorem bump119 (r d : Int) (neg : Bool) : bump 119 r d neg = false := by unfold bump rndB; simp
theorem bump120 (r d : Int) (neg : Bool) : bump 120 r d neg = (decide (0 < r) && neg) := by unfold bump rndB; simp
theorem bump121 (r d : Int) (neg : Bool) : bump 121 r d neg = (decide (0 < r) && !neg) := by unfold bump rndB; simp
theorem bump122 (r d : Int) (neg : Bool) : bump 122 r d neg = (decide (0 < r) && decide (0 ≤ cmpI (r + r) d)) := by unfold bump rndB; simp
theorem quo_ok {n d : Int} {neg : Bool} {k : Nat} {l : Int} (h : quoR n d neg k = .ok l) :
    n / d < 18446744073709551616 ∧ n / d + b2i (bump k (n % d) d neg) ≤ 70368744177664 ∧ l = sgn (n / d + b2i (bump k (n % d) d neg)) neg := by
  unfold quoR fitR at h
  split at h
  · cases h
  · split at h
    · injection h with h; exact ⟨by omega, by assumption, h.symm⟩
    · cases h
theorem quo_mk {n d : Int} {neg : Bool} {k : Nat} (h1 : n / d < 18446744073709551616) (h2 : n / d + b2i (bump k (n % d) d neg) ≤ 70368744177664) :
    quoR n d neg k = .ok (sgn (n / d + b2i (bump k (n % d) d neg)) neg) := by
  unfold quoR fitR
  rw [if_neg (by omega), if_pos h2]

theorem quo_four {n d : Int} {neg : Bool} (hn : 0 ≤ n) (hd : 0 < d) {l0 l1 l2 l3 : Int} (h0 : quoR n d neg 119 = .ok l0) (h1 : quoR n d neg 120 = .ok l1) (h2 : quoR n d neg 121 = .ok l2) (h3 : quoR n d neg 122 = .ok l3) :
    Together l0 l1 l2 l3 ∧ ∀ neg', (neg' = !neg ∨ n = 0) → quoR n d neg' 119 = .ok (-l0) ∧ quoR n d neg' 120 = .ok (-l2) ∧ quoR n d neg' 121 = .ok (-l1) ∧ quoR n d neg' 122 = .ok (-l3) := by
  obtain ⟨a0, b0, rfl⟩ := quo_ok h0
  obtain ⟨-, b1, rfl⟩ := quo_ok h1
  obtain ⟨-, b2, rfl⟩ := quo_ok h2
  obtain ⟨-, b3, rfl⟩ := quo_ok h3
  have q0 : 0 ≤ n / d := Int.ediv_nonneg hn (by omega)
  have key : ∀ neg' : Bool, (neg' = !neg ∨ n = 0) → ∀ (k k' : Nat), (n / d + b2i (bump k (n % d) d neg) ≤ 70368744177664) → b2i (bump k' (n % d) d neg') = b2i (bump k (n % d) d neg) →
      quoR n d neg' k' = .ok (-(sgn (n / d + b2i (bump k (n % d) d neg)) neg)) := by
    intro neg' hneg k k' hk e
    rw [quo_mk a0 (by rw [e]; exact hk), e]
    rcases hneg with rfl | h0
    · unfold sgn; cases neg <;> simp
    · subst h0
      have hb : b2i (bump k (0 % d) d neg) = 0 := by unfold bump b2i; simp
      rw [hb]
      unfold sgn; cases neg <;> cases neg' <;> simp
  have hz : n = 0 → decide (0 < n % d) = false := by rintro rfl; simp
  refine ⟨?_, fun neg' hneg => ⟨key neg' hneg 119 119 b0 (by rw [bump119, bump119]), key neg' hneg 121 120 b2 ?_, key neg' hneg 120 121 b1 ?_, key neg' hneg 122 122 b3 (by rw [bump122, bump122])⟩⟩
  · clear key h0 h1 h2 h3
    unfold Together
    rw [bump119] at *
    rw [bump120] at *
    rw [bump121] at *
    rw [bump122] at *
    generalize n / d = q at *
    generalize decide (0 < n % d) = p at *
    generalize decide (0 ≤ cmpI (n % d + n % d) d) = c at *
    cases p <;> cases c <;> cases neg <;> simp [b2i, sgn] at * <;> omega
  · rw [bump120, bump121]
    rcases hneg with rfl | h
    · cases neg <;> rfl
    · rw [hz h]; rfl
  · rw [bump120, bump121]
    rcases hneg with rfl | h
    · cases neg <;> rfl
    · rw [hz h]; rfl

theorem roo_four {A : Int} {l0 l1 l2 l3 : Int} (hA : 0 ≤ A) (h0 : rooR A 119 = .ok l0) (h1 : rooR A 120 = .ok l1) (h2 : rooR A 121 = .ok l2) (h3 : rooR A 122 = .ok l3) : Together l0 l1 l2 l3 ∧ 0 ≤ l1 := by
  have fit : ∀ {q l : Int}, fitR q false = .ok l → l = q ∧ q ≤ 70368744177664 := by
    intro q l h
    unfold fitR sgn at h
    split at h
    · injection h with h; exact ⟨by simpa using h.symm, by assumption⟩
    · cases h
  have r0 := (isq_spec hA).nn
  unfold rooR at h0 h1 h2 h3
  obtain ⟨rfl, b0⟩ := fit h0
  obtain ⟨rfl, b1⟩ := fit h1
  obtain ⟨rfl, b2⟩ := fit h2
  obtain ⟨rfl, b3⟩ := fit h3
  have e0 : rbump 119 A (isq A) = false := by unfold rbump rndB; simp
  have e1 : rbump 120 A (isq A) = false := by unfold rbump rndB; simp
  have e2 : rbump 121 A (isq A) = decide (isq A * isq A ≠ A) := by unfold rbump rndB; simp
  have e3 : rbump 122 A (isq A) = (decide (isq A * isq A ≠ A) && decide (0 ≤ cmpI (4 * A) ((2 * isq A + 1) * (2 * isq A + 1)))) := by unfold rbump rndB; simp
  rw [e0] at b0 ⊢
  rw [e1] at b1 ⊢
  rw [e2] at b2 ⊢
  rw [e3] at b3 ⊢
  clear e0 e1 e2 e3 h0 h1 h2 h3 fit
  unfold Together
  generalize decide (isq A * isq A ≠ A) = p at *
  generalize decide (0 ≤ cmpI (4 * A) ((2 * isq A + 1) * (2 * isq A + 1))) = c at *
  cases p <;> cases c <;> simp [b2i] at b0 b1 b2 b3 ⊢ <;> omega
end Go.Proofs.YthkhhjfldkebcaaGreatDoor
