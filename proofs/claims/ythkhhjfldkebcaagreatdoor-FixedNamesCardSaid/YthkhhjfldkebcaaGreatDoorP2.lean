/- Plain arithmetic for part: a row of decimal digits, doubled again and again. No program is named here. -/
import Derived.Test.YthkhhjfldkebcaaGreatDoorP1
namespace Go.Proofs.YthkhhjfldkebcaaGreatDoor

/-- What digits come to. -/
def dval : List Nat → Nat
  | [] => 0
  | d :: ds => d * 10 ^ ds.length + dval ds
/-- Digits doubled: the new ones, and what is carried out. -/
def dbl : List Nat → List Nat × Nat
  | [] => ([], 0)
  | d :: ds => ((2 * d + (dbl ds).2) % 10 :: (dbl ds).1, (2 * d + (dbl ds).2) / 10)
theorem dbl_len : ∀ ds, (dbl ds).1.length = ds.length
  | [] => rfl
  | d :: ds => by simp [dbl, dbl_len ds]
theorem dbl_carry : ∀ ds, (∀ d ∈ ds, d < 10) → (dbl ds).2 ≤ 1
  | [], _ => by simp [dbl]
  | d :: ds, h => by
    have h1 := dbl_carry ds (fun x hx => h x (by simp [hx]))
    have h2 := h d (by simp)
    simp only [dbl]; omega
theorem dbl_dig : ∀ ds, ∀ d ∈ (dbl ds).1, d < 10
  | [], d, h => by simp [dbl] at h
  | e :: ds, d, h => by
    simp only [dbl, List.mem_cons] at h
    rcases h with rfl | h
    · omega
    · exact dbl_dig ds d h
theorem dbl_val : ∀ ds, 2 * dval ds = (dbl ds).2 * 10 ^ ds.length + dval (dbl ds).1
  | [] => by simp [dval, dbl]
  | d :: ds => by
    have ih := dbl_val ds
    simp only [dval, dbl, dbl_len, List.length_cons, Nat.pow_succ]
    generalize 10 ^ ds.length = T at *
    generalize (dbl ds).2 = c at *
    have e1 : (2 * d + c) / 10 * (T * 10) = (2 * d + c) / 10 * 10 * T := by rw [Nat.mul_comm T 10, ← Nat.mul_assoc]
    have e2 : (2 * d + c) / 10 * 10 * T + (2 * d + c) % 10 * T = (2 * d + c) * T := by rw [← Nat.add_mul]; congr 1; omega
    have e3 : (2 * d + c) * T = 2 * (d * T) + c * T := by rw [Nat.add_mul, Nat.mul_assoc]
    rw [e1]; omega
theorem dval_lt : ∀ ds, (∀ d ∈ ds, d < 10) → dval ds < 10 ^ ds.length
  | [], _ => by simp [dval]
  | d :: ds, h => by
    have ih := dval_lt ds (fun x hx => h x (by simp [hx]))
    have h2 := h d (by simp)
    simp only [dval, List.length_cons, Nat.pow_succ]
    have : d * 10 ^ ds.length ≤ 9 * 10 ^ ds.length := Nat.mul_le_mul_right _ (by omega)
    omega
theorem dval_zero : ∀ ds, dval ds = 0 ↔ ∀ d ∈ ds, d = 0
  | [] => by simp [dval]
  | d :: ds => by
    have ih := dval_zero ds
    have hp : 0 < 10 ^ ds.length := Nat.pow_pos (by omega)
    simp only [dval, List.mem_cons, forall_eq_or_imp, ← ih]
    constructor
    · intro h
      refine ⟨?_, by omega⟩
      rcases Nat.eq_zero_or_pos d with h0 | h0
      · exact h0
      · have := Nat.mul_pos h0 hp; omega
    · rintro ⟨rfl, h⟩; omega
/-- The digits in the middle of a doubling: those from J on are doubled. -/
def mid (ds : List Nat) (J i : Nat) : Nat := if i < J then ds.getD i 0 else (dbl (ds.drop J)).1.getD (i - J) 0
theorem mid_top {ds : List Nat} {i : Nat} (h : i < ds.length) : mid ds ds.length i = ds.getD i 0 := by simp [mid, h]
theorem mid_zero (ds : List Nat) (i : Nat) : mid ds 0 i = (dbl ds).1.getD i 0 := by simp [mid]
theorem drop_cons {ds : List Nat} {j : Nat} (h : j < ds.length) : ds.drop j = ds.getD j 0 :: ds.drop (j + 1) := by
  rw [List.drop_eq_getElem_cons h, List.getD_eq_getElem?_getD, List.getElem?_eq_getElem h]; rfl
theorem mid_here {ds : List Nat} {j : Nat} (h : j < ds.length) : mid ds j j = (2 * ds.getD j 0 + (dbl (ds.drop (j + 1))).2) % 10 := by
  simp only [mid, Nat.lt_irrefl, if_false, Nat.sub_self]
  rw [drop_cons h]; simp [dbl]
theorem mid_before {ds : List Nat} {j i : Nat} (h : i < j) : mid ds j i = mid ds (j + 1) i := by
  simp [mid, h, Nat.lt_succ_of_lt h]
theorem mid_behind {ds : List Nat} {j i : Nat} (hj : j < ds.length) (h : j < i) : mid ds j i = mid ds (j + 1) i := by
  simp only [mid, if_neg (show ¬ i < j by omega), if_neg (show ¬ i < j + 1 by omega)]
  rw [drop_cons hj]
  simp only [dbl]
  rw [show i - j = (i - (j + 1)) + 1 by omega, List.getD_cons_succ]
theorem carry_here {ds : List Nat} {j : Nat} (h : j < ds.length) : (dbl (ds.drop j)).2 = (2 * ds.getD j 0 + (dbl (ds.drop (j + 1))).2) / 10 := by
  rw [drop_cons h]; simp [dbl]

/-- The parts of One in V / T, and what is left of them. -/
def leftN (V T : Nat) : Nat := if V * 65536 % T = 0 then 0 else if 2 * (V * 65536 % T) < T then 1 else if 2 * (V * 65536 % T) = T then 2 else 3
theorem part_plain {V T N R : Nat} (hT : 0 < T) (h : N * T + R = V * 131072) (hR : R < T) :
    N / 2 = V * 65536 / T ∧ (N % 2 = 0 → R = 0 → leftN V T = 0) ∧ (N % 2 = 0 → R ≠ 0 → leftN V T = 1) ∧ (N % 2 = 1 → R = 0 → leftN V T = 2) ∧ (N % 2 = 1 → R ≠ 0 → leftN V T = 3) := by
  have hA : V * 65536 / T * T + V * 65536 % T = V * 65536 := by rw [Nat.mul_comm (V * 65536 / T) T]; exact Nat.div_add_mod _ _
  have hr : V * 65536 % T < T := Nat.mod_lt _ hT
  unfold leftN
  generalize V * 65536 / T = P at *
  generalize V * 65536 % T = r at *
  have h2 : N * T + R = 2 * P * T + 2 * r := by rw [h, Nat.mul_assoc, ]; omega
  have hN : N = 2 * P + (if 2 * r < T then 0 else 1) ∧ R = (if 2 * r < T then 2 * r else 2 * r - T) := by
    by_cases hc : 2 * r < T
    · rw [if_pos hc, if_pos hc]
      have hx : N = 2 * P := by
        rcases Nat.lt_trichotomy N (2 * P) with hl | he | hg
        · have := Nat.mul_le_mul_right T (show N + 1 ≤ 2 * P by omega); rw [Nat.add_mul] at this; omega
        · exact he
        · have := Nat.mul_le_mul_right T (show 2 * P + 1 ≤ N by omega); rw [Nat.add_mul] at this; omega
      subst hx; omega
    · rw [if_neg hc, if_neg hc]
      have hx : N = 2 * P + 1 := by
        rcases Nat.lt_trichotomy N (2 * P + 1) with hl | he | hg
        · have := Nat.mul_le_mul_right T (show N + 1 ≤ 2 * P + 1 by omega); rw [Nat.add_mul, Nat.add_mul] at this; omega
        · exact he
        · have := Nat.mul_le_mul_right T (show 2 * P + 1 + 1 ≤ N by omega); rw [Nat.add_mul, Nat.add_mul] at this; omega
      subst hx
      rw [Nat.add_mul] at h2
      omega
  obtain ⟨h3, h4⟩ := hN
  by_cases hc : 2 * r < T
  · rw [if_pos hc] at h3 h4
    refine ⟨by omega, fun _ h => by rw [if_pos (by omega)], fun _ h => by rw [if_neg (by omega), if_pos hc], fun h => by omega, fun h => by omega⟩
  · rw [if_neg hc] at h3 h4
    refine ⟨by omega, fun h => by omega, fun h => by omega, fun _ h => by rw [if_neg (by omega), if_neg hc, if_pos (by omega)], fun _ h => by rw [if_neg (by omega), if_neg hc, if_neg (by omega)]⟩
end Go.Proofs.YthkhhjfldkebcaaGreatDoor
