/- Plain law: what reading a text comes to. -/
import Derived.Test.YthkhhjfldkebcaaGreatDoorP3
import Derived.Lib.ParseIntB
namespace Go.Proofs.YthkhhjfldkebcaaGreatDoor
open Go.RowKit Go.Proofs Go.Shelf

theorem dval_append : ∀ a b, dval (a ++ b) = dval a * 10 ^ b.length + dval b
  | [], b => by simp [dval]
  | d :: a, b => by
    simp only [List.cons_append, dval, dval_append a b, List.length_append, Nat.pow_add, Nat.add_mul, Nat.mul_assoc]
    omega
theorem digs_append (a b : List UInt8) : digs (a ++ b) = digs a ++ digs b := by simp [digs]
theorem digs_len (l : List UInt8) : (digs l).length = l.length := by simp [digs]

/-- The number that digits spell; the parts of One behind a point, and what is left of them. -/
def numN (l : List UInt8) : Nat := dval (digs l)
def fracP (l : List UInt8) : Nat := numN l * 65536 / 10 ^ l.length
def fracL (l : List UInt8) : Nat := leftN (numN l) (10 ^ l.length)

theorem leftN_scale (V T Z : Nat) (hZ : 0 < Z) : leftN (V * Z) (T * Z) = leftN V T := by
  unfold leftN
  rw [show V * Z * 65536 = V * 65536 * Z by rw [Nat.mul_right_comm], Nat.mul_mod_mul_right]
  generalize V * 65536 % T = r
  have e0 : r * Z = 0 ↔ r = 0 := by
    constructor
    · intro h; rcases Nat.mul_eq_zero.1 h with h | h
      · exact h
      · omega
    · rintro rfl; simp
  have e1 : 2 * (r * Z) < T * Z ↔ 2 * r < T := by rw [← Nat.mul_assoc]; exact Nat.mul_lt_mul_right hZ
  have e2 : 2 * (r * Z) = T * Z ↔ 2 * r = T := by rw [← Nat.mul_assoc]; exact Nat.mul_left_inj (by omega)
  simp only [e0, e1, e2]
theorem trim_split (l : List UInt8) : ∃ z : List UInt8, l = Lib.trimRightS l [48] ++ z ∧ ∀ b ∈ z, b = 48 := by
  refine ⟨(l.reverse.takeWhile ([48].contains ·)).reverse, ?_, ?_⟩
  · unfold Lib.trimRightS
    rw [← List.reverse_append, List.takeWhile_append_dropWhile, List.reverse_reverse]
  · intro b hb
    have h1 : ∀ l : List UInt8, b ∈ l.takeWhile ([48].contains ·) → b = 48 := by
      intro l
      induction l with
      | nil => intro h; simp at h
      | cons c l ih =>
        intro h
        simp only [List.takeWhile] at h
        cases hc : [48].contains c
        · rw [hc] at h; simp at h
        · rw [hc] at h
          rcases List.mem_cons.1 h with rfl | h
          · simpa using hc
          · exact ih h
    exact h1 _ (List.mem_reverse.1 hb)
theorem zeros_val : ∀ z : List UInt8, (∀ b ∈ z, b = 48) → numN z = 0
  | [], _ => rfl
  | b :: z, h => by
    have := h b (by simp)
    subst this
    have ih := zeros_val z (fun b hb => h b (by simp [hb]))
    unfold numN at *
    simp only [digs, List.map_cons, dval] at *
    rw [ih, show UInt8.toNat 48 - 48 = 0 from rfl, Nat.zero_mul]
theorem frac_trim (l : List UInt8) : fracP (Lib.trimRightS l [48]) = fracP l ∧ fracL (Lib.trimRightS l [48]) = fracL l := by
  obtain ⟨z, h1, h2⟩ := trim_split l
  have hz := zeros_val z h2
  generalize Lib.trimRightS l [48] = t at *
  have e : numN l = numN t * 10 ^ z.length := by
    rw [h1]; unfold numN at *; rw [digs_append, dval_append, hz, digs_len]; rfl
  have e2 : 10 ^ l.length = 10 ^ t.length * 10 ^ z.length := by rw [h1, List.length_append, Nat.pow_add]
  have hp : 0 < 10 ^ z.length := Nat.pow_pos (by omega)
  unfold fracP fracL
  rw [e, e2, leftN_scale _ _ _ hp, show numN t * 10 ^ z.length * 65536 = numN t * 65536 * 10 ^ z.length by rw [Nat.mul_right_comm], Nat.mul_div_mul_right _ _ hp]
  exact ⟨rfl, rfl⟩
theorem trim_dig {l : List UInt8} (h : ∀ b ∈ l, isDig b = true) : ∀ b ∈ Lib.trimRightS l [48], isDig b = true := by
  obtain ⟨z, h1, -⟩ := trim_split l
  intro b hb
  exact h b (by rw [h1]; exact List.mem_append_left _ hb)
theorem trim_len (l : List UInt8) : (Lib.trimRightS l [48]).length ≤ l.length := by
  obtain ⟨z, h1, -⟩ := trim_split l
  have := congrArg List.length h1
  rw [List.length_append] at this; omega

theorem parse_digits : ∀ (l : List UInt8) (acc : Nat), (∀ b ∈ l, isDig b = true) → acc ≤ 18446744073709551615 →
    Lib.parseUintM 18446744073709551615 acc l = if acc * 10 ^ l.length + numN l ≤ 18446744073709551615 then .ok (acc * 10 ^ l.length + numN l) else .range
  | [], acc, _, h => by simp [Lib.parseUintM, numN, digs, dval, h]
  | c :: l, acc, hd, h => by
    have hc := hd c (by simp)
    simp only [isDig, decide_eq_true_eq] at hc
    have ih := fun a => parse_digits l a (fun b hb => hd b (by simp [hb]))
    have hp : 0 < 10 ^ l.length := Nat.pow_pos (by omega)
    have e : acc * 10 ^ (c :: l).length + numN (c :: l) = (acc * 10 + (c.toNat - 48)) * 10 ^ l.length + numN l := by
      unfold numN
      simp only [digs, List.map_cons, dval, List.length_cons, List.length_map, Nat.pow_succ, Nat.add_mul]
      rw [Nat.mul_comm (10 ^ l.length) 10, ← Nat.mul_assoc]; omega
    rw [e]
    have hge : ∀ a, a ≤ a * 10 ^ l.length := fun a => Nat.le_mul_of_pos_right a hp
    have := hge (acc * 10 + (c.toNat - 48))
    simp only [Lib.parseUintM, if_pos hc]
    by_cases h1 : 1844674407370955162 ≤ acc
    · rw [if_pos h1, if_neg (by omega)]
    · rw [if_neg h1]
      by_cases h2 : 18446744073709551615 < acc * 10 + (c.toNat - 48)
      · rw [if_pos h2, if_neg (by omega)]
      · rw [if_neg h2]; exact ih _ (by omega)
theorem parse_plain {l : List UInt8} (h : plainB l = true) : Lib.parseUintB 64 l = if numN l ≤ 18446744073709551615 then .ok (numN l) else .range := by
  unfold plainB at h
  simp only [Bool.and_eq_true, Bool.not_eq_true', List.isEmpty_eq_false_iff] at h
  unfold Lib.parseUintB
  rw [if_neg h.1]
  have := parse_digits l 0 (fun b hb => List.all_eq_true.1 h.2 b hb) (by omega)
  simpa using this

/-- What Read comes to. -/
def readR (l : List UInt8) (how : Int) : Except Int Int :=
  if HowOk how then
    if l.length ≤ 60 then
      let head := (Lib.cut (Lib.trimPrefix l [45]) [46]).1
      let tail := (Lib.cut (Lib.trimPrefix l [45]) [46]).2.1
      let point := (Lib.cut (Lib.trimPrefix l [45]) [46]).2.2
      if plainB head = true ∧ (head.length = 1 ∨ head.getD 0 0 ≠ 48) ∧ (point = false ∨ plainB tail = true) then
        if numN head ≤ 1073741824 then
          fitR ((numN head * 65536 + fracP tail : Nat) + (if fracL tail = 0 then 0 else b2i (rndB (119 + how.toNat) ((fracL tail : Int) - 2) (Lib.hasPrefix l [45])))) (Lib.hasPrefix l [45])
        else .error 4
      else .error 5
    else .error 3
  else .error 2
end Go.Proofs.YthkhhjfldkebcaaGreatDoor
