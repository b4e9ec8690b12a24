/- Plain law: the decimal text of an integer is read as that integer. -/
import Derived.Test.YtmhlialdbggmdaaGreatDoorW
import Derived.Lib.ParseIntB
import Derived.Lib.ParseIntBCases
import Derived.Lib.ParseIntBTie
namespace Go.Proofs.YtmhlialdbggmdaaGreatDoor
open Go.RowKit Go.Proofs Go.Shelf

def isDig (b : UInt8) : Bool := decide (48 ≤ b.toNat ∧ b.toNat ≤ 57)
def plainB (l : List UInt8) : Bool := !l.isEmpty && l.all isDig
def dval : List Nat → Nat
  | [] => 0
  | d :: ds => d * 10 ^ ds.length + dval ds
def digs (l : List UInt8) : List Nat := l.map fun b => b.toNat - 48
theorem dval_append : ∀ a b, dval (a ++ b) = dval a * 10 ^ b.length + dval b
  | [], b => by simp [dval]
  | d :: a, b => by
    simp only [List.cons_append, dval, dval_append a b, List.length_append, Nat.pow_add, Nat.add_mul, Nat.mul_assoc]
    omega
theorem digs_append (a b : List UInt8) : digs (a ++ b) = digs a ++ digs b := by simp [digs]
theorem digs_len (l : List UInt8) : (digs l).length = l.length := by simp [digs]
def numN (l : List UInt8) : Nat := dval (digs l)
theorem parse_digits : ∀ (l : List UInt8) (acc : Nat), (∀ b ∈ l, isDig b = true) → acc ≤ 18446744073709551615 →
    Lib.parseUintM 18446744073709551615 acc l = if acc * 10 ^ l.length + numN l ≤ 18446744073709551615 then .ok (acc * 10 ^ l.length + numN l) else .range
  | [], acc, _, h => by simp [Lib.parseUintM, numN, digs, dval, h]
  | c :: l, acc, hd, h => by
    have hc := hd c (by simp)
    simp only [isDig, decide_eq_true_eq] at hc
    have ih := fun a => parse_digits l a (fun b hb => hd b (by simp [hb]))
    have hp : 0 < 10 ^ l.length := Nat.pow_pos (by omega)
    have e : acc * 10 ^ (c :: l).length + numN (c :: l) = (acc * 10 + (c.toNat - 48)) * 10 ^ l.length + numN l := by
      unfold numN
      simp only [digs, List.map_cons, dval, List.length_cons, List.length_map, Nat.pow_succ, Nat.add_mul]
      rw [Nat.mul_comm (10 ^ l.length) 10, ← Nat.mul_assoc]; omega
    rw [e]
    have hge : ∀ a, a ≤ a * 10 ^ l.length := fun a => Nat.le_mul_of_pos_right a hp
    have := hge (acc * 10 + (c.toNat - 48))
    simp only [Lib.parseUintM, if_pos hc]
    by_cases h1 : 1844674407370955162 ≤ acc
    · rw [if_pos h1, if_neg (by omega)]
    · rw [if_neg h1]
      by_cases h2 : 18446744073709551615 < acc * 10 + (c.toNat - 48)
      · rw [if_pos h2, if_neg (by omega)]
      · rw [if_neg h2]; exact ih _ (by omega)
theorem parse_plain {l : List UInt8} (h : plainB l = true) : Lib.parseUintB 64 l = if numN l ≤ 18446744073709551615 then .ok (numN l) else .range := by
  unfold plainB at h
  simp only [Bool.and_eq_true, Bool.not_eq_true', List.isEmpty_eq_false_iff] at h
  unfold Lib.parseUintB
  rw [if_neg h.1]
  have := parse_digits l 0 (fun b hb => List.all_eq_true.1 h.2 b hb) (by omega)
  simpa using this
theorem dval_snoc : ∀ (l : List Nat) (d : Nat), dval (l ++ [d]) = dval l * 10 + d
  | [], d => by simp [dval]
  | e :: l, d => by
    have ih := dval_snoc l d
    simp only [List.cons_append, dval, ih, List.length_append, List.length_cons, List.length_nil]
    rw [Nat.pow_succ]; grind
theorem numN_snoc (l : List UInt8) (b : UInt8) : numN (l ++ [b]) = numN l * 10 + (b.toNat - 48) := by
  unfold numN digs; rw [List.map_append]; exact dval_snoc _ _
theorem numN_cons (b : UInt8) (l : List UInt8) : numN (b :: l) = (b.toNat - 48) * 10 ^ l.length + numN l := by
  unfold numN digs; simp [dval]
theorem ofNat_dig {d : Nat} (h : d ≤ 9) : (UInt8.ofNat (48 + d)).toNat = 48 + d := by simp; omega
theorem isDig_ofNat {d : Nat} (h : d ≤ 9) : isDig (UInt8.ofNat (48 + d)) = true := by unfold isDig; rw [ofNat_dig h]; simp; omega
theorem dd_all (u : Nat) : (Lib.decDigits u).all isDig = true ∧ Lib.decDigits u ≠ [] ∧ numN (Lib.decDigits u) = u ∧ (1 ≤ u → (Lib.decDigits u).getD 0 0 ≠ 48) := by
  induction u using Nat.strongRecOn with
  | _ u ih =>
    rw [Lib.decDigits]
    by_cases h : u < 10
    · rw [dif_pos h]
      refine ⟨by simp only [List.all_cons, List.all_nil, isDig_ofNat (show u ≤ 9 by omega), Bool.and_true], by simp, ?_, ?_⟩
      · rw [numN_cons, ofNat_dig (by omega)]; simp [numN, digs, dval]
      · intro h1 e
        have : (UInt8.ofNat (48 + u)).toNat = 48 := by rw [show UInt8.ofNat (48 + u) = 48 from e]; rfl
        rw [ofNat_dig (by omega)] at this; omega
    · rw [dif_neg h]
      obtain ⟨i1, i2, i3, i4⟩ := ih (u / 10) (by omega)
      refine ⟨by rw [List.all_append, i1]; simp only [List.all_cons, List.all_nil, isDig_ofNat (show u % 10 ≤ 9 by omega), Bool.and_true], by simp, ?_, ?_⟩
      · rw [numN_snoc, i3, ofNat_dig (by omega)]; omega
      · intro _
        have := i4 (by omega)
        cases hd : Lib.decDigits (u / 10) with
        | nil => exact absurd hd i2
        | cons b l => rw [hd] at this; simpa using this
theorem plainB_of {l : List UInt8} (h1 : l.all isDig = true) (h2 : l ≠ []) : plainB l = true := by
  unfold plainB; rw [h1]; cases l
  · exact absurd rfl h2
  · rfl

theorem signed_ok {u : Nat} (h : u ≤ 9223372036854775808) : Lib.signedC (2 ^ (64 - 1)) (Lib.NumEnd.ok u) = Lib.NumEnd.ok (-(u : Int)) := by
  have e : (2 : Nat) ^ (64 - 1) = 9223372036854775808 := by decide
  rw [e]
  show (if 9223372036854775808 < u then _ else _) = _
  rw [if_neg (by omega)]
theorem signless_ok {u : Nat} (h : u < 9223372036854775808) : Lib.signlessC (2 ^ (64 - 1)) (Lib.NumEnd.ok u) = Lib.NumEnd.ok (u : Int) := by
  have e : (2 : Nat) ^ (64 - 1) = 9223372036854775808 := by decide
  rw [e]
  show (if 9223372036854775808 ≤ u then _ else _) = _
  rw [if_neg (by omega)]
theorem parse_itoa {m : Int} (h0 : -9223372036854775808 ≤ m) (h1 : m ≤ 9223372036854775807) : Lib.parseIntB 64 (Lib.itoa m) = .ok m := by
  unfold Lib.itoa
  obtain ⟨d1, d2, d3, -⟩ := dd_all m.natAbs
  by_cases hn : m < 0
  · rw [if_pos hn, Lib.parseIntB_minus, parse_plain (plainB_of d1 d2), d3, if_pos (by omega), signed_ok (by omega)]
    congr 1; omega
  · rw [if_neg hn]
    obtain ⟨e1, e2, e3, -⟩ := dd_all m.toNat
    cases hl : Lib.decDigits m.toNat with
    | nil => exact absurd hl e2
    | cons c r =>
      rw [hl] at e1 e2 e3
      have hc : isDig c = true := List.all_eq_true.1 e1 c (by simp)
      simp only [isDig, decide_eq_true_eq] at hc
      rw [Lib.parseIntB_plain _ _ _ (by omega) (by omega), parse_plain (plainB_of e1 e2), e3, if_pos (by omega), signless_ok (by omega)]
      congr 1; omega
end Go.Proofs.YtmhlialdbggmdaaGreatDoor
