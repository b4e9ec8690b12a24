/- Plain arithmetic for math/bits.Div64 (division of 128 bits by 64 bits, digit by digit of 32 bits), and for bit operations. No program is named here. -/
import Derived.Laws.Bits64b
import Derived.Lib.BitFns
import Derived.Test.YthkhhjfldkebcaaGreatDoorM
namespace Go.Proofs.YthkhhjfldkebcaaGreatDoor
open Go

theorem and_mask32 (a : Int) (h0 : 0 ≤ a) (h1 : a ≤ 18446744073709551615) : bits .and .u64 a 4294967295 = a % 4294967296 := by
  obtain ⟨n, rfl⟩ := Int.eq_ofNat_of_zero_le h0
  have := bits_and_u64_nat n 4294967295 (by omega) (by omega)
  rw [show ((4294967295 : Nat) : Int) = 4294967295 from rfl] at this
  rw [this, show (4294967295 : Nat) = 2 ^ 32 - 1 from rfl, Nat.and_two_pow_sub_one_eq_mod]
  omega

theorem or_add_nat (a b k : Nat) (hb : b < 2 ^ k) : (a * 2 ^ k) ||| b = a * 2 ^ k + b := by
  rw [Nat.mul_comm, ← Nat.two_pow_add_eq_or_of_lt hb]

theorem or_add (a b : Int) (k : Nat) (ha : 0 ≤ a) (hb : 0 ≤ b) (hbk : b < 2 ^ k) (hs : a * 2 ^ k + b ≤ 18446744073709551615) : bits .or .u64 (a * 2 ^ k) b = a * 2 ^ k + b := by
  obtain ⟨A, rfl⟩ := Int.eq_ofNat_of_zero_le ha
  obtain ⟨B, rfl⟩ := Int.eq_ofNat_of_zero_le hb
  have e : ((A : Int) * 2 ^ k) = ((A * 2 ^ k : Nat) : Int) := by simp
  rw [e] at hs ⊢
  have hbk' : B < 2 ^ k := by exact_mod_cast hbk
  rw [bits_or_u64_nat _ _ (by omega) (by omega), or_add_nat A B k hbk']
  simp

/-- How long a number is in bits. -/
theorem bitLenAux_spec : ∀ (f x : Nat), x ≠ 0 → x < 2 ^ f → Lib.bitLenAux f x ≠ 0 ∧ 2 ^ (Lib.bitLenAux f x - 1) ≤ x ∧ x < 2 ^ (Lib.bitLenAux f x)
  | 0, x, h0, h => by simp at h; omega
  | f + 1, x, h0, h => by
    rw [Lib.bitLenAux]
    split
    · omega
    · rename_i hx
      by_cases h1 : x / 2 = 0
      · have : x = 1 := by omega
        subst this
        cases f <;> simp [Lib.bitLenAux]
      · have ih := bitLenAux_spec f (x / 2) h1 (by rw [Nat.pow_succ] at h; omega)
        obtain ⟨a, b, c⟩ := ih
        generalize Lib.bitLenAux f (x / 2) = m at *
        obtain ⟨m', rfl⟩ := Nat.exists_eq_succ_of_ne_zero a
        refine ⟨by omega, ?_, ?_⟩
        · rw [show 1 + (m' + 1) - 1 = m' + 1 from by omega, Nat.pow_succ]; simp at b; omega
        · rw [show 1 + (m' + 1) = (m' + 1) + 1 from by omega, Nat.pow_succ]; omega

/-- The shift that brings a divisor to its full length. -/
theorem norm_shift (y : Int) (h0 : 1 ≤ y) (h1 : y ≤ 18446744073709551615) :
    ∃ s : Int, (64 - (Lib.bitLen y.toNat : Int)) = s ∧ 0 ≤ s ∧ s ≤ 63 ∧ 9223372036854775808 ≤ y * 2 ^ s.toNat ∧ y * 2 ^ s.toNat ≤ 18446744073709551615 := by
  obtain ⟨Y, rfl⟩ := Int.eq_ofNat_of_zero_le (by omega : 0 ≤ y)
  simp only [Int.toNat_natCast]
  have hY : Y < 2 ^ 64 := by omega
  obtain ⟨a, b, c⟩ := bitLenAux_spec 64 Y (by omega) hY
  have d := Lib.bitLen_le Y 64 (by omega) hY
  change Lib.bitLen Y ≠ 0 at a
  change 2 ^ (Lib.bitLen Y - 1) ≤ Y at b
  change Y < 2 ^ Lib.bitLen Y at c
  generalize Lib.bitLen Y = m at *
  refine ⟨64 - (m : Int), rfl, by omega, by omega, ?_⟩
  rw [show (64 - (m : Int)).toNat = 64 - m from by omega]
  have e1 : (2 : Nat) ^ (m - 1) * 2 ^ (64 - m) = 9223372036854775808 := by rw [← Nat.pow_add, show m - 1 + (64 - m) = 63 from by omega]
  have e2 : (2 : Nat) ^ m * 2 ^ (64 - m) = 18446744073709551616 := by rw [← Nat.pow_add, show m + (64 - m) = 64 from by omega]
  have i1 := Nat.mul_le_mul_right (2 ^ (64 - m)) b
  have i2 := Nat.mul_lt_mul_of_pos_right c (Nat.two_pow_pos (64 - m))
  have e3 : ((Y : Int) * 2 ^ (64 - m)) = ((Y * 2 ^ (64 - m) : Nat) : Int) := by simp
  rw [e3]; omega

/-- The number of 128 bits, shifted. -/
theorem shifted (hi lo y : Int) (s : Nat) (hs : s ≤ 63) (h0 : 0 ≤ hi) (hl0 : 0 ≤ lo) (hl : lo ≤ 18446744073709551615) (hy : y * 2 ^ s ≤ 18446744073709551615) (hhy : hi < y) :
    ∃ U L : Int, bits .or .u64 (IntKind.u64.wrap (hi * 2 ^ s)) (lo / 2 ^ (64 - s)) = U ∧ IntKind.u64.wrap (lo * 2 ^ s) = L ∧ 0 ≤ U ∧ U < y * 2 ^ s ∧ 0 ≤ L ∧ L ≤ 18446744073709551615 ∧
      (hi * 18446744073709551616 + lo) * 2 ^ s = U * 18446744073709551616 + L := by
  have hP : (0 : Int) < 2 ^ s := Int.pow_pos (by omega)
  have hK : (0 : Int) < 2 ^ (64 - s) := Int.pow_pos (by omega)
  have hPK : (2 : Int) ^ s * 2 ^ (64 - s) = 18446744073709551616 := by rw [← Int.pow_add, show s + (64 - s) = 64 from by omega]; rfl
  have hb : lo / 2 ^ (64 - s) < 2 ^ s := by
    rw [Int.ediv_lt_iff_lt_mul hK, hPK]; omega
  have hb0 : 0 ≤ lo / 2 ^ (64 - s) := Int.ediv_nonneg hl0 (Int.le_of_lt hK)
  have hlt : hi * 2 ^ s + 2 ^ s ≤ y * 2 ^ s := by
    have := Int.mul_le_mul_of_nonneg_right (show hi + 1 ≤ y by omega) (Int.le_of_lt hP)
    rw [Int.add_mul, Int.one_mul] at this; exact this
  have hh0 : 0 ≤ hi * 2 ^ s := Int.mul_nonneg h0 (Int.le_of_lt hP)
  have hw : IntKind.u64.wrap (hi * 2 ^ s) = hi * 2 ^ s := IntWalk.u64_in _ (by omega)
  have hdiv := Int.mul_ediv_add_emod lo (2 ^ (64 - s))
  have hm0 := Int.emod_nonneg lo (Int.ne_of_gt hK)
  have hm1 := Int.emod_lt_of_pos lo hK
  have hr0 : 0 ≤ lo % 2 ^ (64 - s) * 2 ^ s := Int.mul_nonneg hm0 (Int.le_of_lt hP)
  have hr1 : lo % 2 ^ (64 - s) * 2 ^ s < 18446744073709551616 := by
    rw [← hPK, Int.mul_comm (2 ^ s)]; exact Int.mul_lt_mul_of_pos_right hm1 hP
  have hlo : lo * 2 ^ s = 18446744073709551616 * (lo / 2 ^ (64 - s)) + lo % 2 ^ (64 - s) * 2 ^ s := by
    conv => lhs; rw [← hdiv]
    rw [Int.add_mul, ← hPK, Int.mul_right_comm, Int.mul_comm (2 ^ (64 - s)) (2 ^ s)]
  refine ⟨hi * 2 ^ s + lo / 2 ^ (64 - s), lo % 2 ^ (64 - s) * 2 ^ s, ?_, ?_, by omega, by omega, hr0, by omega, ?_⟩
  · rw [hw]; exact or_add hi _ s h0 hb0 hb (by omega)
  · rw [IntKind.wrap_u64, hlo]; omega
  · rw [Int.add_mul, hlo, Int.add_mul, Int.mul_right_comm]; omega

/-- What the search for one digit of 32 bits keeps. -/
structure Dig (U Y1 Q q r : Int) : Prop where
  q0 : 0 ≤ q
  qb : q ≤ 8589934592
  Qq : Q ≤ q
  r0 : 0 ≤ r
  r1 : r ≤ 4294967295
  e : q * Y1 + r = U
theorem Dig.start {U Y1 Y0 d : Int} (hU0 : 0 ≤ U) (hU : U < Y1 * 4294967296 + Y0) (h1 : 2147483648 ≤ Y1) (h1' : Y1 ≤ 4294967295) (h0 : 0 ≤ Y0) (h0' : Y0 ≤ 4294967295) (hd0 : 0 ≤ d) (hd : d ≤ 4294967295) :
    Dig U Y1 ((U * 4294967296 + d) / (Y1 * 4294967296 + Y0)) (U / Y1) (U % Y1) := by
  have a := Int.mul_ediv_add_emod U Y1
  have b := Int.emod_nonneg U (by omega : Y1 ≠ 0)
  have c := Int.emod_lt_of_pos U (by omega : 0 < Y1)
  have q0 := Int.ediv_nonneg hU0 (by omega : 0 ≤ Y1)
  refine ⟨q0, ?_, ?_, b, by omega, by rw [Int.mul_comm]; exact a⟩
  · have : U / Y1 < 8589934593 := by rw [Int.ediv_lt_iff_lt_mul (by omega)]; omega
    omega
  · have : (U * 4294967296 + d) / (Y1 * 4294967296 + Y0) < U / Y1 + 1 := by
      rw [Int.ediv_lt_iff_lt_mul (by omega)]
      have e1 : (U / Y1 + 1) * (Y1 * 4294967296 + Y0) = (Y1 * (U / Y1) + Y1) * 4294967296 + (U / Y1 + 1) * Y0 := by
        rw [Int.mul_add, Int.add_mul, Int.add_mul, ← Int.mul_assoc, Int.mul_comm (U / Y1) Y1, Int.one_mul]
        omega
      have e2 : 0 ≤ (U / Y1 + 1) * Y0 := Int.mul_nonneg (by omega) h0
      rw [e1]; omega
    omega
theorem Dig.exit {U Y1 Y0 d q r : Int} (h : Dig U Y1 ((U * 4294967296 + d) / (Y1 * 4294967296 + Y0)) q r) (hY : 0 < Y1 * 4294967296 + Y0) (hm : q * Y0 ≤ 4294967296 * r + d) : q = (U * 4294967296 + d) / (Y1 * 4294967296 + Y0) := by
  have := h.Qq
  have : q ≤ (U * 4294967296 + d) / (Y1 * 4294967296 + Y0) := by
    rw [Int.le_ediv_iff_mul_le hY, Int.mul_add, ← Int.mul_assoc]
    have := h.e; omega
  omega
theorem Dig.more {U Y1 Y0 d q r : Int} (h : Dig U Y1 ((U * 4294967296 + d) / (Y1 * 4294967296 + Y0)) q r) (hY : 0 < Y1 * 4294967296 + Y0) (hm : 4294967296 * r + d < q * Y0) : (U * 4294967296 + d) / (Y1 * 4294967296 + Y0) ≤ q - 1 := by
  have : (U * 4294967296 + d) / (Y1 * 4294967296 + Y0) < q := by
    rw [Int.ediv_lt_iff_lt_mul hY, Int.mul_add, ← Int.mul_assoc]
    have := h.e; omega
  omega
/-- The digit is below 2^32. -/
theorem dig_lt {U Y d : Int} (hU : U < Y) (hY : 0 < Y) (hd : d ≤ 4294967295) : (U * 4294967296 + d) / Y < 4294967296 := by
  rw [Int.ediv_lt_iff_lt_mul hY]; omega
theorem Dig.next {U Y1 Q q r : Int} (h : Dig U Y1 Q q r) (hQ : Q ≤ q - 1) (_hQ0 : 0 ≤ Q) (h1 : 0 ≤ Y1) (hr : r + Y1 ≤ 4294967295) : Dig U Y1 Q (q - 1) (r + Y1) :=
  ⟨by omega, by have := h.qb; omega, hQ, by have := h.r0; omega, hr, by rw [Int.sub_mul, Int.one_mul]; have := h.e; omega⟩
theorem Dig.stop {U Y1 Y0 d q r : Int} (h : Dig U Y1 ((U * 4294967296 + d) / (Y1 * 4294967296 + Y0)) q r) (hQ : (U * 4294967296 + d) / (Y1 * 4294967296 + Y0) ≤ q - 1) (_hQ0 : 0 ≤ (U * 4294967296 + d) / (Y1 * 4294967296 + Y0))
    (hU : U < Y1 * 4294967296 + Y0) (h1 : 1 ≤ Y1) (h0 : 0 ≤ Y0) (h0' : Y0 ≤ 4294967295) (hd0 : 0 ≤ d) (hr : 4294967296 ≤ r + Y1) :
    q - 1 = (U * 4294967296 + d) / (Y1 * 4294967296 + Y0) := by
  have e := h.e
  have e' : (q - 1) * Y1 + (r + Y1) = U := by rw [Int.sub_mul, Int.one_mul]; omega
  have hq : q - 1 ≤ 4294967295 := by
    rcases Int.lt_or_le (q - 1) 4294967296 with h' | h'
    · omega
    · have := Int.mul_le_mul_of_nonneg_right h' (by omega : 0 ≤ Y1)
      omega
  have hm : (q - 1) * Y0 ≤ 4294967296 * (r + Y1) + d := by
    have a := Int.mul_le_mul_of_nonneg_right hq h0
    have b : 4294967295 * Y0 ≤ 4294967295 * 4294967295 := by omega
    omega
  have : q - 1 ≤ (U * 4294967296 + d) / (Y1 * 4294967296 + Y0) := by
    rw [Int.le_ediv_iff_mul_le (by omega), Int.mul_add, ← Int.mul_assoc]
    omega
  omega

/-- The two digits make the quotient; what is left, shifted back, the rest. -/
theorem dig_join {n y P U L1 L0 Q1 Q0 T R : Int} (hP : 0 < P) (hn : n * P = U * 18446744073709551616 + (L1 * 4294967296 + L0))
    (hT : T = U * 4294967296 + L1 - Q1 * (y * P)) (hR : R = T * 4294967296 + L0 - Q0 * (y * P)) (hR0 : 0 ≤ R) (hR1 : R < y * P) (hy : 0 < y) :
    n / y = Q1 * 4294967296 + Q0 ∧ n % y = R / P := by
  have e : (n - (Q1 * 4294967296 + Q0) * y) * P = R := by
    rw [Int.sub_mul, hn, hR, hT, Int.add_mul, Int.add_mul, Int.sub_mul, Int.mul_assoc Q0 y P, Int.mul_assoc (Q1 * 4294967296) y P, Int.mul_right_comm Q1 4294967296 (y * P)]
    omega
  have a : 0 ≤ n - (Q1 * 4294967296 + Q0) * y := by
    rcases Int.lt_or_le (n - (Q1 * 4294967296 + Q0) * y) 0 with h | h
    · have := Int.mul_neg_of_neg_of_pos h hP
      omega
    · exact h
  have b : n - (Q1 * 4294967296 + Q0) * y < y := by
    rcases Int.lt_or_le (n - (Q1 * 4294967296 + Q0) * y) y with h | h
    · exact h
    · have := Int.mul_le_mul_of_nonneg_right h (Int.le_of_lt hP)
      omega
  have q : n / y = Q1 * 4294967296 + Q0 := by
    have := Int.ediv_emod_unique hy (r := n - (Q1 * 4294967296 + Q0) * y) (q := Q1 * 4294967296 + Q0) (a := n)
    exact (this.2 ⟨by rw [Int.mul_comm y]; omega, a, b⟩).1
  refine ⟨q, ?_⟩
  rw [← e, Int.mul_ediv_cancel _ (Int.ne_of_gt hP)]
  have := Int.mul_ediv_add_emod n y
  rw [q, Int.mul_comm y] at this
  omega
/-- What is left behind a digit. -/
theorem dig_rest {U Y d : Int} (hY : 0 < Y) : 0 ≤ U * 4294967296 + d - (U * 4294967296 + d) / Y * Y ∧ U * 4294967296 + d - (U * 4294967296 + d) / Y * Y < Y := by
  have a := Int.mul_ediv_add_emod (U * 4294967296 + d) Y
  have b := Int.emod_nonneg (U * 4294967296 + d) (by omega : Y ≠ 0)
  have c := Int.emod_lt_of_pos (U * 4294967296 + d) hY
  rw [Int.mul_comm Y] at a
  omega
end Go.Proofs.YthkhhjfldkebcaaGreatDoor
