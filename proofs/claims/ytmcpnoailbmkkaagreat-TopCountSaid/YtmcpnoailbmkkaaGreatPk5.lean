/- Layers of the proofs, joined: Fx Fy Mb Mc. -/
import Derived.Test.YtmcpnoailbmkkaaGreatPk4
import Derived.Laws.Bits64
import Derived.IntWalk
import Derived.Laws.Bits64b
import Derived.Lib.BitFns
import Derived.WalkKit
import Derived.WalkLawsBesides
import Derived.Lib.Hide
import Derived.Laws.Externs
import Derived.Deep.RegionWith
import Derived.WalkMore
import Derived.StillTailTactics
import Derived.BigQuiet
import Derived.Deep.CutBlock
import Derived.Deep.DeepCutAuto
import Derived.Recover
import Derived.Shelf.Abstract
import Derived.StillTail
/- Layer 1: numbers in fixed point (carried over from the first seat). -/
namespace Go.Proofs.YtmcpnoailbmkkaaGreat.Fx
open Go Go.RowKit Go.Proofs Go.Shelf
/-! M -/
/-- The size of a number. -/
def sz (a : Int) : Int := if a < 0 then -a else a
theorem sz_nn (a : Int) : 0 ≤ sz a := by unfold sz; split <;> omega
theorem sz_le {a m : Int} (h1 : -m ≤ a) (h2 : a ≤ m) : sz a ≤ m := by unfold sz; split <;> omega
/-- The two parts of a number of 128 bits. -/
def hiU (n : Int) : Int := n / 18446744073709551616
def loU (n : Int) : Int := n % 18446744073709551616
/-- The parts h and l are those of n. -/
structure InW (h l n : Int) : Prop where
  h0 : 0 ≤ h
  h1 : h ≤ 18446744073709551615
  l0 : 0 ≤ l
  l1 : l ≤ 18446744073709551615
  e : h * 18446744073709551616 + l = n
theorem loU_nn (n : Int) : 0 ≤ loU n := by unfold loU; omega
theorem loU_le (n : Int) : loU n ≤ 18446744073709551615 := by unfold loU; omega
theorem InW.nn {h l n : Int} (H : InW h l n) : 0 ≤ n := by have := H.h0; have := H.l0; have := H.e; omega
theorem InW.lt {h l n : Int} (H : InW h l n) : n < 340282366920938463463374607431768211456 := by have := H.h1; have := H.l1; have := H.e; omega
theorem InW.mk' {n : Int} (h0 : 0 ≤ n) (h1 : n < 340282366920938463463374607431768211456) : InW (hiU n) (loU n) n := by
  constructor <;> simp only [hiU, loU] <;> omega
theorem InW.small {n : Int} (h0 : 0 ≤ n) (h1 : n ≤ 18446744073709551615) : InW 0 n n := by
  constructor <;> omega
theorem InW.hi_eq {h l n : Int} (H : InW h l n) : h = hiU n := by have := H.h0; have := H.l0; have := H.l1; have := H.e; unfold hiU; omega
theorem InW.lo_eq {h l n : Int} (H : InW h l n) : l = loU n := by have := H.h0; have := H.l0; have := H.l1; have := H.e; unfold loU; omega
theorem InW.inj {h l n h' l' n' : Int} (H : InW h l n) (H' : InW h' l' n') : n = n' ↔ (h = h' ∧ l = l') := by
  have := H.h0; have := H.l0; have := H.l1; have := H.e; have := H'.h0; have := H'.l0; have := H'.l1; have := H'.e
  constructor
  · intro e; constructor <;> omega
  · rintro ⟨rfl, rfl⟩; omega
theorem InW.plus {h1 l1 n1 h2 l2 n2 : Int} (H : InW h1 l1 n1) (K : InW h2 l2 n2) (hb : n1 + n2 < 340282366920938463463374607431768211456) :
    InW (loU (h1 + h2 + hiU (l1 + l2))) (loU (l1 + l2)) (n1 + n2) := by
  have := H.h0; have := H.h1; have := H.l0; have := H.l1; have := H.e; have := K.h0; have := K.h1; have := K.l0; have := K.l1; have := K.e
  constructor <;> simp only [hiU, loU] <;> omega
/-- Three-way comparison. -/
def cmpI (a b : Int) : Int := if a < b then -1 else if b < a then 1 else 0
theorem InW.cmp {h1 l1 n1 h2 l2 n2 : Int} (H : InW h1 l1 n1) (K : InW h2 l2 n2) :
    cmpI n1 n2 = if cmpI h1 h2 = 0 then cmpI l1 l2 else cmpI h1 h2 := by
  have := H.h0; have := H.h1; have := H.l0; have := H.l1; have := H.e; have := K.h0; have := K.h1; have := K.l0; have := K.l1; have := K.e
  unfold cmpI; repeat' split
  all_goals omega
theorem u64_neg_sz {a : Int} (h : a < 0) (h' : -9223372036854775808 ≤ a) : IntKind.u64.wrap (-IntKind.u64.wrap a) = sz a := by
  rw [IntKind.wrap_u64, IntKind.wrap_u64]; unfold sz; rw [if_pos h]; omega
theorem sz_pos {a : Int} (h : 0 ≤ a) : sz a = a := by unfold sz; rw [if_neg (by omega)]
/-! M2 -/
open Go
theorem and_mask32 (a : Int) (h0 : 0 ≤ a) (h1 : a ≤ 18446744073709551615) : bits .and .u64 a 4294967295 = a % 4294967296 := by
  obtain ⟨n, rfl⟩ := Int.eq_ofNat_of_zero_le h0
  have := bits_and_u64_nat n 4294967295 (by omega) (by omega)
  rw [show ((4294967295 : Nat) : Int) = 4294967295 from rfl] at this
  rw [this, show (4294967295 : Nat) = 2 ^ 32 - 1 from rfl, Nat.and_two_pow_sub_one_eq_mod]
  omega
theorem or_add_nat (a b k : Nat) (hb : b < 2 ^ k) : (a * 2 ^ k) ||| b = a * 2 ^ k + b := by
  rw [Nat.mul_comm, ← Nat.two_pow_add_eq_or_of_lt hb]
theorem or_add (a b : Int) (k : Nat) (ha : 0 ≤ a) (hb : 0 ≤ b) (hbk : b < 2 ^ k) (hs : a * 2 ^ k + b ≤ 18446744073709551615) : bits .or .u64 (a * 2 ^ k) b = a * 2 ^ k + b := by
  obtain ⟨A, rfl⟩ := Int.eq_ofNat_of_zero_le ha
  obtain ⟨B, rfl⟩ := Int.eq_ofNat_of_zero_le hb
  have e : ((A : Int) * 2 ^ k) = ((A * 2 ^ k : Nat) : Int) := by simp
  rw [e] at hs ⊢
  have hbk' : B < 2 ^ k := by exact_mod_cast hbk
  rw [bits_or_u64_nat _ _ (by omega) (by omega), or_add_nat A B k hbk']
  simp
/-- How long a number is in bits. -/
theorem bitLenAux_spec : ∀ (f x : Nat), x ≠ 0 → x < 2 ^ f → Lib.bitLenAux f x ≠ 0 ∧ 2 ^ (Lib.bitLenAux f x - 1) ≤ x ∧ x < 2 ^ (Lib.bitLenAux f x)
  | 0, x, h0, h => by simp at h; omega
  | f + 1, x, h0, h => by
    rw [Lib.bitLenAux]
    split
    · omega
    · rename_i hx
      by_cases h1 : x / 2 = 0
      · have : x = 1 := by omega
        subst this
        cases f <;> simp [Lib.bitLenAux]
      · have ih := bitLenAux_spec f (x / 2) h1 (by rw [Nat.pow_succ] at h; omega)
        obtain ⟨a, b, c⟩ := ih
        generalize Lib.bitLenAux f (x / 2) = m at *
        obtain ⟨m', rfl⟩ := Nat.exists_eq_succ_of_ne_zero a
        refine ⟨by omega, ?_, ?_⟩
        · rw [show 1 + (m' + 1) - 1 = m' + 1 from by omega, Nat.pow_succ]; simp at b; omega
        · rw [show 1 + (m' + 1) = (m' + 1) + 1 from by omega, Nat.pow_succ]; omega
/-- The shift that brings a divisor to its full length. -/
theorem norm_shift (y : Int) (h0 : 1 ≤ y) (h1 : y ≤ 18446744073709551615) :
    ∃ s : Int, (64 - (Lib.bitLen y.toNat : Int)) = s ∧ 0 ≤ s ∧ s ≤ 63 ∧ 9223372036854775808 ≤ y * 2 ^ s.toNat ∧ y * 2 ^ s.toNat ≤ 18446744073709551615 := by
  obtain ⟨Y, rfl⟩ := Int.eq_ofNat_of_zero_le (by omega : 0 ≤ y)
  simp only [Int.toNat_natCast]
  have hY : Y < 2 ^ 64 := by omega
  obtain ⟨a, b, c⟩ := bitLenAux_spec 64 Y (by omega) hY
  have d := Lib.bitLen_le Y 64 (by omega) hY
  change Lib.bitLen Y ≠ 0 at a
  change 2 ^ (Lib.bitLen Y - 1) ≤ Y at b
  change Y < 2 ^ Lib.bitLen Y at c
  generalize Lib.bitLen Y = m at *
  refine ⟨64 - (m : Int), rfl, by omega, by omega, ?_⟩
  rw [show (64 - (m : Int)).toNat = 64 - m from by omega]
  have e1 : (2 : Nat) ^ (m - 1) * 2 ^ (64 - m) = 9223372036854775808 := by rw [← Nat.pow_add, show m - 1 + (64 - m) = 63 from by omega]
  have e2 : (2 : Nat) ^ m * 2 ^ (64 - m) = 18446744073709551616 := by rw [← Nat.pow_add, show m + (64 - m) = 64 from by omega]
  have i1 := Nat.mul_le_mul_right (2 ^ (64 - m)) b
  have i2 := Nat.mul_lt_mul_of_pos_right c (Nat.two_pow_pos (64 - m))
  have e3 : ((Y : Int) * 2 ^ (64 - m)) = ((Y * 2 ^ (64 - m) : Nat) : Int) := by simp
  rw [e3]; omega
/-- The number of 128 bits, shifted. -/
theorem shifted (hi lo y : Int) (s : Nat) (hs : s ≤ 63) (h0 : 0 ≤ hi) (hl0 : 0 ≤ lo) (hl : lo ≤ 18446744073709551615) (hy : y * 2 ^ s ≤ 18446744073709551615) (hhy : hi < y) :
    ∃ U L : Int, bits .or .u64 (IntKind.u64.wrap (hi * 2 ^ s)) (lo / 2 ^ (64 - s)) = U ∧ IntKind.u64.wrap (lo * 2 ^ s) = L ∧ 0 ≤ U ∧ U < y * 2 ^ s ∧ 0 ≤ L ∧ L ≤ 18446744073709551615 ∧
      (hi * 18446744073709551616 + lo) * 2 ^ s = U * 18446744073709551616 + L := by
  have hP : (0 : Int) < 2 ^ s := Int.pow_pos (by omega)
  have hK : (0 : Int) < 2 ^ (64 - s) := Int.pow_pos (by omega)
  have hPK : (2 : Int) ^ s * 2 ^ (64 - s) = 18446744073709551616 := by rw [← Int.pow_add, show s + (64 - s) = 64 from by omega]; rfl
  have hb : lo / 2 ^ (64 - s) < 2 ^ s := by
    rw [Int.ediv_lt_iff_lt_mul hK, hPK]; omega
  have hb0 : 0 ≤ lo / 2 ^ (64 - s) := Int.ediv_nonneg hl0 (Int.le_of_lt hK)
  have hlt : hi * 2 ^ s + 2 ^ s ≤ y * 2 ^ s := by
    have := Int.mul_le_mul_of_nonneg_right (show hi + 1 ≤ y by omega) (Int.le_of_lt hP)
    rw [Int.add_mul, Int.one_mul] at this; exact this
  have hh0 : 0 ≤ hi * 2 ^ s := Int.mul_nonneg h0 (Int.le_of_lt hP)
  have hw : IntKind.u64.wrap (hi * 2 ^ s) = hi * 2 ^ s := IntWalk.u64_in _ (by omega)
  have hdiv := Int.mul_ediv_add_emod lo (2 ^ (64 - s))
  have hm0 := Int.emod_nonneg lo (Int.ne_of_gt hK)
  have hm1 := Int.emod_lt_of_pos lo hK
  have hr0 : 0 ≤ lo % 2 ^ (64 - s) * 2 ^ s := Int.mul_nonneg hm0 (Int.le_of_lt hP)
  have hr1 : lo % 2 ^ (64 - s) * 2 ^ s < 18446744073709551616 := by
    rw [← hPK, Int.mul_comm (2 ^ s)]; exact Int.mul_lt_mul_of_pos_right hm1 hP
  have hlo : lo * 2 ^ s = 18446744073709551616 * (lo / 2 ^ (64 - s)) + lo % 2 ^ (64 - s) * 2 ^ s := by
    conv => lhs; rw [← hdiv]
    rw [Int.add_mul, ← hPK, Int.mul_right_comm, Int.mul_comm (2 ^ (64 - s)) (2 ^ s)]
  refine ⟨hi * 2 ^ s + lo / 2 ^ (64 - s), lo % 2 ^ (64 - s) * 2 ^ s, ?_, ?_, by omega, by omega, hr0, by omega, ?_⟩
  · rw [hw]; exact or_add hi _ s h0 hb0 hb (by omega)
  · rw [IntKind.wrap_u64, hlo]; omega
  · rw [Int.add_mul, hlo, Int.add_mul, Int.mul_right_comm]; omega
/-- What the search for one digit of 32 bits keeps. -/
structure Dig (U Y1 Q q r : Int) : Prop where
  q0 : 0 ≤ q
  qb : q ≤ 8589934592
  Qq : Q ≤ q
  r0 : 0 ≤ r
  r1 : r ≤ 4294967295
  e : q * Y1 + r = U
theorem Dig.start {U Y1 Y0 d : Int} (hU0 : 0 ≤ U) (hU : U < Y1 * 4294967296 + Y0) (h1 : 2147483648 ≤ Y1) (h1' : Y1 ≤ 4294967295) (h0 : 0 ≤ Y0) (h0' : Y0 ≤ 4294967295) (hd0 : 0 ≤ d) (hd : d ≤ 4294967295) :
    Dig U Y1 ((U * 4294967296 + d) / (Y1 * 4294967296 + Y0)) (U / Y1) (U % Y1) := by
  have a := Int.mul_ediv_add_emod U Y1
  have b := Int.emod_nonneg U (by omega : Y1 ≠ 0)
  have c := Int.emod_lt_of_pos U (by omega : 0 < Y1)
  have q0 := Int.ediv_nonneg hU0 (by omega : 0 ≤ Y1)
  refine ⟨q0, ?_, ?_, b, by omega, by rw [Int.mul_comm]; exact a⟩
  · have : U / Y1 < 8589934593 := by rw [Int.ediv_lt_iff_lt_mul (by omega)]; omega
    omega
  · have : (U * 4294967296 + d) / (Y1 * 4294967296 + Y0) < U / Y1 + 1 := by
      rw [Int.ediv_lt_iff_lt_mul (by omega)]
      have e1 : (U / Y1 + 1) * (Y1 * 4294967296 + Y0) = (Y1 * (U / Y1) + Y1) * 4294967296 + (U / Y1 + 1) * Y0 := by
        rw [Int.mul_add, Int.add_mul, Int.add_mul, ← Int.mul_assoc, Int.mul_comm (U / Y1) Y1, Int.one_mul]
        omega
      have e2 : 0 ≤ (U / Y1 + 1) * Y0 := Int.mul_nonneg (by omega) h0
      rw [e1]; omega
    omega
theorem Dig.exit {U Y1 Y0 d q r : Int} (h : Dig U Y1 ((U * 4294967296 + d) / (Y1 * 4294967296 + Y0)) q r) (hY : 0 < Y1 * 4294967296 + Y0) (hm : q * Y0 ≤ 4294967296 * r + d) : q = (U * 4294967296 + d) / (Y1 * 4294967296 + Y0) := by
  have := h.Qq
  have : q ≤ (U * 4294967296 + d) / (Y1 * 4294967296 + Y0) := by
    rw [Int.le_ediv_iff_mul_le hY, Int.mul_add, ← Int.mul_assoc]
    have := h.e; omega
  omega
theorem Dig.more {U Y1 Y0 d q r : Int} (h : Dig U Y1 ((U * 4294967296 + d) / (Y1 * 4294967296 + Y0)) q r) (hY : 0 < Y1 * 4294967296 + Y0) (hm : 4294967296 * r + d < q * Y0) : (U * 4294967296 + d) / (Y1 * 4294967296 + Y0) ≤ q - 1 := by
  have : (U * 4294967296 + d) / (Y1 * 4294967296 + Y0) < q := by
    rw [Int.ediv_lt_iff_lt_mul hY, Int.mul_add, ← Int.mul_assoc]
    have := h.e; omega
  omega
/-- The digit is below 2^32. -/
theorem dig_lt {U Y d : Int} (hU : U < Y) (hY : 0 < Y) (hd : d ≤ 4294967295) : (U * 4294967296 + d) / Y < 4294967296 := by
  rw [Int.ediv_lt_iff_lt_mul hY]; omega
theorem Dig.next {U Y1 Q q r : Int} (h : Dig U Y1 Q q r) (hQ : Q ≤ q - 1) (_hQ0 : 0 ≤ Q) (h1 : 0 ≤ Y1) (hr : r + Y1 ≤ 4294967295) : Dig U Y1 Q (q - 1) (r + Y1) :=
  ⟨by omega, by have := h.qb; omega, hQ, by have := h.r0; omega, hr, by rw [Int.sub_mul, Int.one_mul]; have := h.e; omega⟩
theorem Dig.stop {U Y1 Y0 d q r : Int} (h : Dig U Y1 ((U * 4294967296 + d) / (Y1 * 4294967296 + Y0)) q r) (hQ : (U * 4294967296 + d) / (Y1 * 4294967296 + Y0) ≤ q - 1) (_hQ0 : 0 ≤ (U * 4294967296 + d) / (Y1 * 4294967296 + Y0))
    (hU : U < Y1 * 4294967296 + Y0) (h1 : 1 ≤ Y1) (h0 : 0 ≤ Y0) (h0' : Y0 ≤ 4294967295) (hd0 : 0 ≤ d) (hr : 4294967296 ≤ r + Y1) :
    q - 1 = (U * 4294967296 + d) / (Y1 * 4294967296 + Y0) := by
  have e := h.e
  have e' : (q - 1) * Y1 + (r + Y1) = U := by rw [Int.sub_mul, Int.one_mul]; omega
  have hq : q - 1 ≤ 4294967295 := by
    rcases Int.lt_or_le (q - 1) 4294967296 with h' | h'
    · omega
    · have := Int.mul_le_mul_of_nonneg_right h' (by omega : 0 ≤ Y1)
      omega
  have hm : (q - 1) * Y0 ≤ 4294967296 * (r + Y1) + d := by
    have a := Int.mul_le_mul_of_nonneg_right hq h0
    have b : 4294967295 * Y0 ≤ 4294967295 * 4294967295 := by omega
    omega
  have : q - 1 ≤ (U * 4294967296 + d) / (Y1 * 4294967296 + Y0) := by
    rw [Int.le_ediv_iff_mul_le (by omega), Int.mul_add, ← Int.mul_assoc]
    omega
  omega
/-- The two digits make the quotient; what is left, shifted back, the rest. -/
theorem dig_join {n y P U L1 L0 Q1 Q0 T R : Int} (hP : 0 < P) (hn : n * P = U * 18446744073709551616 + (L1 * 4294967296 + L0))
    (hT : T = U * 4294967296 + L1 - Q1 * (y * P)) (hR : R = T * 4294967296 + L0 - Q0 * (y * P)) (hR0 : 0 ≤ R) (hR1 : R < y * P) (hy : 0 < y) :
    n / y = Q1 * 4294967296 + Q0 ∧ n % y = R / P := by
  have e : (n - (Q1 * 4294967296 + Q0) * y) * P = R := by
    rw [Int.sub_mul, hn, hR, hT, Int.add_mul, Int.add_mul, Int.sub_mul, Int.mul_assoc Q0 y P, Int.mul_assoc (Q1 * 4294967296) y P, Int.mul_right_comm Q1 4294967296 (y * P)]
    omega
  have a : 0 ≤ n - (Q1 * 4294967296 + Q0) * y := by
    rcases Int.lt_or_le (n - (Q1 * 4294967296 + Q0) * y) 0 with h | h
    · have := Int.mul_neg_of_neg_of_pos h hP
      omega
    · exact h
  have b : n - (Q1 * 4294967296 + Q0) * y < y := by
    rcases Int.lt_or_le (n - (Q1 * 4294967296 + Q0) * y) y with h | h
    · exact h
    · have := Int.mul_le_mul_of_nonneg_right h (Int.le_of_lt hP)
      omega
  have q : n / y = Q1 * 4294967296 + Q0 := by
    have := Int.ediv_emod_unique hy (r := n - (Q1 * 4294967296 + Q0) * y) (q := Q1 * 4294967296 + Q0) (a := n)
    exact (this.2 ⟨by rw [Int.mul_comm y]; omega, a, b⟩).1
  refine ⟨q, ?_⟩
  rw [← e, Int.mul_ediv_cancel _ (Int.ne_of_gt hP)]
  have := Int.mul_ediv_add_emod n y
  rw [q, Int.mul_comm y] at this
  omega
/-- What is left behind a digit. -/
theorem dig_rest {U Y d : Int} (hY : 0 < Y) : 0 ≤ U * 4294967296 + d - (U * 4294967296 + d) / Y * Y ∧ U * 4294967296 + d - (U * 4294967296 + d) / Y * Y < Y := by
  have a := Int.mul_ediv_add_emod (U * 4294967296 + d) Y
  have b := Int.emod_nonneg (U * 4294967296 + d) (by omega : Y ≠ 0)
  have c := Int.emod_lt_of_pos (U * 4294967296 + d) hY
  rw [Int.mul_comm Y] at a
  omega
/-! M3 -/
open Go
/-- What the search for a root keeps: n is made of the bits from 2^j on; the bit to come is B. -/
def RootInv (A n B : Int) : Prop := ∃ j : Nat, ∃ m : Int, 0 ≤ m ∧ n = m * 2 ^ j ∧ (B = if j = 0 then 0 else 2 ^ (j - 1)) ∧ n + 2 ^ j ≤ 9223372036854775808 ∧ n * n ≤ A ∧ A < (n + 2 ^ j) * (n + 2 ^ j)
theorem RootInv.start {A : Int} (h0 : 0 ≤ A) (h1 : A < 85070591730234615865843651857942052864) : RootInv A 0 4611686018427387904 :=
  ⟨63, 0, by omega, by omega, by decide, by decide, by omega, by simpa using h1⟩
theorem RootInv.bounds {A n B : Int} (h : RootInv A n B) : 0 ≤ n ∧ 0 ≤ B ∧ n ≤ 9223372036854775807 ∧ B ≤ 4611686018427387904 ∧ n + B ≤ 9223372036854775808 := by
  obtain ⟨j, m, hm, rfl, rfl, h2, -, -⟩ := h
  have hp : (0 : Int) < 2 ^ j := Int.pow_pos (by omega)
  have hn := Int.mul_nonneg hm (Int.le_of_lt hp)
  split
  · omega
  · rename_i hj
    obtain ⟨i, rfl⟩ := Nat.exists_eq_succ_of_ne_zero hj
    have hq : (0 : Int) < 2 ^ i := Int.pow_pos (by omega)
    simp only [Nat.succ_eq_add_one, Int.pow_succ, Nat.add_sub_cancel] at *
    omega
theorem RootInv.or {A n B : Int} (h : RootInv A n B) (hB : 0 < B) : bits .or .u64 n B = n + B := by
  have hb := h.bounds
  obtain ⟨j, m, hm, rfl, rfl, h2, -, -⟩ := h
  by_cases hj : j = 0
  · simp [hj] at hB
  · obtain ⟨i, rfl⟩ := Nat.exists_eq_succ_of_ne_zero hj
    have hq : (0 : Int) < 2 ^ i := Int.pow_pos (by omega)
    rw [if_neg hj] at *
    refine or_add m _ _ hm (by omega) ?_ ?_
    · simp only [Nat.succ_eq_add_one, Int.pow_succ, Nat.add_sub_cancel] at *; omega
    · simp only [Nat.succ_eq_add_one, Int.pow_succ, Nat.add_sub_cancel] at *; omega
theorem RootInv.step {A n B : Int} (h : RootInv A n B) (hB : 0 < B) : ∃ j : Nat, B = 2 ^ j ∧ B / 2 = (if j = 0 then 0 else 2 ^ (j - 1)) ∧ ∃ m : Int, 0 ≤ m ∧ n = (m + m) * 2 ^ j ∧ n + B + B ≤ 9223372036854775808 ∧ n * n ≤ A ∧ A < (n + B + B) * (n + B + B) := by
  obtain ⟨j, m, hm, hn, hB', h2, h3, h4⟩ := h
  by_cases hj : j = 0
  · simp [hj] at hB'; omega
  · obtain ⟨i, rfl⟩ := Nat.exists_eq_succ_of_ne_zero hj
    rw [if_neg hj] at hB'
    simp only [Nat.succ_eq_add_one, Nat.add_sub_cancel] at hB'
    simp only [Nat.succ_eq_add_one, Int.pow_succ] at *
    have e : n + 2 ^ i * 2 = n + B + B := by omega
    rw [e] at h2 h4
    refine ⟨i, hB', ?_, m, hm, ?_, h2, h3, h4⟩
    · rw [hB']
      split
      · rename_i hi; subst hi; decide
      · rename_i hi
        obtain ⟨k, rfl⟩ := Nat.exists_eq_succ_of_ne_zero hi
        simp only [Nat.succ_eq_add_one, Int.pow_succ, Nat.add_sub_cancel]; omega
    · have : m * (2 ^ i * 2) = m * 2 ^ i * 2 := by rw [Int.mul_assoc]
      rw [hn, Int.add_mul]; omega
theorem RootInv.yes {A n B : Int} (h : RootInv A n B) (hB : 0 < B) (hc : (n + B) * (n + B) ≤ A) : RootInv A (n + B) (B / 2) := by
  obtain ⟨j, hj, hh, m, hm, hn, h2, h3, h4⟩ := h.step hB
  refine ⟨j, m + m + 1, by omega, ?_, hh, ?_, hc, ?_⟩
  · rw [Int.add_mul, ← hn, ← hj]; omega
  · rw [← hj]; exact h2
  · rw [← hj]; exact h4
theorem RootInv.no {A n B : Int} (h : RootInv A n B) (hB : 0 < B) (hc : A < (n + B) * (n + B)) : RootInv A n (B / 2) := by
  obtain ⟨j, hj, hh, m, hm, hn, h2, h3, h4⟩ := h.step hB
  refine ⟨j, m + m, by omega, hn, hh, ?_, h3, ?_⟩
  · rw [← hj]; omega
  · rw [← hj]; exact hc
/-- n is the root of A, rounded down. -/
structure IsRoot (A n : Int) : Prop where
  nn : 0 ≤ n
  le : n * n ≤ A
  lt : A < (n + 1) * (n + 1)
theorem RootInv.done {A n : Int} (h : RootInv A n 0) : IsRoot A n := by
  have hb := h.bounds
  obtain ⟨j, m, hm, hn, hB', h2, h3, h4⟩ := h
  by_cases hj : j = 0
  · subst hj; exact ⟨hb.1, h3, by simpa using h4⟩
  · rw [if_neg hj] at hB'
    have hq : (0 : Int) < 2 ^ (j - 1) := Int.pow_pos (by omega)
    omega
theorem lt_of_sq {a b : Int} (hb : 0 ≤ b) (h : a * a < b * b) : a < b := by
  rcases Int.lt_or_le a b with h' | h'
  · exact h'
  · have := Int.mul_le_mul h' h' hb (by omega); omega
theorem IsRoot.unique {A n m : Int} (h : IsRoot A n) (k : IsRoot A m) : n = m := by
  have a : n < m + 1 := lt_of_sq (by have := k.nn; omega) (by have := h.le; have := k.lt; omega)
  have b : m < n + 1 := lt_of_sq (by have := h.nn; omega) (by have := k.le; have := h.lt; omega)
  omega
theorem IsRoot.bound {A n m : Int} (h : IsRoot A n) (hm : 0 ≤ m) (hA : A < (m + 1) * (m + 1)) : n ≤ m := by
  have a : n < m + 1 := lt_of_sq (by omega) (by have := h.le; omega)
  omega
/-! A -/
open Go.RowKit Go.Proofs
/-- A panic with a misfit that bears an error's number. -/
def Mis (c : Int) : List PanicEntry := [{ v := .iface 123 (.agg #[.int .i64 c]), recovered := false }]
theorem need_ok (c : Int) (w : World) : Calls Tryz.prog 38 #[.bool true, .int .i64 c] w fun e w' => e = .returned (.tuple #[]) ∧ w = w' := by
  go_enter Tryz.func38, Tryz.ntmps38
  go_wp2
  go_end0
  exact ⟨rfl, rfl⟩
theorem need_no (c : Int) (w : World) : Calls Tryz.prog 38 #[.bool false, .int .i64 c] w fun e w' => e = .panicked (Mis c) ∧ w = w' := by
  go_enter Tryz.func38, Tryz.ntmps38
  go_wp2
  exact ⟨rfl, rfl, rfl⟩
theorem ret_int {k : IntKind} {a b : Int} (h : a = b) : Ending.returned (.int k a) = .returned (.int k b) := by rw [h]
theorem size_any (a : Int) (w : World) (h1 : -9223372036854775808 ≤ a) (h2 : a ≤ 9223372036854775807) : Calls Tryz.prog 81 #[.int .i64 a] w fun e w' => e = .returned (.int .u64 (sz a)) ∧ w = w' := by
  by_cases hn : a < 0
  · go_enter Tryz.func81, Tryz.ntmps81
    go_wp2
    go_ret
    exact ⟨ret_int (u64_neg_sz hn h1), rfl⟩
  · go_enter Tryz.func81, Tryz.ntmps81
    go_wp2
    go_ret
    exact ⟨ret_int (sz_pos (by omega)).symm, rfl⟩
theorem sizeInt_any (a : Int) (w : World) (h1 : -9223372036854775808 ≤ a) (h2 : a ≤ 9223372036854775807) : Calls Tryz.prog 113 #[.int .i64 a] w fun e w' => e = .returned (.int .u64 (sz a)) ∧ w = w' := by
  by_cases hn : a < 0
  · go_enter Tryz.func113, Tryz.ntmps113
    go_wp2
    go_ret
    exact ⟨ret_int (u64_neg_sz hn h1), rfl⟩
  · go_enter Tryz.func113, Tryz.ntmps113
    go_wp2
    go_ret
    exact ⟨ret_int (sz_pos (by omega)).symm, rfl⟩
/-- A size with a sign. -/
def sgn (n : Int) (neg : Bool) : Int := if neg then -n else n
theorem signed_ok (n : Int) (neg : Bool) (w : World) (h0 : 0 ≤ n) (h1 : n ≤ 70368744177664) : Calls Tryz.prog 70 #[.int .u64 n, .bool neg] w fun e w' => e = .returned (.int .i64 (sgn n neg)) ∧ w = w' := by
  cases neg
  · go_enter Tryz.func70, Tryz.ntmps70
    go_wp2_with (go_at_call 38; refine (need_ok _ _).mono ?_; rintro e w' ⟨rfl, rfl⟩)
    go_ret
    exact ⟨rfl, rfl⟩
  · go_enter Tryz.func70, Tryz.ntmps70
    go_wp2_with (go_at_call 38; refine (need_ok _ _).mono ?_; rintro e w' ⟨rfl, rfl⟩)
    go_ret
    exact ⟨rfl, rfl⟩
theorem signed_no (n : Int) (neg : Bool) (w : World) (h1 : decide (n ≤ 70368744177664) = false) : Calls Tryz.prog 70 #[.int .u64 n, .bool neg] w fun e w' => e = .panicked (Mis 4) ∧ w = w' := by
  go_enter Tryz.func70, Tryz.ntmps70
  go_wp2_with (go_at_call 38; refine (need_no _ _).mono ?_; rintro e w' ⟨rfl, rfl⟩)
  exact ⟨rfl, rfl, rfl⟩
theorem isNaN_any (a : Int) (w : World) : Calls Tryz.prog 124 #[.int .u64 a] w fun e w' => e = .returned (.bool false) ∧ w = w' := by
  go_enter Tryz.func124, Tryz.ntmps124
  go_wp2
  go_ret
  exact ⟨by simp, rfl⟩
theorem compareU_any (a b : Int) (w : World) : Calls Tryz.prog 103 #[.int .u64 a, .int .u64 b] w fun e w' => e = .returned (.int .i64 (cmpI a b)) ∧ w = w' := by
  rcases Int.lt_trichotomy a b with h | h | h
  · go_enter Tryz.func103, Tryz.ntmps103
    go_wp2_with (go_at_call 124; refine (isNaN_any _ _).mono ?_; rintro e w' ⟨rfl, rfl⟩)
    go_ret
    exact ⟨ret_int (by unfold cmpI; rw [if_pos h]), rfl⟩
  · subst h
    go_enter Tryz.func103, Tryz.ntmps103
    go_wp2_with (go_at_call 124; refine (isNaN_any _ _).mono ?_; rintro e w' ⟨rfl, rfl⟩)
    go_ret
    exact ⟨ret_int (by unfold cmpI; rw [if_neg (by omega), if_neg (by omega)]), rfl⟩
  · go_enter Tryz.func103, Tryz.ntmps103
    go_wp2_with (go_at_call 124; refine (isNaN_any _ _).mono ?_; rintro e w' ⟨rfl, rfl⟩)
    go_ret
    exact ⟨ret_int (by unfold cmpI; rw [if_neg (by omega), if_pos h]), rfl⟩
/-! B -/
open Go.RowKit Go.Proofs
theorem mul64_any (x y : Int) (w : World) (hx0 : 0 ≤ x) (hx : x ≤ 18446744073709551615) (hy0 : 0 ≤ y) (hy : y ≤ 18446744073709551615) :
    Calls Tryz.prog 71 #[.int .u64 x, .int .u64 y] w fun e w' => e = .returned (.tuple #[.int .u64 (hiU (x * y)), .int .u64 (loU (x * y))]) ∧ w = w' := by
  obtain ⟨X, rfl⟩ := Int.eq_ofNat_of_zero_le hx0
  obtain ⟨Y, rfl⟩ := Int.eq_ofNat_of_zero_le hy0
  refine (Tryz.bits_Mul64 X Y (by omega) (by omega) w).mono ?_
  rintro e w' ⟨rfl, rfl⟩
  refine ⟨?_, rfl⟩
  simp only [hiU, loU]
  congr 5
theorem add64_run (x y c : Int) (hx : 0 ≤ x) (hy : 0 ≤ y) (hc0 : 0 ≤ c) (hc : c ≤ 1) (w : World) :
    (callFunc 116 #[.int .u64 x, .int .u64 y, .int .u64 c]).run Tryz.prog w = .ok (.value (.tuple #[.int .u64 (loU (x + y + c)), .int .u64 (hiU (x + y + c))])) w := by
  rw [run_callFunc_extern Tryz.func116 (by kernel_rfl) (by kernel_rfl) (by kernel_rfl) (e := add64Entry) (by kernel_rfl), run_add64 x y c hx hy hc0 hc]
  rfl
theorem product_any (x y : Int) (w : World) (hx0 : 0 ≤ x) (hx : x ≤ 18446744073709551615) (hy0 : 0 ≤ y) (hy : y ≤ 18446744073709551615) :
    Calls Tryz.prog 40 #[.int .u64 x, .int .u64 y] w fun e w' => e = .returned (.agg #[.int .u64 (hiU (x * y)), .int .u64 (loU (x * y))]) ∧ Below w.heap.size w w' := by
  go_enter Tryz.func40, Tryz.ntmps40
  go_wp2_with (go_at_call 71; refine (mul64_any _ _ _ hx0 hx hy0 hy).mono ?_; rintro e w' ⟨rfl, rfl⟩)
  refine bodyPost_ret (v := .agg #[.int .u64 (hiU (x * y)), .int .u64 (loU (x * y))]) (by simp [results, Tryz.results40, go_sem]) rfl ⟨rfl, ?_⟩
  exact (Below.refl _ _).alloc (Nat.le_refl _) _
theorem plus_any (h1 l1 h2 l2 : Int) (w : World) (a1 : 0 ≤ h1) (a2 : 0 ≤ l1) (b1 : 0 ≤ h2) (b2 : 0 ≤ l2) (a3 : l1 ≤ 18446744073709551615) (b3 : l2 ≤ 18446744073709551615) :
    Calls Tryz.prog 82 #[.agg #[.int .u64 h1, .int .u64 l1], .agg #[.int .u64 h2, .int .u64 l2]] w fun e w' =>
      e = .returned (.agg #[.int .u64 (loU (h1 + h2 + hiU (l1 + l2))), .int .u64 (loU (l1 + l2))]) ∧ Below w.heap.size w w' := by
  have r1 := fun w => add64_run l1 l2 0 a2 b2 (by omega) (by omega) w
  have r2 := fun w => add64_run h1 h2 (hiU (l1 + l2)) a1 b1 (by unfold hiU; omega) (by unfold hiU; omega) w
  simp only [Int.add_zero] at r1
  clear a1 a2 a3 b1 b2 b3
  go_enter Tryz.func82, Tryz.ntmps82
  go_wp2
  refine bodyPost_ret (v := .agg #[.int .u64 (loU (h1 + h2 + hiU (l1 + l2))), .int .u64 (loU (l1 + l2))]) (by simp [results, Tryz.results82, go_sem]) rfl ⟨rfl, ?_⟩
  exact (((Below.refl _ _).alloc (Nat.le_refl _) _).alloc (by simp) _).alloc (by simp; omega) _
theorem or2_fst (b : Nat) (x : Int) (w : World) (hc : w.cell? ⟨b, 0, none⟩ = some (.int .i64 x)) (hx : (x != 0) = true) :
    Calls Tryz.prog 102 #[.slice (some ⟨b, 0, none⟩) 2 2] w fun e w' => e = .returned (.int .i64 x) ∧ w = w' := by
  go_enter Tryz.func102, Tryz.ntmps102
  go_wp2
  refine wp_loop_rounds 1 ?_
  rw [rounds_succ]
  go_wp2
  go_ret
  exact ⟨rfl, rfl⟩
theorem or2_snd (b : Nat) (y : Int) (w : World) (hc : w.cell? ⟨b, 0, none⟩ = some (.int .i64 0)) (hd : w.cell? ⟨b, 1, none⟩ = some (.int .i64 y)) :
    Calls Tryz.prog 102 #[.slice (some ⟨b, 0, none⟩) 2 2] w fun e w' => e = .returned (.int .i64 y) ∧ w = w' := by
  by_cases hy : y = 0
  · subst hy
    go_enter Tryz.func102, Tryz.ntmps102
    go_wp2
    refine wp_loop_rounds 3 ?_
    rw [rounds_succ]
    go_wp2
    rw [rounds_succ]
    go_wp2
    rw [rounds_succ]
    go_wp2
    go_ret
    exact ⟨rfl, rfl⟩
  · have hy' : (y != 0) = true := by simpa using hy
    clear hy
    go_enter Tryz.func102, Tryz.ntmps102
    go_wp2
    refine wp_loop_rounds 2 ?_
    rw [rounds_succ]
    go_wp2
    rw [rounds_succ]
    go_wp2
    go_ret
    exact ⟨rfl, rfl⟩
/-- Go's cmp.Or of two. -/
def orI (x y : Int) : Int := if x = 0 then y else x
theorem or2_any (b : Nat) (x y : Int) (w : World) (hc : w.cell? ⟨b, 0, none⟩ = some (.int .i64 x)) (hd : w.cell? ⟨b, 1, none⟩ = some (.int .i64 y)) :
    Calls Tryz.prog 102 #[.slice (some ⟨b, 0, none⟩) 2 2] w fun e w' => e = .returned (.int .i64 (orI x y)) ∧ w = w' := by
  by_cases h : x = 0
  · subst h; exact or2_snd b y w hc hd
  · unfold orI; rw [if_neg h]; exact or2_fst b x w hc (by simpa using h)
theorem wp_region_tail {P : Program} {id : Nat} {Q : Exit → Act → World → Prop} {a : Act} {w : World} {l : List Oper} (n : Nat) (hm : P.follows .mixedOrders = true) (hB : Region.lexTailB .any l.toArray n = true)
    (h : wpStill P l.toArray w.drew (fun a' => wpList P l.toArray Q (l.drop n) a' w.drew) (l.take n) a) : (Code.region id l.toArray true).wp P Q a w :=
  wp_region_still_tail n hm hB h
set_option maxRecDepth 20000 in
theorem compare_any (h1 l1 h2 l2 : Int) (w : World) :
    Calls Tryz.prog 69 #[.agg #[.int .u64 h1, .int .u64 l1], .agg #[.int .u64 h2, .int .u64 l2]] w fun e w' =>
      e = .returned (.int .i64 (orI (cmpI h1 h2) (cmpI l1 l2))) ∧ Below w.heap.size w w' := by
  have c0 : ∀ o1 o2 o3, (((w.alloc o1).alloc o2).alloc (.cells #[.int .i64 (cmpI h1 h2), .int .i64 (cmpI l1 l2)] o3)).cell? ⟨w.heap.size + 1 + 1, 0, none⟩ = some (.int .i64 (cmpI h1 h2)) := by intros; simp [go_sem]
  have c1 : ∀ o1 o2 o3, (((w.alloc o1).alloc o2).alloc (.cells #[.int .i64 (cmpI h1 h2), .int .i64 (cmpI l1 l2)] o3)).cell? ⟨w.heap.size + 1 + 1, 1, none⟩ = some (.int .i64 (cmpI l1 l2)) := by intros; simp [go_sem]
  go_enter Tryz.func69, Tryz.ntmps69
  go_wp2_with fail
  refine wp_region_tail 10 (by kernel_rfl) (by kernel_rfl) ?_
  simp only [List.take_succ_cons, List.take_zero, List.drop_succ_cons, List.drop_zero]
  repeat still_step
  still_call ((compareU_any _ _ _).mono fun e w' h => ⟨h.1, h.2.symm⟩)
  repeat still_step
  still_call ((compareU_any _ _ _).mono fun e w' h => ⟨h.1, h.2.symm⟩)
  refine wpStill_nil ?_
  go_wp2_with (go_at_call 102; refine (or2_any _ (cmpI h1 h2) (cmpI l1 l2) _ (by exact c0 _ _ _) (by exact c1 _ _ _)).mono ?_; rintro e w' ⟨rfl, rfl⟩)
  go_ret
  exact ⟨rfl, ((((Below.refl _ _).alloc (Nat.le_refl _) _).alloc (by simp) _).alloc (by simp; omega) _).drew⟩
/-! C -/
open Go.RowKit Go.Proofs
theorem lz_any (x : Int) (w : World) (h0 : 0 ≤ x) (h1 : x ≤ 18446744073709551615) :
    Calls Tryz.prog 131 #[.int .u64 x] w fun e w' => e = .returned (.int .i64 (64 - (Lib.bitLen x.toNat : Int))) ∧ w = w' :=
  (Tryz.bits_LeadingZeros64 x w h0 h1).mono fun _ _ h => ⟨h.1, h.2.symm⟩
set_option maxRecDepth 100000 in
set_option maxHeartbeats 1000000 in
theorem div64_small (lo y : Int) (w : World) (hl0 : 0 ≤ lo) (hl : lo ≤ 18446744073709551615) (hy0 : 1 ≤ y) (hy : y ≤ 18446744073709551615) :
    Calls Tryz.prog 129 #[.int .u64 0, .int .u64 lo, .int .u64 y] w fun e w' => e = .returned (.tuple #[.int .u64 (lo / y), .int .u64 (lo % y)]) ∧ Below w.heap.size w w' := by
  have hq := Int.ediv_le_self y hl0
  have hq0 := Int.ediv_nonneg hl0 (by omega : 0 ≤ y)
  have hr := Int.emod_nonneg lo (by omega : y ≠ 0)
  have hr' := Int.emod_lt_of_pos lo (by omega : 0 < y)
  have hy' : (y == 0) = false := by simp; omega
  have hyl : decide (y ≤ 0) = false := by simp; omega
  have hyn : ¬ y = 0 := by omega
  go_enter Tryz.func129, Tryz.ntmps129
  go_wp2
  go_quiet (fail)
  go_wp2
  go_ret2
  exact ⟨rfl, below_drewN (Below.refl _ _) _⟩
/-- All that the walk is told of the numbers on the road. -/
structure Road (s U L Y Y1 Y0 L1 L0 : Int) : Prop where
  Y0n : 0 ≤ Y0
  Y0l : Y0 ≤ 4294967295
  Y1n : 2147483648 ≤ Y1
  Y1l : Y1 ≤ 4294967295
  U0 : 0 ≤ U
  UY : U < Y1 * 4294967296 + Y0
  L10 : 0 ≤ L1
  L11 : L1 ≤ 4294967295
  L00 : 0 ≤ L0
  L01 : L0 ≤ 4294967295
  eY : Y = Y1 * 4294967296 + Y0
  eL : L = L1 * 4294967296 + L0
set_option maxRecDepth 100000 in
set_option maxHeartbeats 1000000 in
theorem div64_big (hi lo y : Int) (w : World) (hl0 : 0 ≤ lo) (hl : lo ≤ 18446744073709551615) (hy0 : 1 ≤ y) (hy : y ≤ 18446744073709551615) (hh : 1 ≤ hi) (hhy : hi < y) :
    Calls Tryz.prog 129 #[.int .u64 hi, .int .u64 lo, .int .u64 y] w fun e w' => e = .returned (.tuple #[.int .u64 ((hi * 18446744073709551616 + lo) / y), .int .u64 ((hi * 18446744073709551616 + lo) % y)]) ∧ Below w.heap.size w w' := by
  obtain ⟨s, hs, hs0, hs1, hn0, hn1⟩ := norm_shift y hy0 hy
  have hS : s = (s.toNat : Int) := by omega
  obtain ⟨U, L, eU, eL, hU0, hUY, hL0, hL1, hsh⟩ := shifted hi lo y s.toNat (by omega) (by omega) hl0 hl hn1 hhy
  rw [show 64 - s.toNat = (64 - s).toNat from by omega] at eU
  obtain ⟨Y, hY⟩ : ∃ x, y * 2 ^ s.toNat = x := ⟨_, rfl⟩
  have e1 : IntKind.u64.wrap (y * 2 ^ s.toNat) = Y := by rw [IntWalk.u64_in _ (by omega)]; exact hY
  rw [hY] at hn0 hn1 hUY
  have e3 := and_mask32 Y (by omega) hn1
  obtain ⟨Y1, e2⟩ : ∃ x, Y / 4294967296 = x := ⟨_, rfl⟩
  obtain ⟨Y0, e4⟩ : ∃ x, Y % 4294967296 = x := ⟨_, rfl⟩
  rw [e4] at e3
  have e6 := and_mask32 L hL0 hL1
  obtain ⟨L1, e5⟩ : ∃ x, L / 4294967296 = x := ⟨_, rfl⟩
  obtain ⟨L0, e7⟩ : ∃ x, L % 4294967296 = x := ⟨_, rfl⟩
  rw [e7] at e6
  have RD : Hid (Road s U L Y Y1 Y0 L1 L0) := ⟨by omega, by omega, by omega, by omega, hU0, by omega, by omega, by omega, by omega, by omega, by omega, by omega⟩
  have HS := Lib.hid hs
  have HH := Lib.hid hsh
  have HY := Lib.hid hY
  clear hs hsh hY e4 e7 hS
  have DI : Hid (Dig U Y1 ((U * 4294967296 + L1) / (Y1 * 4294967296 + Y0)) (U / Y1) (U % Y1)) := by
    have r := RD.out
    exact Dig.start r.U0 r.UY r.Y1n r.Y1l r.Y0n r.Y0l r.L10 r.L11
  obtain ⟨QY, eQY, hQY, hQR⟩ : ∃ QY, IntKind.u64.wrap (U / Y1 * Y1) = QY ∧ QY ≤ U ∧ Hid (U - QY = U % Y1) := by
    have d := DI.out
    have := d.e; have := d.r0
    have := Int.mul_nonneg d.q0 (by have := RD.out.Y1n; omega : 0 ≤ Y1)
    refine ⟨U / Y1 * Y1, IntWalk.u64_in _ (by omega), by omega, ?_⟩
    show U - U / Y1 * Y1 = U % Y1
    omega
  have hQY0 : U - QY ≤ U := by
    have := hQR.out; have := DI.out.r0; have := DI.out.q0
    have := Int.mul_nonneg DI.out.q0 (by have := RD.out.Y1n; omega : 0 ≤ Y1)
    have := DI.out.e; omega
  have hYp : 0 < Y1 * 4294967296 + Y0 := by have := RD.out.Y1n; have := RD.out.Y0n; omega
  -- the first digit, and what is left
  obtain ⟨Q1, hQ1⟩ : ∃ x, (U * 4294967296 + L1) / (Y1 * 4294967296 + Y0) = x := ⟨_, rfl⟩
  have q10 : 0 ≤ Q1 := by rw [← hQ1]; exact Int.ediv_nonneg (by have := RD.out.L10; omega) (by omega)
  have q11 : Q1 ≤ 4294967295 := by have := dig_lt (d := L1) RD.out.UY hYp RD.out.L11; omega
  obtain ⟨T, hT, T0, T1⟩ : ∃ T, T = U * 4294967296 + L1 - Q1 * Y ∧ 0 ≤ T ∧ T < Y1 * 4294967296 + Y0 := by
    have := dig_rest (U := U) (d := L1) hYp
    rw [hQ1, ← RD.out.eY] at this
    have := RD.out.eY
    exact ⟨_, rfl, by omega, by omega⟩
  obtain ⟨A, eA, B, eB, C, eC, eT⟩ : ∃ A, IntKind.u64.wrap (U * 4294967296) = A ∧ ∃ B, IntKind.u64.wrap (A + L1) = B ∧ ∃ C, IntKind.u64.wrap (Q1 * Y) = C ∧ IntKind.u64.wrap (B - C) = T := by
    refine ⟨_, rfl, _, rfl, _, rfl, ?_⟩
    have := RD.out.eY; have := RD.out.Y1l; have := RD.out.Y0l
    simp only [IntKind.wrap_u64]
    omega
  -- the second digit
  obtain ⟨Q0, hQ0⟩ : ∃ x, (T * 4294967296 + L0) / (Y1 * 4294967296 + Y0) = x := ⟨_, rfl⟩
  have q00 : 0 ≤ Q0 := by rw [← hQ0]; exact Int.ediv_nonneg (by have := RD.out.L00; omega) (by omega)
  have q01 : Q0 ≤ 4294967295 := by have := dig_lt (d := L0) T1 hYp RD.out.L01; omega
  obtain ⟨R, hR, R0, R1⟩ : ∃ R, R = T * 4294967296 + L0 - Q0 * Y ∧ 0 ≤ R ∧ R < Y1 * 4294967296 + Y0 := by
    have := dig_rest (U := T) (d := L0) hYp
    rw [hQ0, ← RD.out.eY] at this
    have := RD.out.eY
    exact ⟨_, rfl, by omega, by omega⟩
  obtain ⟨A2, eA2, B2, eB2, C2, eC2, eR⟩ : ∃ A, IntKind.u64.wrap (T * 4294967296) = A ∧ ∃ B, IntKind.u64.wrap (A + L0) = B ∧ ∃ C, IntKind.u64.wrap (Q0 * Y) = C ∧ IntKind.u64.wrap (B - C) = R := by
    refine ⟨_, rfl, _, rfl, _, rfl, ?_⟩
    have := RD.out.eY; have := RD.out.Y1l; have := RD.out.Y0l
    simp only [IntKind.wrap_u64]
    omega
  have DI2 : Hid (Dig T Y1 ((T * 4294967296 + L0) / (Y1 * 4294967296 + Y0)) (T / Y1) (T % Y1)) := by
    have r := RD.out
    exact Dig.start T0 T1 r.Y1n r.Y1l r.Y0n r.Y0l r.L00 r.L01
  obtain ⟨QT, eQT, hQT, hQTR⟩ : ∃ QY, IntKind.u64.wrap (T / Y1 * Y1) = QY ∧ QY ≤ T ∧ Hid (T - QY = T % Y1) := by
    have d := DI2.out
    have := d.e; have := d.r0
    have := Int.mul_nonneg d.q0 (by have := RD.out.Y1n; omega : 0 ≤ Y1)
    have := RD.out.eY
    refine ⟨T / Y1 * Y1, IntWalk.u64_in _ (by omega), by omega, ?_⟩
    show T - T / Y1 * Y1 = T % Y1
    omega
  have hQT0 : T - QT ≤ T := by
    have := hQTR.out; have := DI2.out.r0; have := DI2.out.q0
    have := Int.mul_nonneg DI2.out.q0 (by have := RD.out.Y1n; omega : 0 ≤ Y1)
    have := DI2.out.e; omega
  have FIN : Hid ((hi * 18446744073709551616 + lo) / y = Q1 * 4294967296 + Q0 ∧ (hi * 18446744073709551616 + lo) % y = R / 2 ^ s.toNat) := by
    have := RD.out.eY
    refine dig_join (Int.pow_pos (by omega)) (U := U) (L1 := L1) (L0 := L0) (T := T) ?_ ?_ ?_ R0 ?_ (by omega)
    · rw [HH.out, RD.out.eL]
    · rw [HY.out]; exact hT
    · rw [HY.out]; exact hR
    · rw [HY.out]; omega
  have GQ1 := Lib.hid hQ1; have GQ0 := Lib.hid hQ0
  have T2 : T ≤ 18446744073709551615 := by have := RD.out.Y1l; have := RD.out.Y0l; omega
  have R2 : R ≤ 18446744073709551615 := by have := RD.out.Y1l; have := RD.out.Y0l; omega
  have HT1 := Lib.hid T1
  clear hQ1 hQ0 hT hR T1 R1 hYp
  have n1 : ¬ Y1 = 0 := by have := RD.out.Y1n; omega
  have n2 : 1 ≤ Y1 := by have := RD.out.Y1n; omega
  have n3 : U ≤ 18446744073709551615 := by omega
  have hy' : (y == 0) = false := by simp; omega
  have hyl : decide (y ≤ hi) = false := by simp; omega
  have hh0 : (hi == 0) = false := by simp; omega
  clear hUY
  have rd := RD.out
  have b1 := rd.Y1n; have b2 := rd.Y1l; have b3 := rd.L10; have b4 := rd.L11; have b5 := rd.Y0n; have b6 := rd.Y0l; have b7 := rd.L00; have b8 := rd.L01
  clear rd
  go_enter Tryz.func129, Tryz.ntmps129
  go_upto_block 0 with (go_at_call 131; refine (lz_any _ _ (by omega) (by omega)).mono ?_; rw [HS.out]; rintro e w' ⟨rfl, rfl⟩)
  go_cut [15] (fun q1 wc => q1 = .int .u64 Q1 ∧ wc = w)
  case first =>
    go_wp2_with fail
    clear eQY hQY hQY0 eA eB eC eT eA2 eB2 eC2 eR eQT hQT hQT0 T0 T2 R0 R2
    have hUY := RD.out.UY
    go_loop [15, 16] (fun a b => ∃ q r : Int, a = .int .u64 q ∧ b = .int .u64 r ∧ Dig U Y1 ((U * 4294967296 + L1) / (Y1 * 4294967296 + Y0)) q r) (fun a _ => (intOf a).toNat)
    case atStart => exact ⟨_, _, rfl, rfl, by rw [hQR.out]; exact DI.out⟩
    case round =>
      obtain ⟨q, r, rfl, rfl, hd⟩ := hrel
      have c1 := hd.q0; have c2 := hd.qb; have c3 := hd.r0; have c4 := hd.r1
      have HD := Lib.hid hd
      clear hd
      by_cases hq : 4294967296 ≤ q
      · have hm : Hid ((U * 4294967296 + L1) / (Y1 * 4294967296 + Y0) ≤ q - 1) := by have := GQ1.out; show _ ≤ _; omega
        by_cases hr : 4294967296 ≤ r + Y1
        · go_wp2_with fail
          go_meet
          case rel => exact ⟨by rw [HD.out.stop hm.out (GQ1.out ▸ q10) (by omega) (by omega) b5 b6 (by omega) hr, GQ1.out], rfl⟩
        · go_wp2_with fail
          go_round
          case rel => exact ⟨_, _, rfl, rfl, HD.out.next hm.out (GQ1.out ▸ q10) (by omega) (by omega)⟩
          case measure => simp [intOf]; omega
      · obtain ⟨M, eM, hMM⟩ : ∃ M, IntKind.u64.wrap (q * Y0) = M ∧ Hid (M = q * Y0) := by
          refine ⟨q * Y0, IntWalk.u64_in _ ?_, rfl⟩
          have x1 := Int.mul_nonneg c1 b5
          have x2 := Int.mul_le_mul (show q ≤ 4294967295 by omega) b6 b5 (by omega)
          omega
        by_cases hM : 4294967296 * r + L1 < M
        · have hm : Hid ((U * 4294967296 + L1) / (Y1 * 4294967296 + Y0) ≤ q - 1) := HD.out.more (by omega) (by rw [← hMM.out]; exact hM)
          have hq1 : 1 ≤ q := by have := hm.out; rw [GQ1.out] at this; omega
          by_cases hr : 4294967296 ≤ r + Y1
          · go_wp2_with fail
            go_meet
            case rel => exact ⟨by rw [HD.out.stop hm.out (GQ1.out ▸ q10) (by omega) (by omega) b5 b6 (by omega) hr, GQ1.out], rfl⟩
          · go_wp2_with fail
            go_round
            case rel => exact ⟨_, _, rfl, rfl, HD.out.next hm.out (GQ1.out ▸ q10) (by omega) (by omega)⟩
            case measure => simp [intOf]; omega
        · go_wp2_with fail
          go_meet
          case rel => exact ⟨by rw [HD.out.exit (by omega) (by rw [← hMM.out]; omega), GQ1.out], rfl⟩
  case rest =>
    obtain ⟨rfl, rfl⟩ := hcut
    clear eQY hQY hQY0
    go_upto_block 2 with fail
    go_cut [18] (fun q1 wx => q1 = .int .u64 Q0 ∧ wx = wc)
    case first =>
      go_wp2_with fail
      clear eA eB eC eT eA2 eB2 eC2 eR eQT hQT hQT0 R0 R2
      have hTY := HT1.out
      go_loop [18, 16] (fun a b => ∃ q r : Int, a = .int .u64 q ∧ b = .int .u64 r ∧ Dig T Y1 ((T * 4294967296 + L0) / (Y1 * 4294967296 + Y0)) q r) (fun a _ => (intOf a).toNat)
      case atStart => exact ⟨_, _, rfl, rfl, by rw [hQTR.out]; exact DI2.out⟩
      case round =>
        obtain ⟨q, r, rfl, rfl, hd⟩ := hrel
        have c1 := hd.q0; have c2 := hd.qb; have c3 := hd.r0; have c4 := hd.r1
        have HD := Lib.hid hd
        clear hd
        by_cases hq : 4294967296 ≤ q
        · have hm : Hid ((T * 4294967296 + L0) / (Y1 * 4294967296 + Y0) ≤ q - 1) := by have := GQ0.out; show _ ≤ _; omega
          by_cases hr : 4294967296 ≤ r + Y1
          · go_wp2_with fail
            go_meet
            case rel => exact ⟨by rw [HD.out.stop hm.out (GQ0.out ▸ q00) (by omega) (by omega) b5 b6 (by omega) hr, GQ0.out], rfl⟩
          · go_wp2_with fail
            go_round
            case rel => exact ⟨_, _, rfl, rfl, HD.out.next hm.out (GQ0.out ▸ q00) (by omega) (by omega)⟩
            case measure => simp [intOf]; omega
        · obtain ⟨M, eM, hMM⟩ : ∃ M, IntKind.u64.wrap (q * Y0) = M ∧ Hid (M = q * Y0) := by
            refine ⟨q * Y0, IntWalk.u64_in _ ?_, rfl⟩
            have x1 := Int.mul_nonneg c1 b5
            have x2 := Int.mul_le_mul (show q ≤ 4294967295 by omega) b6 b5 (by omega)
            omega
          by_cases hM : 4294967296 * r + L0 < M
          · have hm : Hid ((T * 4294967296 + L0) / (Y1 * 4294967296 + Y0) ≤ q - 1) := HD.out.more (by omega) (by rw [← hMM.out]; exact hM)
            have hq1 : 1 ≤ q := by have := hm.out; rw [GQ0.out] at this; omega
            by_cases hr : 4294967296 ≤ r + Y1
            · go_wp2_with fail
              go_meet
              case rel => exact ⟨by rw [HD.out.stop hm.out (GQ0.out ▸ q00) (by omega) (by omega) b5 b6 (by omega) hr, GQ0.out], rfl⟩
            · go_wp2_with fail
              go_round
              case rel => exact ⟨_, _, rfl, rfl, HD.out.next hm.out (GQ0.out ▸ q00) (by omega) (by omega)⟩
              case measure => simp [intOf]; omega
          · go_wp2_with fail
            go_meet
            case rel => exact ⟨by rw [HD.out.exit (by omega) (by rw [← hMM.out]; omega), GQ0.out], rfl⟩
    case rest =>
      obtain ⟨rfl, rfl⟩ := hcut
      clear eA eB eC eT eQT hQT hQT0
      go_wp2_with fail
      go_ret2
      exact ⟨by rw [FIN.out.1, FIN.out.2]; rfl, Below.refl _ _⟩
/-! D -/
open Go.RowKit Go.Proofs
/-- Old cells and old marks read as before. -/
theorem bcell {W w1 : World} (hb : Below W.heap.size W w1) : (∀ b o, b < W.heap.size → w1.cell? ⟨b, o, none⟩ = W.cell? ⟨b, o, none⟩) ∧ (∀ b o, b < W.heap.size → w1.frozen? ⟨b, o, none⟩ = W.frozen? ⟨b, o, none⟩) :=
  ⟨fun b o h => hb.cell (p := ⟨b, o, none⟩) h, fun b o h => hb.frozen (p := ⟨b, o, none⟩) h⟩
theorem productW (x y : Int) (w : World) (hx0 : 0 ≤ x) (hx : x ≤ 18446744073709551615) (hy0 : 0 ≤ y) (hy : y ≤ 18446744073709551615) :
    Calls Tryz.prog 40 #[.int .u64 x, .int .u64 y] w fun e w' => ∃ h l : Int, e = .returned (.agg #[.int .u64 h, .int .u64 l]) ∧ Hid (InW h l (x * y)) ∧ Below w.heap.size w w' := by
  refine (product_any x y w hx0 hx hy0 hy).mono ?_
  rintro e w' ⟨rfl, hb⟩
  refine ⟨_, _, rfl, InW.mk' (Int.mul_nonneg hx0 hy0) ?_, hb⟩
  have := Int.mul_le_mul hx hy hy0 (by omega)
  omega
theorem plusW {h1 l1 n1 h2 l2 n2 : Int} (H : InW h1 l1 n1) (K : InW h2 l2 n2) (hb : n1 + n2 < 340282366920938463463374607431768211456) (w : World) :
    Calls Tryz.prog 82 #[.agg #[.int .u64 h1, .int .u64 l1], .agg #[.int .u64 h2, .int .u64 l2]] w fun e w' =>
      ∃ h l : Int, e = .returned (.agg #[.int .u64 h, .int .u64 l]) ∧ Hid (InW h l (n1 + n2)) ∧ Below w.heap.size w w' := by
  refine (plus_any h1 l1 h2 l2 w H.h0 H.l0 K.h0 K.l0 H.l1 K.l1).mono ?_
  rintro e w' ⟨rfl, hbl⟩
  exact ⟨_, _, rfl, H.plus K hb, hbl⟩
theorem compareW {h1 l1 n1 h2 l2 n2 : Int} (H : InW h1 l1 n1) (K : InW h2 l2 n2) (w : World) :
    Calls Tryz.prog 69 #[.agg #[.int .u64 h1, .int .u64 l1], .agg #[.int .u64 h2, .int .u64 l2]] w fun e w' =>
      e = .returned (.int .i64 (cmpI n1 n2)) ∧ Below w.heap.size w w' := by
  refine (compare_any h1 l1 h2 l2 w).mono ?_
  rintro e w' ⟨rfl, hb⟩
  exact ⟨ret_int (by unfold orI; exact (InW.cmp H K).symm), hb⟩
theorem over_no {h l : Int} (d : Int) (w : World) (hh : d ≤ h) :
    Calls Tryz.prog 126 #[.agg #[.int .u64 h, .int .u64 l], .int .u64 d] w fun e w' => e = .returned (.tuple #[.int .u64 0, .int .u64 0, .bool false]) ∧ Below w.heap.size w w' := by
  go_enter Tryz.func126, Tryz.ntmps126
  go_wp2
  go_ret3
  exact ⟨rfl, (Below.refl _ _).alloc (Nat.le_refl _) _⟩
theorem div64W {h l n : Int} (H : InW h l n) (d : Int) (w : World) (h1 : 1 ≤ d) (h2 : d ≤ 18446744073709551615) (hh : h < d) :
    Calls Tryz.prog 129 #[.int .u64 h, .int .u64 l, .int .u64 d] w fun e w' => e = .returned (.tuple #[.int .u64 (n / d), .int .u64 (n % d)]) ∧ Below w.heap.size w w' := by
  have a := H.h0; have b := H.l0; have c := H.l1; have e := H.e
  by_cases hz : h = 0
  · subst hz
    rw [show n = l by omega]
    exact div64_small l d w b c h1 h2
  · rw [← e]
    exact div64_big h l d w b c h1 h2 (by omega) hh
theorem over_ok {h l n : Int} (H : InW h l n) (d : Int) (w : World) (h1 : 1 ≤ d) (h2 : d ≤ 18446744073709551615) (hh : h < d) :
    Calls Tryz.prog 126 #[.agg #[.int .u64 h, .int .u64 l], .int .u64 d] w fun e w' => e = .returned (.tuple #[.int .u64 (n / d), .int .u64 (n % d), .bool true]) ∧ Below w.heap.size w w' := by
  have HH := Lib.hid H
  clear H
  go_enter Tryz.func126, Tryz.ntmps126
  go_wp2_with (go_at_call 129; refine (div64W HH.out _ _ h1 h2 hh).mono ?_; rintro e w' ⟨rfl, hb⟩)
  go_ret3
  exact ⟨rfl, ((Below.refl _ _).alloc (Nat.le_refl _) _).trans (hb.mono (by simp))⟩
/-- Whether a size with a rest is rounded to the next one, by way k (63: cut, 64: down, 65: up, 66: near). -/
def rndB (k : Nat) (half : Int) (neg : Bool) : Bool := if k = 63 then false else if k = 64 then neg else if k = 65 then !neg else decide (0 ≤ half)
theorem rnd119 (half : Int) (neg : Bool) (w : World) : Calls Tryz.prog 63 #[.int .i64 half, .bool neg] w fun e w' => e = .returned (.bool (rndB 63 half neg)) ∧ w = w' := by
  go_enter Tryz.func63, Tryz.ntmps63
  go_wp2
  go_ret
  exact ⟨rfl, rfl⟩
theorem rnd120 (half : Int) (neg : Bool) (w : World) : Calls Tryz.prog 64 #[.int .i64 half, .bool neg] w fun e w' => e = .returned (.bool (rndB 64 half neg)) ∧ w = w' := by
  go_enter Tryz.func64, Tryz.ntmps64
  go_wp2
  go_ret
  exact ⟨rfl, rfl⟩
theorem rnd121 (half : Int) (neg : Bool) (w : World) : Calls Tryz.prog 65 #[.int .i64 half, .bool neg] w fun e w' => e = .returned (.bool (rndB 65 half neg)) ∧ w = w' := by
  go_enter Tryz.func65, Tryz.ntmps65
  go_wp2
  go_ret
  exact ⟨rfl, rfl⟩
theorem rnd122 (half : Int) (neg : Bool) (w : World) : Calls Tryz.prog 66 #[.int .i64 half, .bool neg] w fun e w' => e = .returned (.bool (rndB 66 half neg)) ∧ w = w' := by
  go_enter Tryz.func66, Tryz.ntmps66
  go_wp2
  go_ret
  exact ⟨rfl, rfl⟩
theorem ways_ok (how : Int) (w : World) (h0 : 0 ≤ how) (h1 : how ≤ 3) : Calls Tryz.prog 37 #[.int .i64 how] w fun e w' => e = .returned (.func (.func (63 + how.toNat)) #[] #[]) ∧ w = w' := by
  have : how = 0 ∨ how = 1 ∨ how = 2 ∨ how = 3 := by omega
  rcases this with rfl | rfl | rfl | rfl
  all_goals
    go_enter Tryz.func37, Tryz.ntmps37
    go_wp2
    go_ret
    exact ⟨rfl, rfl⟩
theorem ways_no (how : Int) (w : World) (h : how < 0 ∨ 3 < how) : Calls Tryz.prog 37 #[.int .i64 how] w fun e w' => e = .panicked (Mis 2) ∧ w = w' := by
  have e0 : (how == 0) = false := by simp; omega
  have e1 : (how == 1) = false := by simp; omega
  have e2 : (how == 2) = false := by simp; omega
  have e3 : (how == 3) = false := by simp; omega
  clear h
  go_enter Tryz.func37, Tryz.ntmps37
  go_wp2
  exact ⟨rfl, rfl, rfl⟩
/-! Q -/
open Go.RowKit
/-- A world in which nothing that w had has turned. -/
structure BW (w : World) where
  tw : World
  same : Below w.heap.size w tw
instance (w : World) : Nonempty (BW w) := ⟨w, Below.refl _ _⟩
theorem BW.cell {w : World} (X : BW w) (b o : Nat) (h : b < w.heap.size) : X.tw.cell? ⟨b, o, none⟩ = w.cell? ⟨b, o, none⟩ := X.same.cell (p := ⟨b, o, none⟩) h
theorem BW.size {w : World} (X : BW w) : w.heap.size ≤ X.tw.heap.size := X.same.size
theorem wp_region_quietB {P : Program} {id : Nat} {Q : Exit → Act → World → Prop} {a : Act} {w : World} {l : List Oper} (hm : P.follows .mixedOrders = true) (hB : Region.lexB .any l.toArray = true)
    (h : wpQuiet P l.toArray (fun w' => ∃ X : BW w, w' = X.tw) (fun a' => ∀ w', (∃ X : BW w, w' = X.tw) → Q .normal a' w') l a) : (Code.region id l.toArray true).wp P Q a w :=
  wp_region_quiet (C := fun w' => ∃ X : BW w, w' = X.tw) hm hB ⟨⟨w.drew, (Below.refl _ _).drew⟩, rfl⟩ (by simpa using h)
/-- A callee's contract, met in such a world. -/
theorem quietB {P : Program} {f : FuncId} {args : Array Value} {w : World} {X : BW w} {v : Value} (h : Calls P f args X.tw fun e w' => e = .returned v ∧ Below X.tw.heap.size X.tw w') :
    Calls P f args X.tw fun e w'' => e = .returned v ∧ ∃ Y : BW w, w'' = Y.tw :=
  h.mono fun _ w'' ⟨he, hb⟩ => ⟨he, ⟨⟨w'', X.same.trans (hb.mono X.same.size)⟩, rfl⟩⟩
theorem quietS {P : Program} {f : FuncId} {args : Array Value} {w : World} {X : BW w} {v : Value} (h : Calls P f args X.tw fun e w' => e = .returned v ∧ X.tw = w') :
    Calls P f args X.tw fun e w'' => e = .returned v ∧ ∃ Y : BW w, w'' = Y.tw :=
  h.mono fun _ _ ⟨he, hb⟩ => ⟨he, ⟨X, hb.symm⟩⟩
/-! E -/
open Go.RowKit Go.Proofs
/-- Whether a quotient is rounded to the next size. -/
def bump (k : Nat) (r d : Int) (neg : Bool) : Bool := decide (0 < r) && rndB k (cmpI (r + r) d) neg
def b2i (b : Bool) : Int := if b then 1 else 0
theorem quot_big {h l : Int} (k : Nat) (d : Int) (neg : Bool) (w : World) (hh : d ≤ h) :
    Calls Tryz.prog 112 #[.agg #[.int .u64 h, .int .u64 l], .int .u64 d, .bool neg, .func (.func k) #[] #[]] w fun e w' => e = .panicked (Mis 4) ∧ Below w.heap.size w w' := by
  go_enter Tryz.func112, Tryz.ntmps112
  go_wp2_with (first
    | (go_at_call 126; refine (over_no _ _ hh).mono ?_; rintro e w1 ⟨rfl, hb⟩)
    | (go_at_call 38; refine (need_no _ _).mono ?_; rintro e w' ⟨rfl, rfl⟩))
  exact ⟨rfl, rfl, ((Below.refl _ _).alloc (Nat.le_refl _) _).trans (hb.mono (by simp))⟩
/-- What quotient comes to. -/
def QuotOut (w : World) (q : Int) (neg : Bool) (e : Ending) (w' : World) : Prop :=
  (if q ≤ 70368744177664 then e = .returned (.int .i64 (sgn q neg)) else e = .panicked (Mis 4)) ∧ Below w.heap.size w w'
set_option maxHeartbeats 1000000 in
/-- No rest: nothing is rounded. -/
theorem quot_even {h l q : Int} (k : Nat) (d : Int) (neg : Bool) (w : World)
    (OV : Hid (∀ w, Calls Tryz.prog 126 #[.agg #[.int .u64 h, .int .u64 l], .int .u64 d] w fun e w' => e = .returned (.tuple #[.int .u64 q, .int .u64 0, .bool true]) ∧ Below w.heap.size w w')) (hq0 : 0 ≤ q) :
    Calls Tryz.prog 112 #[.agg #[.int .u64 h, .int .u64 l], .int .u64 d, .bool neg, .func (.func k) #[] #[]] w (QuotOut w q neg) := by
  by_cases hs : q ≤ 70368744177664
  · have HS := Lib.hid hs
    go_enter Tryz.func112, Tryz.ntmps112
    go_wp2_with (first
        | (go_at_call 126; refine (OV.out _).mono ?_; rintro e w1 ⟨rfl, hb1⟩)
        | (go_at_call 38; refine (need_ok _ _).mono ?_; rintro e w' ⟨rfl, rfl⟩)
        | (go_at_call 70; refine (signed_ok _ _ _ (by omega) (by omega)).mono ?_; rintro e w' ⟨rfl, rfl⟩))
    go_ret
    exact ⟨by rw [if_pos HS.out]; rfl, ((Below.refl _ _).alloc (Nat.le_refl _) _).trans (hb1.mono (by simp))⟩
  · have HS : Hid (70368744177664 < q) := Int.not_le.mp hs
    have hs' : decide (q ≤ 70368744177664) = false := by simpa using hs
    clear hs
    go_enter Tryz.func112, Tryz.ntmps112
    go_wp2_with (first
        | (go_at_call 126; refine (OV.out _).mono ?_; rintro e w1 ⟨rfl, hb1⟩)
        | (go_at_call 38; refine (need_ok _ _).mono ?_; rintro e w' ⟨rfl, rfl⟩)
        | (go_at_call 70; refine (signed_no _ _ _ hs').mono ?_; rintro e w' ⟨rfl, rfl⟩))
    exact ⟨rfl, by rw [if_neg (Int.not_le.mpr HS.out)], ((Below.refl _ _).alloc (Nat.le_refl _) _).trans (hb1.mono (by simp))⟩
set_option maxHeartbeats 2000000 in
theorem quot_flat {h l q r : Int} (k : Nat) (d : Int) (neg : Bool) (w : World) (h2 : d ≤ 18446744073709551615)
    (OV : Hid (∀ w, Calls Tryz.prog 126 #[.agg #[.int .u64 h, .int .u64 l], .int .u64 d] w fun e w' => e = .returned (.tuple #[.int .u64 q, .int .u64 r, .bool true]) ∧ Below w.heap.size w w')) (hq0 : 0 ≤ q) (_hq1 : q ≤ 18446744073709551615)
    (hr0 : 0 ≤ r) (hr1 : r < d) (hr : 0 < r) (GB : Hid (rndB k (cmpI (r + r) d) neg = false)) (hk : k = 63 ∨ k = 64 ∨ k = 65 ∨ k = 66) :
    Calls Tryz.prog 112 #[.agg #[.int .u64 h, .int .u64 l], .int .u64 d, .bool neg, .func (.func k) #[] #[]] w (QuotOut w (q) neg) := by
  by_cases hs : q ≤ 70368744177664
  · have HS := Lib.hid hs
    rcases hk with rfl | rfl | rfl | rfl
    all_goals
      go_enter Tryz.func112, Tryz.ntmps112
      go_wp2_with (first
          | (go_at_call 126; refine (OV.out _).mono ?_; rintro e w1 ⟨rfl, hb1⟩)
          | (go_at_call 38; refine (need_ok _ _).mono ?_; rintro e w' ⟨rfl, rfl⟩)
          | (go_at_call 82; refine (plusW (InW.small hr0 (by omega)) (InW.small hr0 (by omega)) (by omega) _).mono ?_; rintro e w2 ⟨hh, ll, rfl, hW, hb2⟩)
          | (go_at_call 69; refine (compareW hW.out (InW.small (by omega) h2) _).mono ?_; rintro e w3 ⟨rfl, hb3⟩)
          | (go_at_call 63; refine (rnd119 _ _ _).mono ?_; rw [GB.out]; rintro e w' ⟨rfl, rfl⟩)
          | (go_at_call 64; refine (rnd120 _ _ _).mono ?_; rw [GB.out]; rintro e w' ⟨rfl, rfl⟩)
          | (go_at_call 65; refine (rnd121 _ _ _).mono ?_; rw [GB.out]; rintro e w' ⟨rfl, rfl⟩)
          | (go_at_call 66; refine (rnd122 _ _ _).mono ?_; rw [GB.out]; rintro e w' ⟨rfl, rfl⟩)
          | (go_at_call 70; refine (signed_ok _ _ _ (by omega) (by omega)).mono ?_; rintro e w' ⟨rfl, rfl⟩))
      go_ret
      exact ⟨by rw [if_pos HS.out]; rfl, ((Below.refl _ _).alloc (Nat.le_refl _) _).trans (((hb1.trans (hb2.mono hb1.size)).trans (hb3.mono (Nat.le_trans hb1.size hb2.size))).mono (by simp))⟩
  · have HS : Hid (70368744177664 < q) := Int.not_le.mp hs
    have hs' : decide (q ≤ 70368744177664) = false := by simpa using hs
    clear hs
    rcases hk with rfl | rfl | rfl | rfl
    all_goals
      go_enter Tryz.func112, Tryz.ntmps112
      go_wp2_with (first
          | (go_at_call 126; refine (OV.out _).mono ?_; rintro e w1 ⟨rfl, hb1⟩)
          | (go_at_call 38; refine (need_ok _ _).mono ?_; rintro e w' ⟨rfl, rfl⟩)
          | (go_at_call 82; refine (plusW (InW.small hr0 (by omega)) (InW.small hr0 (by omega)) (by omega) _).mono ?_; rintro e w2 ⟨hh, ll, rfl, hW, hb2⟩)
          | (go_at_call 69; refine (compareW hW.out (InW.small (by omega) h2) _).mono ?_; rintro e w3 ⟨rfl, hb3⟩)
          | (go_at_call 63; refine (rnd119 _ _ _).mono ?_; rw [GB.out]; rintro e w' ⟨rfl, rfl⟩)
          | (go_at_call 64; refine (rnd120 _ _ _).mono ?_; rw [GB.out]; rintro e w' ⟨rfl, rfl⟩)
          | (go_at_call 65; refine (rnd121 _ _ _).mono ?_; rw [GB.out]; rintro e w' ⟨rfl, rfl⟩)
          | (go_at_call 66; refine (rnd122 _ _ _).mono ?_; rw [GB.out]; rintro e w' ⟨rfl, rfl⟩)
          | (go_at_call 70; refine (signed_no _ _ _ hs').mono ?_; rintro e w' ⟨rfl, rfl⟩))
      exact ⟨rfl, by rw [if_neg (Int.not_le.mpr HS.out)], ((Below.refl _ _).alloc (Nat.le_refl _) _).trans (((hb1.trans (hb2.mono hb1.size)).trans (hb3.mono (Nat.le_trans hb1.size hb2.size))).mono (by simp))⟩
set_option maxHeartbeats 2000000 in
theorem quot_up {h l q r : Int} (k : Nat) (d : Int) (neg : Bool) (w : World) (h2 : d ≤ 18446744073709551615)
    (OV : Hid (∀ w, Calls Tryz.prog 126 #[.agg #[.int .u64 h, .int .u64 l], .int .u64 d] w fun e w' => e = .returned (.tuple #[.int .u64 q, .int .u64 r, .bool true]) ∧ Below w.heap.size w w')) (hq0 : 0 ≤ q) (hq1 : q + 1 ≤ 18446744073709551615)
    (hr0 : 0 ≤ r) (hr1 : r < d) (hr : 0 < r) (GB : Hid (rndB k (cmpI (r + r) d) neg = true)) (hk : k = 63 ∨ k = 64 ∨ k = 65 ∨ k = 66) :
    Calls Tryz.prog 112 #[.agg #[.int .u64 h, .int .u64 l], .int .u64 d, .bool neg, .func (.func k) #[] #[]] w (QuotOut w (q + 1) neg) := by
  by_cases hs : q + 1 ≤ 70368744177664
  · have HS := Lib.hid hs
    rcases hk with rfl | rfl | rfl | rfl
    all_goals
      go_enter Tryz.func112, Tryz.ntmps112
      go_wp2_with (first
          | (go_at_call 126; refine (OV.out _).mono ?_; rintro e w1 ⟨rfl, hb1⟩)
          | (go_at_call 38; refine (need_ok _ _).mono ?_; rintro e w' ⟨rfl, rfl⟩)
          | (go_at_call 82; refine (plusW (InW.small hr0 (by omega)) (InW.small hr0 (by omega)) (by omega) _).mono ?_; rintro e w2 ⟨hh, ll, rfl, hW, hb2⟩)
          | (go_at_call 69; refine (compareW hW.out (InW.small (by omega) h2) _).mono ?_; rintro e w3 ⟨rfl, hb3⟩)
          | (go_at_call 63; refine (rnd119 _ _ _).mono ?_; rw [GB.out]; rintro e w' ⟨rfl, rfl⟩)
          | (go_at_call 64; refine (rnd120 _ _ _).mono ?_; rw [GB.out]; rintro e w' ⟨rfl, rfl⟩)
          | (go_at_call 65; refine (rnd121 _ _ _).mono ?_; rw [GB.out]; rintro e w' ⟨rfl, rfl⟩)
          | (go_at_call 66; refine (rnd122 _ _ _).mono ?_; rw [GB.out]; rintro e w' ⟨rfl, rfl⟩)
          | (go_at_call 70; refine (signed_ok _ _ _ (by omega) (by omega)).mono ?_; rintro e w' ⟨rfl, rfl⟩))
      go_ret
      exact ⟨by rw [if_pos HS.out]; rfl, ((Below.refl _ _).alloc (Nat.le_refl _) _).trans (((hb1.trans (hb2.mono hb1.size)).trans (hb3.mono (Nat.le_trans hb1.size hb2.size))).mono (by simp))⟩
  · have HS : Hid (70368744177664 < q + 1) := Int.not_le.mp hs
    have hs' : decide (q + 1 ≤ 70368744177664) = false := by simpa using hs
    clear hs
    rcases hk with rfl | rfl | rfl | rfl
    all_goals
      go_enter Tryz.func112, Tryz.ntmps112
      go_wp2_with (first
          | (go_at_call 126; refine (OV.out _).mono ?_; rintro e w1 ⟨rfl, hb1⟩)
          | (go_at_call 38; refine (need_ok _ _).mono ?_; rintro e w' ⟨rfl, rfl⟩)
          | (go_at_call 82; refine (plusW (InW.small hr0 (by omega)) (InW.small hr0 (by omega)) (by omega) _).mono ?_; rintro e w2 ⟨hh, ll, rfl, hW, hb2⟩)
          | (go_at_call 69; refine (compareW hW.out (InW.small (by omega) h2) _).mono ?_; rintro e w3 ⟨rfl, hb3⟩)
          | (go_at_call 63; refine (rnd119 _ _ _).mono ?_; rw [GB.out]; rintro e w' ⟨rfl, rfl⟩)
          | (go_at_call 64; refine (rnd120 _ _ _).mono ?_; rw [GB.out]; rintro e w' ⟨rfl, rfl⟩)
          | (go_at_call 65; refine (rnd121 _ _ _).mono ?_; rw [GB.out]; rintro e w' ⟨rfl, rfl⟩)
          | (go_at_call 66; refine (rnd122 _ _ _).mono ?_; rw [GB.out]; rintro e w' ⟨rfl, rfl⟩)
          | (go_at_call 70; refine (signed_no _ _ _ hs').mono ?_; rintro e w' ⟨rfl, rfl⟩))
      exact ⟨rfl, by rw [if_neg (Int.not_le.mpr HS.out)], ((Below.refl _ _).alloc (Nat.le_refl _) _).trans (((hb1.trans (hb2.mono hb1.size)).trans (hb3.mono (Nat.le_trans hb1.size hb2.size))).mono (by simp))⟩
/-- **quotient**: the quotient of n by d, rounded by way k, with a sign; a misfit, if it is no number. -/
theorem quot_any {h l n : Int} (H : InW h l n) (k : Nat) (d : Int) (neg : Bool) (w : World) (h1 : 1 ≤ d) (h2 : d ≤ 18446744073709551615) (hh : h < d)
    (hk : k = 63 ∨ k = 64 ∨ k = 65 ∨ k = 66) (hq : n / d + b2i (bump k (n % d) d neg) ≤ 18446744073709551615) :
    Calls Tryz.prog 112 #[.agg #[.int .u64 h, .int .u64 l], .int .u64 d, .bool neg, .func (.func k) #[] #[]] w (QuotOut w (n / d + b2i (bump k (n % d) d neg)) neg) := by
  have hq0 : 0 ≤ n / d := Int.ediv_nonneg H.nn (by omega)
  have hr0 : 0 ≤ n % d := Int.emod_nonneg _ (by omega)
  have hr1 : n % d < d := Int.emod_lt_of_pos _ (by omega)
  have OV : Hid (∀ w, Calls Tryz.prog 126 #[.agg #[.int .u64 h, .int .u64 l], .int .u64 d] w fun e w' => e = .returned (.tuple #[.int .u64 (n / d), .int .u64 (n % d), .bool true]) ∧ Below w.heap.size w w') :=
    fun w => over_ok H d w h1 h2 hh
  by_cases hz : n % d = 0
  · have hb : bump k (n % d) d neg = false := by unfold bump; simp [hz]
    rw [hz] at OV
    rw [hb]
    have := quot_even k d neg w OV hq0
    simpa [b2i] using this
  · cases hb : rndB k (cmpI (n % d + n % d) d) neg
    · have hb' : bump k (n % d) d neg = false := by unfold bump; simp [hb]
      rw [hb'] at hq ⊢
      have := quot_flat k d neg w h2 OV hq0 (by simpa [b2i] using hq) hr0 hr1 (by omega) hb hk
      simpa [b2i] using this
    · have hb' : bump k (n % d) d neg = true := by unfold bump; simp [hb]; omega
      rw [hb'] at hq ⊢
      exact quot_up k d neg w h2 OV hq0 hq hr0 hr1 (by omega) hb hk
/-! F -/
open Go.RowKit Go.Proofs
set_option maxHeartbeats 1000000 in
theorem wroot_any {h l A : Int} (H : InW h l A) (w : World) (hA : A < 85070591730234615865843651857942052864) :
    Calls Tryz.prog 67 #[.agg #[.int .u64 h, .int .u64 l]] w fun e w' => ∃ n : Int, e = .returned (.int .u64 n) ∧ Hid (IsRoot A n) ∧ Below w.heap.size w w' := by
  have hI := RootInv.start H.nn hA
  have HH := Lib.hid H
  clear H hA
  have HI := Lib.hid hI
  clear hI
  go_enter Tryz.func67, Tryz.ntmps67
  go_wp2
  go_loopw [3, 4] (fun n b wr => ∃ N B : Int, n = .int .u64 N ∧ b = .int .u64 B ∧ RootInv A N B ∧ Below (w.heap.size + 1) (w.alloc (.cells #[.int .u64 h, .int .u64 l] 94)) wr) (fun _ b _ => (intOf b).toNat)
  case atStart => exact ⟨_, _, rfl, rfl, HI.out, Below.refl _ _⟩
  case round =>
    obtain ⟨N, B, rfl, rfl, hi, hb⟩ := hrel
    have bd := hi.bounds
    obtain ⟨b1, b2, b3, b4, b5⟩ := bd
    have c0 : wr.cell? ⟨w.heap.size, 0, none⟩ = some (.int .u64 h) := by rw [hb.cell (p := ⟨_, _, none⟩) (by simp)]; simp [go_sem]
    have c1 : wr.cell? ⟨w.heap.size, 1, none⟩ = some (.int .u64 l) := by rw [hb.cell (p := ⟨_, _, none⟩) (by simp)]; simp [go_sem]
    have hsz : w.heap.size < wr.heap.size := by have := hb.size; simp at this; omega
    have GI := Lib.hid hi
    clear hi
    by_cases hB : 0 < B
    · have eor := GI.out.or hB
      obtain ⟨M, hM⟩ : ∃ M, N + B = M := ⟨_, rfl⟩
      rw [hM] at eor b5
      have hm0 : 0 ≤ M := by omega
      have GM := Lib.hid hM
      clear hM
      have X0 : ∀ X : BW wr, X.tw.cell? ⟨w.heap.size, 0, none⟩ = some (.int .u64 h) := fun X => (X.cell _ _ hsz).trans c0
      have X1 : ∀ X : BW wr, X.tw.cell? ⟨w.heap.size, 1, none⟩ = some (.int .u64 l) := fun X => (X.cell _ _ hsz).trans c1
      have hmm : M * M < 340282366920938463463374607431768211456 := by
        have := Int.mul_le_mul b5 b5 hm0 (by omega)
        omega
      by_cases hc : M * M ≤ A
      · have ec : Hid (decide (cmpI (M * M) A ≤ 0) = true) := by show _ = _; rw [decide_eq_true_eq]; unfold cmpI; split <;> (try split) <;> omega
        go_wp2_with fail
        refine wp_region_quietB (by kernel_rfl) (by kernel_rfl) ?_
        quiet_step (fail)
        quiet_step (fail)
        quiet_step ((go_at_call 40; exact quietB (product_any _ _ _ hm0 (by omega) hm0 (by omega))))
        quiet_step (fail)
        quiet_step ((go_at_call 69; exact quietB (compareW (InW.mk' (Int.mul_nonneg hm0 hm0) hmm) HH.out _)))
        quiet_step (fail)
        refine wpQuiet_nil ?_
        rintro _ ⟨⟨wy, hby⟩, rfl⟩
        rw [ec.out]
        go_wp2_with fail
        go_roundw
        case rel => exact ⟨_, _, rfl, rfl, by have := GI.out.yes hB (by rw [GM.out]; exact hc); rwa [GM.out] at this, hb.trans (hby.mono (by omega))⟩
        case measure => simp [intOf]; omega
      · have ec : Hid (decide (cmpI (M * M) A ≤ 0) = false) := by show _ = _; rw [decide_eq_false_iff_not]; unfold cmpI; split <;> (try split) <;> omega
        go_wp2_with fail
        refine wp_region_quietB (by kernel_rfl) (by kernel_rfl) ?_
        quiet_step (fail)
        quiet_step (fail)
        quiet_step ((go_at_call 40; exact quietB (product_any _ _ _ hm0 (by omega) hm0 (by omega))))
        quiet_step (fail)
        quiet_step ((go_at_call 69; exact quietB (compareW (InW.mk' (Int.mul_nonneg hm0 hm0) hmm) HH.out _)))
        quiet_step (fail)
        refine wpQuiet_nil ?_
        rintro _ ⟨⟨wy, hby⟩, rfl⟩
        rw [ec.out]
        go_wp2_with fail
        go_roundw
        case rel => exact ⟨_, _, rfl, rfl, by exact GI.out.no hB (by rw [GM.out]; omega), hb.trans (hby.mono (by omega))⟩
        case measure => simp [intOf]; omega
    · obtain rfl : B = 0 := by omega
      go_wp2_with fail
      go_ret
      exact ⟨N, rfl, GI.out.done, ((Below.refl _ _).alloc (Nat.le_refl _) _).trans (hb.mono (by omega))⟩
/-! G -/
open Go.RowKit Go.Proofs
theorem up2_num {h l A : Int} (H : InW h l A) (hA : A < 85070591730234615865843651857942052864) : bits .or .u64 (IntKind.u64.wrap (h * 4)) (l / 4611686018427387904) = hiU (4 * A) ∧ IntKind.u64.wrap (l * 4) = loU (4 * A) := by
  have := H.h0; have := H.l0; have := H.l1; have := H.e
  constructor
  · rw [IntWalk.u64_in _ (by omega), show h * 4 = h * 2 ^ 2 from rfl, or_add h _ 2 (by omega) (by omega) (by omega) (by omega)]
    unfold hiU; omega
  · rw [IntKind.wrap_u64]; unfold loU; omega
set_option maxHeartbeats 400000 in
theorem up2_any {h l A : Int} (H : InW h l A) (w : World) (hA : A < 85070591730234615865843651857942052864) :
    Calls Tryz.prog 68 #[.agg #[.int .u64 h, .int .u64 l], .int .u64 2] w fun e w' => e = .returned (.agg #[.int .u64 (hiU (4 * A)), .int .u64 (loU (4 * A))]) ∧ Below w.heap.size w w' := by
  obtain ⟨e1, e2⟩ := up2_num H hA
  clear H hA
  go_enter Tryz.func68, Tryz.ntmps68
  go_wp2
  refine bodyPost_ret (v := .agg #[.int .u64 (hiU (4 * A)), .int .u64 (loU (4 * A))]) (by simp [results, Tryz.results68, go_sem]) rfl ⟨rfl, ?_⟩
  exact ((Below.refl _ _).alloc (Nat.le_refl _) _).alloc (by simp) _
theorem QuotOut.ok {w w' : World} {p q : Int} {neg : Bool} (e : p = q) (h : q ≤ 70368744177664) (hb : Below w.heap.size w w') : QuotOut w p neg (.returned (.int .i64 (sgn q neg))) w' := by
  subst e; exact ⟨by rw [if_pos h], hb⟩
theorem QuotOut.no {w w' : World} {p q : Int} {neg : Bool} (e : p = q) (h : 70368744177664 < q) (hb : Below w.heap.size w w') : QuotOut w p neg (.panicked (Mis 4)) w' := by
  subst e; exact ⟨by rw [if_neg (Int.not_le.mpr h)], hb⟩
set_option maxHeartbeats 1000000 in
theorem root_exact {h l A n : Int} (H : InW h l A) (k : Nat) (w : World) (R : IsRoot A n) (hA : A < 85070591730234615865843651857942052864) (hn : n * n = A) :
    Calls Tryz.prog 39 #[.agg #[.int .u64 h, .int .u64 l], .func (.func k) #[] #[]] w (QuotOut w n false) := by
  have n0 := R.nn
  have n1 : n ≤ 9223372036854775807 := R.bound (by omega) (by omega)
  have hh := H.hi_eq; have hl := H.lo_eq
  have HH := Lib.hid H; have RR := Lib.hid R
  have HA := Lib.hid hA; have HN := Lib.hid hn
  have Hh := Lib.hid hh; have Hl := Lib.hid hl
  clear H R hA hn hh hl
  go_enter Tryz.func39, Tryz.ntmps39
  go_wp2_with (go_at_call 67; refine (wroot_any HH.out _ HA.out).mono ?_; rintro e w1 ⟨m, rfl, hm, hb1⟩; obtain rfl := IsRoot.unique RR.out hm.out; have hsz := hb1.size; have c0 := hb1.cell (p := ⟨w.heap.size, 0, none⟩) (by simp); have c1 := hb1.cell (p := ⟨w.heap.size, 1, none⟩) (by simp); simp [go_sem] at c0 c1 hsz)
  have X0 : ∀ X : BW w1, X.tw.cell? ⟨w.heap.size, 0, none⟩ = some (.int .u64 h) := fun X => (X.cell _ _ (by omega)).trans c0
  have X1 : ∀ X : BW w1, X.tw.cell? ⟨w.heap.size, 1, none⟩ = some (.int .u64 l) := fun X => (X.cell _ _ (by omega)).trans c1
  refine wp_region_quietB (by kernel_rfl) (by kernel_rfl) ?_
  go_big_quiet_step (fail)
  go_big_quiet_step (fail)
  go_big_quiet_step ((go_at_call 40; exact quietB (product_any _ _ _ n0 (by omega) n0 (by omega))))
  go_big_quiet_step (fail)
  rw [Hh.out, Hl.out, ← HN.out]
  go_big_quiet_step (fail)
  repeat (go_big_quiet_step (fail))
  refine wpQuiet_nil ?_
  rintro _ ⟨⟨wy, hby⟩, rfl⟩
  by_cases hs : n ≤ 70368744177664
  · have HS := Lib.hid hs
    go_wp2_with (go_at_call 70; refine (signed_ok _ _ _ (by omega) (by omega)).mono ?_; rintro e w' ⟨rfl, rfl⟩)
    go_ret
    exact ⟨by rw [if_pos HS.out]; rfl, (((Below.refl _ _).alloc (Nat.le_refl _) _).trans ((hb1.trans (hby.mono hb1.size)).mono (by simp)))⟩
  · have HS : Hid (70368744177664 < n) := Int.not_le.mp hs
    have hs' : decide (n ≤ 70368744177664) = false := by simpa using hs
    clear hs
    go_wp2_with (go_at_call 70; refine (signed_no _ _ _ hs').mono ?_; rintro e w' ⟨rfl, rfl⟩)
    exact ⟨rfl, by rw [if_neg (Int.not_le.mpr HS.out)], (((Below.refl _ _).alloc (Nat.le_refl _) _).trans ((hb1.trans (hby.mono hb1.size)).mono (by simp)))⟩
set_option maxHeartbeats 1000000 in
theorem root_near {h l A n : Int} (H : InW h l A) (k : Nat) (w : World) (R : IsRoot A n) (hA : A < 85070591730234615865843651857942052864) (hn : n * n ≠ A) (hk : k = 63 ∨ k = 64 ∨ k = 65 ∨ k = 66) :
    Calls Tryz.prog 39 #[.agg #[.int .u64 h, .int .u64 l], .func (.func k) #[] #[]] w (QuotOut w (n + b2i (rndB k (cmpI (4 * A) ((2 * n + 1) * (2 * n + 1))) false)) false) := by
  have n0 := R.nn
  have n1 : n ≤ 9223372036854775807 := R.bound (by omega) (by omega)
  have HH := Lib.hid H; have RR := Lib.hid R
  have HA := Lib.hid hA; have HN := Lib.hid hn
  have hne : ∀ {α : Type} (A B : α), (if hiU (n * n) = h then if loU (n * n) = l then A else B else B) = B := by
    intro α A B
    split
    · split
      · exfalso
        have e1 := H.e
        have e2 := (InW.mk' (n := n * n) (Int.mul_nonneg n0 n0) (by have := R.le; omega)).e
        apply hn; omega
      · rfl
    · rfl
  have hA0 := H.nn
  have hA1 := hA
  have hN0 : 0 ≤ (2 * n + 1) * (2 * n + 1) := Int.mul_nonneg (by omega) (by omega)
  have hN1 : (2 * n + 1) * (2 * n + 1) < 340282366920938463463374607431768211456 := by
    have := Int.mul_le_mul (show 2 * n + 1 ≤ 18446744073709551615 by omega) (show 2 * n + 1 ≤ 18446744073709551615 by omega) (by omega) (by omega)
    omega
  clear H R hA hn
  go_enter Tryz.func39, Tryz.ntmps39
  go_wp2_with (go_at_call 67; refine (wroot_any HH.out _ HA.out).mono ?_; rintro e w1 ⟨m, rfl, hm, hb1⟩; obtain rfl := IsRoot.unique RR.out hm.out; have hsz := hb1.size; have c0 := hb1.cell (p := ⟨w.heap.size, 0, none⟩) (by simp); have c1 := hb1.cell (p := ⟨w.heap.size, 1, none⟩) (by simp); simp [go_sem] at c0 c1 hsz)
  have X0 : ∀ X : BW w1, X.tw.cell? ⟨w.heap.size, 0, none⟩ = some (.int .u64 h) := fun X => (X.cell _ _ (by omega)).trans c0
  have X1 : ∀ X : BW w1, X.tw.cell? ⟨w.heap.size, 1, none⟩ = some (.int .u64 l) := fun X => (X.cell _ _ (by omega)).trans c1
  refine wp_region_quietB (by kernel_rfl) (by kernel_rfl) ?_
  go_big_quiet_step (fail)
  go_big_quiet_step (fail)
  go_big_quiet_step ((go_at_call 40; exact quietB (product_any _ _ _ n0 (by omega) n0 (by omega))))
  go_big_quiet_step (fail)
  go_big_quiet_step ((rw [hne]; exact ⟨rfl, rfl⟩))
  obtain ⟨b, hb⟩ : ∃ b, rndB k (cmpI (4 * A) ((2 * n + 1) * (2 * n + 1))) false = b := ⟨_, rfl⟩
  have HB := Lib.hid hb
  clear hb
  rcases hk with rfl | rfl | rfl | rfl
  all_goals
    repeat (go_big_quiet_step ((first
      | (go_at_call 68; exact quietB (up2_any HH.out _ HA.out))
      | (go_at_call 40; exact quietB (product_any _ _ _ (by omega) (by omega) (by omega) (by omega)))
      | (go_at_call 69; exact quietB (compareW (InW.mk' (by omega) (by omega)) (InW.mk' hN0 hN1) _))
      | (go_at_call 63; exact quietS (rnd119 _ _ _))
      | (go_at_call 64; exact quietS (rnd120 _ _ _))
      | (go_at_call 65; exact quietS (rnd121 _ _ _))
      | (go_at_call 66; exact quietS (rnd122 _ _ _)))))
    refine wpQuiet_nil ?_
    rintro _ ⟨⟨wy, hby⟩, rfl⟩
    rw [HB.out]
    cases b
    ·
      by_cases hs : n ≤ 70368744177664
      · have HS := Lib.hid hs
        go_wp2_with (go_at_call 70; refine (signed_ok _ _ _ (by omega) (by omega)).mono ?_; rintro e w' ⟨rfl, rfl⟩)
        go_ret
        exact QuotOut.ok (by rw [HB.out]; simp [b2i]) HS.out (((Below.refl _ _).alloc (Nat.le_refl _) _).trans ((hb1.trans (hby.mono hb1.size)).mono (by simp)))
      · have HS : Hid (70368744177664 < n) := Int.not_le.mp hs
        have hs' : decide (n ≤ 70368744177664) = false := by simpa using hs
        clear hs
        go_wp2_with (go_at_call 70; refine (signed_no _ _ _ hs').mono ?_; rintro e w' ⟨rfl, rfl⟩)
        exact ⟨rfl, QuotOut.no (by rw [HB.out]; simp [b2i]) HS.out (((Below.refl _ _).alloc (Nat.le_refl _) _).trans ((hb1.trans (hby.mono hb1.size)).mono (by simp)))⟩
    ·
      by_cases hs : n + 1 ≤ 70368744177664
      · have HS := Lib.hid hs
        go_wp2_with (go_at_call 70; refine (signed_ok _ _ _ (by omega) (by omega)).mono ?_; rintro e w' ⟨rfl, rfl⟩)
        go_ret
        exact QuotOut.ok (by rw [HB.out]; simp [b2i]) HS.out (((Below.refl _ _).alloc (Nat.le_refl _) _).trans ((hb1.trans (hby.mono hb1.size)).mono (by simp)))
      · have HS : Hid (70368744177664 < n + 1) := Int.not_le.mp hs
        have hs' : decide (n + 1 ≤ 70368744177664) = false := by simpa using hs
        clear hs
        go_wp2_with (go_at_call 70; refine (signed_no _ _ _ hs').mono ?_; rintro e w' ⟨rfl, rfl⟩)
        exact ⟨rfl, QuotOut.no (by rw [HB.out]; simp [b2i]) HS.out (((Below.refl _ _).alloc (Nat.le_refl _) _).trans ((hb1.trans (hby.mono hb1.size)).mono (by simp)))⟩
/-- Whether a root is rounded to the next number. -/
def rbump (k : Nat) (A n : Int) : Bool := decide (n * n ≠ A) && rndB k (cmpI (4 * A) ((2 * n + 1) * (2 * n + 1))) false
theorem root_any {h l A n : Int} (H : InW h l A) (k : Nat) (w : World) (R : IsRoot A n) (hA : A < 85070591730234615865843651857942052864) (hk : k = 63 ∨ k = 64 ∨ k = 65 ∨ k = 66) :
    Calls Tryz.prog 39 #[.agg #[.int .u64 h, .int .u64 l], .func (.func k) #[] #[]] w (QuotOut w (n + b2i (rbump k A n)) false) := by
  by_cases hn : n * n = A
  · have : rbump k A n = false := by unfold rbump; simp [hn]
    rw [this]
    simpa [b2i] using root_exact H k w R hA hn
  · have : rbump k A n = rndB k (cmpI (4 * A) ((2 * n + 1) * (2 * n + 1))) false := by unfold rbump; simp [hn]
    rw [this]
    exact root_near H k w R hA hn hk
/-! H -/
open Go.RowKit Go.Proofs
/-- A valid number. -/
def Val (a : Int) : Prop := -70368744177664 ≤ a ∧ a ≤ 70368744177664
instance (a : Int) : Decidable (Val a) := by unfold Val; infer_instance
set_option maxHeartbeats 1000000 in
theorem right_ok (zs : List Int) (b c : Nat) (w : World) (hl : zs.length ≤ 1000) (hc : ∀ i, i < zs.length → w.cell? ⟨b, i, none⟩ = some (.int .i64 (zs.getD i 0))) (hv : ∀ a ∈ zs, Val a) :
    Calls Tryz.prog 36 #[.slice (some ⟨b, 0, none⟩) zs.length c] w fun e w' => e = .returned (.tuple #[]) ∧ w = w' := by
  have HV := Lib.hid hv; have HC := Lib.hid hc
  clear hv hc
  go_enter Tryz.func36, Tryz.ntmps36
  go_wp2_with fail
  go_loop [6] (fun i => ∃ k : Nat, k ≤ zs.length ∧ i = .int .i64 k) (fun i => zs.length - (intOf i).toNat)
  case atStart => exact ⟨0, Nat.zero_le _, rfl⟩
  case round =>
    obtain ⟨k, hk, rfl⟩ := hrel
    by_cases hlt : k < zs.length
    · obtain ⟨z, hz⟩ : ∃ z, zs.getD k 0 = z := ⟨_, rfl⟩
      have hcell := HC.out k hlt
      rw [hz] at hcell
      have hvz : Val z := HV.out z (by rw [← hz, List.getD_eq_getElem?_getD, List.getElem?_eq_getElem hlt]; exact List.getElem_mem _)
      obtain ⟨v1, v2⟩ := hvz
      clear hz
      go_wp2_with (go_at_call 38; refine (need_ok _ _).mono ?_; rintro e w' ⟨rfl, rfl⟩)
      go_round
      case rel => exact ⟨k + 1, by omega, by go_num⟩
      case measure => simp [intOf]; omega
    · go_wp2_with fail
      go_end0
      exact ⟨rfl, rfl⟩
set_option maxHeartbeats 1000000 in
theorem right_no (zs : List Int) (b c : Nat) (w : World) (hl : zs.length ≤ 1000) (hc : ∀ i, i < zs.length → w.cell? ⟨b, i, none⟩ = some (.int .i64 (zs.getD i 0))) (hv : ¬ ∀ a ∈ zs, Val a) :
    Calls Tryz.prog 36 #[.slice (some ⟨b, 0, none⟩) zs.length c] w fun e w' => e = .panicked (Mis 2) ∧ w = w' := by
  have HV := Lib.hid hv; have HC := Lib.hid hc
  clear hv hc
  go_enter Tryz.func36, Tryz.ntmps36
  go_wp2_with fail
  go_loop [6] (fun i => ∃ k : Nat, k ≤ zs.length ∧ i = .int .i64 k ∧ ∀ j, j < k → Val (zs.getD j 0)) (fun i => zs.length - (intOf i).toNat)
  case atStart => exact ⟨0, Nat.zero_le _, rfl, fun j h => by omega⟩
  case round =>
    obtain ⟨k, hk, rfl, hall⟩ := hrel
    have HA := Lib.hid hall
    clear hall
    by_cases hlt : k < zs.length
    · obtain ⟨z, hz⟩ : ∃ z, zs.getD k 0 = z := ⟨_, rfl⟩
      have hcell := HC.out k hlt
      rw [hz] at hcell
      have HZ := Lib.hid hz
      clear hz
      by_cases hvz : Val z
      · have HVZ := Lib.hid hvz
        obtain ⟨v1, v2⟩ := hvz
        go_wp2_with (go_at_call 38; refine (need_ok _ _).mono ?_; rintro e w' ⟨rfl, rfl⟩)
        go_round
        case rel =>
          refine ⟨k + 1, by omega, by go_num, fun j hj => ?_⟩
          by_cases hjk : j = k
          · subst hjk; rw [HZ.out]; exact HVZ.out
          · exact HA.out j (by omega)
        case measure => simp [intOf]; omega
      · by_cases v1 : -70368744177664 ≤ z
        · have v2 : decide (z ≤ 70368744177664) = false := by unfold Val at hvz; simp; omega
          clear hvz
          go_wp2_with (go_at_call 38; refine (need_no _ _).mono ?_; rintro e w' ⟨rfl, rfl⟩)
          exact ⟨rfl, rfl, rfl⟩
        · have v2 : decide (-70368744177664 ≤ z) = false := by simp; omega
          clear hvz v1
          go_wp2_with (go_at_call 38; refine (need_no _ _).mono ?_; rintro e w' ⟨rfl, rfl⟩)
          exact ⟨rfl, rfl, rfl⟩
    · exfalso
      apply HV.out
      intro a ha
      obtain ⟨j, hj, rfl⟩ := List.getElem_of_mem ha
      have := HA.out j (by omega)
      rwa [List.getD_eq_getElem?_getD, List.getElem?_eq_getElem hj] at this
/-! R -/
open Go.RowKit
section
variable {P : Program} {ops : Array Oper} {C : World → Prop}
/-- The frame behind some operations, each of which has left its value. -/
def fillF (ops : Array Oper) (val : Nat → Value) (l : List Nat) (a : Act) : Act :=
  l.foldl (fun a i => match ops[i]? with | some o => a.put o.dst (val i) | none => a) a
theorem put_size (a : Act) (d : Option Tmp) (v : Value) : (a.put d v).tmps.size = a.tmps.size := by cases d <;> simp [Act.put]
theorem put_defers' (a : Act) (d : Option Tmp) (v : Value) : (a.put d v).defers = a.defers := by cases d <;> rfl
theorem fillF_defers (val : Nat → Value) : ∀ (l : List Nat) (a : Act), (fillF ops val l a).defers = a.defers
  | [], _ => rfl
  | i :: l, a => by
    simp only [fillF, List.foldl_cons]
    refine (fillF_defers val l _).trans ?_
    cases ops[i]? <;> simp [put_defers']
theorem fillF_congr {val val' : Nat → Value} : ∀ (l : List Nat) (a : Act), (∀ i ∈ l, val i = val' i) → fillF ops val l a = fillF ops val' l a
  | [], _, _ => rfl
  | i :: l, a, h => by
    simp only [fillF, List.foldl_cons]
    rw [h i (by simp)]
    exact fillF_congr l _ fun j hj => h j (by simp [hj])
theorem fillF_none (val : Nat → Value) (t : Tmp) : ∀ (l : List Nat) (a : Act), (∀ i ∈ l, ∀ o, ops[i]? = some o → o.dst ≠ some t) → (fillF ops val l a).tmps[t]? = a.tmps[t]?
  | [], _, _ => rfl
  | i :: l, a, h => by
    simp only [fillF, List.foldl_cons]
    refine (fillF_none val t l _ fun j hj => h j (by simp [hj])).trans ?_
    cases ho : ops[i]? with
    | none => rfl
    | some o =>
      have := h i (by simp) o ho
      cases hd : o.dst with
      | none => simp [hd, Act.put]
      | some d =>
        have hne : d ≠ t := fun e => this (by rw [hd, e])
        simp [hd, Act.put, Array.getElem?_setIfInBounds_ne hne]
theorem fillF_some (val : Nat → Value) (t : Tmp) (i : Nat) (o : Oper) (ho : ops[i]? = some o) (hd : o.dst = some t) : ∀ (l : List Nat) (a : Act), i ∈ l →
    (∀ j ∈ l, ∀ oj, ops[j]? = some oj → oj.dst = some t → j = i) → (fillF ops val l a).tmps[t]? = if t < a.tmps.size then some (val i) else none
  | [], _, h, _ => by simp at h
  | j :: l, a, h, hu => by
    simp only [fillF, List.foldl_cons]
    by_cases hil : i ∈ l
    · refine (fillF_some val t i o ho hd l _ hil fun k hk => hu k (by simp [hk])).trans ?_
      have : (match ops[j]? with | some o => a.put o.dst (val j) | none => a).tmps.size = a.tmps.size := by cases ops[j]? <;> simp [put_size]
      rw [this]
    · have hji : j = i := by simp [hil] at h; exact h.symm
      subst hji
      refine (fillF_none val t l _ fun k hk ok hok e => hil (by have := hu k (by simp [hk]) ok hok e; rwa [this] at hk)).trans ?_
      simp only [ho, hd, Act.put]
      rw [Array.getElem?_setIfInBounds]
      simp
theorem wanted_same (o : Oper) (a a' : Act) (h : ∀ t ∈ o.looksAt ops, a'.tmps[t]? = a.tmps[t]?) : Region.wanted o (yielded ops a'.tmps) = Region.wanted o (yielded ops a.tmps) := by
  unfold Region.wanted
  cases hg : o.guard with
  | none => rfl
  | some gw =>
    obtain ⟨g, want⟩ := gw
    have hy : yielded ops a'.tmps g = yielded ops a.tmps g := by
      unfold yielded
      cases ht : (ops[g]?).bind (·.dst) with
      | none => rfl
      | some t =>
        have := h t (by simp [Oper.looksAt, hg, ht])
        simp only [Option.bind_some]
        rw [this]
    simp only [hy]
theorem exec_same (o : Oper) (hs : ∀ cs b, o.op ≠ .select cs b) (a a' : Act) (h : ∀ t ∈ o.looksAt ops, a'.tmps[t]? = a.tmps[t]?) : execOp a'.eval o = execOp a.eval o :=
  execOp_congr o hs fun x hx => by
    cases x with
    | tmp t =>
      have := h t (List.mem_append_left _ (List.mem_filterMap.2 ⟨.tmp t, by simpa using hx, rfl⟩))
      simp only [Act.eval, Array.getD_eq_getD_getElem?, this]
    | _ => rfl
/-- In state 'a', in every world of the class, the operation calls a function that ends by a panic which the rest admits. -/
def PanicsIn (P : Program) (ops : Array Oper) (C : World → Prop) (ds : List Deferred) (Q : Exit → Act → World → Prop) (o : Oper) (a : Act) : Prop :=
  Region.wanted o (yielded ops a.tmps) = true ∧ ∀ w, C w → ∃ f args, (execOp a.eval o).run P w = .ok (.enter f args) w ∧
    Calls P f args w fun e w'' => ∃ ch, e = .panicked ch ∧ ∀ a' : Act, a'.defers = ds → Q (.panic ch) a' w''
theorem PanicsIn.wpOp {ds : List Deferred} {Q : Exit → Act → World → Prop} {i : Nat} {o : Oper} {a : Act} (hi : ops[i]? = some o) (h : PanicsIn P ops C ds Q o a) (ha : a.defers = ds) {w : World} (hw : C w) (K : Act → World → Prop) : wpOp P ops Q i K a w := by
  obtain ⟨h1, h2⟩ := h
  obtain ⟨f, args, hr, hc⟩ := h2 w hw
  unfold Go.wpOp
  simp only [hi, h1, if_true]
  refine .inl ?_
  unfold Oper.wp
  rw [hr]
  simp only [Oper.upon]
  exact hc.mono fun e w'' ⟨ch, he, hq⟩ => by subst he; exact hq a ha
theorem extract {Q : Act → Prop} : ∀ (l : List Nat) (a : Act), (∀ i ∈ l, i < ops.size) → l.Nodup → wpQuiet P ops C Q (l.filterMap (ops[·]?)) a →
    ∃ val : Nat → Value, (∀ pre i post, l = pre ++ i :: post → ∀ o, ops[i]? = some o → YieldsIn P ops C o (val i) (fillF ops val pre a)) ∧ Q (fillF ops val l a)
  | [], a, _, _, h => ⟨fun _ => undef, fun pre i post e => by simp at e, h⟩
  | i :: l, a, hb, hn, h => by
    obtain ⟨o, ho⟩ : ∃ o, ops[i]? = some o := ⟨_, Array.getElem?_eq_getElem (hb i (by simp))⟩
    have hil : i ∉ l := (List.nodup_cons.1 hn).1
    rw [List.filterMap_cons, ho] at h
    have hq : qOp P ops C i (wpQuiet P ops C Q (l.filterMap (ops[·]?))) a := by unfold qOp; simp only [ho]; exact h
    obtain ⟨v, hy, hk⟩ := yieldsIn_of_qOp ho hq
    obtain ⟨val, h1, h2⟩ := extract l (a.put o.dst v) (fun j hj => hb j (by simp [hj])) (List.nodup_cons.1 hn).2 hk
    have hval : ∀ (l' : List Nat), (∀ j ∈ l', j ∈ l) → ∀ b, fillF ops (fun k => if k = i then v else val k) l' b = fillF ops val l' b := fun l' hl' b =>
      fillF_congr l' b fun j hj => by rw [if_neg (fun e => hil (by rw [← e]; exact hl' j hj))]
    refine ⟨fun k => if k = i then v else val k, ?_, ?_⟩
    · intro pre k post e o' ho'
      cases pre with
      | nil =>
        simp only [List.nil_append, List.cons.injEq] at e
        obtain ⟨rfl, rfl⟩ := e
        have : o' = o := Option.some.inj (ho'.symm.trans ho)
        subst this
        simpa [fillF] using hy
      | cons p pre =>
        simp only [List.cons_append, List.cons.injEq] at e
        obtain ⟨rfl, rfl⟩ := e
        have hki : k ≠ i := fun e => hil (by subst e; simp)
        have := h1 pre k post rfl o' ho'
        simp only [if_neg hki]
        have e2 : fillF ops (fun k => if k = i then v else val k) (i :: pre) a = fillF ops (fun k => if k = i then v else val k) pre (a.put o.dst v) := by simp [fillF, ho]
        rw [e2, hval pre (fun j hj => by simp [hj])]
        exact this
    · have e2 : fillF ops (fun k => if k = i then v else val k) (i :: l) a = fillF ops (fun k => if k = i then v else val k) l (a.put o.dst v) := by simp [fillF, ho]
      rw [e2, hval l (fun _ h => h)]
      exact h2
/-- What is looked at of the region's text: 'al': what is quiet, in the text's order; 'pan': what ends the work; 'ds': what waits for that. -/
def endsB (ops : Array Oper) (al pan ds : List Nat) : Bool :=
  Region.noSelect ops && !pan.isEmpty && (al ++ pan).all (· < ops.size) && al.all (fun i => !pan.contains i && !ds.contains i) && pan.all (fun i => !ds.contains i) &&
  (List.range ops.size).all (fun i => al.contains i || pan.contains i || ds.contains i) &&
  ds.all (fun i => ((ops[i]?).map fun o => o.after.any fun e => Region.binds .any e && (pan.contains e.on || ds.contains e.on)).getD false) &&
  (al ++ pan).all (fun i => ((ops[i]?).map fun o => o.after.all (fun e => !Region.binds .any e || (decide (e.on < i) && al.contains e.on)) &&
    al.all (fun j => ((ops[j]?).map fun oj => match oj.dst with | none => true | some t => !(o.looksAt ops).contains t || o.after.any (fun e => Region.binds .any e && e.on == j)).getD false)).getD false) &&
  al.all (fun i => al.all fun j => i == j || ((ops[i]?).bind (·.dst)).isNone || (ops[i]?).bind (·.dst) != (ops[j]?).bind (·.dst)) &&
  decide (al.Pairwise (· < ·))
structure EndsR (ops : Array Oper) (al pan ds : List Nat) : Prop where
  nosel : Region.noSelect ops = true
  nonempty : pan ≠ []
  bound : ∀ i, i ∈ al ∨ i ∈ pan → i < ops.size
  apart : ∀ i ∈ al, i ∉ pan ∧ i ∉ ds
  apart2 : ∀ i ∈ pan, i ∉ ds
  all : ∀ i, i < ops.size → i ∈ al ∨ i ∈ pan ∨ i ∈ ds
  dead : ∀ i ∈ ds, ∃ o, ops[i]? = some o ∧ ∃ e ∈ o.after, Region.binds .any e = true ∧ (e.on ∈ pan ∨ e.on ∈ ds)
  deps : ∀ i, i ∈ al ∨ i ∈ pan → ∀ o, ops[i]? = some o → ∀ e ∈ o.after, Region.binds .any e = true → e.on < i ∧ e.on ∈ al
  looks : ∀ i, i ∈ al ∨ i ∈ pan → ∀ o, ops[i]? = some o → ∀ j ∈ al, ∀ oj t, ops[j]? = some oj → oj.dst = some t → t ∈ o.looksAt ops → ∃ e ∈ o.after, Region.binds .any e = true ∧ e.on = j
  single : ∀ i ∈ al, ∀ j ∈ al, ∀ oi oj t, ops[i]? = some oi → ops[j]? = some oj → oi.dst = some t → oj.dst = some t → i = j
  sorted : al.Pairwise (· < ·)
theorem ends_of {al pan ds : List Nat} (h : endsB ops al pan ds = true) : EndsR ops al pan ds := by
  simp only [endsB, Bool.and_eq_true, decide_eq_true_eq, List.all_eq_true, List.mem_append] at h
  obtain ⟨⟨⟨⟨⟨⟨⟨⟨⟨h1, h2⟩, h3⟩, h4⟩, h5⟩, h6⟩, h7⟩, h8⟩, h9⟩, h10⟩ := h
  refine ⟨h1, ?_, ?_, ?_, ?_, ?_, ?_, ?_, ?_, ?_, h10⟩
  · intro e; subst e; simp at h2
  · intro i hi; simpa using h3 i hi
  · intro i hi; have := h4 i hi; simp at this; exact this
  · intro i hi; have := h5 i hi; simpa using this
  · intro i hi; have := h6 i (by simpa using hi); simp [or_assoc] at this; exact this
  · intro i hi
    have := h7 i hi
    cases ho : ops[i]? with
    | none => simp [ho] at this
    | some o =>
      simp only [ho, Option.map_some, Option.getD_some, Array.any_eq_true', Bool.and_eq_true, Bool.or_eq_true, List.contains_iff_mem] at this
      exact ⟨o, rfl, this⟩
  · intro i hi o ho e he hb
    have := h8 i hi
    simp only [ho, Option.map_some, Option.getD_some, Bool.and_eq_true] at this
    have := Array.all_eq_true'.1 this.1 e he
    simp only [hb, Bool.not_true, Bool.false_or, Bool.and_eq_true, decide_eq_true_eq, List.contains_iff_mem] at this
    exact this
  · intro i hi o ho j hj oj t hoj hd ht
    have := h8 i hi
    simp only [ho, Option.map_some, Option.getD_some, Bool.and_eq_true, List.all_eq_true] at this
    have := this.2 j hj
    simp only [hoj, Option.map_some, Option.getD_some, hd, Bool.or_eq_true, Bool.not_eq_true', List.contains_eq_mem, decide_eq_false_iff_not] at this
    rcases this with h | h
    · exact absurd ht h
    · simp only [Array.any_eq_true', Bool.and_eq_true, beq_iff_eq] at h
      exact h
  · intro i hi j hj oi oj t hoi hoj hdi hdj
    have := h9 i hi j hj
    simp only [hoi, hoj, Option.bind_some, hdi, hdj, Bool.or_eq_true, beq_iff_eq] at this
    simpa using this
theorem nodup_len : ∀ (n : Nat) (l : List Nat), l.Nodup → (∀ x ∈ l, x < n) → l.length ≤ n
  | 0, l, _, h => by
    cases l with
    | nil => simp
    | cons x l => exact absurd (h x (by simp)) (by omega)
  | n + 1, l, hn, h => by
    by_cases hx : n ∈ l
    · have h1 := nodup_len n (l.erase n) (hn.erase n) (fun x hx' => by
        have a := h x (List.mem_of_mem_erase hx')
        have b : x ≠ n := fun e => by subst e; exact (List.Nodup.not_mem_erase hn) hx'
        omega)
      rw [List.length_erase_of_mem hx] at h1
      omega
    · have := nodup_len n l hn (fun x hx' => by
        have a := h x hx'
        have b : x ≠ n := fun e => hx (e ▸ hx')
        omega)
      omega
theorem minimal {p : Nat → Prop} [DecidablePred p] {n : Nat} (h : p n) : ∃ m, p m ∧ ∀ k, k < m → ¬ p k := by
  induction n using Nat.strongRecOn with
  | _ n ih =>
    by_cases hx : ∃ k, k < n ∧ p k
    · obtain ⟨k, hk, hpk⟩ := hx
      exact ih k hk hpk
    · exact ⟨n, h, fun k hk hpk => hx ⟨k, hk, hpk⟩⟩
theorem wp_region_ends {id : Nat} {Q : Exit → Act → World → Prop} {a : Act} {w : World} (al pan ds : List Nat) (hm : P.follows .mixedOrders = true) (hB : endsB ops al pan ds = true) (hC : C w.drew)
    (h : wpQuiet P ops C (fun a' => ∀ p ∈ pan, ∀ o, ops[p]? = some o → PanicsIn P ops C a.defers Q o a') (al.filterMap (ops[·]?)) a) : (Code.region id ops true).wp P Q a w := by
  have E := ends_of hB
  have hnd : al.Nodup := E.sorted.imp fun h => Nat.ne_of_lt h
  obtain ⟨val, hv, hp⟩ := extract al a (fun i hi => E.bound i (.inl hi)) hnd h
  have hsel : ∀ (j : Nat) (o : Oper) cs b, ops[j]? = some o → o.op ≠ .select cs b := Region.noSelect_spec E.nosel
  -- the frames agree wherever an operation looks
  have agree : ∀ i, i ∈ al ∨ i ∈ pan → ∀ o, ops[i]? = some o → ∀ L L' : List Nat, (∀ j ∈ L, j ∈ al) → (∀ j ∈ L', j ∈ al) →
      (∀ e ∈ o.after, Region.binds .any e = true → e.on ∈ L) → (∀ e ∈ o.after, Region.binds .any e = true → e.on ∈ L') → ∀ t ∈ o.looksAt ops, (fillF ops val L a).tmps[t]? = (fillF ops val L' a).tmps[t]? := by
    intro i hi o ho L L' hL hL' hd hd' t ht
    by_cases hx : ∃ j ∈ al, ∃ oj, ops[j]? = some oj ∧ oj.dst = some t
    · obtain ⟨j, hj, oj, hoj, hdj⟩ := hx
      obtain ⟨e, he, hb, hon⟩ := E.looks i hi o ho j hj oj t hoj hdj ht
      have hu : ∀ M : List Nat, (∀ j ∈ M, j ∈ al) → ∀ k ∈ M, ∀ ok, ops[k]? = some ok → ok.dst = some t → k = j := fun M hM k hk ok hok hdk => E.single k (hM k hk) j hj ok oj t hok hoj hdk hdj
      rw [fillF_some val t j oj hoj hdj L a (by rw [← hon]; exact hd e he hb) (hu L hL), fillF_some val t j oj hoj hdj L' a (by rw [← hon]; exact hd' e he hb) (hu L' hL')]
    · have hno : ∀ M : List Nat, (∀ j ∈ M, j ∈ al) → ∀ k ∈ M, ∀ ok, ops[k]? = some ok → ok.dst ≠ some t := fun M hM k hk ok hok hdk => hx ⟨k, hM k hk, ok, hok, hdk⟩
      rw [fillF_none val t L a (hno L hL), fillF_none val t L' a (hno L' hL')]
  -- every operation that comes up
  have yields : ∀ i ∈ al, ∀ o, ops[i]? = some o → ∀ L : List Nat, (∀ j ∈ L, j ∈ al) → (∀ e ∈ o.after, Region.binds .any e = true → e.on ∈ L) → YieldsIn P ops C o (val i) (fillF ops val L a) := by
    intro i hi o ho L hL hd
    obtain ⟨pre, post, e⟩ := List.append_of_mem hi
    have hs := E.sorted
    rw [e] at hs
    have hy := hv pre i post e o ho
    have hpre : ∀ e ∈ o.after, Region.binds .any e = true → e.on ∈ pre := by
      intro x hx hb
      obtain ⟨h1, h2⟩ := E.deps i (.inl hi) o ho x hx hb
      rw [e] at h2
      simp only [List.mem_append, List.mem_cons] at h2
      rcases h2 with h2 | h2 | h2
      · exact h2
      · omega
      · have := (List.pairwise_append.1 hs).2.1
        have := (List.pairwise_cons.1 this).1 _ h2
        omega
    have hag := agree i (.inl hi) o ho L pre hL (fun j hj => by rw [e]; simp [hj]) hd hpre
    exact hy.of_same (exec_same o (fun cs b => hsel i o cs b ho) _ _ hag) (wanted_same o _ _ hag)
  have panics : ∀ i ∈ pan, ∀ o, ops[i]? = some o → ∀ L : List Nat, (∀ j ∈ L, j ∈ al) → (∀ e ∈ o.after, Region.binds .any e = true → e.on ∈ L) → PanicsIn P ops C a.defers Q o (fillF ops val L a) := by
    intro i hi o ho L hL hd
    obtain ⟨h1, h2⟩ := hp i hi o ho
    have hag := agree i (.inr hi) o ho L al hL (fun _ h => h) hd (fun e he hb => (E.deps i (.inr hi) o ho e he hb).2)
    refine ⟨by rw [wanted_same o _ _ hag]; exact h1, ?_⟩
    rw [exec_same o (fun cs b => hsel i o cs b ho) _ _ hag]
    exact h2
  -- whatever is listed
  have key : ∀ (fuel : Nat) (listed : Array Bool) (L : List Nat) (w : World), C w → listed.size = ops.size → (∀ i, i < ops.size → (listed.getD i false = true ↔ i ∈ L)) → L.Nodup → (∀ j ∈ L, j ∈ al) → fuel + L.length = ops.size →
      wpAny P .any ops Q fuel listed (fillF ops val L a) w := by
    intro fuel
    induction fuel with
    | zero =>
      intro listed L w hw hsz hli hLn hLa hf
      exfalso
      obtain ⟨p, hpp⟩ := List.exists_mem_of_ne_nil _ E.nonempty
      have hpL : p ∉ L := fun hx => (E.apart p (hLa p hx)).1 hpp
      have h1 : (p :: L).Nodup := List.nodup_cons.2 ⟨hpL, hLn⟩
      have := nodup_len ops.size (p :: L) h1 (fun x hx => by
        simp only [List.mem_cons] at hx
        rcases hx with rfl | hx
        · exact E.bound _ (.inr hpp)
        · exact E.bound _ (.inl (hLa x hx)))
      simp at this
      omega
    | succ fuel ih =>
      intro listed L w hw hsz hli hLn hLa hf
      refine ⟨fun hnil => ?_, fun i hi => ?_⟩
      · exfalso
        obtain ⟨p, hpp⟩ := List.exists_mem_of_ne_nil _ E.nonempty
        have hpL : p ∉ L := fun hx => (E.apart p (hLa p hx)).1 hpp
        obtain ⟨m, ⟨hm1, hm2⟩, hmin⟩ := minimal (p := fun i => (i ∈ al ∨ i ∈ pan) ∧ i ∉ L) (n := p) ⟨.inr hpp, hpL⟩
        have hmb := E.bound m hm1
        have : m ∈ Region.ready .any ops listed := by
          rw [mem_ready]
          refine ⟨?_, _, Array.getElem?_eq_getElem hmb, fun e he hb => ?_⟩
          · have := hli m hmb
            have hx : listed.getD m false = false := by
              cases hh : listed.getD m false
              · rfl
              · exact absurd (this.1 hh) hm2
            simpa [Array.getD_eq_getD_getElem?, Array.getElem?_eq_getElem (show m < listed.size by omega)] using hx
          · obtain ⟨h1, h2⟩ := E.deps m hm1 _ (Array.getElem?_eq_getElem hmb) e he hb
            have : e.on ∈ L := by
              rcases Decidable.em (e.on ∈ L) with hx | hx
              · exact hx
              · exact absurd ⟨.inl h2, hx⟩ (hmin e.on h1)
            exact (hli e.on (E.bound _ (.inl h2))).2 this
        rw [hnil] at this
        cases this
      · obtain ⟨hun, o, ho, hall⟩ := mem_ready.1 hi
        have hib : i < ops.size := by
          rcases Nat.lt_or_ge i ops.size with hx | hx
          · exact hx
          · rw [Array.getElem?_eq_none hx] at ho; cases ho
        have hlisted : ∀ k, listed.getD k false = true → k ∈ L := fun k hk => by
          rcases Nat.lt_or_ge k ops.size with hx | hx
          · exact (hli k hx).1 hk
          · rw [Array.getD_eq_getD_getElem?, Array.getElem?_eq_none (by omega)] at hk; cases hk
        have hdeps : ∀ e ∈ o.after, Region.binds .any e = true → e.on ∈ L := fun e he hb => hlisted _ (hall e he hb)
        rcases E.all i hib with hia | hip | hid
        · have hy := yields i hia o ho L hLa hdeps
          refine wpOp_of_qOp (K := fun a' => a' = fillF ops val (L ++ [i]) a) hw (fun a' w' hw' ha' => ?_) (hy.qOp ho (by simp [fillF, ho]))
          subst ha'
          have hiL : i ∉ L := fun hx => by
            have := (hli i hib).2 hx
            rw [Array.getD_eq_getD_getElem?, Array.getElem?_eq_getElem (by omega)] at this hun
            simp at this hun
            rw [this] at hun; cases hun
          refine ih _ (L ++ [i]) w' hw' (by simpa using hsz) (fun k hk => ?_) (by rw [List.nodup_append]; exact ⟨hLn, by simp, fun x hx y hy => by simp at hy; subst hy; exact fun e => hiL (e ▸ hx)⟩) (fun j hj => by simp at hj; exact hj.elim (fun h => hLa j h) (fun h => h ▸ hia)) (by simp; omega)
          rw [Array.getD_eq_getD_getElem?, Array.getElem?_setIfInBounds]
          by_cases hki : i = k
          · subst hki; simp [hsz, hib]
          · rw [if_neg hki, ← Array.getD_eq_getD_getElem?, hli k hk]
            simp only [List.mem_append, List.mem_singleton]
            constructor
            · exact .inl
            · rintro (h | rfl)
              · exact h
              · exact absurd rfl hki
        · exact (panics i hip o ho L hLa hdeps).wpOp ho (fillF_defers val L a) hw _
        · obtain ⟨o', ho', e, he, hb, hx⟩ := E.dead i hid
          have : o' = o := Option.some.inj (ho'.symm.trans ho)
          subst this
          have h1 := hLa _ (hdeps e he hb)
          rcases hx with hx | hx
          · exact absurd hx (E.apart _ h1).1
          · exact absurd hx (E.apart _ h1).2
  refine wp_region_any hm ?_
  have := key ops.size (Array.replicate ops.size false) [] w.drew hC (by simp) (fun i hi => by simp [Array.getD_eq_getD_getElem?, hi]) (by simp) (by simp) (by simp)
  simpa [fillF] using this
/-- The operations that a mask lets through, and their numbers. -/
def maskSel : List Bool → List Oper → List Oper
  | true :: m, o :: l => o :: maskSel m l
  | false :: m, _ :: l => maskSel m l
  | _, _ => []
def maskIdx : List Bool → Nat → List Nat
  | true :: m, k => k :: maskIdx m (k + 1)
  | false :: m, k => maskIdx m (k + 1)
  | [], _ => []
theorem maskSel_eq : ∀ (m : List Bool) (l : List Oper) (k : Nat), m.length ≤ l.length → (∀ j, l[j]? = ops[k + j]?) → maskSel m l = (maskIdx m k).filterMap (ops[·]?)
  | [], l, k, _, _ => by cases l <;> simp [maskSel, maskIdx]
  | b :: m, [], k, h, _ => by simp at h
  | b :: m, o :: l, k, h, hl => by
    have h0 : ops[k]? = some o := by simpa using (hl 0).symm
    have ih := maskSel_eq m l (k + 1) (by simpa using h) (fun j => by have := hl (j + 1); simpa [Nat.add_assoc, Nat.add_comm 1 j] using this)
    cases b
    · simpa [maskSel, maskIdx] using ih
    · simp only [maskSel, maskIdx, List.filterMap_cons, h0]; rw [ih]
/-- The same for a region whose operations are written out: 'm': which are quiet; 'pm': which end the work. -/
theorem wp_region_ends_lit {l : List Oper} {id : Nat} {Q : Exit → Act → World → Prop} {a : Act} {w : World} (m pm : List Bool) (ds : List Nat) (hm : P.follows .mixedOrders = true)
    (hB : endsB l.toArray (maskIdx m 0) (maskIdx pm 0) ds = true) (hlen : m.length ≤ l.length) (hlen' : pm.length ≤ l.length)
    (h : wpQuiet P l.toArray (fun w' => ∃ X : BW w, w' = X.tw) (fun a' => ∀ o ∈ maskSel pm l, PanicsIn P l.toArray (fun w' => ∃ X : BW w, w' = X.tw) a.defers Q o a') (maskSel m l) a) : (Code.region id l.toArray true).wp P Q a w := by
  refine wp_region_ends (C := fun w' => ∃ X : BW w, w' = X.tw) (maskIdx m 0) (maskIdx pm 0) ds hm hB ⟨⟨_, (Below.refl _ _).drew⟩, rfl⟩ ?_
  rw [← maskSel_eq m l 0 hlen (fun j => by simp)]
  have e := maskSel_eq (ops := l.toArray) pm l 0 hlen' (fun j => by simp)
  rw [e] at h
  have e2 : (fun a' => ∀ o ∈ (maskIdx pm 0).filterMap (l.toArray[·]?), PanicsIn P l.toArray (fun w' => ∃ X : BW w, w' = X.tw) a.defers Q o a') =
      (fun a' => ∀ p ∈ maskIdx pm 0, ∀ o, l.toArray[p]? = some o → PanicsIn P l.toArray (fun w' => ∃ X : BW w, w' = X.tw) a.defers Q o a') := by
    funext a'
    simp only [List.mem_filterMap, eq_iff_iff]
    exact ⟨fun h p hp o ho => h o ⟨p, hp, ho⟩, fun h o ⟨p, hp, ho⟩ => h p hp o ho⟩
  rw [e2] at h
  exact h
end
/-! T -/
open Go.RowKit Go.Proofs
theorem two_fst {w : World} {b2 b3 : Nat} {x : Value} (h2 : w.cell? ⟨b2, 0, none⟩ = some x) (hne : b2 ≠ b3) (hb2 : b2 < w.heap.size) (u v : Value) (o : Obj) :
    (((w.setCell ⟨b2, 0, none⟩ u).setCell ⟨b3, 0, none⟩ v).alloc o).drew.cell? ⟨b2, 0, none⟩ = some u := by
  show (((w.setCell ⟨b2, 0, none⟩ u).setCell ⟨b3, 0, none⟩ v).alloc o).cell? ⟨b2, 0, none⟩ = some u
  rw [World.cell?_alloc_lt _ _ _ (by simpa [World.setCell] using hb2), World.cell?_setCell_other _ _ _ _ (by first | (simp; done) | (simp; omega)), World.cell?_setCell_same _ _ _ h2]
theorem two_snd {w : World} {b2 b3 : Nat} {y : Value} (h3 : w.cell? ⟨b3, 0, none⟩ = some y) (hne : b2 ≠ b3) (hb3 : b3 < w.heap.size) (u v : Value) (o : Obj) :
    (((w.setCell ⟨b2, 0, none⟩ u).setCell ⟨b3, 0, none⟩ v).alloc o).drew.cell? ⟨b3, 0, none⟩ = some v := by
  show (((w.setCell ⟨b2, 0, none⟩ u).setCell ⟨b3, 0, none⟩ v).alloc o).cell? ⟨b3, 0, none⟩ = some v
  have h : (w.setCell ⟨b2, 0, none⟩ u).cell? ⟨b3, 0, none⟩ = some y := by rw [World.cell?_setCell_other _ _ _ _ (by first | (simp; done) | (simp; omega))]; exact h3
  rw [World.cell?_alloc_lt _ _ _ (by simpa [World.setCell] using hb3), World.cell?_setCell_same _ _ _ h]
theorem ta_yes (v : Value) (w : World) : (Instr.typeAssert (.iface 123 v) 20 123 true).run Tryz.prog w = .ok (.tuple #[v, .bool true]) w := by kernel_rfl
theorem ta_nil (w : World) : (Instr.typeAssert .nilIface 20 123 true).run Tryz.prog w = .ok (.tuple #[.agg #[.int .i64 0], .bool false]) w := by kernel_rfl
theorem neq_nil (w : World) : (binOp .neq 20 .nilIface .nilIface).run Tryz.prog w = .ok (.bool false) w := by kernel_rfl
/-- What a function comes to: a value, or a misfit. -/
def Do (w : World) (r : Except Int Value) (e : Ending) (w' : World) : Prop :=
  (match r with | .ok v => e = .returned v | .error c => e = .panicked (Mis c)) ∧ Below w.heap.size w w'
/-- The error of it. -/
def errE {α : Type} : Except Int α → Int | .ok _ => 0 | .error c => c
def valE {α : Type} (d : α) : Except Int α → α | .ok v => v | .error _ => d

/-! ### tried at Fix -/
set_option maxRecDepth 100000 in
theorem catch_misFix (b2 b3 : Nat) (c : Int) (x y : Value) (w : World) (h2 : w.cell? ⟨b2, 0, none⟩ = some x) (h3 : w.cell? ⟨b3, 0, none⟩ = some y) (f2 : w.frozen? ⟨b2, 0, none⟩ = false) (f3 : w.frozen? ⟨b3, 0, none⟩ = false)
    (hne : b2 ≠ b3) (B : Nat) (hB2 : B ≤ b2) (hB3 : B ≤ b3) (hb2 : b2 < w.heap.size) (hb3 : b3 < w.heap.size) :
    CallsD Tryz.prog 62 #[.pointer (some ⟨b2, 0, none⟩), .pointer (some ⟨b3, 0, none⟩)] (.panicking (Mis c)) w fun e u' w' =>
      e = .returned (.tuple #[]) ∧ u' = .panicking [{ v := .iface 123 (.agg #[.int .i64 c]), recovered := true }] ∧ Below B w w' ∧ w'.cell? ⟨b2, 0, none⟩ = some (.int .i64 0) ∧ w'.cell? ⟨b3, 0, none⟩ = some (.int .i64 c) := by
  have c2 : ∀ o, (w.alloc o).cell? ⟨b2, 0, none⟩ = some x := fun o => by rw [← h2]; exact ((Below.refl _ w).alloc (Nat.le_refl _) o).cell (p := ⟨b2, 0, none⟩) hb2
  have c3 : ∀ o, (w.alloc o).cell? ⟨b3, 0, none⟩ = some y := fun o => by rw [← h3]; exact ((Below.refl _ w).alloc (Nat.le_refl _) o).cell (p := ⟨b3, 0, none⟩) hb3
  have d2 : ∀ o, (w.alloc o).frozen? ⟨b2, 0, none⟩ = false := fun o => by rw [← f2]; exact ((Below.refl _ w).alloc (Nat.le_refl _) o).frozen (p := ⟨b2, 0, none⟩) hb2
  have d3 : ∀ o, (w.alloc o).frozen? ⟨b3, 0, none⟩ = false := fun o => by rw [← f3]; exact ((Below.refl _ w).alloc (Nat.le_refl _) o).frozen (p := ⟨b3, 0, none⟩) hb3
  have ta := ta_yes (.agg #[.int .i64 c])
  refine callsD_of_wpS Tryz.func62 rfl fun c₀ cs hu => ?_
  apply wpS_seq
  apply wpS_region
  simp [wpOpsS, go_sem, recoverD, hu, Mis, Tryz.ntmps62, Exit.thenS]
  refine wpS_of_wp ?_
  simp only [Array.replicate_succ, Array.replicate_zero, List.push_toArray, List.append_toArray, List.nil_append, List.cons_append, List.setIfInBounds_toArray, List.set_cons_succ, List.set_cons_zero]
  go_wp2
  go_region
  go_wp2
  refine ⟨rfl, _, rfl, _, results_none rfl _ _ _, rfl, rfl, ?_, ?_, ?_⟩
  · exact (((Below.refl _ _).setCell (p := ⟨b2, 0, none⟩) hB2 _).setCell (p := ⟨b3, 0, none⟩) hB3 _).alloc (by simp [World.setCell]; omega) _ |>.drew
  · exact two_fst h2 hne hb2 _ _ _
  · exact two_snd h3 hne hb3 _ _ _
set_option maxRecDepth 100000 in
theorem catch_idleFix (b2 b3 : Nat) (w : World) (B : Nat) (hB : B ≤ w.heap.size) :
    CallsD Tryz.prog 62 #[.pointer (some ⟨b2, 0, none⟩), .pointer (some ⟨b3, 0, none⟩)] .returning w fun e u' w' =>
      e = .returned (.tuple #[]) ∧ u' = .returning ∧ Below B w w' ∧ (∀ b o, b < w.heap.size → w'.cell? ⟨b, o, none⟩ = w.cell? ⟨b, o, none⟩) := by
  have ta := ta_nil
  have nn := neq_nil
  refine callsD_of_wpS Tryz.func62 rfl fun c₀ cs hu => ?_
  apply wpS_seq
  apply wpS_region
  simp [wpOpsS, go_sem, recoverD, hu, Tryz.ntmps62, Exit.thenS]
  refine wpS_of_wp ?_
  simp only [Array.replicate_succ, Array.replicate_zero, List.push_toArray, List.append_toArray, List.nil_append, List.cons_append, List.setIfInBounds_toArray, List.set_cons_succ, List.set_cons_zero]
  go_wp2
  refine ⟨rfl, .returning, by cases c₀; simp_all, _, results_none rfl _ _ _, rfl, rfl, (Below.refl _ _).alloc hB _, ?_⟩
  intro b o h
  exact ((Below.refl _ w).alloc (Nat.le_refl _) _).cell (p := ⟨b, o, none⟩) h
set_option maxRecDepth 100000 in
set_option maxHeartbeats 1000000 in
theorem triedFix (f : FuncId) (caps : Array Value) (r : Except Int Int) (w : World) (hf : ∀ args w, (callFunc f args).run Tryz.prog w = .ok (.enter f args) w)
    (h : ∀ W, Below w.heap.size w W → Calls Tryz.prog f caps W (Do W (r.map (.int .i64 ·)))) :
    Calls Tryz.prog 34 #[.func (.func f) #[] caps] w fun e w' => e = .returned (.tuple #[.int .i64 (valE 0 r), .int .i64 (errE r)]) ∧ Below w.heap.size w w' := by
  have hmf : ∀ (fn : Fn) (first cap : Array Value) (w : World), (Instr.makeFunc fn first cap).run Tryz.prog w = .ok (.func fn first cap) w := fun _ _ _ _ => rfl
  have H := Lib.hid h
  clear h
  cases r with
  | ok v =>
    go_enter_defers Tryz.func34, Tryz.ntmps34
    go_wp2_with fail
    refine (H.out _ (((Below.refl _ _).alloc (Nat.le_refl _) _).alloc (by simp) _)).mono ?_
    rintro e w1 ⟨he, hb⟩
    simp only [Except.map] at he
    subst he
    have hc := bcell hb
    have hsz := hb.size
    simp only [World.size_alloc] at hc hsz
    have k2 : w1.cell? ⟨w.heap.size, 0, none⟩ = some (.int .i64 0) := by rw [hc.1 _ _ (by omega)]; simp [go_sem]
    have k3 : w1.cell? ⟨w.heap.size + 1, 0, none⟩ = some (.int .i64 0) := by rw [hc.1 _ _ (by omega)]; simp [go_sem]
    have g2 : w1.frozen? ⟨w.heap.size, 0, none⟩ = false := by rw [hc.2 _ _ (by omega)]; simp [go_sem]
    have g3 : w1.frozen? ⟨w.heap.size + 1, 0, none⟩ = false := by rw [hc.2 _ _ (by omega)]; simp [go_sem]
    clear hc
    go_wp2_with fail
    refine leaves_cons (f := 62) (args := #[.pointer (some ⟨w.heap.size, 0, none⟩), .pointer (some ⟨w.heap.size + 1, 0, none⟩)]) (by simp) (by simp [go_sem]) ?_
    have x2 := World.cell?_setCell_same w1 ⟨w.heap.size, 0, none⟩ (.int .i64 v) k2
    have x3 : (w1.setCell ⟨w.heap.size, 0, none⟩ (.int .i64 v)).cell? ⟨w.heap.size + 1, 0, none⟩ = some (.int .i64 0) := by rw [World.cell?_setCell_other _ _ _ _ (by simp)]; exact k3
    have y3 := World.cell?_setCell_same _ ⟨w.heap.size + 1, 0, none⟩ (.int .i64 0) x3
    have y2 : ((w1.setCell ⟨w.heap.size, 0, none⟩ (.int .i64 v)).setCell ⟨w.heap.size + 1, 0, none⟩ (.int .i64 0)).cell? ⟨w.heap.size, 0, none⟩ = some (.int .i64 v) := by rw [World.cell?_setCell_other _ _ _ _ (by simp)]; exact x2
    have bb : Below w.heap.size w ((w1.setCell ⟨w.heap.size, 0, none⟩ (.int .i64 v)).setCell ⟨w.heap.size + 1, 0, none⟩ (.int .i64 0)) :=
      ((((((Below.refl _ _).alloc (Nat.le_refl _) _).alloc (by simp) _).trans (hb.mono (by simp; omega))).setCell (p := ⟨w.heap.size, 0, none⟩) (Nat.le_refl _) _).setCell (p := ⟨w.heap.size + 1, 0, none⟩) (by simp) _)
    have sz : w.heap.size + 1 < ((w1.setCell ⟨w.heap.size, 0, none⟩ (.int .i64 v)).setCell ⟨w.heap.size + 1, 0, none⟩ (.int .i64 0)).heap.size := by simp [World.setCell]; omega
    generalize hW : (w1.setCell ⟨w.heap.size, 0, none⟩ (.int .i64 v)).setCell ⟨w.heap.size + 1, 0, none⟩ (.int .i64 0) = W at *
    refine (catch_idleFix _ _ _ w.heap.size (by omega)).mono ?_
    rintro e u' w2 ⟨rfl, rfl, hb2, hc2⟩
    have z2 := (hc2 w.heap.size 0 (by omega)).trans y2
    have z3 := (hc2 (w.heap.size + 1) 0 (by omega)).trans y3
    refine ⟨.tuple #[.int .i64 v, .int .i64 0], ?_, rfl, bb.trans hb2⟩
    simp [results, Tryz.results34, go_sem, z2, z3]
  | error c =>
    go_enter_defers Tryz.func34, Tryz.ntmps34
    go_wp2_with fail
    refine (H.out _ (((Below.refl _ _).alloc (Nat.le_refl _) _).alloc (by simp) _)).mono ?_
    rintro e w1 ⟨he, hb⟩
    simp only [Except.map] at he
    subst he
    have hc := bcell hb
    have hsz := hb.size
    simp only [World.size_alloc] at hc hsz
    have k2 : w1.cell? ⟨w.heap.size, 0, none⟩ = some (.int .i64 0) := by rw [hc.1 _ _ (by omega)]; simp [go_sem]
    have k3 : w1.cell? ⟨w.heap.size + 1, 0, none⟩ = some (.int .i64 0) := by rw [hc.1 _ _ (by omega)]; simp [go_sem]
    have g2 : w1.frozen? ⟨w.heap.size, 0, none⟩ = false := by rw [hc.2 _ _ (by omega)]; simp [go_sem]
    have g3 : w1.frozen? ⟨w.heap.size + 1, 0, none⟩ = false := by rw [hc.2 _ _ (by omega)]; simp [go_sem]
    clear hc
    refine leaves_cons (f := 62) (args := #[.pointer (some ⟨w.heap.size, 0, none⟩), .pointer (some ⟨w.heap.size + 1, 0, none⟩)]) (by simp) (by simp [go_sem]) ?_
    refine (catch_misFix _ _ c _ _ _ k2 k3 g2 g3 (by omega) w.heap.size (Nat.le_refl _) (by omega) (by omega) (by omega)).mono ?_
    rintro e u' w2 ⟨rfl, rfl, hb2, z2, z3⟩
    refine ⟨.tuple #[(.int .i64 0), .int .i64 c], ?_, rfl, (((Below.refl _ _).alloc (Nat.le_refl _) _).alloc (by simp) _).trans ((hb.mono (by simp; omega)).trans hb2)⟩
    simp [results, Tryz.results34, go_sem, z2, z3]

/-! ### tried at Int -/
/-! U -/
open Go.RowKit Go.Proofs Go.Shelf
theorem right1_ok (a : Int) (B : Nat) (w : World) (h : Val a) (c0 : w.cell? ⟨B, 0, none⟩ = some (.int .i64 a)) :
    Calls Tryz.prog 36 #[.slice (some ⟨B, 0, none⟩) 1 1] w fun e w' => e = .returned (.tuple #[]) ∧ w = w' :=
  right_ok [a] B 1 w (by simp) (fun i hi => by
    have : i = 0 := by simp at hi; omega
    rcases this with rfl
    · exact c0) (by simpa using h)
theorem right1_no (a : Int) (B : Nat) (w : World) (h : ¬ (Val a)) (c0 : w.cell? ⟨B, 0, none⟩ = some (.int .i64 a)) :
    Calls Tryz.prog 36 #[.slice (some ⟨B, 0, none⟩) 1 1] w fun e w' => e = .panicked (Mis 2) ∧ w = w' :=
  right_no [a] B 1 w (by simp) (fun i hi => by
    have : i = 0 := by simp at hi; omega
    rcases this with rfl
    · exact c0) (by simpa using h)
theorem right2_ok (a b : Int) (B : Nat) (w : World) (h : Val a ∧ Val b) (c0 : w.cell? ⟨B, 0, none⟩ = some (.int .i64 a)) (c1 : w.cell? ⟨B, 1, none⟩ = some (.int .i64 b)) :
    Calls Tryz.prog 36 #[.slice (some ⟨B, 0, none⟩) 2 2] w fun e w' => e = .returned (.tuple #[]) ∧ w = w' :=
  right_ok [a, b] B 2 w (by simp) (fun i hi => by
    have : i = 0 ∨ i = 1 := by simp at hi; omega
    rcases this with rfl | rfl
    · exact c0
    · exact c1) (by simpa using h)
theorem right2_no (a b : Int) (B : Nat) (w : World) (h : ¬ (Val a ∧ Val b)) (c0 : w.cell? ⟨B, 0, none⟩ = some (.int .i64 a)) (c1 : w.cell? ⟨B, 1, none⟩ = some (.int .i64 b)) :
    Calls Tryz.prog 36 #[.slice (some ⟨B, 0, none⟩) 2 2] w fun e w' => e = .panicked (Mis 2) ∧ w = w' :=
  right_no [a, b] B 2 w (by simp) (fun i hi => by
    have : i = 0 ∨ i = 1 := by simp at hi; omega
    rcases this with rfl | rfl
    · exact c0
    · exact c1) (by simpa using h)
/-- A size with a sign, if it is a number. -/
def fitR (q : Int) (neg : Bool) : Except Int Int := if q ≤ 70368744177664 then .ok (sgn q neg) else .error 4
theorem QuotOut.toDo {w w' : World} {q : Int} {neg : Bool} {e : Ending} (h : QuotOut w q neg e w') : Do w ((fitR q neg).map (.int .i64 ·)) e w' := by
  obtain ⟨h1, h2⟩ := h
  unfold fitR
  by_cases hq : q ≤ 70368744177664
  · rw [if_pos hq] at h1 ⊢; exact ⟨h1, h2⟩
  · rw [if_neg hq] at h1 ⊢; exact ⟨h1, h2⟩
theorem Do.ok {w w' : World} {v : Value} {r : Except Int Value} (hr : r = .ok v) (hb : Below w.heap.size w w') : Do w r (.returned v) w' := by subst hr; exact ⟨rfl, hb⟩
theorem Do.no {w w' : World} {c : Int} {r : Except Int Value} (hr : r = .error c) (hb : Below w.heap.size w w') : Do w r (.panicked (Mis c)) w' := by subst hr; exact ⟨rfl, hb⟩
theorem Do.at_ok {w w' : World} {v : Value} {e : Ending} (h : Do w (.ok v) e w') : e = .returned v ∧ Below w.heap.size w w' := h
theorem Do.at_no {w w' : World} {c : Int} {e : Ending} (h : Do w (.error c) e w') : e = .panicked (Mis c) ∧ Below w.heap.size w w' := h
/-! V -/
open Go.RowKit Go.Proofs Go.Shelf
/-- A quotient, rounded by way k, with a sign; or the error. -/
def quoR (n d : Int) (neg : Bool) (k : Nat) : Except Int Int := if 18446744073709551616 ≤ n / d then .error 4 else fitR (n / d + b2i (bump k (n % d) d neg)) neg
/-- The sum with what it is rounded by does not wrap round. -/
def NW (n d : Int) (neg : Bool) (k : Nat) : Prop := n / d < 18446744073709551616 → n / d + b2i (bump k (n % d) d neg) ≠ 18446744073709551616
theorem b2i_le (b : Bool) : 0 ≤ b2i b ∧ b2i b ≤ 1 := by cases b <;> simp [b2i]
theorem quot_do {h l n : Int} (H : InW h l n) (k : Nat) (d : Int) (neg : Bool) (w : World) (h1 : 1 ≤ d) (h2 : d ≤ 18446744073709551615)
    (hk : k = 63 ∨ k = 64 ∨ k = 65 ∨ k = 66) (hw : NW n d neg k) :
    Calls Tryz.prog 112 #[.agg #[.int .u64 h, .int .u64 l], .int .u64 d, .bool neg, .func (.func k) #[] #[]] w (Do w ((quoR n d neg k).map (.int .i64 ·))) := by
  have e := H.e; have a := H.l0; have b := H.l1; have c := H.h0
  unfold quoR
  by_cases hh : h < d
  · have hq : n / d < 18446744073709551616 := by rw [Int.ediv_lt_iff_lt_mul (by omega)]; omega
    rw [if_neg (by omega)]
    have := b2i_le (bump k (n % d) d neg)
    refine (quot_any H k d neg w h1 h2 hh hk (by have := hw hq; omega)).mono fun e w' h => h.toDo
  · have hq : 18446744073709551616 ≤ n / d := by rw [Int.le_ediv_iff_mul_le (by omega)]; omega
    rw [if_pos hq]
    refine (quot_big k d neg w (by omega)).mono ?_
    rintro e w' ⟨rfl, hb⟩
    exact Do.no rfl hb
theorem Do.quiet {P : Program} {f : FuncId} {args : Array Value} {w : World} {X : BW w} {v : Value} {r : Except Int Value} (h : Calls P f args X.tw (Do X.tw r)) (hr : r = .ok v) :
    Calls P f args X.tw fun e w'' => e = .returned v ∧ ∃ Y : BW w, w'' = Y.tw := quietB (h.mono fun _ _ h => by subst hr; exact h)
theorem panicsB {P : Program} {ops : Array Oper} {w w0 : World} {fn : Func} {K : Act → World → Prop} {r : Except Int Value} {c : Int} {o : Oper} {a : Act} {f : FuncId} {args : Array Value}
    (hwant : Region.wanted o (yielded ops a.tmps) = true) (hrun : ∀ X : BW w, (execOp a.eval o).run P X.tw = .ok (.enter f args) X.tw) (hc : ∀ X : BW w, Calls P f args X.tw fun e w' => e = .panicked (Mis c) ∧ Below X.tw.heap.size X.tw w')
    (hr : r = .error c) (hb : Below w0.heap.size w0 w) : PanicsIn P ops (fun w' => ∃ X : BW w, w' = X.tw) [] (Exit.then K (bodyPost P fn (Do w0 r))) o a := by
  refine ⟨hwant, ?_⟩
  rintro _ ⟨X, rfl⟩
  refine ⟨f, args, hrun X, (hc X).mono ?_⟩
  rintro e w'' ⟨rfl, hb'⟩
  exact ⟨Mis c, rfl, fun a' ha' => ⟨ha', Do.no hr (hb.trans ((X.same.trans (hb'.mono X.same.size)).mono hb.size))⟩⟩
def HowOk (how : Int) : Prop := 0 ≤ how ∧ how ≤ 3
instance (how : Int) : Decidable (HowOk how) := by unfold HowOk; infer_instance
theorem kOf {how : Int} (h : HowOk how) : 63 + how.toNat = 63 ∨ 63 + how.toNat = 64 ∨ 63 + how.toNat = 65 ∨ 63 + how.toNat = 66 := by unfold HowOk at h; omega
theorem need_any (b : Bool) (c : Int) (w : World) : Calls Tryz.prog 38 #[.bool b, .int .i64 c] w fun e w' => w = w' ∧ e = if b = true then .returned (.tuple #[]) else .panicked (Mis c) := by
  cases b
  · exact (need_no c w).mono fun e w' h => ⟨h.2, h.1⟩
  · exact (need_ok c w).mono fun e w' h => ⟨h.2, h.1⟩
theorem lt_cell {w : World} {b o : Nat} {v : Value} (h : w.cell? ⟨b, o, none⟩ = some v) : b < w.heap.size := by
  rcases Nat.lt_or_ge b w.heap.size with h' | h'
  · exact h'
  · simp [World.cell?, Array.getElem?_eq_none h'] at h
def RateOk (n : Int) : Prop := -2147483648 ≤ n ∧ n ≤ 2147483648
instance (n : Int) : Decidable (RateOk n) := by unfold RateOk; infer_instance
/-- What Scale comes to. -/
def scaleR (a num den how : Int) : Except Int Int := if Val a then (if HowOk how then (if RateOk num ∧ RateOk den then (if den = 0 then .error 10 else quoR (sz a * sz num) (sz den) (decide (a < 0) != (decide (num < 0) != decide (den < 0))) (63 + how.toNat)) else .error 2) else .error 2) else .error 2
set_option maxHeartbeats 2000000 in
theorem cl88 (p q r s : Nat) (a how num den : Int) (w : World) (hp : w.cell? ⟨p, 0, none⟩ = some (.int .i64 a)) (hq : w.cell? ⟨q, 0, none⟩ = some (.int .i64 how)) (hr : w.cell? ⟨r, 0, none⟩ = some (.int .i64 num)) (hs : w.cell? ⟨s, 0, none⟩ = some (.int .i64 den))
    (hw : Val a ∧ HowOk how ∧ RateOk num ∧ RateOk den ∧ den ≠ 0 → NW (sz a * sz num) (sz den) (decide (a < 0) != (decide (num < 0) != decide (den < 0))) (63 + how.toNat)) :
    Calls Tryz.prog 111 #[.pointer (some ⟨p, 0, none⟩), .pointer (some ⟨q, 0, none⟩), .pointer (some ⟨r, 0, none⟩), .pointer (some ⟨s, 0, none⟩)] w (Do w ((scaleR a num den how).map (.int .i64 ·))) := by
  have lp := lt_cell hp
  have lq := lt_cell hq
  have lr := lt_cell hr
  have ls := lt_cell hs
  have Xp : ∀ o (X : BW (w.alloc o)), X.tw.cell? ⟨p, 0, none⟩ = some (.int .i64 a) := fun o X => (X.cell _ _ (by simp; omega)).trans ((World.cell?_alloc_past _ _ _ lp).trans hp)
  have Xq : ∀ o (X : BW (w.alloc o)), X.tw.cell? ⟨q, 0, none⟩ = some (.int .i64 how) := fun o X => (X.cell _ _ (by simp; omega)).trans ((World.cell?_alloc_past _ _ _ lq).trans hq)
  have Xr : ∀ o (X : BW (w.alloc o)), X.tw.cell? ⟨r, 0, none⟩ = some (.int .i64 num) := fun o X => (X.cell _ _ (by simp; omega)).trans ((World.cell?_alloc_past _ _ _ lr).trans hr)
  have Xs : ∀ o (X : BW (w.alloc o)), X.tw.cell? ⟨s, 0, none⟩ = some (.int .i64 den) := fun o X => (X.cell _ _ (by simp; omega)).trans ((World.cell?_alloc_past _ _ _ ls).trans hs)
  unfold scaleR
  have GW := Lib.hid hw
  clear hw
  by_cases hv : Val a
  · rw [if_pos hv]
    have HV := Lib.hid hv
    obtain ⟨v1, v2⟩ := hv
    by_cases hh : HowOk how
    · rw [if_pos hh]
      have GH := Lib.hid hh
      obtain ⟨h0, h3⟩ := hh
      by_cases hm : RateOk num ∧ RateOk den
      · rw [if_pos hm]
        have GM := Lib.hid hm
        obtain ⟨⟨m1, m2⟩, m3, m4⟩ := hm
        by_cases hz : den = 0
        · rw [if_pos hz]
          subst hz
          go_enter Tryz.func111, Tryz.ntmps111
          go_wp2_with (first
            | (go_at_call 36; refine (right1_ok a _ _ HV.out (by simp [go_sem])).mono ?_; rintro e w' ⟨rfl, rfl⟩)
            | (go_at_call 37; refine (ways_ok _ _ h0 h3).mono ?_; rintro e w' ⟨rfl, rfl⟩)
            | (go_at_call 38; refine (need_any _ _ _).mono ?_; rintro e w' ⟨rfl, he⟩; simp only [if_true, if_false, Bool.false_eq_true] at he; subst he))
          exact ⟨rfl, Do.no rfl ((Below.refl _ _).alloc (Nat.le_refl _) _)⟩
        · rw [if_neg hz]
          have hz' : (den != 0) = true := by simpa using hz
          have sa := sz_nn a; have sn := sz_nn num; have sd : 1 ≤ sz den := by unfold sz; split <;> omega
          have sa' : sz a ≤ 70368744177664 := sz_le v1 v2
          have sn' : sz num ≤ 2147483648 := sz_le m1 m2
          have sd' : sz den ≤ 2147483648 := sz_le m3 m4
          have hn := GW.out ⟨HV.out, GH.out, GM.out.1, GM.out.2, hz⟩
          obtain ⟨na, hna⟩ : ∃ na, decide (a < 0) = na := ⟨_, rfl⟩
          obtain ⟨nb, hnb⟩ : ∃ nb, decide (num < 0) = nb := ⟨_, rfl⟩
          obtain ⟨nc, hnc⟩ : ∃ nc, decide (den < 0) = nc := ⟨_, rfl⟩
          rw [hna, hnb, hnc] at hn ⊢
          obtain ⟨x, hx⟩ : ∃ x, quoR (sz a * sz num) (sz den) (na != (nb != nc)) (63 + how.toNat) = x := ⟨_, rfl⟩
          rw [hx]
          have HQ : Hid (∀ w, Calls Tryz.prog 112 #[.agg #[.int .u64 (hiU (sz a * sz num)), .int .u64 (loU (sz a * sz num))], .int .u64 (sz den), .bool (na != (nb != nc)), .func (.func (63 + how.toNat)) #[] #[]] w (Do w (x.map (.int .i64 ·)))) := by
            intro w; rw [← hx]
            have := Int.mul_le_mul sa' sn' sn (by omega)
            exact quot_do (InW.mk' (Int.mul_nonneg sa sn) (by omega)) _ (sz den) _ w sd (by omega) (kOf GH.out) hn
          clear hx hz hn
          cases x with
          | ok v =>
            go_enter Tryz.func111, Tryz.ntmps111
            go_wp2_with (first
              | (go_at_call 36; refine (right1_ok a _ _ HV.out (by simp [go_sem])).mono ?_; rintro e w' ⟨rfl, rfl⟩)
              | (go_at_call 37; refine (ways_ok _ _ h0 h3).mono ?_; rintro e w' ⟨rfl, rfl⟩)
              | (go_at_call 38; refine (need_ok _ _).mono ?_; rintro e w' ⟨rfl, rfl⟩))
            refine wp_region_quietB (by kernel_rfl) (by kernel_rfl) ?_
            repeat (go_big_quiet_step ((first
              | (go_at_call 81; exact quietS (size_any _ _ (by omega) (by omega)))
              | (go_at_call 113; exact quietS (sizeInt_any _ _ (by omega) (by omega)))
              | (go_at_call 40; exact quietB (product_any _ _ _ (by omega) (by omega) (by omega) (by omega)))
              | (go_at_call 112; exact Do.quiet (HQ.out _) rfl))))
            refine wpQuiet_nil ?_
            rintro _ ⟨⟨wy, hby⟩, rfl⟩
            go_wp2_with fail
            go_ret
            exact Do.ok rfl (((Below.refl _ _).alloc (Nat.le_refl _) _).trans (hby.mono (by simp)))
          | error c =>
            go_enter Tryz.func111, Tryz.ntmps111
            go_wp2_with (first
              | (go_at_call 36; refine (right1_ok a _ _ HV.out (by simp [go_sem])).mono ?_; rintro e w' ⟨rfl, rfl⟩)
              | (go_at_call 37; refine (ways_ok _ _ h0 h3).mono ?_; rintro e w' ⟨rfl, rfl⟩)
              | (go_at_call 38; refine (need_ok _ _).mono ?_; rintro e w' ⟨rfl, rfl⟩))
            refine wp_region_ends_lit [true, true, true, true, true, true, true, true, true, true, true, true, true, true, true, true] [false, false, false, false, false, false, false, false, false, false, false, false, false, false, false, false, true] [17] (by kernel_rfl) (by kernel_rfl) (by simp) (by simp) ?_
            simp only [maskSel]
            repeat (go_big_quiet_step (((first
              | (go_at_call 81; exact quietS (size_any _ _ (by omega) (by omega)))
              | (go_at_call 113; exact quietS (sizeInt_any _ _ (by omega) (by omega)))
              | (go_at_call 40; exact quietB (product_any _ _ _ (by omega) (by omega) (by omega) (by omega)))))))
            refine wpQuiet_nil ?_
            intro o ho
            simp only [List.mem_singleton] at ho
            subst ho
            exact panicsB rfl (fun X => by simp [go_sem]; cases na <;> cases nb <;> cases nc <;> rfl) (fun X => HQ.out _) rfl ((Below.refl _ _).alloc (Nat.le_refl _) _)
      · rw [if_neg hm]
        have hm' : (decide (-2147483648 ≤ num) = false) ∨ (-2147483648 ≤ num ∧ decide (num ≤ 2147483648) = false) ∨ (-2147483648 ≤ num ∧ num ≤ 2147483648 ∧ decide (-2147483648 ≤ den) = false) ∨ (-2147483648 ≤ num ∧ num ≤ 2147483648 ∧ -2147483648 ≤ den ∧ decide (den ≤ 2147483648) = false) := by
          unfold RateOk at hm; simp only [decide_eq_false_iff_not]; omega
        clear hm
        rcases hm' with m1 | ⟨m1, m2⟩ | ⟨m1, m2, m3⟩ | ⟨m1, m2, m3, m4⟩
        all_goals
          go_enter Tryz.func111, Tryz.ntmps111
          go_wp2_with (first
            | (go_at_call 36; refine (right1_ok a _ _ HV.out (by simp [go_sem])).mono ?_; rintro e w' ⟨rfl, rfl⟩)
            | (go_at_call 37; refine (ways_ok _ _ h0 h3).mono ?_; rintro e w' ⟨rfl, rfl⟩)
            | (go_at_call 38; refine (need_no _ _).mono ?_; rintro e w' ⟨rfl, rfl⟩))
          exact ⟨rfl, Do.no rfl ((Below.refl _ _).alloc (Nat.le_refl _) _)⟩
    · rw [if_neg hh]
      go_enter Tryz.func111, Tryz.ntmps111
      go_wp2_with (first
        | (go_at_call 36; refine (right1_ok a _ _ HV.out (by simp [go_sem])).mono ?_; rintro e w' ⟨rfl, rfl⟩)
        | (go_at_call 37; refine (ways_no _ _ (by unfold HowOk at hh; omega)).mono ?_; rintro e w' ⟨rfl, rfl⟩))
      exact ⟨rfl, Do.no rfl ((Below.refl _ _).alloc (Nat.le_refl _) _)⟩
  · rw [if_neg hv]
    have HV := Lib.hid hv
    clear hv
    go_enter Tryz.func111, Tryz.ntmps111
    go_wp2_with (go_at_call 36; refine (right1_no a _ _ HV.out (by simp [go_sem])).mono ?_; rintro e w' ⟨rfl, rfl⟩)
    exact ⟨rfl, Do.no rfl ((Below.refl _ _).alloc (Nat.le_refl _) _)⟩
theorem exists_root (A : Int) (h : 0 ≤ A) : ∃ n, IsRoot A n := by
  obtain ⟨m, rfl⟩ := Int.eq_ofNat_of_zero_le h
  have : ∀ m : Nat, ∃ n : Nat, n * n ≤ m ∧ m < (n + 1) * (n + 1) := by
    intro m
    induction m with
    | zero => exact ⟨0, by omega, by omega⟩
    | succ m ih =>
      obtain ⟨n, h1, h2⟩ := ih
      by_cases hx : m + 1 < (n + 1) * (n + 1)
      · exact ⟨n, by omega, hx⟩
      · refine ⟨n + 1, by omega, ?_⟩
        have : (n + 1 + 1) * (n + 1 + 1) = (n + 1) * (n + 1) + (n + 1) + (n + 1) + 1 := by rw [Nat.add_mul, Nat.mul_add]; omega
        omega
  obtain ⟨n, h1, h2⟩ := this m
  exact ⟨n, by omega, by exact_mod_cast h1, by exact_mod_cast h2⟩
/-- The root of a number, rounded down. -/
noncomputable def isq (A : Int) : Int := if h : 0 ≤ A then Classical.choose (exists_root A h) else 0
theorem isq_spec {A : Int} (h : 0 ≤ A) : IsRoot A (isq A) := by unfold isq; rw [dif_pos h]; exact Classical.choose_spec (exists_root A h)
/-- A root, rounded by way k; or the error. -/
noncomputable def rooR (A : Int) (k : Nat) : Except Int Int := fitR (isq A + b2i (rbump k A (isq A))) false
/-- What Root comes to. -/
noncomputable def rootR (a how : Int) : Except Int Int := if Val a then (if HowOk how then (if a < 0 then .error 11 else rooR (a * 65536) (63 + how.toNat)) else .error 2) else .error 2
set_option maxHeartbeats 1000000 in
theorem cl64 (p q : Nat) (a how : Int) (w : World) (hp : w.cell? ⟨p, 0, none⟩ = some (.int .i64 a)) (hq : w.cell? ⟨q, 0, none⟩ = some (.int .i64 how)) :
    Calls Tryz.prog 35 #[.pointer (some ⟨p, 0, none⟩), .pointer (some ⟨q, 0, none⟩)] w (Do w ((rootR a how).map (.int .i64 ·))) := by
  have lp := lt_cell hp
  have lq := lt_cell hq
  have Xp : ∀ o (X : BW (w.alloc o)), X.tw.cell? ⟨p, 0, none⟩ = some (.int .i64 a) := fun o X => (X.cell _ _ (by simp; omega)).trans ((World.cell?_alloc_past _ _ _ lp).trans hp)
  have Xq : ∀ o (X : BW (w.alloc o)), X.tw.cell? ⟨q, 0, none⟩ = some (.int .i64 how) := fun o X => (X.cell _ _ (by simp; omega)).trans ((World.cell?_alloc_past _ _ _ lq).trans hq)
  unfold rootR
  by_cases hv : Val a
  · rw [if_pos hv]
    have HV := Lib.hid hv
    obtain ⟨v1, v2⟩ := hv
    by_cases hh : HowOk how
    · rw [if_pos hh]
      have GH := Lib.hid hh
      obtain ⟨h0, h3⟩ := hh
      by_cases hz : a < 0
      · rw [if_pos hz]
        have hz' : decide (0 ≤ a) = false := by simp; omega
        clear hz
        go_enter Tryz.func35, Tryz.ntmps35
        go_wp2_with (first
          | (go_at_call 36; refine (right1_ok a _ _ HV.out (by simp [go_sem])).mono ?_; rintro e w' ⟨rfl, rfl⟩)
          | (go_at_call 37; refine (ways_ok _ _ h0 h3).mono ?_; rintro e w' ⟨rfl, rfl⟩)
          | (go_at_call 38; refine (need_no _ _).mono ?_; rintro e w' ⟨rfl, rfl⟩))
        exact ⟨rfl, Do.no rfl ((Below.refl _ _).alloc (Nat.le_refl _) _)⟩
      · rw [if_neg hz]
        have hz' : 0 ≤ a := by omega
        clear hz
        obtain ⟨x, hx⟩ : ∃ x, rooR (a * 65536) (63 + how.toNat) = x := ⟨_, rfl⟩
        rw [hx]
        have HQ : Hid (∀ h l w, InW h l (a * 65536) → Calls Tryz.prog 39 #[.agg #[.int .u64 h, .int .u64 l], .func (.func (63 + how.toNat)) #[] #[]] w (Do w (x.map (.int .i64 ·)))) := by
          intro h l w H; rw [← hx]
          exact (root_any H _ w (isq_spec (by omega)) (by omega) (kOf GH.out)).mono fun e w' h => h.toDo
        clear hx
        cases x with
        | ok v =>
          go_enter Tryz.func35, Tryz.ntmps35
          go_wp2_with (first
            | (go_at_call 36; refine (right1_ok a _ _ HV.out (by simp [go_sem])).mono ?_; rintro e w' ⟨rfl, rfl⟩)
            | (go_at_call 37; refine (ways_ok _ _ h0 h3).mono ?_; rintro e w' ⟨rfl, rfl⟩)
            | (go_at_call 38; refine (need_ok _ _).mono ?_; rintro e w' ⟨rfl, rfl⟩)
            | (go_at_call 40; refine (productW _ _ _ hz' (by omega) (by omega) (by omega)).mono ?_; rintro e w1 ⟨h, l, rfl, hW, hb1⟩)
            | (go_at_call 39; refine (HQ.out _ _ _ hW.out).mono ?_; rintro e w2 hd; obtain ⟨rfl, hb2⟩ := Do.at_ok hd))
          go_ret
          exact Do.ok rfl ((((Below.refl _ _).alloc (Nat.le_refl _) _).trans (hb1.mono (by simp))).trans (hb2.mono (by have := hb1.size; simp at this; omega)))
        | error c =>
          go_enter Tryz.func35, Tryz.ntmps35
          go_wp2_with (first
            | (go_at_call 36; refine (right1_ok a _ _ HV.out (by simp [go_sem])).mono ?_; rintro e w' ⟨rfl, rfl⟩)
            | (go_at_call 37; refine (ways_ok _ _ h0 h3).mono ?_; rintro e w' ⟨rfl, rfl⟩)
            | (go_at_call 38; refine (need_ok _ _).mono ?_; rintro e w' ⟨rfl, rfl⟩)
            | (go_at_call 40; refine (productW _ _ _ hz' (by omega) (by omega) (by omega)).mono ?_; rintro e w1 ⟨h, l, rfl, hW, hb1⟩)
            | (go_at_call 39; refine (HQ.out _ _ _ hW.out).mono ?_; rintro e w2 hd; obtain ⟨rfl, hb2⟩ := Do.at_no hd))
          exact ⟨rfl, Do.no rfl ((((Below.refl _ _).alloc (Nat.le_refl _) _).trans (hb1.mono (by simp))).trans (hb2.mono (by have := hb1.size; simp at this; omega)))⟩
    · rw [if_neg hh]
      go_enter Tryz.func35, Tryz.ntmps35
      go_wp2_with (first
        | (go_at_call 36; refine (right1_ok a _ _ HV.out (by simp [go_sem])).mono ?_; rintro e w' ⟨rfl, rfl⟩)
        | (go_at_call 37; refine (ways_no _ _ (by unfold HowOk at hh; omega)).mono ?_; rintro e w' ⟨rfl, rfl⟩))
      exact ⟨rfl, Do.no rfl ((Below.refl _ _).alloc (Nat.le_refl _) _)⟩
  · rw [if_neg hv]
    have HV := Lib.hid hv
    clear hv
    go_enter Tryz.func35, Tryz.ntmps35
    go_wp2_with (go_at_call 36; refine (right1_no a _ _ HV.out (by simp [go_sem])).mono ?_; rintro e w' ⟨rfl, rfl⟩)
    exact ⟨rfl, Do.no rfl ((Below.refl _ _).alloc (Nat.le_refl _) _)⟩
set_option maxHeartbeats 1000000 in
theorem Scale_any (a num den how : Int) (w : World) (hw : Val a ∧ HowOk how ∧ RateOk num ∧ RateOk den ∧ den ≠ 0 → NW (sz a * sz num) (sz den) (decide (a < 0) != (decide (num < 0) != decide (den < 0))) (63 + how.toNat)) :
    Calls Tryz.prog 76 #[.int .i64 a, .int .i64 num, .int .i64 den, .int .i64 how] w fun e w' => e = .returned (.tuple #[.int .i64 (valE 0 (scaleR a num den how)), .int .i64 (errE (scaleR a num den how))]) ∧ Below w.heap.size w w' := by
  have hmf : ∀ (fn : Fn) (first cap : Array Value) (w : World), (Instr.makeFunc fn first cap).run Tryz.prog w = .ok (.func fn first cap) w := fun _ _ _ _ => rfl
  have hcl : ∀ W, Below ((((w.alloc (.cells #[.int .i64 a] 45)).alloc (.cells #[.int .i64 num] 3)).alloc (.cells #[.int .i64 den] 3)).alloc (.cells #[.int .i64 how] 3)).heap.size ((((w.alloc (.cells #[.int .i64 a] 45)).alloc (.cells #[.int .i64 num] 3)).alloc (.cells #[.int .i64 den] 3)).alloc (.cells #[.int .i64 how] 3)) W → Calls Tryz.prog 111 #[.pointer (some ⟨w.heap.size, 0, none⟩), .pointer (some ⟨w.heap.size + 1 + 1 + 1, 0, none⟩), .pointer (some ⟨w.heap.size + 1, 0, none⟩), .pointer (some ⟨w.heap.size + 1 + 1, 0, none⟩)] W (Do W ((scaleR a num den how).map (.int .i64 ·))) := by
    intro W hW
    have hc := (bcell hW).1
    simp only [World.size_alloc] at hc
    have c0 : W.cell? ⟨w.heap.size, 0, none⟩ = some (.int .i64 a) := by rw [hc _ _ (by omega)]; simp [go_sem]
    have c1 : W.cell? ⟨w.heap.size + 1, 0, none⟩ = some (.int .i64 num) := by rw [hc _ _ (by omega)]; simp [go_sem]
    have c2 : W.cell? ⟨w.heap.size + 1 + 1, 0, none⟩ = some (.int .i64 den) := by rw [hc _ _ (by omega)]; simp [go_sem]
    have c3 : W.cell? ⟨w.heap.size + 1 + 1 + 1, 0, none⟩ = some (.int .i64 how) := by rw [hc _ _ (by omega)]; simp [go_sem]
    exact cl88 _ _ _ _ a how num den W c0 c3 c1 c2 hw
  have HC := Lib.hid hcl
  clear hcl hw
  go_enter Tryz.func76, Tryz.ntmps76
  go_wp2_with (go_at_call 34; refine (triedFix 111 _ _ _ (enters_of Tryz.func111 (by kernel_rfl) rfl) HC.out).mono ?_; rintro e w1 ⟨rfl, hb⟩)
  go_ret2
  exact ⟨rfl, (((((Below.refl _ _).alloc (Nat.le_refl _) _).alloc (by simp) _).alloc (by simp; omega) _).alloc (by simp; omega) _).trans (hb.mono (by simp; omega))⟩
set_option maxHeartbeats 1000000 in
theorem Root_any (a how : Int) (w : World) :
    Calls Tryz.prog 15 #[.int .i64 a, .int .i64 how] w fun e w' => e = .returned (.tuple #[.int .i64 (valE 0 (rootR a how)), .int .i64 (errE (rootR a how))]) ∧ Below w.heap.size w w' := by
  have hmf : ∀ (fn : Fn) (first cap : Array Value) (w : World), (Instr.makeFunc fn first cap).run Tryz.prog w = .ok (.func fn first cap) w := fun _ _ _ _ => rfl
  have hcl : ∀ W, Below ((w.alloc (.cells #[.int .i64 a] 45)).alloc (.cells #[.int .i64 how] 3)).heap.size ((w.alloc (.cells #[.int .i64 a] 45)).alloc (.cells #[.int .i64 how] 3)) W → Calls Tryz.prog 35 #[.pointer (some ⟨w.heap.size, 0, none⟩), .pointer (some ⟨w.heap.size + 1, 0, none⟩)] W (Do W ((rootR a how).map (.int .i64 ·))) := by
    intro W hW
    have hc := (bcell hW).1
    simp only [World.size_alloc] at hc
    have c0 : W.cell? ⟨w.heap.size, 0, none⟩ = some (.int .i64 a) := by rw [hc _ _ (by omega)]; simp [go_sem]
    have c1 : W.cell? ⟨w.heap.size + 1, 0, none⟩ = some (.int .i64 how) := by rw [hc _ _ (by omega)]; simp [go_sem]
    exact cl64 _ _ a how W c0 c1
  have HC := Lib.hid hcl
  clear hcl
  go_enter Tryz.func15, Tryz.ntmps15
  go_wp2_with (go_at_call 34; refine (triedFix 35 _ _ _ (enters_of Tryz.func35 (by kernel_rfl) rfl) HC.out).mono ?_; rintro e w1 ⟨rfl, hb⟩)
  go_ret2
  exact ⟨rfl, (((Below.refl _ _).alloc (Nat.le_refl _) _).alloc (by simp) _).trans (hb.mono (by simp; omega))⟩
/-! W -/
open Go.RowKit Go.Proofs Go.Shelf
/-- Three stores: what they leave. -/
theorem three_cells {w : World} {b2 b3 : Nat} {x x' y : Value} (h2 : w.cell? ⟨b2, 0, none⟩ = some x) (h2' : w.cell? ⟨b2, 1, none⟩ = some x') (h3 : w.cell? ⟨b3, 0, none⟩ = some y) (hne : b2 ≠ b3) (u u' v : Value) :
    (((w.setCell ⟨b2, 0, none⟩ u).setCell ⟨b2, 1, none⟩ u').setCell ⟨b3, 0, none⟩ v).cell? ⟨b2, 0, none⟩ = some u ∧ (((w.setCell ⟨b2, 0, none⟩ u).setCell ⟨b2, 1, none⟩ u').setCell ⟨b3, 0, none⟩ v).cell? ⟨b2, 1, none⟩ = some u' ∧ (((w.setCell ⟨b2, 0, none⟩ u).setCell ⟨b2, 1, none⟩ u').setCell ⟨b3, 0, none⟩ v).cell? ⟨b3, 0, none⟩ = some v := by
  have k1 : (w.setCell ⟨b2, 0, none⟩ u).cell? ⟨b2, 0, none⟩ = some u := World.cell?_setCell_same _ _ _ h2
  have k1' : (w.setCell ⟨b2, 0, none⟩ u).cell? ⟨b2, 1, none⟩ = some x' := by rw [World.cell?_setCell_other _ _ _ _ (by simp)]; exact h2'
  have k1'' : (w.setCell ⟨b2, 0, none⟩ u).cell? ⟨b3, 0, none⟩ = some y := by rw [World.cell?_setCell_other _ _ _ _ (by first | (simp; done) | (simp; omega))]; exact h3
  have k2 : ((w.setCell ⟨b2, 0, none⟩ u).setCell ⟨b2, 1, none⟩ u').cell? ⟨b2, 0, none⟩ = some u := by rw [World.cell?_setCell_other _ _ _ _ (by simp)]; exact k1
  have k2' : ((w.setCell ⟨b2, 0, none⟩ u).setCell ⟨b2, 1, none⟩ u').cell? ⟨b2, 1, none⟩ = some u' := World.cell?_setCell_same _ _ _ k1'
  have k2'' : ((w.setCell ⟨b2, 0, none⟩ u).setCell ⟨b2, 1, none⟩ u').cell? ⟨b3, 0, none⟩ = some y := by rw [World.cell?_setCell_other _ _ _ _ (by first | (simp; done) | (simp; omega))]; exact k1''
  exact ⟨by rw [World.cell?_setCell_other _ _ _ _ (by first | (simp; done) | (simp; omega))]; exact k2, by rw [World.cell?_setCell_other _ _ _ _ (by first | (simp; done) | (simp; omega))]; exact k2', World.cell?_setCell_same _ _ _ k2''⟩
/-! ### tried at Spot -/
/-- A spot. -/
abbrev Sp (v : Int × Int) : Value := .agg #[.int .i64 v.1, .int .i64 v.2]
/-! S -/
open Go Go.RowKit
section
variable {P : Program} {ops : Array Oper} {md : Region.Mode} {C : World → Prop}
def wpAnyLQ (P : Program) (md : Region.Mode) (ops : Array Oper) (C : World → Prop) (n : Nat) (L : Array Bool → Act → Prop) : Nat → Array Bool → Act → Prop
  | 0, listed, a => L listed a
  | f + 1, listed, a =>
    Region.ready md ops listed ≠ [] ∧ ∀ i ∈ Region.ready md ops listed, i < n ∧ qOp P ops C i (wpAnyLQ P md ops C n L f (listed.setIfInBounds i true)) a
theorem wpAny_of_headQ {n g : Nat} {L : Array Bool → Act → Prop} {Q' : Exit → Act → World → Prop} (hL : ∀ listed a, L listed a → ∀ w, C w → wpAny P md ops Q' g listed a w) :
    ∀ (f : Nat) (listed : Array Bool) (a : Act) (w : World), C w → wpAnyLQ P md ops C n L f listed a → wpAny P md ops Q' (f + g) listed a w
  | 0, listed, a, w, hw, h => by rw [Nat.zero_add]; exact hL _ _ h _ hw
  | f + 1, listed, a, w, hw, h => by
    rw [show f + 1 + g = (f + g) + 1 by omega]
    exact ⟨fun h0 => absurd h0 h.1, fun i hi => wpOp_of_qOp hw (fun a' w' hw' h' => wpAny_of_headQ hL f _ a' w' hw' h') (h.2 i hi).2⟩
theorem wpAnyLQ_first {n i : Nat} {oi : Oper} {v : Value} {L : Array Bool → Act → Prop} (hi : ops[i]? = some oi) (hsel : ∀ (j : Nat) (o : Oper) cs b, ops[j]? = some o → o.op ≠ .select cs b)
    (hs : Region.sinkB md ops n = true) (hc : Region.chainB md ops n = true) (hn : n < ops.size) (hin : i < n)
    (hdone : ∀ listed a, L listed a → ∀ j ∈ Region.ready md ops listed, n ≤ j) :
    ∀ (f : Nat) (listed : Array Bool) (a : Act), HeadInv md ops n listed →
      (∀ j oj, ops[j]? = some oj → j ≠ i → listed.getD j true = false → (∀ e ∈ oj.after, Region.binds md e = true → e.on ≠ i) → oi.apart ops oj = true) →
      i ∈ Region.ready md ops listed → YieldsIn P ops C oi v a →
      wpAnyLQ P md ops C n L f (listed.setIfInBounds i true) (a.put oi.dst v) → wpAnyLQ P md ops C n L (f + 1) listed a := by
  intro f
  induction f with
  | zero =>
    intro listed a inv _ hr hy H
    have hun := (mem_ready.1 hr).1
    refine ⟨fun h => (by rw [h] at hr; cases hr), fun j hj => ?_⟩
    have hjn : j < n := by
      rcases Nat.lt_or_ge j n with h | h
      · exact h
      · exact absurd hj (tail_waits hs hc hn inv _ i rfl hin hun j h)
    refine ⟨hjn, ?_⟩
    by_cases hji : j = i
    · subst hji; exact hy.qOp hi H
    · have := hdone _ _ H j (ready_mono hj hji)
      omega
  | succ f ih =>
    intro listed a inv hfree hr hy H
    have hun := (mem_ready.1 hr).1
    refine ⟨fun h => (by rw [h] at hr; cases hr), fun j hj => ?_⟩
    have hjn : j < n := by
      rcases Nat.lt_or_ge j n with h | h
      · exact h
      · exact absurd hj (tail_waits hs hc hn inv _ i rfl hin hun j h)
    refine ⟨hjn, ?_⟩
    by_cases hji : j = i
    · subst hji; exact hy.qOp hi H
    · have h1 := (H.2 j (ready_mono hj hji)).2
      obtain ⟨hjun, oj, hoj, hall⟩ := mem_ready.1 hj
      have hnot : ∀ e ∈ oj.after, Region.binds md e = true → e.on ≠ i := fun e he hb heq => by
        have h1 := hall e he hb
        rw [heq, getD_both hun] at h1
        cases h1
      have h2 := qOp_put hoj (hfree j oj hoj hji hjun hnot) (fun cs b => hsel i oi cs b hi) (fun cs b => hsel j oj cs b hoj) hy h1
      have hfree' : ∀ k ok, ops[k]? = some ok → k ≠ i → (listed.setIfInBounds j true).getD k true = false →
          (∀ e ∈ ok.after, Region.binds md e = true → e.on ≠ i) → oi.apart ops ok = true := fun k ok hk hki hun hno => by
        refine hfree k ok hk hki ?_ hno
        by_cases hjk : j = k
        · subst hjk; exact hjun
        · rw [getD_set_ne true hjk] at hun; exact hun
      refine qOp_mono (fun a' h3 => ih (listed.setIfInBounds j true) a' (inv.set hj hjn) hfree' (ready_mono hr (Ne.symm hji)) h3.1 ?_) h2
      rw [Array.setIfInBounds_comm _ _ hji]
      exact h3.2
theorem wpAnyLQ_lex {n g : Nat} {Lq : Act → Prop} (hsel : Region.noSelect ops = true) (hs : Region.sinkB md ops n = true) (hc : Region.chainB md ops n = true) (hn : n < ops.size) :
    ∀ (l : List Oper) (k : Nat) (listed : Array Bool) (a : Act), (∀ j, j < l.length → l[j]? = ops[k + j]?) → k + l.length = n → HeadInv md ops n listed →
    Region.lexHead md ops g l.length k listed = true → wpQuiet P ops C Lq l a →
    wpAnyLQ P md ops C n (fun listed' a' => Region.seqB md ops g n listed' = true ∧ Lq a') l.length listed a
  | [], k, listed, a, _, hk, _, hB, h => by
    have : k = n := by simpa using hk
    subst this
    exact ⟨by simpa [Region.lexHead] using hB, h⟩
  | o :: l, k, listed, a, hl, hk, inv, hB, h => by
    have h0 : ops[k]? = some o := by simpa using (hl 0 (by simp)).symm
    simp only [List.length_cons, Region.lexHead, Bool.and_eq_true] at hB
    obtain ⟨⟨hr, hf⟩, hB'⟩ := hB
    have hkn : k < n := by simp only [List.length_cons] at hk; omega
    have hr' : k ∈ Region.ready md ops listed := by simpa using hr
    have hst : qOp P ops C k (wpQuiet P ops C Lq l) a := by unfold qOp; simp only [h0]; exact h
    obtain ⟨v, hy, hK⟩ := yieldsIn_of_qOp h0 hst
    exact wpAnyLQ_first h0 (Region.noSelect_spec hsel) hs hc hn hkn (fun listed' a' hL => seqB_ready hL.1) l.length listed a inv (Region.free_spec h0 hf) hr' hy
      (wpAnyLQ_lex hsel hs hc hn l (k + 1) _ _ (fun j hj => by have := hl (j + 1) (by simp; omega); simpa [Nat.add_assoc, Nat.add_comm 1 j] using this) (by simp only [List.length_cons] at hk; omega) (inv.set hr' hkn) hB' hK)
theorem wp_region_quiet_tail {id : Nat} {Q : Exit → Act → World → Prop} {a : Act} {w : World} {l : List Oper} (n : Nat) (hm : P.follows .mixedOrders = true) (hB : Region.lexTailB .any l.toArray n = true)
    (h : wpQuiet P l.toArray (fun w' => ∃ X : BW w, w' = X.tw) (fun a' => ∀ w', (∃ X : BW w, w' = X.tw) → wpList P l.toArray Q (l.drop n) a' w') (l.take n) a) : (Code.region id l.toArray true).wp P Q a w := by
  simp only [Region.lexTailB, Bool.and_eq_true, decide_eq_true_eq] at hB
  obtain ⟨⟨⟨⟨hsel, hn⟩, hs⟩, hc⟩, hlex⟩ := hB
  have hn' : n < l.length := by simpa using hn
  have htl : (l.take n).length = n := by simp; omega
  have hdl : (l.drop n).length = l.toArray.size - n := by simp
  have inv0 : HeadInv .any l.toArray n (Array.replicate l.toArray.size false) :=
    ⟨by simp, fun j oj _ hl => (by rw [getD_replicate_false] at hl; cases hl), fun t _ ht => getD_in (by simpa using ht) (getD_replicate_false _ _)⟩
  have H := wpAnyLQ_lex (md := .any) (C := fun w' => ∃ X : BW w, w' = X.tw) (g := l.toArray.size - n) hsel hs hc hn (l.take n) 0 _ a (fun j hj => by
    have hj' : j < n := by rw [htl] at hj; exact hj
    simp [hj']) (by simpa using htl) inv0 (by rw [htl]; exact hlex) h
  refine wp_region_any hm ?_
  have := wpAny_of_headQ (Q' := Q) (C := fun w' => ∃ X : BW w, w' = X.tw) (g := l.toArray.size - n) (fun listed a' hL w' hw' => by
    have := wpAny_of_seq (md := .any) (Q' := Q) (l.drop n) n listed a' w' (fun j => by simp [List.getElem?_drop]) (by rw [hdl]; exact hL.1) (hL.2 w' hw')
    rwa [hdl] at this) _ _ _ _ ⟨⟨w.drew, (Below.refl _ _).drew⟩, rfl⟩ H
  rw [htl, show n + (l.toArray.size - n) = l.toArray.size by omega] at this
  exact this
end
/-! X -/
open Go.RowKit Go.Proofs Go.Shelf
/-- A number of 128 bits, as the program keeps it. -/
abbrev Wd (n : Int) : Value := .agg #[.int .u64 (hiU n), .int .u64 (loU n)]
theorem wd_of {h l n : Int} (H : InW h l n) : h = hiU n ∧ l = loU n := by
  have a := H.h0; have b := H.l0; have c := H.l1; have e := H.e
  unfold hiU loU
  omega
theorem plus2 (n1 n2 : Int) (w : World) (h1 : 0 ≤ n1) (h2 : 0 ≤ n2) (hb : n1 + n2 < 340282366920938463463374607431768211456) :
    Calls Tryz.prog 82 #[Wd n1, Wd n2] w fun e w' => e = .returned (Wd (n1 + n2)) ∧ Below w.heap.size w w' := by
  refine (plusW (InW.mk' h1 (by omega)) (InW.mk' h2 (by omega)) hb w).mono ?_
  rintro e w' ⟨h, l, rfl, hW, hbl⟩
  obtain ⟨rfl, rfl⟩ := wd_of hW.out
  exact ⟨rfl, hbl⟩
theorem product2 (x y : Int) (w : World) (hx0 : 0 ≤ x) (hx : x ≤ 18446744073709551615) (hy0 : 0 ≤ y) (hy : y ≤ 18446744073709551615) :
    Calls Tryz.prog 40 #[.int .u64 x, .int .u64 y] w fun e w' => e = .returned (Wd (x * y)) ∧ Below w.heap.size w w' := product_any x y w hx0 hx hy0 hy
/-- The square of a length. -/
def sq (x y : Int) : Int := sz x * sz x + sz y * sz y
theorem sq_nn (x y : Int) : 0 ≤ sq x y := by
  have := Int.mul_nonneg (sz_nn x) (sz_nn x); have := Int.mul_nonneg (sz_nn y) (sz_nn y); unfold sq; omega
theorem sq_le {x y : Int} (h : Val x ∧ Val y) : sq x y ≤ 9903520314283042199192993792 := by
  obtain ⟨⟨a, b⟩, c, d⟩ := h
  have := Int.mul_le_mul (sz_le a b) (sz_le a b) (sz_nn x) (by omega)
  have := Int.mul_le_mul (sz_le c d) (sz_le c d) (sz_nn y) (by omega)
  unfold sq; omega
theorem two_cells {w : World} {b : Nat} {x y : Value} (h0 : w.cell? ⟨b, 0, none⟩ = some x) (h1 : w.cell? ⟨b, 1, none⟩ = some y) (u v : Value) :
    ((w.setCell ⟨b, 0, none⟩ u).setCell ⟨b, 1, none⟩ v).cell? ⟨b, 0, none⟩ = some u ∧ ((w.setCell ⟨b, 0, none⟩ u).setCell ⟨b, 1, none⟩ v).cell? ⟨b, 1, none⟩ = some v := by
  have y0 := World.cell?_setCell_same w ⟨b, 0, none⟩ u h0
  have y1 : (w.setCell ⟨b, 0, none⟩ u).cell? ⟨b, 1, none⟩ = some y := by rw [World.cell?_setCell_other _ _ _ _ (by simp)]; exact h1
  exact ⟨by rw [World.cell?_setCell_other _ _ _ _ (by simp)]; exact y0, World.cell?_setCell_same _ _ _ y1⟩
set_option maxHeartbeats 1000000 in
theorem square_ok (x y : Int) (w : World) (hv : Val x ∧ Val y) :
    Calls Tryz.prog 54 #[.agg #[.int .i64 x, .int .i64 y]] w fun e w' => e = .returned (Wd (sq x y)) ∧ Below w.heap.size w w' := by
  have sx := sz_nn x; have sy := sz_nn y
  have sx' : sz x ≤ 70368744177664 := sz_le hv.1.1 hv.1.2
  have sy' : sz y ≤ 70368744177664 := sz_le hv.2.1 hv.2.2
  have px := Int.mul_nonneg sx sx; have py := Int.mul_nonneg sy sy
  have qx := Int.mul_le_mul sx' sx' sx (by omega)
  have qy := Int.mul_le_mul sy' sy' sy (by omega)
  have HV := Lib.hid hv
  obtain ⟨⟨v1, v2⟩, v3, v4⟩ := hv
  have X0 : ∀ t o2 o3 (X : BW (((w.alloc (.cells #[.int .i64 x, .int .i64 y] t)).alloc o2).alloc o3)), X.tw.cell? ⟨w.heap.size, 0, none⟩ = some (.int .i64 x) := fun t o2 o3 X => (X.cell _ _ (by simp; omega)).trans (by simp [go_sem])
  have X1 : ∀ t o2 o3 (X : BW (((w.alloc (.cells #[.int .i64 x, .int .i64 y] t)).alloc o2).alloc o3)), X.tw.cell? ⟨w.heap.size, 1, none⟩ = some (.int .i64 y) := fun t o2 o3 X => (X.cell _ _ (by simp; omega)).trans (by simp [go_sem])
  have PB : Hid (sz x * sz x + sz y * sz y < 340282366920938463463374607431768211456) := by show _ < _; omega
  have PX := Lib.hid px; have PY := Lib.hid py
  clear px py qx qy
  go_enter Tryz.func54, Tryz.ntmps54
  go_wp2_with (go_at_call 36; refine (right2_ok x y _ _ HV.out (by simp [go_sem]) (by simp [go_sem])).mono ?_; rintro e w' ⟨rfl, rfl⟩)
  refine wp_region_quiet_tail 15 (by kernel_rfl) (by kernel_rfl) ?_
  simp only [List.take_succ_cons, List.take_zero, List.drop_succ_cons, List.drop_zero]
  repeat (go_big_quiet_step ((first
    | (go_at_call 81; exact quietS (size_any _ _ (by omega) (by omega)))
    | (go_at_call 40; exact quietB (product2 _ _ _ (by omega) (by omega) (by omega) (by omega)))
    | (go_at_call 82; exact quietB (plus2 _ _ _ PX.out PY.out PB.out)))))
  refine wpQuiet_nil ?_
  rintro wy ⟨⟨wz, hby⟩, hwz⟩
  change wy = wz at hwz
  subst hwz
  have hc := bcell hby
  have hsz := hby.size
  simp only [World.size_alloc] at hc hsz
  have z0 : wy.cell? ⟨w.heap.size + 1, 0, none⟩ = some (.int .u64 0) := by rw [hc.1 _ _ (by omega)]; simp [go_sem]
  have z1 : wy.cell? ⟨w.heap.size + 1, 1, none⟩ = some (.int .u64 0) := by rw [hc.1 _ _ (by omega)]; simp [go_sem]
  have g0 : wy.frozen? ⟨w.heap.size + 1, 0, none⟩ = false := by rw [hc.2 _ _ (by omega)]; simp [go_sem]
  have g1 : wy.frozen? ⟨w.heap.size + 1, 1, none⟩ = false := by rw [hc.2 _ _ (by omega)]; simp [go_sem]
  clear hc
  go_wp2_with fail
  obtain ⟨y0, y1⟩ := two_cells z0 z1 (.int .u64 (hiU (sz x * sz x + sz y * sz y))) (.int .u64 (loU (sz x * sz x + sz y * sz y)))
  refine bodyPost_ret (v := Wd (sq x y)) (by simp [results, Tryz.results54, go_sem, y0, y1, sq]) rfl ⟨rfl, ?_⟩
  exact ((((((Below.refl _ _).alloc (Nat.le_refl _) _).alloc (by simp) _).alloc (by simp; omega) _).trans (hby.mono (by simp; omega))).setCell (p := ⟨w.heap.size + 1, 0, none⟩) (by simp) _).setCell (p := ⟨w.heap.size + 1, 1, none⟩) (by simp) _
set_option maxHeartbeats 1000000 in
theorem square_no (x y : Int) (w : World) (hv : ¬ (Val x ∧ Val y)) :
    Calls Tryz.prog 54 #[.agg #[.int .i64 x, .int .i64 y]] w fun e w' => e = .panicked (Mis 2) ∧ Below w.heap.size w w' := by
  have HV := Lib.hid hv
  clear hv
  go_enter Tryz.func54, Tryz.ntmps54
  go_wp2_with (go_at_call 36; refine (right2_no x y _ _ HV.out (by simp [go_sem]) (by simp [go_sem])).mono ?_; rintro e w' ⟨rfl, rfl⟩)
  exact ⟨rfl, rfl, (((Below.refl _ _).alloc (Nat.le_refl _) _).alloc (by simp) _).alloc (by simp; omega) _⟩
/-- What square comes to. -/
def squareR (x y : Int) : Except Int Int := if Val x ∧ Val y then .ok (sq x y) else .error 2
theorem square_any (x y : Int) (w : World) : Calls Tryz.prog 54 #[.agg #[.int .i64 x, .int .i64 y]] w (Do w ((squareR x y).map Wd)) := by
  unfold squareR
  by_cases hv : Val x ∧ Val y
  · rw [if_pos hv]; exact (square_ok x y w hv).mono fun e w' h => ⟨h.1, h.2⟩
  · rw [if_neg hv]; exact (square_no x y w hv).mono fun e w' h => ⟨h.1, h.2⟩
/-- What Length comes to. -/
noncomputable def lenR (x y how : Int) : Except Int Int := if Val x ∧ Val y then (if HowOk how then rooR (sq x y) (63 + how.toNat) else .error 2) else .error 2
theorem spot_cell {w : World} {b : Nat} {o : Nat} {v : Value} (h : w.cell? ⟨b, o, none⟩ = some v) : b < w.heap.size := by
  rcases Nat.lt_or_ge b w.heap.size with h' | h'
  · exact h'
  · simp [World.cell?, Array.getElem?_eq_none h'] at h
set_option maxHeartbeats 1000000 in
theorem cl87 (p q : Nat) (x y how : Int) (w : World) (hp : w.cell? ⟨p, 0, none⟩ = some (.int .i64 x)) (hp' : w.cell? ⟨p, 1, none⟩ = some (.int .i64 y)) (hq : w.cell? ⟨q, 0, none⟩ = some (.int .i64 how)) :
    Calls Tryz.prog 53 #[.pointer (some ⟨p, 0, none⟩), .pointer (some ⟨q, 0, none⟩)] w (Do w ((lenR x y how).map (.int .i64 ·))) := by
  have lp := spot_cell hp; have lq := spot_cell hq
  unfold lenR
  by_cases hv : Val x ∧ Val y
  · rw [if_pos hv]
    have HS : Hid (sq x y ≤ 9903520314283042199192993792) := sq_le hv
    have HN : Hid (0 ≤ sq x y) := sq_nn x y
    have HV := Lib.hid hv
    clear hv
    by_cases hh : HowOk how
    · rw [if_pos hh]
      have GH := Lib.hid hh
      obtain ⟨h0, h3⟩ := hh
      obtain ⟨s, hs⟩ : ∃ s, sq x y = s := ⟨_, rfl⟩
      rw [hs] at HS HN
      have HSS := Lib.hid hs
      obtain ⟨r, hr⟩ : ∃ r, rooR (sq x y) (63 + how.toNat) = r := ⟨_, rfl⟩
      rw [hr]
      have HQ : Hid (∀ w, Calls Tryz.prog 39 #[Wd s, .func (.func (63 + how.toNat)) #[] #[]] w (Do w (r.map (.int .i64 ·)))) := by
        intro w; rw [← hr]
        have h2 := HS.out; have h1 := HN.out
        rw [← HSS.out] at h1 h2 ⊢
        exact (root_any (InW.mk' h1 (by omega)) _ w (isq_spec h1) (by omega) (kOf GH.out)).mono fun e w' h => h.toDo
      clear hr hs
      have X1 : ∀ w1 o (X : BW (w1.alloc o)), Below w.heap.size w w1 → X.tw.cell? ⟨q, 0, none⟩ = some (.int .i64 how) := fun w1 o X hb => by
        have := hb.size
        rw [X.cell _ _ (by simp; omega), World.cell?_alloc_past _ _ _ (by omega), hb.cell (p := ⟨q, 0, none⟩) lq]; exact hq
      have X3 : ∀ (w1 : World) t (X : BW (w1.alloc (.cells #[.int .u64 (hiU s), .int .u64 (loU s)] t))), X.tw.cell? ⟨w1.heap.size, 0, none⟩ = some (.int .u64 (hiU s)) := fun w1 t X => (X.cell _ _ (by simp)).trans (by simp [go_sem])
      have X4 : ∀ (w1 : World) t (X : BW (w1.alloc (.cells #[.int .u64 (hiU s), .int .u64 (loU s)] t))), X.tw.cell? ⟨w1.heap.size, 1, none⟩ = some (.int .u64 (loU s)) := fun w1 t X => (X.cell _ _ (by simp)).trans (by simp [go_sem])
      cases r with
      | ok v =>
        go_enter Tryz.func53, Tryz.ntmps53
        go_wp2_with (go_at_call 54; refine (square_ok x y _ HV.out).mono ?_; rintro e w1 ⟨rfl, hb⟩; rw [HSS.out])
        have Y1 := fun o X => X1 w1 o X hb
        clear X1
        refine wp_region_quietB (by kernel_rfl) (by kernel_rfl) ?_
        repeat (go_big_quiet_step ((first
          | (go_at_call 37; exact quietS (ways_ok _ _ h0 h3))
          | (go_at_call 39; exact Do.quiet (HQ.out _) rfl))))
        refine wpQuiet_nil ?_
        rintro _ ⟨⟨wy, hby⟩, rfl⟩
        go_wp2_with fail
        go_ret
        exact Do.ok rfl ((hb.alloc hb.size _).trans (hby.mono (by have := hb.size; simp; omega)))
      | error c =>
        go_enter Tryz.func53, Tryz.ntmps53
        go_wp2_with (go_at_call 54; refine (square_ok x y _ HV.out).mono ?_; rintro e w1 ⟨rfl, hb⟩; rw [HSS.out])
        have Y1 := fun o X => X1 w1 o X hb
        clear X1
        refine wp_region_ends_lit [true, true, true] [false, false, false, true] [4] (by kernel_rfl) (by kernel_rfl) (by simp) (by simp) ?_
        simp only [maskSel]
        repeat (go_big_quiet_step ((go_at_call 37; exact quietS (ways_ok _ _ h0 h3))))
        refine wpQuiet_nil ?_
        intro o ho
        simp only [List.mem_singleton] at ho
        subst ho
        exact panicsB rfl (fun X => by simp [go_sem]) (fun X => HQ.out _) rfl (hb.alloc hb.size _)
    · rw [if_neg hh]
      have X1 : ∀ w1 o (X : BW (w1.alloc o)), Below w.heap.size w w1 → X.tw.cell? ⟨q, 0, none⟩ = some (.int .i64 how) := fun w1 o X hb => by
        have := hb.size
        rw [X.cell _ _ (by simp; omega), World.cell?_alloc_past _ _ _ (by omega), hb.cell (p := ⟨q, 0, none⟩) lq]; exact hq
      obtain ⟨s, hs⟩ : ∃ s, sq x y = s := ⟨_, rfl⟩
      have HSS := Lib.hid hs
      clear hs
      have X3 : ∀ (w1 : World) t (X : BW (w1.alloc (.cells #[.int .u64 (hiU s), .int .u64 (loU s)] t))), X.tw.cell? ⟨w1.heap.size, 0, none⟩ = some (.int .u64 (hiU s)) := fun w1 t X => (X.cell _ _ (by simp)).trans (by simp [go_sem])
      have X4 : ∀ (w1 : World) t (X : BW (w1.alloc (.cells #[.int .u64 (hiU s), .int .u64 (loU s)] t))), X.tw.cell? ⟨w1.heap.size, 1, none⟩ = some (.int .u64 (loU s)) := fun w1 t X => (X.cell _ _ (by simp)).trans (by simp [go_sem])
      go_enter Tryz.func53, Tryz.ntmps53
      go_wp2_with (go_at_call 54; refine (square_ok x y _ HV.out).mono ?_; rintro e w1 ⟨rfl, hb⟩; rw [HSS.out])
      have Y1 := fun o X => X1 w1 o X hb
      clear X1
      refine wp_region_ends_lit [true, true] [false, false, true] [3, 4] (by kernel_rfl) (by kernel_rfl) (by simp) (by simp) ?_
      simp only [maskSel]
      repeat (go_big_quiet_step ((fail)))
      refine wpQuiet_nil ?_
      intro o ho
      simp only [List.mem_singleton] at ho
      subst ho
      exact panicsB rfl (fun X => by simp [go_sem]) (fun X => (ways_no how _ (by unfold HowOk at hh; omega)).mono fun e w' h => ⟨h.1, by rw [← h.2]; exact Below.refl _ _⟩) rfl (hb.alloc hb.size _)
  · rw [if_neg hv]
    have HV := Lib.hid hv
    clear hv
    go_enter Tryz.func53, Tryz.ntmps53
    go_wp2_with (go_at_call 54; refine (square_no x y _ HV.out).mono ?_; rintro e w1 ⟨rfl, hb⟩)
    exact ⟨rfl, Do.no rfl hb⟩
set_option maxHeartbeats 1000000 in
theorem Length_any (x y how : Int) (w : World) :
    Calls Tryz.prog 26 #[.agg #[.int .i64 x, .int .i64 y], .int .i64 how] w fun e w' => e = .returned (.tuple #[.int .i64 (valE 0 (lenR x y how)), .int .i64 (errE (lenR x y how))]) ∧ Below w.heap.size w w' := by
  have hmf : ∀ (fn : Fn) (first cap : Array Value) (w : World), (Instr.makeFunc fn first cap).run Tryz.prog w = .ok (.func fn first cap) w := fun _ _ _ _ => rfl
  have hcl : ∀ W, Below ((w.alloc (.cells #[.int .i64 x, .int .i64 y] 52)).alloc (.cells #[.int .i64 how] 3)).heap.size ((w.alloc (.cells #[.int .i64 x, .int .i64 y] 52)).alloc (.cells #[.int .i64 how] 3)) W → Calls Tryz.prog 53 #[.pointer (some ⟨w.heap.size, 0, none⟩), .pointer (some ⟨w.heap.size + 1, 0, none⟩)] W (Do W ((lenR x y how).map (.int .i64 ·))) := by
    intro W hW
    have hc := (bcell hW).1
    simp only [World.size_alloc] at hc
    have c0 : W.cell? ⟨w.heap.size, 0, none⟩ = some (.int .i64 x) := by rw [hc _ _ (by omega)]; simp [go_sem]
    have c1 : W.cell? ⟨w.heap.size, 1, none⟩ = some (.int .i64 y) := by rw [hc _ _ (by omega)]; simp [go_sem]
    have c2 : W.cell? ⟨w.heap.size + 1, 0, none⟩ = some (.int .i64 how) := by rw [hc _ _ (by omega)]; simp [go_sem]
    exact cl87 _ _ x y how W c0 c1 c2
  have HC := Lib.hid hcl
  clear hcl
  go_enter Tryz.func26, Tryz.ntmps26
  go_wp2_with (go_at_call 34; refine (triedFix 53 _ _ _ (enters_of Tryz.func53 (by kernel_rfl) rfl) HC.out).mono ?_; rintro e w1 ⟨rfl, hb⟩)
  go_ret2
  exact ⟨rfl, (((Below.refl _ _).alloc (Nat.le_refl _) _).alloc (by simp) _).trans (hb.mono (by simp; omega))⟩
end Go.Proofs.YtmcpnoailbmkkaaGreat.Fx
/- Layer 1: the length of a spot, rounded down and up; what sound() asks. -/
namespace Go.Proofs.YtmcpnoailbmkkaaGreat
open Go Go.RowKit Go.Proofs
attribute [local irreducible] J JQ JL JA JD

namespace Fx
theorem sz_sq (a : Int) : sz a * sz a = a * a := by
 unfold sz; split
 ·rw [Int.neg_mul_neg]
 ·rfl
theorem sq_eq (x y : Int) : sq x y = x * x + y * y := by unfold sq; rw [sz_sq, sz_sq]
theorem up_rt {A : Int} (_ : 0 ≤ A) (hq : isq A + 1 ≤ 70368744177664) : rooR A 65 = .ok (if isq A * isq A = A then isq A else isq A + 1) := by
 unfold rooR fitR
 generalize isq A = q at *
 by_cases he : q * q = A
 ·have : rbump 65 A q = false := by unfold rbump; simp [he]
  rw [this, if_pos he]
  simp only [b2i, Bool.false_eq_true, if_false, Int.add_zero, sgn]
  rw [if_pos (by omega)]
 ·have : rbump 65 A q = true := by unfold rbump rndB; simp [he]
  rw [this, if_neg he]
  simp only [b2i, if_true, Bool.false_eq_true, if_false, sgn]
  rw [if_pos (by omega)]
theorem down_rt {A : Int} (hq : isq A ≤ 70368744177664) : rooR A 64 = .ok (isq A) := by
 have : rbump 64 A (isq A) = false := by unfold rbump rndB; simp
 unfold rooR fitR
 rw [this]
 simp only [b2i, Bool.false_eq_true, if_false, Int.add_zero, sgn]
 rw [if_pos hq]
end Fx
/-- The length of a spot, rounded down, and up. -/
noncomputable def lnD (x y : Int) : Int := Fx.isq (sqd x y)
noncomputable def lnU (x y : Int) : Int := if Fx.isq (sqd x y) * Fx.isq (sqd x y) = sqd x y then Fx.isq (sqd x y) else Fx.isq (sqd x y) + 1
theorem sqd_nn2 (x y : Int) : 0 ≤ sqd x y := by
 rw [show sqd x y = Fx.sq x y from (Fx.sq_eq x y).symm]; exact Fx.sq_nn x y
theorem len_rt (x y : Int) : Rt (sqd x y) (lnD x y) (lnU x y) := by
 obtain ⟨h0, h1, h2⟩ := Fx.isq_spec (sqd_nn2 x y)
 unfold lnD lnU
 generalize Fx.isq (sqd x y) = q at *
 by_cases he : q * q = sqd x y
 ·rw [if_pos he]
  exact ⟨h0, h1, h2, by omega, .inl rfl⟩
 ·rw [if_neg he]
  exact ⟨h0, h1, h2, by omega, .inr ⟨rfl, by omega⟩⟩
theorem isq_bnd {x y : Int} (h : OkS x y) : Fx.isq (sqd x y) + 1 ≤ 70368744177664 := by
 obtain ⟨h0, h1, h2⟩ := Fx.isq_spec (sqd_nn2 x y)
 have hx : x * x ≤ 6553600000 * 6553600000 := by rw [← Fx.sz_sq]; exact sq_le2 (Fx.sz_nn x) (Fx.sz_le (by unfold OkS at h; omega) (by unfold OkS at h; omega))
 have hy : y * y ≤ 6553600000 * 6553600000 := by rw [← Fx.sz_sq]; exact sq_le2 (Fx.sz_nn y) (Fx.sz_le (by unfold OkS at h; omega) (by unfold OkS at h; omega))
 have hs : sqd x y = x * x + y * y := rfl
 rcases Int.lt_or_le 70368744177663 (Fx.isq (sqd x y)) with hc | hc
 ·have := sq_le2 (by omega) (show 70368744177664 ≤ Fx.isq (sqd x y) by omega)
  omega
 ·omega
theorem val_ok {x y : Int} (h : OkS x y) : Fx.Val x ∧ Fx.Val y := by unfold OkS at h; unfold Fx.Val; omega
theorem length_dn (x y : Int) (h : OkS x y) (w : World) : Calls Tryz.prog 26 #[Sp x y, .int .i64 1] w (Back (.tuple #[.int .i64 (lnD x y), .int .i64 0]) w) := by
 have e : Fx.lenR x y 1 = .ok (lnD x y) := by
  unfold Fx.lenR
  rw [if_pos (val_ok h), if_pos (by unfold Fx.HowOk; omega), Fx.sq_eq]
  exact Fx.down_rt (by have := isq_bnd h; unfold sqd at this; omega)
 have := Fx.Length_any x y 1 w
 rw [e] at this
 exact this
theorem length_up (x y : Int) (h : OkS x y) (w : World) : Calls Tryz.prog 26 #[Sp x y, .int .i64 2] w (Back (.tuple #[.int .i64 (lnU x y), .int .i64 0]) w) := by
 have e : Fx.lenR x y 2 = .ok (lnU x y) := by
  unfold Fx.lenR
  rw [if_pos (val_ok h), if_pos (by unfold Fx.HowOk; omega), Fx.sq_eq]
  exact Fx.up_rt (sqd_nn2 x y) (isq_bnd h)
 have := Fx.Length_any x y 2 w
 rw [e] at this
 exact this
/-- The readings that tell the exact distances. -/
noncomputable def exT (l : List St) (k : Nat) : List Rdg := (List.range k).map fun i => ⟨((i : Nat) : Int), lnD (l.getD i ⟨0, 0, 0, 0⟩).x (l.getD i ⟨0, 0, 0, 0⟩).y, lnU (l.getD i ⟨0, 0, 0, 0⟩).x (l.getD i ⟨0, 0, 0, 0⟩).y⟩
noncomputable def exF (l : List St) : List Rdg := exT l l.length
theorem exT_len (l : List St) (k : Nat) : (exT l k).length = k := by simp [exT]
theorem exT_s {l : List St} {k : Nat} {x : St} (hk : k < l.length) (hx : l[k]'hk = x) : exT l (k + 1) = exT l k ++ [⟨((k : Nat) : Int), lnD x.x x.y, lnU x.x x.y⟩] := by
 unfold exT
 rw [List.range_succ, List.map_append, List.map_cons, List.map_nil, List.getD_eq_getElem?_getD, List.getElem?_eq_getElem hk, hx]; rfl
theorem exF_get {l : List St} {k : Nat} (hk : k < (exF l).length) : (exF l)[k]'hk = ⟨((k : Nat) : Int), lnD (l.getD k ⟨0, 0, 0, 0⟩).x (l.getD k ⟨0, 0, 0, 0⟩).y, lnU (l.getD k ⟨0, 0, 0, 0⟩).x (l.getD k ⟨0, 0, 0, 0⟩).y⟩ := by
 simp [exF, exT]
theorem exF_len (l : List St) : (exF l).length = l.length := exT_len l _
/-- They are the roots of the squares. -/
theorem exF_rt (l : List St) : RtA l fun i => (exF l).getD i Rdg.d := by
 intro i hi
 have hi2 : i < (exF l).length := by rw [exF_len]; exact hi
 have e : (exF l).getD i Rdg.d = (exF l)[i]'hi2 := by rw [List.getD_eq_getElem?_getD, List.getElem?_eq_getElem hi2]; rfl
 show Rt _ ((exF l).getD i Rdg.d).lo ((exF l).getD i Rdg.d).hi
 rw [e, exF_get hi2]
 exact len_rt _ _
theorem exF_ok {l : List St} (h : ∀ s ∈ l, okM s) : ∀ r ∈ exF l, rtB r (l.length : Nat) = true := by
 intro r hr
 obtain ⟨i, hi, rfl⟩ := List.getElem_of_mem hr
 rw [exF_get hi]
 rw [exF_len] at hi
 have e : l.getD i ⟨0, 0, 0, 0⟩ = l[i]'hi := by rw [List.getD_eq_getElem?_getD, List.getElem?_eq_getElem hi]; rfl
 have ho := (h _ (List.getElem_mem hi)).1
 rw [← e] at ho
 have hr := len_rt (l.getD i ⟨0, 0, 0, 0⟩).x (l.getD i ⟨0, 0, 0, 0⟩).y
 have hb := isq_bnd ho
 have hlh := hr.lh
 have h0 := hr.l0
 have hd : lnD (l.getD i ⟨0, 0, 0, 0⟩).x (l.getD i ⟨0, 0, 0, 0⟩).y + 1 ≤ 70368744177664 := hb
 unfold rtB
 dsimp only
 rw [decide_eq_true (by omega), decide_eq_true (by omega), decide_eq_true (by omega)]; rfl
end Go.Proofs.YtmcpnoailbmkkaaGreat
/- Layer 6: stones that are measured; the exact readings. -/
namespace Go.Proofs.YtmcpnoailbmkkaaGreat
open Go Go.RowKit Go.Proofs
attribute [local irreducible] J JQ JL JA JD

theorem rowM110 : (110 : TypeId) < Tryz.prog.types.size := of_decide_eq_true (by kernel_rfl)
theorem cellsM110 : Tryz.prog.cellsOf 110 = 2 := by kernel_rfl
/-- Pairs of numbers, as arrays, are keys. -/
theorem KP2 : KeyL Tryz.prog 110 kN okN2 where
 law := Go.Maps.Keyed.of_law (deep_law_laid laidOut (m := 2) (by omega) rowM110 (by kernel_rfl) (by kernel_rfl))
 key := fun p hp => by
  obtain ⟨x, y⟩ := p
  have h1 := wf64 hp.1
  have h2 := wf64 hp.2
  have hk : Tryz.prog.keyType 110 = true := by kernel_rfl
  have hf : (kN (x, y)).formed Tryz.prog 110 = true := by simp [kN, Value.formed, Tryz.underlying110, cellsM110]
  have hc3 : Tryz.prog.cellsOf 3 = 1 := by kernel_rfl
  obtain ⟨n, hn⟩ : ∃ n, Tryz.prog.types.size = n + 1 := ⟨206, by kernel_rfl⟩
  unfold keyOf
  rw [Tryz.underlying110]
  simp only [hk, hf, hn, Bool.and_self, if_true]
  refine ⟨.string (keyBytes [.int .i64 x, .int .i64 y]), ?_⟩
  rw [Option.map_eq_some_iff]
  refine ⟨[.int .i64 x, .int .i64 y], ?_, rfl⟩
  dsimp only at h1 h2
  simp [kN, Program.keyLits, Tryz.underlying110, Tryz.underlying3, cellsM110, hc3, h1, h2, Value.cells, List.range, List.range.loop]
 inj := fun x y h => by
  obtain ⟨x1, x2⟩ := x
  obtain ⟨y1, y2⟩ := y
  simpa [kN] using h
def mkE (l : List St) : Int := if mkB l = true then 0 else 2
theorem mkE_n {l : List St} (h : mkB l = false) : mkE l = 2 := by unfold mkE; rw [h]; rfl
set_option maxRecDepth 100000 in
set_option maxHeartbeats 4000000 in
theorem mCheck_any (l : List St) (v : Value) (w : World) (hrow : Arr 4 eT w v l) : Calls Tryz.prog 25 #[v] w (Back (.int .i64 (mkE l)) w) := by
 have hrow0 := hrow
 obtain ⟨A, cap, rfl, -, ⟨hl, -⟩, hA⟩ := hrow
 refine J_enter (fun _ => False) (vs := [.slice A l.length cap]) (k := 54) (l := [(0, .slice A l.length cap)]) Tryz.func25 rfl rfl Tryz.ntmps25 rfl rfl (Wd.start _) ?_
 refine s11 ?_
 refine JL_dec (fun h10 => ?_) (fun h10 => ?_)
 ·refine s4 ?_
  refine kJ [] ?_
  refine s6 ?_
  refine JR_one rfl (rr_tmp rfl) ?_
  intro w' hw
  exact ⟨by rw [mkE_n (mk_big (by omega))], hw.bel⟩
 ·refine s6 ?_
  refine kJ [(0, _)] ?_
  refine s1 ?_
  refine aW (ow_makeSet (kt := 110) (kv := kN) (ok := okN2) rfl rfl rfl (fun _ => by kernel_rfl)) (fun b11 hb11 => ?_)
  refine s12 ?_
  refine xL (T := Nat) (fun k => k ≤ l.length ∧ goodM [] l = goodM (l.take k) (l.drop k)) (fun k => [(3, .map (some b11)), (12, .slice A l.length cap), (13, .int .i64 (l.length : Nat)), (14, .int .i64 (k : Nat))]) (fun k => [setB Tryz.prog 110 kN okN2 b11 (namesR (l.take k))]) (fun k => l.length - k) 0 ⟨Nat.zero_le _, rfl⟩ ?_ (hH := by (try dsimp only); rw [show namesR (l.take 0) = [] from rfl]; repeat constructor)
  rintro k ⟨hk, hall⟩
  refine s3 ?_
  refine JL_dec (fun h15 => ?_) (fun h15 => ?_)
  ·refine s9 ?_
   have hltx : k < l.length := by omega
   obtain ⟨bx, qx, rfl, hh⟩ := hA (by intro e; subst e; simp at hltx)
   obtain ⟨⟨xt, xn, xx, xy⟩, hx⟩ : ∃ y, l[k]'hltx = y := ⟨_, rfl⟩
   have hmx : (⟨xt, xn, xx, xy⟩ : St) ∈ l := by rw [← hx]; exact List.getElem_mem _
   refine s2 ?_
   refine aV (vHoldA (cs := [.int .i64 xt, .int .i64 xn, .int .i64 xx, .int .i64 xy]) ET rfl rfl (fun h => h) hh hltx (by rw [hx]; rfl)) ?_
   refine aW oA (fun b5 hb5 => ?_)
   refine s8 ?_
   refine aCB (fun w hw => mwithinF _ _ _ w) ?_
   refine JL_dec (fun h21 => ?_) (fun h21 => ?_)
   ·refine s4 ?_
    refine aCB (fun w hw => mwithinF _ _ _ w) ?_
    refine JL_dec (fun h26 => ?_) (fun h26 => ?_)
    ·refine s5 ?_
     refine kJ [(3, _), (5, _), (6, _), (12, _), (13, _), (14, _)] ?_
     refine s5 ?_
     refine aP (rp_buildC (fun us => [us.getD 0 undef, us.getD 1 undef]) rfl rfl (fun w => by kernel_rfl)) ?_
     refine aW oA (fun b7 hb7 => ?_)
     refine s5 ?_
     refine kJ [(3, _), (5, _), (6, _), (7, _), (12, _), (13, _), (14, _)] ?_
     refine s6 ?_
     refine aCB (fun w hw => mwithin _ _ _ w) ?_
     refine JL_dec (fun h38 => ?_) (fun h38 => ?_)
     ·refine s5 ?_
      refine aCB (fun w hw => mwithin _ _ _ w) ?_
      refine JL_dec (fun h44 => ?_) (fun h44 => ?_)
      ·refine s5 ?_
       refine aV (rv_lookS KP2 LBool (xt, xn) Und.h rfl rfl rfl (by repeat constructor) rfl ⟨by unfold W64; dsimp only; omega, by unfold W64; dsimp only; omega⟩) ?_
       refine JL_dec (fun h50 => ?_) (fun h50 => ?_)
       ·refine s5 ?_
        refine kJ [] ?_
        refine s11 ?_
        refine JR_one rfl (rr_tmp rfl) ?_
        intro w' hw
        exact ⟨by rw [mkE_n (mk_n hltx hx hall (fun h => h.2 h50))], hw.bel⟩
       ·refine s6 ?_
        refine kJ [(3, _), (7, _), (12, _), (13, _), (14, _)] ?_
        refine s3 ?_
        refine aW0 (ow_putS KP2 LBool (xt, xn) Und.h rfl rfl rfl rfl rfl rfl rfl (by repeat constructor) ⟨by unfold W64; dsimp only; omega, by unfold W64; dsimp only; omega⟩ (by rw [namesR_len, List.length_take]; omega)) ?_
        refine s7 ?_
        have hn := goodM_s hltx hx hall ⟨⟨h21, h26⟩, h38, h44⟩ h50
        have hs := names_s hltx hx
        dsimp only at hs
        exact xR (k + 1) ⟨by omega, hn⟩ (by omega) (hl := ⟨rfl, rfl, rfl, (congrArg some (by go_num)), trivial⟩) (hH := by (try dsimp only); rw [hs]; repeat constructor)
      ·refine s11 ?_
       refine kJ [] ?_
       refine s11 ?_
       refine JR_one rfl (rr_tmp rfl) ?_
       intro w' hw
       exact ⟨by rw [mkE_n (mk_n hltx hx hall (fun h => h44 h.1.2.2))], hw.bel⟩
     ·refine s17 ?_
      refine kJ [] ?_
      refine s11 ?_
      refine JR_one rfl (rr_tmp rfl) ?_
      intro w' hw
      exact ⟨by rw [mkE_n (mk_n hltx hx hall (fun h => h38 h.1.2.1))], hw.bel⟩
    ·refine s5 ?_
     refine kJ [(3, _), (5, _), (6, _), (12, _), (13, _), (14, _)] ?_
     refine s5 ?_
     refine aP (rp_buildC (fun us => [us.getD 0 undef, us.getD 1 undef]) rfl rfl (fun w => by kernel_rfl)) ?_
     refine aW oA (fun b7 hb7 => ?_)
     refine s5 ?_
     refine kJ [(3, _), (5, _), (6, _), (7, _), (12, _), (13, _), (14, _)] ?_
     refine s24 ?_
     refine kJ [] ?_
     refine s11 ?_
     refine JR_one rfl (rr_tmp rfl) ?_
     intro w' hw
     exact ⟨by rw [mkE_n (mk_n hltx hx hall (fun h => h26 h.1.1.2))], hw.bel⟩
   ·refine s10 ?_
    refine kJ [(3, _), (5, _), (6, _), (12, _), (13, _), (14, _)] ?_
    refine s5 ?_
    refine aP (rp_buildC (fun us => [us.getD 0 undef, us.getD 1 undef]) rfl rfl (fun w => by kernel_rfl)) ?_
    refine aW oA (fun b7 hb7 => ?_)
    refine s5 ?_
    refine kJ [(3, _), (5, _), (6, _), (7, _), (12, _), (13, _), (14, _)] ?_
    refine s24 ?_
    refine kJ [] ?_
    refine s11 ?_
    refine JR_one rfl (rr_tmp rfl) ?_
    intro w' hw
    exact ⟨by rw [mkE_n (mk_n hltx hx hall (fun h => h21 h.1.1.1))], hw.bel⟩
  ·refine s10 ?_
   refine kJ [] ?_
   refine s5 ?_
   refine JR_one rfl (rr_tmp rfl) ?_
   intro w' hw
   obtain rfl : k = l.length := by omega
   exact ⟨by unfold mkE; rw [if_pos (mk_e (by omega) hall)], hw.bel⟩
structure ExR where
 A : Option Addr
 c : Nat
set_option maxRecDepth 100000 in
set_option maxHeartbeats 4000000 in
theorem Exact_any (l : List St) (v : Value) (w : World) (hrow : Arr 4 eT w v l) (hok : mkB l = true) : Calls Tryz.prog 8 #[v] w (Ret w (fun _ : ExR => True) (fun t => .tuple #[.slice t.A l.length t.c, .int .i64 0]) (fun t => [ownB 47 3 t.A l.length t.c ((exF l).flatMap eRd)])) := by
 have hrow0 := hrow
 have hl16 := (mk_facts hok).1
 obtain ⟨A, cap, rfl, -, ⟨hl, -⟩, hA⟩ := hrow
 refine J_enter (fun _ => False) (vs := [.slice A l.length cap]) (k := 44) (l := [(0, .slice A l.length cap)]) Tryz.func8 rfl rfl Tryz.ntmps8 rfl rfl (Wd.start _) ?_
 refine s10 ?_
 refine aCB (fun w hw => (mCheck_any l _ w (hrow0.up ET hw.bel)).mono (fun _ _ h => by unfold mkE at h; rw [if_pos hok] at h; exact h)) ?_
 refine s4 ?_
 refine kJ [(0, _), (4, _)] ?_
 refine s3 ?_
 refine aDecF ?_ (by decide)
 refine s12 ?_
 refine J_own0 47 3 ?_
 refine s7 ?_
 refine xL (T := Nat × Option Addr × Nat) (fun q => q.1 ≤ l.length) (fun q => [(5, .slice q.2.1 (exT l q.1).length q.2.2), (17, .slice A l.length cap), (18, .int .i64 (l.length : Nat)), (19, .int .i64 (q.1 : Nat))]) (fun q => [ownB 47 3 q.2.1 (exT l q.1).length q.2.2 ((exT l q.1).flatMap eRd)]) (fun q => l.length - q.1) (0, none, 0) (Nat.zero_le _) ?_
 rintro ⟨k, vA, vc⟩ hk
 dsimp only at hk ⊢
 have hel := exT_len l k
 refine s3 ?_
 refine JL_dec (fun h20 => ?_) (fun h20 => ?_)
 ·refine s9 ?_
  have hltx : k < l.length := by omega
  obtain ⟨bx, qx, rfl, hh⟩ := hA (by intro e; subst e; simp at hltx)
  obtain ⟨⟨xt, xn, xx, xy⟩, hx⟩ : ∃ y, l[k]'hltx = y := ⟨_, rfl⟩
  have hmx : (⟨xt, xn, xx, xy⟩ : St) ∈ l := by rw [← hx]; exact List.getElem_mem _
  have hox := (mk_facts hok).2 _ hmx
  replace hox := hox.1
  dsimp only at hox
  refine s3 ?_
  refine aV (vHoldA (cs := [.int .i64 xt, .int .i64 xn, .int .i64 xx, .int .i64 xy]) ET rfl rfl (fun h => h) hh hltx (by rw [hx]; rfl)) ?_
  refine aW oA (fun b7 hb7 => ?_)
  refine s5 ?_
  refine kJ [(5, _), (6, _), (7, _), (17, _), (18, _), (19, _)] ?_
  refine s3 ?_
  refine aCB (fun w hw => length_dn xx xy hox w) ?_
  refine s8 ?_
  refine kJ [(5, _), (6, _), (7, _), (8, _), (17, _), (18, _), (19, _)] ?_
  refine s3 ?_
  refine aCB (fun w hw => length_up xx xy hox w) ?_
  refine s7 ?_
  refine kJ [(5, _), (6, _), (8, _), (10, _), (17, _), (18, _), (19, _)] ?_
  refine s5 ?_
  refine aP (rp_buildC (fun us => [us.getD 0 undef, us.getD 1 undef, us.getD 2 undef]) rfl rfl (fun w => by kernel_rfl)) ?_
  refine aW (ow_sliceC (vs := [_, _, _]) (ty := 47) rfl rfl (by rfl) rfl rfl (fun _ => by kernel_rfl)) (fun b41 hb41 => ?_)
  refine aS (oApp (sl := 31) ERd (⟨((k : Nat) : Int), lnD xx xy, lnU xx xy⟩)) (fun A42 c42 => ?_)
  refine s4 ?_
  refine kJ [(5, _), (17, _), (18, _), (19, _)] ?_
  refine s4 ?_
  have hs := exT_s hltx hx
  dsimp only at hs
  exact xR (k + 1, A42, c42) (by dsimp only; omega) (by dsimp only; omega) (hl := ⟨(by dsimp only; rw [hs]; rfl), rfl, rfl, (congrArg some (by go_num)), trivial⟩) (hH := by (try dsimp only); rw [hs]; repeat constructor)
 ·refine s10 ?_
  refine kJ [(5, _)] ?_
  refine s7 ?_
  refine JR_two rfl (rr_tmp rfl) (rr_tmp rfl) ?_
  intro w' hw
  obtain rfl : k = l.length := by omega
  rw [hel] at hw ⊢
  exact ⟨⟨vA, vc⟩, trivial, rfl, hw.pick (by unfold exF; repeat constructor)⟩
end Go.Proofs.YtmcpnoailbmkkaaGreat
/- Layer 6: bounds; the bounds of both sides. -/
namespace Go.Proofs.YtmcpnoailbmkkaaGreat
open Go Go.RowKit Go.Proofs
attribute [local irreducible] J JQ JL JA JD

set_option maxRecDepth 100000 in
set_option maxHeartbeats 4000000 in
theorem bn1_any (r : Rdg) (n b : Nat) (w : World) (hn : n ≤ 16) (hc : (cellB b [.int .i64 ((n : Nat) : Int)] 3).holds w) : Calls Tryz.prog 84 (#[] ++ #[Rdv r] ++ #[.pointer (some ⟨b, 0, none⟩)]) w (Back (.bool (!rtB r (n : Nat))) w) := by
 obtain ⟨ri, rl, rh⟩ := r
 refine J_enter (fun _ => False) (vs := [.agg #[.int .i64 ri, .int .i64 rl, .int .i64 rh], .pointer (some ⟨b, 0, none⟩)]) (k := 6) (l := [(0, .agg #[.int .i64 ri, .int .i64 rl, .int .i64 rh]), (1, .pointer (some ⟨b, 0, none⟩))]) Tryz.func84 rfl rfl Tryz.ntmps84 rfl rfl (Wd.start _) ?_
 refine s2 ?_
 refine aW (oX [_, _, _]) (fun b2 hb2 => ?_)
 refine s6 ?_
 refine aV (vOld rfl rfl (fun h => h) (cellB_get hc rfl)) ?_
 refine aCB (fun w hw => right_any ⟨_, _, _⟩ ((n : Nat) : Int) w (by omega)) ?_
 refine JL_bool (fun h6 => ?_) (fun h6 => ?_)
 ·refine s5 ?_
  refine JR_one rfl (rr_tmp rfl) ?_
  intro w' hw
  exact ⟨by rw [h6], hw.bel⟩
 ·refine s5 ?_
  refine JR_one rfl (rr_tmp rfl) ?_
  intro w' hw
  exact ⟨by rw [h6], hw.bel⟩
set_option maxRecDepth 100000 in
set_option maxHeartbeats 4000000 in
theorem bn2_any (r : Rdg) (w : World) : Calls Tryz.prog 85 (#[] ++ #[Rdv r] ++ #[]) w (Back (.bool (decide (r.hi < r.lo))) w) := by
 obtain ⟨ri, rl, rh⟩ := r
 refine J_enter (fun _ => False) (vs := [.agg #[.int .i64 ri, .int .i64 rl, .int .i64 rh]]) (k := 7) (l := [(0, .agg #[.int .i64 ri, .int .i64 rl, .int .i64 rh])]) Tryz.func85 rfl rfl Tryz.ntmps85 rfl rfl (Wd.start _) ?_
 refine s2 ?_
 refine aW (oX [_, _, _]) (fun b1 hb1 => ?_)
 refine s14 ?_
 refine JR_one rfl (rr_tmp rfl) ?_
 intro w' hw
 exact ⟨rfl, hw.bel⟩
instance cfi_85 : Cf Tryz.prog 85 := ⟨fun _ _ => by kernel_rfl⟩
theorem bnd0_s (k : Nat) : bnd0 (k + 1) = bnd0 k ++ [⟨((k : Nat) : Int), 0, 70368744177664⟩] := by
 unfold bnd0
 rw [List.range_succ, List.map_append]; rfl
theorem bndE_len {n : Nat} {rs : List Rdg} (h : 256 < rs.length) : bndE n rs = 3 := by unfold bndE; rw [if_pos h]
theorem bndE_bad {n : Nat} {rs : List Rdg} (h : ¬ 256 < rs.length) (h2 : rs.any (fun r => !rtB r (n : Nat)) = true) : bndE n rs = 2 := by unfold bndE; rw [if_neg h, if_pos (.inr h2)]
theorem bndE_end {n : Nat} {rs : List Rdg} (hn : n ≤ 16) (h : ¬ 256 < rs.length) (h2 : rs.any (fun r => !rtB r (n : Nat)) = false) {b : Bool} (h3 : (bndL n rs).any (fun r => decide (r.hi < r.lo)) = b) : bndE n rs = if b = true then 7 else 0 := by
 unfold bndE
 rw [if_neg h, if_neg (by rw [h2]; simp; omega), h3]
structure BnR where
 A : Option Addr
 c : Nat
/-- What Bounds gives back. -/
def BnQ (n : Nat) (rs : List Rdg) (w : World) (e : Ending) (w' : World) : Prop := if bndE n rs = 0 then Ret w (fun _ : BnR => True) (fun t => .tuple #[.slice t.A n t.c, .int .i64 0]) (fun t => [ownB 47 3 t.A n t.c ((bndL n rs).flatMap eRd)]) e w' else Back (.tuple #[.slice none 0 0, .int .i64 (bndE n rs)]) w e w'
theorem rt_bad {rs : List Rdg} {n : Nat} (h : rs.any (fun r => !rtB r (n : Nat)) = false) {r : Rdg} (hr : r ∈ rs) : rtB r (n : Nat) = true := by
 have := List.any_eq_false.1 h r hr
 simpa using this
theorem rt_i {r : Rdg} {n : Nat} (h : rtB r (n : Nat) = true) : ∃ j : Nat, j < n ∧ r.i = ((j : Nat) : Int) := by
 unfold rtB at h
 rw [Bool.and_eq_true, Bool.and_eq_true] at h
 have h1 := of_decide_eq_true h.1.1
 exact ⟨r.i.toNat, by omega, by omega⟩
theorem bndS_at {L : List Rdg} {j : Nat} (hj : j < L.length) {b r : Rdg} (hb : L[j]'hj = b) (hr : r.i = ((j : Nat) : Int)) : bndS L r = (L.set j ⟨b.i, max b.lo r.lo, b.hi⟩).set j ⟨b.i, max b.lo r.lo, min b.hi r.hi⟩ := by
 unfold bndS
 rw [hr, Int.toNat_natCast, List.getD_eq_getElem?_getD, List.getElem?_eq_getElem hj, hb, List.set_set]; rfl
set_option maxRecDepth 100000 in
set_option maxHeartbeats 4000000 in
theorem Bounds_any (n : Nat) (rs : List Rdg) (v : Value) (w : World) (hn : n ≤ 16) (hrow : Arr 3 eRd w v rs) : Calls Tryz.prog 55 #[.int .i64 ((n : Nat) : Int), v] w (BnQ n rs w) := by
 have hrow0 := hrow
 obtain ⟨A, cap, rfl, -, ⟨hl9, -⟩, hA⟩ := hrow
 refine J_enter (fun _ => False) (vs := [.int .i64 ((n : Nat) : Int), .slice A rs.length cap]) (k := 64) (l := [(0, .int .i64 ((n : Nat) : Int)), (1, .slice A rs.length cap)]) Tryz.func55 rfl rfl Tryz.ntmps55 rfl rfl (Wd.start _) ?_
 refine s2 ?_
 refine aW (oX [_]) (fun b2 hb2 => ?_)
 refine s11 ?_
 refine JL_dec (fun h14 => ?_) (fun h14 => ?_)
 ·refine s5 ?_
  refine kJ [] ?_
  refine s8 ?_
  refine JR_two rfl (rr_tmp rfl) (rr_tmp rfl) ?_
  intro w' hw
  have e := bndE_len (n := n) (show 256 < rs.length by omega)
  unfold BnQ; rw [e]
  exact ⟨rfl, hw.bel⟩
 ·refine s6 ?_
  refine kJ [(1, _), (2, _)] ?_
  refine s2 ?_
  refine aCB (fun w hw => mwithin _ _ _ w) ?_
  refine aDecT ?_ (by omega)
  refine s5 ?_
  refine kJ [(1, _), (2, _)] ?_
  refine s3 ?_
  refine aCB (fun w hw => ContainsFuncRd 84 #[.pointer (some ⟨b2, 0, none⟩)] (fun r => !rtB r (n : Nat)) rs _ w (fun x _ W hW => bn1_any x n b2 W hn ((hw.up hW).ok (cellB b2 [.int .i64 ((n : Nat) : Int)] 3) (by repeat constructor)).1) (hrow0.up ERd hw.bel)) ?_
  refine JL_bool (fun h21 => ?_) (fun h21 => ?_)
  ·refine s5 ?_
   refine kJ [] ?_
   refine s8 ?_
   refine JR_two rfl (rr_tmp rfl) (rr_tmp rfl) ?_
   intro w' hw
   have e := bndE_bad (show ¬ 256 < rs.length by omega) h21
   unfold BnQ; rw [e]
   exact ⟨rfl, hw.bel⟩
  ·refine s8 ?_
   refine kJ [(1, _), (2, _)] ?_
   refine s6 ?_
   refine J_own0 47 3 ?_
   refine s6 ?_
   refine xL (T := Nat × Option Addr × Nat) (fun q => q.1 ≤ n) (fun q => [(1, .slice A rs.length cap), (6, .slice q.2.1 (bnd0 q.1).length q.2.2), (22, .int .i64 ((n : Nat) : Int)), (23, .int .i64 (q.1 : Nat))]) (fun q => [ownB 47 3 q.2.1 (bnd0 q.1).length q.2.2 ((bnd0 q.1).flatMap eRd)]) (fun q => n - q.1) (0, none, 0) (Nat.zero_le _) ?_
   rintro ⟨k, vA, vc⟩ hk
   dsimp only at hk ⊢
   have hel := bnd0_len k
   refine s3 ?_
   refine JL_dec (fun h24 => ?_) (fun h24 => ?_)
   ·refine s17 ?_
    refine aP (rp_buildC (fun us => [us.getD 0 undef, .int .i64 0, us.getD 1 undef]) rfl rfl (fun w => by kernel_rfl)) ?_
    refine aW (ow_sliceC (vs := [_, _, _]) (ty := 47) rfl rfl (by rfl) rfl rfl (fun _ => by kernel_rfl)) (fun b29 hb29 => ?_)
    refine aS (oApp (sl := 31) ERd (⟨((k : Nat) : Int), 0, 70368744177664⟩)) (fun A30 c30 => ?_)
    refine s4 ?_
    refine kJ [(1, _), (6, _), (22, _), (23, _)] ?_
    refine s4 ?_
    have hs := bnd0_s k
    exact xR (k + 1, A30, c30) (by dsimp only; omega) (by dsimp only; omega) (hl := ⟨rfl, (by dsimp only; rw [hs]; rfl), rfl, (congrArg some (by go_num)), trivial⟩) (hH := by (try dsimp only); rw [hs]; repeat constructor)
   ·refine s11 ?_
    obtain rfl : n = k := by omega
    rw [hel]
    refine s7 ?_
    refine xL (T := Nat) (fun k => k ≤ rs.length) (fun k => [(6, .slice vA n vc), (32, .slice A rs.length cap), (33, .int .i64 (rs.length : Nat)), (34, .int .i64 (k : Nat))]) (fun k => [ownB 47 3 vA n vc ((bndL n (rs.take k)).flatMap eRd)]) (fun k => rs.length - k) 0 (Nat.zero_le _) ?_
    rintro k hk
    refine s3 ?_
    refine JL_dec (fun h35 => ?_) (fun h35 => ?_)
    ·refine s9 ?_
     have hltx : k < rs.length := by omega
     obtain ⟨bx, qx, rfl, hh⟩ := hA (by intro e; subst e; simp at hltx)
     obtain ⟨⟨xi, xl, xh⟩, hx⟩ : ∃ y, rs[k]'hltx = y := ⟨_, rfl⟩
     have hmx : (⟨xi, xl, xh⟩ : Rdg) ∈ rs := by rw [← hx]; exact List.getElem_mem _
     obtain ⟨j, hjn, hji⟩ := rt_i (rt_bad h21 hmx)
     dsimp only at hji
     subst hji
     have hbl := bndL_len n (rs.take k)
     have hj : j < (bndL n (rs.take k)).length := by omega
     obtain ⟨⟨bi, bl, bh⟩, hb⟩ : ∃ y, (bndL n (rs.take k))[j]'hj = y := ⟨_, rfl⟩
     refine J_fact (fun hw => ?_)
     obtain ⟨g, rfl⟩ := own_some hw (ty := 47) (k := 3) (m := n) (c := vc) (A := vA) (xs := (bndL n (rs.take k)).flatMap eRd) (by repeat constructor) (by omega)
     clear hw
     have hs := bndL_s (n := n) hltx hx
     rw [bndS_at hj hb rfl] at hs
     dsimp only at hs
     refine s2 ?_
     refine aV (vHoldA (cs := [.int .i64 ((j : Nat) : Int), .int .i64 xl, .int .i64 xh]) ERd rfl rfl (fun h => h) hh hltx (by rw [hx]; rfl)) ?_
     refine aW oA (fun b9 hb9 => ?_)
     refine s8 ?_
     refine aP (pIdxI (j) rfl rfl rfl) ?_
     refine s3 ?_
     refine kJ [(6, _), (9, _), (10, _), (32, _), (33, _), (34, _)] ?_
     refine xDx [0, 1, 2, 3, 4, 5, 6, 7, 8, 9, 10, 11, 12, 13, 14, 15, 16, 17, 18, 19, 20, 21] [5, 7, 12] [14] [cellB b9 [.int .i64 ((j : Nat) : Int), .int .i64 xl, .int .i64 xh] 47] ?_
     refine s5 ?_
     refine dL rfl (vOwn (v := .int .i64 bl) ERd (L := bndL n (rs.take k)) (j := j) rfl rfl (by repeat constructor) hj (by omega) (by rw [hb]; rfl)) ?_
     refine s6 ?_
     refine dL rfl (vOwn (v := .int .i64 bh) ERd (L := bndL n (rs.take k)) (j := j) rfl rfl (by repeat constructor) hj (by omega) (by rw [hb]; rfl)) ?_
     refine s5 ?_
     refine dW0 rfl (oStE ERd (L := bndL n (rs.take k)) (j := j) [_] ⟨bi, max bl xl, bh⟩ hj (hi := by simp) (hr := by rw [hb]; rfl)) ?_
     refine s2 ?_
     refine dW0 rfl (oStE ERd (L := (bndL n (rs.take k)).set j ⟨bi, max bl xl, bh⟩) (j := j) [_] ⟨bi, max bl xl, min bh xh⟩ (by rw [List.length_set]; exact hj) (hi := by simp) (hr := by rw [List.getElem_set_self]; rfl)) ?_
     refine s3 ?_
     refine kJ [(6, _), (32, _), (33, _), (34, _)] ?_
     refine s4 ?_
     exact xR (k + 1) (by omega) (by omega) (hl := ⟨rfl, rfl, rfl, (congrArg some (by go_num)), trivial⟩) (hH := by (try dsimp only); rw [hs]; repeat constructor)
    ·refine s11 ?_
     have hbl2 := bndL_len n (rs.take k)
     refine kJ [(6, _)] ?_
     refine s2 ?_
     refine aCB (fun w hw => ContainsFuncRd 85 #[] (fun r => decide (r.hi < r.lo)) (bndL n (rs.take k)) _ w (fun x _ W _ => bn2_any x W) (hbl2 ▸ own_arr (A := vA) (c := vc) ERd hw (by rw [hbl2]; repeat constructor) (by omega))) ?_
     refine JL_bool (fun h64 => ?_) (fun h64 => ?_)
     ·refine s11 ?_
      refine JR_two rfl (rr_tmp rfl) (rr_tmp rfl) ?_
      intro w' hw
      obtain rfl : k = rs.length := by omega
      rw [List.take_length] at *
      have e := bndE_end hn (show ¬ 256 < rs.length by omega) h21 h64
      rw [if_pos rfl] at e
      unfold BnQ; rw [e]
      exact ⟨rfl, hw.bel⟩
     ·refine s13 ?_
      refine JR_two rfl (rr_tmp rfl) (rr_tmp rfl) ?_
      intro w' hw
      obtain rfl : k = rs.length := by omega
      rw [List.take_length] at *
      have e := bndE_end hn (show ¬ 256 < rs.length by omega) h21 h64
      rw [if_neg (by simp)] at e
      unfold BnQ; rw [e, if_pos rfl]
      exact ⟨⟨vA, vc⟩, trivial, rfl, hw.pick (by repeat constructor)⟩
end Go.Proofs.YtmcpnoailbmkkaaGreat
