/- Plain arithmetic for package fixed: numbers of 64 and of 128 bits, as integers. No program is named here. -/
import Derived.Laws.Bits64
import Derived.IntWalk
namespace Go.Proofs.YthkhhjfldkebcaaGreatDoor

/-- The size of a number. -/
def sz (a : Int) : Int := if a < 0 then -a else a
theorem sz_nn (a : Int) : 0 ≤ sz a := by unfold sz; split <;> omega
theorem sz_le {a m : Int} (h1 : -m ≤ a) (h2 : a ≤ m) : sz a ≤ m := by unfold sz; split <;> omega
theorem sz_neg (a : Int) : sz (-a) = sz a := by unfold sz; split <;> split <;> omega

/-- The two parts of a number of 128 bits. -/
def hiU (n : Int) : Int := n / 18446744073709551616
def loU (n : Int) : Int := n % 18446744073709551616
/-- The parts h and l are those of n. -/
structure InW (h l n : Int) : Prop where
  h0 : 0 ≤ h
  h1 : h ≤ 18446744073709551615
  l0 : 0 ≤ l
  l1 : l ≤ 18446744073709551615
  e : h * 18446744073709551616 + l = n
theorem loU_nn (n : Int) : 0 ≤ loU n := by unfold loU; omega
theorem loU_le (n : Int) : loU n ≤ 18446744073709551615 := by unfold loU; omega
theorem hiU_nn {n : Int} (h : 0 ≤ n) : 0 ≤ hiU n := by unfold hiU; omega
theorem InW.nn {h l n : Int} (H : InW h l n) : 0 ≤ n := by have := H.h0; have := H.l0; have := H.e; omega
theorem InW.lt {h l n : Int} (H : InW h l n) : n < 340282366920938463463374607431768211456 := by have := H.h1; have := H.l1; have := H.e; omega
theorem InW.mk' {n : Int} (h0 : 0 ≤ n) (h1 : n < 340282366920938463463374607431768211456) : InW (hiU n) (loU n) n := by
  constructor <;> simp only [hiU, loU] <;> omega
theorem InW.small {n : Int} (h0 : 0 ≤ n) (h1 : n ≤ 18446744073709551615) : InW 0 n n := by
  constructor <;> omega
theorem InW.hi_eq {h l n : Int} (H : InW h l n) : h = hiU n := by have := H.h0; have := H.l0; have := H.l1; have := H.e; unfold hiU; omega
theorem InW.lo_eq {h l n : Int} (H : InW h l n) : l = loU n := by have := H.h0; have := H.l0; have := H.l1; have := H.e; unfold loU; omega
theorem InW.inj {h l n h' l' n' : Int} (H : InW h l n) (H' : InW h' l' n') : n = n' ↔ (h = h' ∧ l = l') := by
  have := H.h0; have := H.l0; have := H.l1; have := H.e; have := H'.h0; have := H'.l0; have := H'.l1; have := H'.e
  constructor
  · intro e; constructor <;> omega
  · rintro ⟨rfl, rfl⟩; omega
theorem InW.plus {h1 l1 n1 h2 l2 n2 : Int} (H : InW h1 l1 n1) (K : InW h2 l2 n2) (hb : n1 + n2 < 340282366920938463463374607431768211456) :
    InW (loU (h1 + h2 + hiU (l1 + l2))) (loU (l1 + l2)) (n1 + n2) := by
  have := H.h0; have := H.h1; have := H.l0; have := H.l1; have := H.e; have := K.h0; have := K.h1; have := K.l0; have := K.l1; have := K.e
  constructor <;> simp only [hiU, loU] <;> omega

/-- Three-way comparison. -/
def cmpI (a b : Int) : Int := if a < b then -1 else if b < a then 1 else 0
theorem InW.cmp {h1 l1 n1 h2 l2 n2 : Int} (H : InW h1 l1 n1) (K : InW h2 l2 n2) :
    cmpI n1 n2 = if cmpI h1 h2 = 0 then cmpI l1 l2 else cmpI h1 h2 := by
  have := H.h0; have := H.h1; have := H.l0; have := H.l1; have := H.e; have := K.h0; have := K.h1; have := K.l0; have := K.l1; have := K.e
  unfold cmpI; repeat' split
  all_goals omega

theorem u64_neg_sz {a : Int} (h : a < 0) (h' : -9223372036854775808 ≤ a) : IntKind.u64.wrap (-IntKind.u64.wrap a) = sz a := by
  rw [IntKind.wrap_u64, IntKind.wrap_u64]; unfold sz; rw [if_pos h]; omega
theorem sz_pos {a : Int} (h : 0 ≤ a) : sz a = a := by unfold sz; rw [if_neg (by omega)]
theorem sz_neg_of {a : Int} (h : a < 0) : sz a = -a := by unfold sz; rw [if_pos h]
end Go.Proofs.YthkhhjfldkebcaaGreatDoor
