/- Contracts: over, ways and its four ways of rounding, right, quotient. -/
import Derived.Test.YthkhhjfldkebcaaGreatDoorC
namespace Go.Proofs.YthkhhjfldkebcaaGreatDoor
open Go.RowKit Go.Proofs

/-- Old cells and old marks read as before. -/
theorem bcell {W w1 : World} (hb : Below W.heap.size W w1) : (∀ b o, b < W.heap.size → w1.cell? ⟨b, o, none⟩ = W.cell? ⟨b, o, none⟩) ∧ (∀ b o, b < W.heap.size → w1.frozen? ⟨b, o, none⟩ = W.frozen? ⟨b, o, none⟩) :=
  ⟨fun b o h => hb.cell (p := ⟨b, o, none⟩) h, fun b o h => hb.frozen (p := ⟨b, o, none⟩) h⟩

theorem productW (x y : Int) (w : World) (hx0 : 0 ≤ x) (hx : x ≤ 18446744073709551615) (hy0 : 0 ≤ y) (hy : y ≤ 18446744073709551615) :
    Calls Tryz.prog 62 #[.int .u64 x, .int .u64 y] w fun e w' => ∃ h l : Int, e = .returned (.agg #[.int .u64 h, .int .u64 l]) ∧ Hid (InW h l (x * y)) ∧ Below w.heap.size w w' := by
  refine (product_any x y w hx0 hx hy0 hy).mono ?_
  rintro e w' ⟨rfl, hb⟩
  refine ⟨_, _, rfl, InW.mk' (Int.mul_nonneg hx0 hy0) ?_, hb⟩
  have := Int.mul_le_mul hx hy hy0 (by omega)
  omega
theorem plusW {h1 l1 n1 h2 l2 n2 : Int} (H : InW h1 l1 n1) (K : InW h2 l2 n2) (hb : n1 + n2 < 340282366920938463463374607431768211456) (w : World) :
    Calls Tryz.prog 124 #[.agg #[.int .u64 h1, .int .u64 l1], .agg #[.int .u64 h2, .int .u64 l2]] w fun e w' =>
      ∃ h l : Int, e = .returned (.agg #[.int .u64 h, .int .u64 l]) ∧ Hid (InW h l (n1 + n2)) ∧ Below w.heap.size w w' := by
  refine (plus_any h1 l1 h2 l2 w H.h0 H.l0 K.h0 K.l0 H.l1 K.l1).mono ?_
  rintro e w' ⟨rfl, hbl⟩
  exact ⟨_, _, rfl, H.plus K hb, hbl⟩
theorem compareW {h1 l1 n1 h2 l2 n2 : Int} (H : InW h1 l1 n1) (K : InW h2 l2 n2) (w : World) :
    Calls Tryz.prog 95 #[.agg #[.int .u64 h1, .int .u64 l1], .agg #[.int .u64 h2, .int .u64 l2]] w fun e w' =>
      e = .returned (.int .i64 (cmpI n1 n2)) ∧ Below w.heap.size w w' := by
  refine (compare_any h1 l1 h2 l2 w).mono ?_
  rintro e w' ⟨rfl, hb⟩
  exact ⟨ret_int (by unfold orI; exact (InW.cmp H K).symm), hb⟩

theorem over_no {h l : Int} (d : Int) (w : World) (hh : d ≤ h) :
    Calls Tryz.prog 123 #[.agg #[.int .u64 h, .int .u64 l], .int .u64 d] w fun e w' => e = .returned (.tuple #[.int .u64 0, .int .u64 0, .bool false]) ∧ Below w.heap.size w w' := by
  go_enter Tryz.func123, Tryz.ntmps123
  go_wp2
  go_ret3
  exact ⟨rfl, (Below.refl _ _).alloc (Nat.le_refl _) _⟩
theorem div64W {h l n : Int} (H : InW h l n) (d : Int) (w : World) (h1 : 1 ≤ d) (h2 : d ≤ 18446744073709551615) (hh : h < d) :
    Calls Tryz.prog 149 #[.int .u64 h, .int .u64 l, .int .u64 d] w fun e w' => e = .returned (.tuple #[.int .u64 (n / d), .int .u64 (n % d)]) ∧ Below w.heap.size w w' := by
  have a := H.h0; have b := H.l0; have c := H.l1; have e := H.e
  by_cases hz : h = 0
  · subst hz
    rw [show n = l by omega]
    exact div64_small l d w b c h1 h2
  · rw [← e]
    exact div64_big h l d w b c h1 h2 (by omega) hh
theorem over_ok {h l n : Int} (H : InW h l n) (d : Int) (w : World) (h1 : 1 ≤ d) (h2 : d ≤ 18446744073709551615) (hh : h < d) :
    Calls Tryz.prog 123 #[.agg #[.int .u64 h, .int .u64 l], .int .u64 d] w fun e w' => e = .returned (.tuple #[.int .u64 (n / d), .int .u64 (n % d), .bool true]) ∧ Below w.heap.size w w' := by
  have HH := Lib.hid H
  clear H
  go_enter Tryz.func123, Tryz.ntmps123
  go_wp2_with (go_at_call 149; refine (div64W HH.out _ _ h1 h2 hh).mono ?_; rintro e w' ⟨rfl, hb⟩)
  go_ret3
  exact ⟨rfl, ((Below.refl _ _).alloc (Nat.le_refl _) _).trans (hb.mono (by simp))⟩

/-- Whether a size with a rest is rounded to the next one, by way k (119: cut, 120: down, 121: up, 122: near). -/
def rndB (k : Nat) (half : Int) (neg : Bool) : Bool := if k = 119 then false else if k = 120 then neg else if k = 121 then !neg else decide (0 ≤ half)
theorem rnd119 (half : Int) (neg : Bool) (w : World) : Calls Tryz.prog 119 #[.int .i64 half, .bool neg] w fun e w' => e = .returned (.bool (rndB 119 half neg)) ∧ w = w' := by
  go_enter Tryz.func119, Tryz.ntmps119
  go_wp2
  go_ret
  exact ⟨rfl, rfl⟩
theorem rnd120 (half : Int) (neg : Bool) (w : World) : Calls Tryz.prog 120 #[.int .i64 half, .bool neg] w fun e w' => e = .returned (.bool (rndB 120 half neg)) ∧ w = w' := by
  go_enter Tryz.func120, Tryz.ntmps120
  go_wp2
  go_ret
  exact ⟨rfl, rfl⟩
theorem rnd121 (half : Int) (neg : Bool) (w : World) : Calls Tryz.prog 121 #[.int .i64 half, .bool neg] w fun e w' => e = .returned (.bool (rndB 121 half neg)) ∧ w = w' := by
  go_enter Tryz.func121, Tryz.ntmps121
  go_wp2
  go_ret
  exact ⟨rfl, rfl⟩
theorem rnd122 (half : Int) (neg : Bool) (w : World) : Calls Tryz.prog 122 #[.int .i64 half, .bool neg] w fun e w' => e = .returned (.bool (rndB 122 half neg)) ∧ w = w' := by
  go_enter Tryz.func122, Tryz.ntmps122
  go_wp2
  go_ret
  exact ⟨rfl, rfl⟩
theorem rnd_any (k : Nat) (hk : k = 119 ∨ k = 120 ∨ k = 121 ∨ k = 122) (half : Int) (neg : Bool) (w : World) : Calls Tryz.prog k #[.int .i64 half, .bool neg] w fun e w' => e = .returned (.bool (rndB k half neg)) ∧ w = w' := by
  rcases hk with rfl | rfl | rfl | rfl
  · exact rnd119 half neg w
  · exact rnd120 half neg w
  · exact rnd121 half neg w
  · exact rnd122 half neg w

theorem ways_ok (how : Int) (w : World) (h0 : 0 ≤ how) (h1 : how ≤ 3) : Calls Tryz.prog 57 #[.int .i64 how] w fun e w' => e = .returned (.func (.func (119 + how.toNat)) #[] #[]) ∧ w = w' := by
  have : how = 0 ∨ how = 1 ∨ how = 2 ∨ how = 3 := by omega
  rcases this with rfl | rfl | rfl | rfl
  all_goals
    go_enter Tryz.func57, Tryz.ntmps57
    go_wp2
    go_ret
    exact ⟨rfl, rfl⟩
theorem ways_no (how : Int) (w : World) (h : how < 0 ∨ 3 < how) : Calls Tryz.prog 57 #[.int .i64 how] w fun e w' => e = .panicked (Mis 2) ∧ w = w' := by
  have e0 : (how == 0) = false := by simp; omega
  have e1 : (how == 1) = false := by simp; omega
  have e2 : (how == 2) = false := by simp; omega
  have e3 : (how == 3) = false := by simp; omega
  clear h
  go_enter Tryz.func57, Tryz.ntmps57
  go_wp2
  exact ⟨rfl, rfl, rfl⟩
end Go.Proofs.YthkhhjfldkebcaaGreatDoor
