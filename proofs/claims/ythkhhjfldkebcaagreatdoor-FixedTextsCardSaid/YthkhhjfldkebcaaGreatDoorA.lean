/- Contracts of the small functions of package fixed: need, size, signed, product, plus, compare. -/
import Derived.Test.YthkhhjfldkebcaaGreatDoorProg
import Derived.Test.YthkhhjfldkebcaaGreatDoorM
import Derived.WalkKit
import Derived.WalkLawsBesides
import Derived.Lib.Hide
namespace Go.Proofs.YthkhhjfldkebcaaGreatDoor
open Go.RowKit Go.Proofs

/-- A panic with a misfit that bears an error's number. -/
def Mis (c : Int) : List PanicEntry := [{ v := .iface 145 (.agg #[.int .i64 c]), recovered := false }]

theorem need_ok (c : Int) (w : World) : Calls Tryz.prog 60 #[.bool true, .int .i64 c] w fun e w' => e = .returned (.tuple #[]) ∧ w = w' := by
  go_enter Tryz.func60, Tryz.ntmps60
  go_wp2
  go_end0
  exact ⟨rfl, rfl⟩

theorem need_no (c : Int) (w : World) : Calls Tryz.prog 60 #[.bool false, .int .i64 c] w fun e w' => e = .panicked (Mis c) ∧ w = w' := by
  go_enter Tryz.func60, Tryz.ntmps60
  go_wp2
  exact ⟨rfl, rfl, rfl⟩

theorem ret_int {k : IntKind} {a b : Int} (h : a = b) : Ending.returned (.int k a) = .returned (.int k b) := by rw [h]

theorem size_any (a : Int) (w : World) (h1 : -9223372036854775808 ≤ a) (h2 : a ≤ 9223372036854775807) : Calls Tryz.prog 63 #[.int .i64 a] w fun e w' => e = .returned (.int .u64 (sz a)) ∧ w = w' := by
  by_cases hn : a < 0
  · go_enter Tryz.func63, Tryz.ntmps63
    go_wp2
    go_ret
    exact ⟨ret_int (u64_neg_sz hn h1), rfl⟩
  · go_enter Tryz.func63, Tryz.ntmps63
    go_wp2
    go_ret
    exact ⟨ret_int (sz_pos (by omega)).symm, rfl⟩

theorem sizeInt_any (a : Int) (w : World) (h1 : -9223372036854775808 ≤ a) (h2 : a ≤ 9223372036854775807) : Calls Tryz.prog 89 #[.int .i64 a] w fun e w' => e = .returned (.int .u64 (sz a)) ∧ w = w' := by
  by_cases hn : a < 0
  · go_enter Tryz.func89, Tryz.ntmps89
    go_wp2
    go_ret
    exact ⟨ret_int (u64_neg_sz hn h1), rfl⟩
  · go_enter Tryz.func89, Tryz.ntmps89
    go_wp2
    go_ret
    exact ⟨ret_int (sz_pos (by omega)).symm, rfl⟩

/-- A size with a sign. -/
def sgn (n : Int) (neg : Bool) : Int := if neg then -n else n

theorem signed_ok (n : Int) (neg : Bool) (w : World) (h0 : 0 ≤ n) (h1 : n ≤ 70368744177664) : Calls Tryz.prog 85 #[.int .u64 n, .bool neg] w fun e w' => e = .returned (.int .i64 (sgn n neg)) ∧ w = w' := by
  cases neg
  · go_enter Tryz.func85, Tryz.ntmps85
    go_wp2_with (go_at_call 60; refine (need_ok _ _).mono ?_; rintro e w' ⟨rfl, rfl⟩)
    go_ret
    exact ⟨rfl, rfl⟩
  · go_enter Tryz.func85, Tryz.ntmps85
    go_wp2_with (go_at_call 60; refine (need_ok _ _).mono ?_; rintro e w' ⟨rfl, rfl⟩)
    go_ret
    exact ⟨rfl, rfl⟩

theorem signed_no (n : Int) (neg : Bool) (w : World) (h1 : decide (n ≤ 70368744177664) = false) : Calls Tryz.prog 85 #[.int .u64 n, .bool neg] w fun e w' => e = .panicked (Mis 4) ∧ w = w' := by
  go_enter Tryz.func85, Tryz.ntmps85
  go_wp2_with (go_at_call 60; refine (need_no _ _).mono ?_; rintro e w' ⟨rfl, rfl⟩)
  exact ⟨rfl, rfl, rfl⟩

theorem isNaN_any (a : Int) (w : World) : Calls Tryz.prog 152 #[.int .u64 a] w fun e w' => e = .returned (.bool false) ∧ w = w' := by
  go_enter Tryz.func152, Tryz.ntmps152
  go_wp2
  go_ret
  exact ⟨by simp, rfl⟩

theorem compareU_any (a b : Int) (w : World) : Calls Tryz.prog 136 #[.int .u64 a, .int .u64 b] w fun e w' => e = .returned (.int .i64 (cmpI a b)) ∧ w = w' := by
  rcases Int.lt_trichotomy a b with h | h | h
  · go_enter Tryz.func136, Tryz.ntmps136
    go_wp2_with (go_at_call 152; refine (isNaN_any _ _).mono ?_; rintro e w' ⟨rfl, rfl⟩)
    go_ret
    exact ⟨ret_int (by unfold cmpI; rw [if_pos h]), rfl⟩
  · subst h
    go_enter Tryz.func136, Tryz.ntmps136
    go_wp2_with (go_at_call 152; refine (isNaN_any _ _).mono ?_; rintro e w' ⟨rfl, rfl⟩)
    go_ret
    exact ⟨ret_int (by unfold cmpI; rw [if_neg (by omega), if_neg (by omega)]), rfl⟩
  · go_enter Tryz.func136, Tryz.ntmps136
    go_wp2_with (go_at_call 152; refine (isNaN_any _ _).mono ?_; rintro e w' ⟨rfl, rfl⟩)
    go_ret
    exact ⟨ret_int (by unfold cmpI; rw [if_neg (by omega), if_pos h]), rfl⟩
end Go.Proofs.YthkhhjfldkebcaaGreatDoor
