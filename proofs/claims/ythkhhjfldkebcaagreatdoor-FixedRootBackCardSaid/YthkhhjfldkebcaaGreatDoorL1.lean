/- Walks: FixedRootBack, FixedExact. -/
import Derived.Test.YthkhhjfldkebcaaGreatDoorAl
namespace Go.Proofs.YthkhhjfldkebcaaGreatDoor
open Go.RowKit Go.Proofs Go.Shelf

theorem root_down {a : Int} (h0 : 0 ≤ a) (h : a ≤ 70368744177664) : ∃ n : Int, rootR a 1 = .ok n ∧ 0 ≤ n ∧ n ≤ 2147483648 ∧ n * n ≤ a * 65536 ∧ a * 65536 < (n + 1) * (n + 1) := by
  have R := isq_spec (A := a * 65536) (by omega)
  refine ⟨isq (a * 65536), ?_, R.nn, ?_, R.le, R.lt⟩
  · have hb : isq (a * 65536) ≤ 2147483648 := R.bound (m := 2147483648) (by omega) (by omega)
    unfold rootR
    rw [if_pos ⟨by omega, h⟩, if_pos (by decide), if_neg (by omega)]
    unfold rooR
    have : rbump (119 + (1 : Int).toNat) (a * 65536) (isq (a * 65536)) = false := by
      unfold rbump; simp [rndB]
    rw [this]
    unfold fitR
    simp only [b2i, Bool.false_eq_true, if_false, Int.add_zero]
    rw [if_pos (by omega)]
    rfl
  · exact R.bound (m := 2147483648) (by omega) (by omega)

set_option maxHeartbeats 1000000 in
theorem RootBack_any (a : Int) (w : World) (hM : Mem w) : Calls Tryz.prog 4 #[.int .i64 a] w fun e w' => e = .returned (.bool true) ∧ Below w.heap.size w w' := by
  have HM := Lib.hid hM
  clear hM
  by_cases hv : Val a
  · by_cases h0 : a < 0
    · have HR : Hid (∀ w, Calls Tryz.prog 16 #[.int .i64 a, .int .i64 1] w fun e w' => e = .returned (.tuple #[.int .i64 0, .int .i64 11]) ∧ Below w.heap.size w w') := fun w => by
        have := Root_any a 1 w
        rw [show rootR a 1 = .error 11 by unfold rootR; rw [if_pos hv, if_pos (by decide), if_pos h0]] at this
        exact this
      clear hv h0
      go_enter Tryz.func4, Tryz.ntmps4
      go_wp2_with (first
        | (go_at_call 13; refine (alive_any _ HM.out).mono ?_; rintro e w1 ⟨rfl, hb1⟩)
        | (go_at_call 16; refine (HR.out _).mono ?_; rintro e w2 ⟨rfl, hb2⟩))
      go_ret
      exact ⟨rfl, hb1.trans (hb2.mono hb1.size)⟩
    · obtain ⟨n, hn, n0, n1, n2, n3⟩ := root_down (a := a) (by omega) hv.2
      have hav := hv.2
      have HR : Hid (∀ w, Calls Tryz.prog 16 #[.int .i64 a, .int .i64 1] w fun e w' => e = .returned (.tuple #[.int .i64 n, .int .i64 0]) ∧ Below w.heap.size w w') := fun w => by
        have := Root_any a 1 w
        rw [hn] at this
        exact this
      have a0 : 0 ≤ a := by omega
      have hnn := Int.mul_nonneg n0 n0
      have hnn' : n * n ≤ 4611686018427387904 := Int.mul_le_mul n1 n1 n0 (by omega)
      have hm : (n + 1) * (n + 1) ≤ 4611686022722355201 := Int.mul_le_mul (show n + 1 ≤ 2147483649 by omega) (show n + 1 ≤ 2147483649 by omega) (by omega) (by omega)
      have hm0 : 0 ≤ (n + 1) * (n + 1) := Int.mul_nonneg (by omega) (by omega)
      clear hv h0 hn
      go_enter Tryz.func4, Tryz.ntmps4
      go_wp2_with (first
        | (go_at_call 13; refine (alive_any _ HM.out).mono ?_; rintro e w1 ⟨rfl, hb1⟩)
        | (go_at_call 16; refine (HR.out _).mono ?_; rintro e w2 ⟨rfl, hb2⟩))
      go_ret
      exact ⟨rfl, hb1.trans (hb2.mono hb1.size)⟩
  · have HR : Hid (∀ w, Calls Tryz.prog 16 #[.int .i64 a, .int .i64 1] w fun e w' => e = .returned (.tuple #[.int .i64 0, .int .i64 2]) ∧ Below w.heap.size w w') := fun w => by
      have := Root_any a 1 w
      rw [show rootR a 1 = .error 2 by unfold rootR; rw [if_neg hv]] at this
      exact this
    clear hv
    go_enter Tryz.func4, Tryz.ntmps4
    go_wp2_with (first
      | (go_at_call 13; refine (alive_any _ HM.out).mono ?_; rintro e w1 ⟨rfl, hb1⟩)
      | (go_at_call 16; refine (HR.out _).mono ?_; rintro e w2 ⟨rfl, hb2⟩))
    go_ret
    exact ⟨rfl, hb1.trans (hb2.mono hb1.size)⟩
end Go.Proofs.YthkhhjfldkebcaaGreatDoor
