/- The walk of FixedUnits. -/
import Derived.Test.YthkhhjfldkebcaaGreatDoorN3
namespace Go.Proofs.YthkhhjfldkebcaaGreatDoor
open Go.RowKit Go.Proofs Go.Shelf

theorem sq_zero {x y : Int} (h : sq x y = 0) : x = 0 ∧ y = 0 := by
  have a := sz_nn x; have b := sz_nn y
  have c := Int.mul_nonneg a a; have d := Int.mul_nonneg b b
  unfold sq at h
  have e : sz x = 0 := by
    rcases Int.mul_eq_zero.1 (show sz x * sz x = 0 by omega) with h | h <;> exact h
  have f : sz y = 0 := by
    rcases Int.mul_eq_zero.1 (show sz y * sz y = 0 by omega) with h | h <;> exact h
  unfold sz at e f
  constructor
  · split at e <;> omega
  · split at f <;> omega

set_option maxHeartbeats 2000000 in
theorem Units_no (x y c : Int) (w : World) (hM : Mem w) (hu : unitR x y = .error c) (hc : c = 2 ∨ (c = 10 ∧ x = 0 ∧ y = 0)) :
    Calls Tryz.prog 6 #[.agg #[.int .i64 x, .int .i64 y]] w fun e w' => e = .returned (.bool true) ∧ Below w.heap.size w w' := by
  have HM := Lib.hid hM
  clear hM
  have HU : Hid (∀ w, Calls Tryz.prog 28 #[.agg #[.int .i64 x, .int .i64 y]] w fun e w' => e = .returned (.tuple #[.agg #[.int .i64 0, .int .i64 0], .int .i64 c]) ∧ Below w.heap.size w w') := fun w => by
    have := Unit_any x y w; rw [hu] at this; exact this
  clear hu
  have BX : Hid (Below w.heap.size w (w.alloc (.cells #[.int .i64 x, .int .i64 y] 45))) := (Below.refl _ _).alloc (Nat.le_refl _) _
  rcases hc with rfl | ⟨rfl, rfl, rfl⟩
  all_goals
    go_enter Tryz.func6, Tryz.ntmps6
    go_wp2_with (first
      | (go_at_call 13; refine (alive_any _ (HM.out.up BX.out)).mono ?_; rintro e w1 ⟨rfl, hb1⟩; have c0 := hb1.cell (p := ⟨w.heap.size, 0, none⟩) (by simp); have c1 := hb1.cell (p := ⟨w.heap.size, 1, none⟩) (by simp); have hs1 := hb1.size; simp [go_sem] at c0 c1 hs1)
      | (go_at_call 28; refine (HU.out _).mono ?_; rintro e w2 ⟨rfl, hb2⟩; have hs2 := hb2.size; have d0 := fun o => (World.cell?_alloc_past (w := w2) o w.heap.size 0 (show w.heap.size < w2.heap.size by omega)).trans ((hb2.cell (p := ⟨w.heap.size, 0, none⟩) (show w.heap.size < w1.heap.size by omega)).trans c0); have d1 := fun o => (World.cell?_alloc_past (w := w2) o w.heap.size 1 (show w.heap.size < w2.heap.size by omega)).trans ((hb2.cell (p := ⟨w.heap.size, 1, none⟩) (show w.heap.size < w1.heap.size by omega)).trans c1)))
    go_ret
    exact ⟨rfl, ((BX.out.trans (hb1.mono (by simp))).trans (hb2.mono (by omega))).alloc (by omega) _⟩
end Go.Proofs.YthkhhjfldkebcaaGreatDoor
