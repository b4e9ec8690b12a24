/- Contracts: Left, and Unit's turns. -/
import Derived.Test.YthkhhjfldkebcaaGreatDoorAl
namespace Go.Proofs.YthkhhjfldkebcaaGreatDoor
open Go.RowKit Go.Proofs Go.Shelf

/-- A spot turned to the left. -/
def leftV (x y : Int) : Int × Int := if Val x ∧ Val y then (-y, x) else (0, 0)
theorem check_ok {a : Int} (h : Val a) (w : World) : Calls Tryz.prog 25 #[.int .i64 a] w fun e w' => e = .returned (.int .i64 0) ∧ Below w.heap.size w w' := by
  have := Check_any a w; rwa [show errE (checkR a) = 0 by unfold checkR; rw [if_pos h]; rfl] at this
theorem check_no {a : Int} (h : ¬ Val a) (w : World) : Calls Tryz.prog 25 #[.int .i64 a] w fun e w' => e = .returned (.int .i64 2) ∧ Below w.heap.size w w' := by
  have := Check_any a w; rwa [show errE (checkR a) = 2 by unfold checkR; rw [if_neg h]; rfl] at this
set_option maxHeartbeats 1000000 in
theorem Left_any (x y : Int) (w : World) :
    Calls Tryz.prog 29 #[.agg #[.int .i64 x, .int .i64 y]] w fun e w' => e = .returned (Sp (leftV x y)) ∧ Below w.heap.size w w' := by
  have bb : Below w.heap.size w ((w.alloc (.cells #[.int .i64 x, .int .i64 y] 45)).alloc (.cells #[.int .i64 0, .int .i64 0] 45)) := ((Below.refl _ _).alloc (Nat.le_refl _) _).alloc (by simp) _
  have hb0 : Below ((w.alloc (.cells #[.int .i64 x, .int .i64 y] 45)).alloc (.cells #[.int .i64 0, .int .i64 0] 45)).heap.size ((w.alloc (.cells #[.int .i64 x, .int .i64 y] 45)).alloc (.cells #[.int .i64 0, .int .i64 0] 45)) ((w.alloc (.cells #[.int .i64 x, .int .i64 y] 45)).alloc (.cells #[.int .i64 0, .int .i64 0] 45)) := Below.refl _ _
  have HBB := Lib.hid bb
  clear bb
  by_cases hx : Val x
  · have eX : errE (checkR x) = 0 := by unfold checkR; rw [if_pos hx]; rfl
    by_cases hy : Val y
    · have eY : errE (checkR y) = 0 := by unfold checkR; rw [if_pos hy]; rfl
      have hl : leftV x y = (-y, x) := by unfold leftV; rw [if_pos ⟨hx, hy⟩]
      rw [hl]
      obtain ⟨y1, y2⟩ := hy
      clear hx hl
      go_enter Tryz.func29, Tryz.ntmps29
      go_wp2_with (go_at_call 25; refine (Check_any _ _).mono ?_; rintro e w1 ⟨rfl, hb1⟩; replace hb0 := hb0.trans (hb1.mono hb0.size); clear hb1; have hcw1 := bcell hb0; have hzw1 := hb0.size; simp only [World.size_alloc] at hcw1 hzw1; have a0 : w1.cell? ⟨w.heap.size, 0, none⟩ = some (.int .i64 x) := (by rw [hcw1.1 _ _ (by omega)]; simp [go_sem]); have a1 : w1.cell? ⟨w.heap.size, 1, none⟩ = some (.int .i64 y) := (by rw [hcw1.1 _ _ (by omega)]; simp [go_sem]); have z0 : w1.cell? ⟨w.heap.size + 1, 0, none⟩ = some (.int .i64 0) := (by rw [hcw1.1 _ _ (by omega)]; simp [go_sem]); have z1 : w1.cell? ⟨w.heap.size + 1, 1, none⟩ = some (.int .i64 0) := (by rw [hcw1.1 _ _ (by omega)]; simp [go_sem]); have g0 : w1.frozen? ⟨w.heap.size + 1, 0, none⟩ = false := (by rw [hcw1.2 _ _ (by omega)]; simp [go_sem]); have g1 : w1.frozen? ⟨w.heap.size + 1, 1, none⟩ = false := (by rw [hcw1.2 _ _ (by omega)]; simp [go_sem]); clear hcw1)
      obtain ⟨t0, t1⟩ := two_cells z0 z1 (.int .i64 (-y)) (.int .i64 (x))
      refine bodyPost_ret (v := Sp (-y, x)) (by simp [results, Tryz.results29, go_sem, t0, t1]) rfl ⟨rfl, ?_⟩
      exact ((HBB.out.trans (hb0.mono (by simp; omega))).setCell (p := ⟨w.heap.size + 1, 0, none⟩) (by simp) _).setCell (p := ⟨w.heap.size + 1, 1, none⟩) (by simp) _
    · have eY : errE (checkR y) = 2 := by unfold checkR; rw [if_neg hy]; rfl
      have hl : leftV x y = (0, 0) := by unfold leftV; rw [if_neg (fun h => hy h.2)]
      rw [hl]
      clear hx hy hl
      go_enter Tryz.func29, Tryz.ntmps29
      go_wp2_with (go_at_call 25; refine (Check_any _ _).mono ?_; rintro e w1 ⟨rfl, hb1⟩; replace hb0 := hb0.trans (hb1.mono hb0.size); clear hb1; have hcw1 := bcell hb0; have hzw1 := hb0.size; simp only [World.size_alloc] at hcw1 hzw1; have a0 : w1.cell? ⟨w.heap.size, 0, none⟩ = some (.int .i64 x) := (by rw [hcw1.1 _ _ (by omega)]; simp [go_sem]); have a1 : w1.cell? ⟨w.heap.size, 1, none⟩ = some (.int .i64 y) := (by rw [hcw1.1 _ _ (by omega)]; simp [go_sem]); have z0 : w1.cell? ⟨w.heap.size + 1, 0, none⟩ = some (.int .i64 0) := (by rw [hcw1.1 _ _ (by omega)]; simp [go_sem]); have z1 : w1.cell? ⟨w.heap.size + 1, 1, none⟩ = some (.int .i64 0) := (by rw [hcw1.1 _ _ (by omega)]; simp [go_sem]); have g0 : w1.frozen? ⟨w.heap.size + 1, 0, none⟩ = false := (by rw [hcw1.2 _ _ (by omega)]; simp [go_sem]); have g1 : w1.frozen? ⟨w.heap.size + 1, 1, none⟩ = false := (by rw [hcw1.2 _ _ (by omega)]; simp [go_sem]); clear hcw1)
      obtain ⟨t0, t1⟩ := two_cells z0 z1 (.int .i64 (0)) (.int .i64 (0))
      refine bodyPost_ret (v := Sp (0, 0)) (by simp [results, Tryz.results29, go_sem, t0, t1]) rfl ⟨rfl, ?_⟩
      exact ((HBB.out.trans (hb0.mono (by simp; omega))).setCell (p := ⟨w.heap.size + 1, 0, none⟩) (by simp) _).setCell (p := ⟨w.heap.size + 1, 1, none⟩) (by simp) _
  · have eX : errE (checkR x) = 2 := by unfold checkR; rw [if_neg hx]; rfl
    have hl : leftV x y = (0, 0) := by unfold leftV; rw [if_neg (fun h => hx h.1)]
    rw [hl]
    clear hx hl
    go_enter Tryz.func29, Tryz.ntmps29
    go_wp2_with (go_at_call 25; refine (Check_any _ _).mono ?_; rintro e w1 ⟨rfl, hb1⟩; replace hb0 := hb0.trans (hb1.mono hb0.size); clear hb1; have hcw1 := bcell hb0; have hzw1 := hb0.size; simp only [World.size_alloc] at hcw1 hzw1; have a0 : w1.cell? ⟨w.heap.size, 0, none⟩ = some (.int .i64 x) := (by rw [hcw1.1 _ _ (by omega)]; simp [go_sem]); have a1 : w1.cell? ⟨w.heap.size, 1, none⟩ = some (.int .i64 y) := (by rw [hcw1.1 _ _ (by omega)]; simp [go_sem]); have z0 : w1.cell? ⟨w.heap.size + 1, 0, none⟩ = some (.int .i64 0) := (by rw [hcw1.1 _ _ (by omega)]; simp [go_sem]); have z1 : w1.cell? ⟨w.heap.size + 1, 1, none⟩ = some (.int .i64 0) := (by rw [hcw1.1 _ _ (by omega)]; simp [go_sem]); have g0 : w1.frozen? ⟨w.heap.size + 1, 0, none⟩ = false := (by rw [hcw1.2 _ _ (by omega)]; simp [go_sem]); have g1 : w1.frozen? ⟨w.heap.size + 1, 1, none⟩ = false := (by rw [hcw1.2 _ _ (by omega)]; simp [go_sem]); clear hcw1)
    obtain ⟨t0, t1⟩ := two_cells z0 z1 (.int .i64 (0)) (.int .i64 (0))
    refine bodyPost_ret (v := Sp (0, 0)) (by simp [results, Tryz.results29, go_sem, t0, t1]) rfl ⟨rfl, ?_⟩
    exact ((HBB.out.trans (hb0.mono (by simp; omega))).setCell (p := ⟨w.heap.size + 1, 0, none⟩) (by simp) _).setCell (p := ⟨w.heap.size + 1, 1, none⟩) (by simp) _
end Go.Proofs.YthkhhjfldkebcaaGreatDoor
