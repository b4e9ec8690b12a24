/- FixedTriangle, at whatever spots. -/
import Derived.Test.YthkhhjfldkebcaaGreatDoorJ6
namespace Go.Proofs.YthkhhjfldkebcaaGreatDoor
open Go.RowKit Go.Proofs Go.Shelf

theorem errs {a b c d : Int} (h : ¬ (a = 0 ∧ b = 0 ∧ c = 0 ∧ d = 0)) :
    ((a != 0) = true) ∨ ((a != 0) = false ∧ (b != 0) = true) ∨ ((a != 0) = false ∧ (b != 0) = false ∧ (c != 0) = true) ∨ ((a != 0) = false ∧ (b != 0) = false ∧ (c != 0) = false ∧ (d != 0) = true) := by
  by_cases h1 : a = 0 <;> by_cases h2 : b = 0 <;> by_cases h3 : c = 0 <;> by_cases h4 : d = 0 <;> simp_all
theorem fitR_err {q : Int} {n : Bool} (h : errE (fitR q n) = 0) : ∃ v, fitR q n = .ok v := by
  unfold fitR at h ⊢
  split at h
  · rw [if_pos (by assumption)]; exact ⟨_, rfl⟩
  · cases h
theorem len_of {x y : Int} (hv : Val x ∧ Val y) (h : errE (lenR x y 2) = 0) : ∃ v, lenR x y 2 = .ok v := by
  rw [len_ok hv (by decide)] at h ⊢
  unfold rooR at h ⊢
  exact fitR_err h

theorem plus_ok {x1 y1 x2 y2 : Int} (h : errE (plusR x1 y1 x2 y2) = 0) : (Val x1 ∧ Val y1 ∧ Val x2 ∧ Val y2) ∧ (Val (x1 + x2) ∧ Val (y1 + y2)) ∧ plusR x1 y1 x2 y2 = .ok (x1 + x2, y1 + y2) := by
  unfold plusR at h ⊢
  by_cases hv : Val x1 ∧ Val y1 ∧ Val x2 ∧ Val y2
  · rw [if_pos hv] at h ⊢
    by_cases hs : Val (x1 + x2) ∧ Val (y1 + y2)
    · rw [if_pos hs]; exact ⟨hv, hs, rfl⟩
    · rw [if_neg hs] at h; cases h
  · rw [if_neg hv] at h; cases h

theorem Tri_any (x1 y1 x2 y2 : Int) (w : World) (hM : Mem w) :
    Calls Tryz.prog 9 #[.agg #[.int .i64 x1, .int .i64 y1], .agg #[.int .i64 x2, .int .i64 y2]] w fun e w' => e = .returned (.bool true) ∧ Below w.heap.size w w' := by
  by_cases h : errE (plusR x1 y1 x2 y2) = 0 ∧ errE (lenR x1 y1 2) = 0 ∧ errE (lenR x2 y2 2) = 0 ∧ errE (lenR (valE (0, 0) (plusR x1 y1 x2 y2)).1 (valE (0, 0) (plusR x1 y1 x2 y2)).2 2) = 0
  · obtain ⟨h1, h2, h3, h4⟩ := h
    obtain ⟨hv, hs, hp⟩ := plus_ok h1
    rw [hp] at h4
    obtain ⟨X, hX⟩ := len_of ⟨hv.1, hv.2.1⟩ h2
    obtain ⟨Y, hY⟩ := len_of ⟨hv.2.2.1, hv.2.2.2⟩ h3
    obtain ⟨Z, hZ⟩ := len_of hs h4
    obtain ⟨D, s, own, e1, e2, e3, e4, e5, e6, e7, e8, e9, s0, s1, o0, o1, ho, t1, t2, t3, X0, X1, Y0, Y1, Z0, Z1, D0, D3⟩ := tri_facts hv hX hY hs hZ
    refine Tri_ok x1 y1 x2 y2 (x1 + x2) (y1 + y2) (-y1) X Y Z D (D - 1) s (-s) own w hM ?_ ?_ ?_ ?_ ?_ ?_ ?_ ?_ ?_ ?_ ?_ ?_ ?_ ?_ rfl D0 D3 ?_ (by omega) (by omega) (by omega) o0 o1 X0 X1 Y0 Y1 t1 t2 t3 ?_
    · intro w; have := Plus_any x1 y1 x2 y2 w; rw [hp] at this; exact this
    · intro w; have := Length_any x1 y1 2 w; rw [hX] at this; exact this
    · intro w; have := Length_any x2 y2 2 w; rw [hY] at this; exact this
    · intro w; have := Length_any (x1 + x2) (y1 + y2) 2 w; rw [hZ] at this; exact this
    · intro w; have := Left_any x1 y1 w; rw [e1] at this; exact this
    · intro w; have := Length_any (-y1) x1 2 w; rw [e2] at this; exact this
    · intro w; have := Length_any x1 y1 1 w; rw [e3] at this; exact this
    · intro w; have := Within_any x1 y1 X w; rw [e4] at this; exact this
    · intro w; have := Within_any x1 y1 (D - 1) w; rw [e5] at this; exact this
    · intro w; have := Farther_any x1 y1 (-y1) x1 w; rw [e6] at this; exact this
    · intro w; have := Turn_any x1 y1 x2 y2 w; rw [e7] at this; exact this
    · intro w; have := Turn_any x2 y2 x1 y1 w; rw [e8] at this; exact this
    · intro w; have := Turn_any x1 y1 (-y1) x1 w; rw [e9] at this; exact this
    · exact IntWalk.i64_in _ (by omega)
    · rw [Int.neg_neg]; exact IntWalk.i64_in _ (by omega)
    · by_cases hx : x1 = 0
      · by_cases hy : y1 = 0
        · exact .inl ⟨by have := fun h => ho.1 h ⟨hx, hy⟩; omega, hx, hy⟩
        · exact .inr (.inr ⟨ho.2 (fun h => hy h.2), hx, hy⟩)
      · exact .inr (.inl ⟨ho.2 (fun h => hx h.1), hx⟩)
  · exact Tri_no x1 y1 x2 y2 _ _ _ _ _ _ _ _ _ w hM (fun w => Plus_any x1 y1 x2 y2 w) (fun w => Length_any x1 y1 2 w) (fun w => Length_any x2 y2 2 w) (fun w => Length_any _ _ 2 w) (errs h)
end Go.Proofs.YthkhhjfldkebcaaGreatDoor
