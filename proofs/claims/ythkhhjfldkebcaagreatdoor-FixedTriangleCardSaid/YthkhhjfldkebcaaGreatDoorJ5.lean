/- The walk of FixedTriangle: where something is out of range. -/
import Derived.Test.YthkhhjfldkebcaaGreatDoorJ4
namespace Go.Proofs.YthkhhjfldkebcaaGreatDoor
open Go.RowKit Go.Proofs Go.Shelf

set_option maxRecDepth 100000 in
set_option maxHeartbeats 2000000 in
theorem Tri_no (x1 y1 x2 y2 p1 p2 pe X xe Y ye Z ze : Int) (w : World) (hM : Mem w)
    (HP : Hid (∀ w, Calls Tryz.prog 49 #[.agg #[.int .i64 x1, .int .i64 y1], .agg #[.int .i64 x2, .int .i64 y2]] w fun e w' => e = .returned (.tuple #[.agg #[.int .i64 p1, .int .i64 p2], .int .i64 pe]) ∧ Below w.heap.size w w'))
    (HX : Hid (∀ w, Calls Tryz.prog 30 #[.agg #[.int .i64 x1, .int .i64 y1], .int .i64 2] w fun e w' => e = .returned (.tuple #[.int .i64 X, .int .i64 xe]) ∧ Below w.heap.size w w'))
    (HY : Hid (∀ w, Calls Tryz.prog 30 #[.agg #[.int .i64 x2, .int .i64 y2], .int .i64 2] w fun e w' => e = .returned (.tuple #[.int .i64 Y, .int .i64 ye]) ∧ Below w.heap.size w w'))
    (HZ : Hid (∀ w, Calls Tryz.prog 30 #[.agg #[.int .i64 p1, .int .i64 p2], .int .i64 2] w fun e w' => e = .returned (.tuple #[.int .i64 Z, .int .i64 ze]) ∧ Below w.heap.size w w'))
    (hE : ((pe != 0) = true) ∨ ((pe != 0) = false ∧ (xe != 0) = true) ∨ ((pe != 0) = false ∧ (xe != 0) = false ∧ (ye != 0) = true) ∨ ((pe != 0) = false ∧ (xe != 0) = false ∧ (ye != 0) = false ∧ (ze != 0) = true)) :
    Calls Tryz.prog 9 #[.agg #[.int .i64 x1, .int .i64 y1], .agg #[.int .i64 x2, .int .i64 y2]] w fun e w' => e = .returned (.bool true) ∧ Below w.heap.size w w' := by
  have HM := Lib.hid hM
  have BX : Hid (Below w.heap.size w ((w.alloc (.cells #[.int .i64 x1, .int .i64 y1] 45)).alloc (.cells #[.int .i64 x2, .int .i64 y2] 45))) := ((Below.refl _ _).alloc (Nat.le_refl _) _).alloc (by simp) _
  have HB : Hid (∀ {w1 w2 w3 w4 w5 : World} {o : Obj}, Below ((w.alloc (.cells #[.int .i64 x1, .int .i64 y1] 45)).alloc (.cells #[.int .i64 x2, .int .i64 y2] 45)).heap.size ((w.alloc (.cells #[.int .i64 x1, .int .i64 y1] 45)).alloc (.cells #[.int .i64 x2, .int .i64 y2] 45)) w1 →
      Below w1.heap.size w1 w2 → Below (w2.heap.size + 1) (w2.alloc o) w3 → Below w3.heap.size w3 w4 → Below w4.heap.size w4 w5 → Below w.heap.size w w5) := by
    intro w1 w2 w3 w4 w5 o h1 h2 h3 h4 h5
    have b1 := BX.out.trans (h1.mono BX.out.size)
    have b2 := b1.trans (h2.mono b1.size)
    have b3 := (b2.alloc b2.size o).trans (h3.mono (by have := b2.size; omega))
    have b4 := b3.trans (h4.mono b3.size)
    exact b4.trans (h5.mono b4.size)
  clear hM
  rcases hE with e1 | ⟨e1, e2⟩ | ⟨e1, e2, e3⟩ | ⟨e1, e2, e3, e4⟩
  all_goals
    go_enter Tryz.func9, Tryz.ntmps9
    go_upto_region 3 with (first
      | (go_at_call 13; refine (alive_any _ (HM.out.up BX.out)).mono ?_; rintro e w1 ⟨rfl, hb1⟩; have a0 : w1.cell? ⟨w.heap.size, 0, none⟩ = some (.int .i64 x1) := (upc (by simp [go_sem]) hb1); have a1 : w1.cell? ⟨w.heap.size, 1, none⟩ = some (.int .i64 y1) := (upc (by simp [go_sem]) hb1); have a2 : w1.cell? ⟨w.heap.size + 1, 0, none⟩ = some (.int .i64 x2) := (upc (by simp [go_sem]) hb1); have a3 : w1.cell? ⟨w.heap.size + 1, 1, none⟩ = some (.int .i64 y2) := (upc (by simp [go_sem]) hb1))
      | (go_at_call 49; refine (HP.out _).mono ?_; rintro e w2 ⟨rfl, hb2⟩; have b0 := fun o => upa (upc a0 hb2) o; have b1 := fun o => upa (upc a1 hb2) o; have b2 := fun o => upa (upc a2 hb2) o; have b3 := fun o => upa (upc a3 hb2) o))
    go_upto_region 4 with (go_at_call 30; refine (HX.out _).mono ?_; rintro e w3 ⟨rfl, hb3⟩; have c2 := upc (b2 _) hb3; have c3 := upc (b3 _) hb3; have k0 : w3.cell? ⟨w2.heap.size, 0, none⟩ = some (.int .i64 p1) := (upc (by simp [go_sem]) hb3); have k1 : w3.cell? ⟨w2.heap.size, 1, none⟩ = some (.int .i64 p2) := (upc (by simp [go_sem]) hb3))
    go_upto_region 5 with (go_at_call 30; refine (HY.out _).mono ?_; rintro e w4 ⟨rfl, hb4⟩; have l0 := upc k0 hb4; have l1 := upc k1 hb4)
    go_wp2_with (go_at_call 30; refine (HZ.out _).mono ?_; rintro e w5 ⟨rfl, hb5⟩)
    go_ret
    exact ⟨rfl, HB.out hb1 hb2 (by simpa using hb3) hb4 hb5⟩
end Go.Proofs.YthkhhjfldkebcaaGreatDoor
