/- The walk of FixedUnits at a spot that has a unit. -/
import Derived.Test.YthkhhjfldkebcaaGreatDoorN5
namespace Go.Proofs.YthkhhjfldkebcaaGreatDoor
open Go.RowKit Go.Proofs Go.Shelf

/-- An old cell, behind a call and a new variable. -/
theorem up1 {w w' : World} {b i : Nat} {v : Value} (h : w.cell? ⟨b, i, none⟩ = some v) (hb : Below w.heap.size w w') (o : Obj) : (w'.alloc o).cell? ⟨b, i, none⟩ = some v := by
  have hl := lt_cell h
  rw [World.cell?_alloc_past _ _ _ (Nat.lt_of_lt_of_le hl hb.size), hb.cell (p := ⟨b, i, none⟩) hl]; exact h
theorem up0 {w w' : World} {b i : Nat} {v : Value} (h : w.cell? ⟨b, i, none⟩ = some v) (hb : Below w.heap.size w w') : w'.cell? ⟨b, i, none⟩ = some v :=
  (hb.cell (p := ⟨b, i, none⟩) (lt_cell h)).trans h

set_option maxHeartbeats 2000000 in
theorem Units_ok (x y : Int) (w : World) (hM : Mem w) (hv : Val x ∧ Val y) (hs : sq x y ≠ 0) :
    Calls Tryz.prog 6 #[.agg #[.int .i64 x, .int .i64 y]] w fun e w' => e = .returned (.bool true) ∧ Below w.heap.size w w' := by
  obtain ⟨P, Q, n, k, u1, u2, u3, l1, l2, e1, e2, n1, k1, p1, p2, q1, q2⟩ := unit_facts hv hs
  have v1 := hv.1.1; have v2 := hv.1.2; have v3 := hv.2.1; have v4 := hv.2.2
  have HM := Lib.hid hM
  have BX : Hid (Below w.heap.size w (w.alloc (.cells #[.int .i64 x, .int .i64 y] 45))) := (Below.refl _ _).alloc (Nat.le_refl _) _
  have s1 : ∀ (d v : Int × Int), valE d (.ok v : Except Int (Int × Int)) = v := fun _ _ => rfl
  have s2 : ∀ (v : Int × Int), errE (.ok v : Except Int (Int × Int)) = 0 := fun _ => rfl
  have s3 : ∀ (d v : Int), valE d (.ok v : Except Int Int) = v := fun _ _ => rfl
  have s4 : ∀ (v : Int), errE (.ok v : Except Int Int) = 0 := fun _ => rfl
  clear hM hv hs
  go_enter Tryz.func6, Tryz.ntmps6
  go_upto_region 5 with (first
    | (go_at_call 13; refine (alive_any _ (HM.out.up BX.out)).mono ?_; rintro e w1 ⟨rfl, hb1⟩; have c0 : w1.cell? ⟨w.heap.size, 0, none⟩ = some (.int .i64 x) := (up0 (by simp [go_sem]) hb1); have c1 : w1.cell? ⟨w.heap.size, 1, none⟩ = some (.int .i64 y) := (up0 (by simp [go_sem]) hb1))
    | (go_at_call 28; refine (Unit_any _ _ _).mono ?_; rintro e w2 ⟨rfl, hb2⟩; have d0 := fun o => up1 c0 hb2 o; have d1 := fun o => up1 c1 hb2 o))
  go_upto_region 6 with (first
    | (go_at_call 29; refine (Left_any _ _ _).mono ?_; rintro e w3 ⟨rfl, hb3⟩; have e0 : w3.cell? ⟨w2.heap.size, 0, none⟩ = some (.int .i64 P) := (up0 (by simp [go_sem]) hb3); have e1 : w3.cell? ⟨w2.heap.size, 1, none⟩ = some (.int .i64 Q) := (up0 (by simp [go_sem]) hb3); have d2 := up0 (d0 _) hb3; have d3 := up0 (d1 _) hb3; rw [l1])
    | (go_at_call 28; refine (Unit_any _ _ _).mono ?_; rintro e w4 ⟨rfl, hb4⟩; have f0 := fun o => up1 e0 hb4 o; have f1 := fun o => up1 e1 hb4 o; have d4 := fun o => up1 d2 hb4 o; have d5 := fun o => up1 d3 hb4 o))
  go_upto_region 7 with (go_at_call 28; refine (Unit_any _ _ _).mono ?_; rintro e w5 ⟨rfl, hb5⟩; have f2 := fun o => up1 (f0 _) hb5 o; have f3 := fun o => up1 (f1 _) hb5 o; have i0 : ∀ o, (w5.alloc o).cell? ⟨w4.heap.size, 0, none⟩ = some (.int .i64 (-Q)) := (fun o => up1 (by simp [go_sem]) hb5 o); have i1 : ∀ o, (w5.alloc o).cell? ⟨w4.heap.size, 1, none⟩ = some (.int .i64 P) := (fun o => up1 (by simp [go_sem]) hb5 o))
  go_upto_region 8 with (go_at_call 30; refine (Length_any _ _ _ _).mono ?_; rintro e w6 ⟨rfl, hb6⟩; have f4 := up0 (f2 _) hb6; have f5 := up0 (f3 _) hb6; have i2 := up0 (i0 _) hb6; have i3 := up0 (i1 _) hb6; have j0 : w6.cell? ⟨w5.heap.size, 0, none⟩ = some (.int .i64 (-P)) := (up0 (by simp [go_sem]) hb6); have j1 : w6.cell? ⟨w5.heap.size, 1, none⟩ = some (.int .i64 (-Q)) := (up0 (by simp [go_sem]) hb6))
  go_upto_region 9 with (go_at_call 30; refine (Length_any _ _ _ _).mono ?_; rintro e w7 ⟨rfl, hb7⟩; have f6 := up0 f4 hb7; have f7 := up0 f5 hb7; have i4 := up0 i2 hb7; have i5 := up0 i3 hb7; have j2 := up0 j0 hb7; have j3 := up0 j1 hb7)
  have X1 : ∀ X : BW w7, X.to.cell? ⟨w2.heap.size, 0, none⟩ = some (.int .i64 P) := fun X => up0 f6 X.same
  have X2 : ∀ X : BW w7, X.to.cell? ⟨w2.heap.size, 1, none⟩ = some (.int .i64 Q) := fun X => up0 f7 X.same
  have X3 : ∀ X : BW w7, X.to.cell? ⟨w4.heap.size, 0, none⟩ = some (.int .i64 (-Q)) := fun X => up0 i4 X.same
  have X4 : ∀ X : BW w7, X.to.cell? ⟨w4.heap.size, 1, none⟩ = some (.int .i64 P) := fun X => up0 i5 X.same
  have X5 : ∀ X : BW w7, X.to.cell? ⟨w5.heap.size, 0, none⟩ = some (.int .i64 (-P)) := fun X => up0 j2 X.same
  have X6 : ∀ X : BW w7, X.to.cell? ⟨w5.heap.size, 1, none⟩ = some (.int .i64 (-Q)) := fun X => up0 j3 X.same
  have HL : Hid (∀ w, Calls Tryz.prog 29 #[.agg #[.int .i64 P, .int .i64 Q]] w fun e w' => e = .returned (.agg #[.int .i64 (-Q), .int .i64 P]) ∧ Below w.heap.size w w') := fun w => by have := Left_any P Q w; rwa [l2] at this
  refine wp_region_quietB (by kernel_rfl) (by kernel_rfl) ?_
  repeat (go_big_quiet_step ((go_at_call 29; exact quietB (HL.out _))))
  refine wpQuiet_nil ?_
  rintro _ ⟨⟨wy, hby⟩, rfl⟩
  go_wp2_with fail
  go_ret
  have b2 := (BX.out.trans (hb1.mono BX.out.size)).trans (hb2.mono (Nat.le_trans BX.out.size hb1.size))
  have b2' := b2.alloc b2.size (.cells #[.int .i64 P, .int .i64 Q] 45)
  have b3 := b2'.trans (hb3.mono b2'.size)
  have b4 := b3.trans (hb4.mono b3.size)
  have b4' := b4.alloc b4.size (.cells #[.int .i64 (-Q), .int .i64 P] 45)
  have b5 := b4'.trans (hb5.mono b4'.size)
  have b5' := b5.alloc b5.size (.cells #[.int .i64 (-P), .int .i64 (-Q)] 45)
  have b6 := b5'.trans (hb6.mono b5'.size)
  have b7 := b6.trans (hb7.mono b6.size)
  exact ⟨rfl, b7.trans (hby.mono b7.size)⟩

/-- FixedUnits, at whatever spot. -/
theorem Units_any (x y : Int) (w : World) (hM : Mem w) : Calls Tryz.prog 6 #[.agg #[.int .i64 x, .int .i64 y]] w fun e w' => e = .returned (.bool true) ∧ Below w.heap.size w w' := by
  by_cases hv : Val x ∧ Val y
  · by_cases hs : sq x y = 0
    · obtain ⟨h1, h2⟩ := sq_zero hs
      exact Units_no x y 10 w hM (by unfold unitR; rw [if_pos hv, if_pos hs]) (.inr ⟨rfl, h1, h2⟩)
    · exact Units_ok x y w hM hv hs
  · exact Units_no x y 2 w hM (by unfold unitR; rw [if_neg hv]) (.inl rfl)
end Go.Proofs.YthkhhjfldkebcaaGreatDoor
