/- The walk of FixedTriangle: where all is in range. -/
import Derived.Test.YthkhhjfldkebcaaGreatDoorJ5
namespace Go.Proofs.YthkhhjfldkebcaaGreatDoor
open Go.RowKit Go.Proofs Go.Shelf

set_option maxRecDepth 100000 in
set_option maxHeartbeats 4000000 in
theorem Tri_ok (x1 y1 x2 y2 p1 p2 nx X Y Z D D1 s sn own : Int) (w : World) (hM : Mem w)
    (HP : Hid (∀ w, Calls Tryz.prog 49 #[.agg #[.int .i64 x1, .int .i64 y1], .agg #[.int .i64 x2, .int .i64 y2]] w fun e w' => e = .returned (.tuple #[.agg #[.int .i64 p1, .int .i64 p2], .int .i64 0]) ∧ Below w.heap.size w w'))
    (L1 : Hid (∀ w, Calls Tryz.prog 30 #[.agg #[.int .i64 x1, .int .i64 y1], .int .i64 2] w fun e w' => e = .returned (.tuple #[.int .i64 X, .int .i64 0]) ∧ Below w.heap.size w w'))
    (L2 : Hid (∀ w, Calls Tryz.prog 30 #[.agg #[.int .i64 x2, .int .i64 y2], .int .i64 2] w fun e w' => e = .returned (.tuple #[.int .i64 Y, .int .i64 0]) ∧ Below w.heap.size w w'))
    (L3 : Hid (∀ w, Calls Tryz.prog 30 #[.agg #[.int .i64 p1, .int .i64 p2], .int .i64 2] w fun e w' => e = .returned (.tuple #[.int .i64 Z, .int .i64 0]) ∧ Below w.heap.size w w'))
    (LF : Hid (∀ w, Calls Tryz.prog 29 #[.agg #[.int .i64 x1, .int .i64 y1]] w fun e w' => e = .returned (.agg #[.int .i64 nx, .int .i64 x1]) ∧ Below w.heap.size w w'))
    (L4 : Hid (∀ w, Calls Tryz.prog 30 #[.agg #[.int .i64 nx, .int .i64 x1], .int .i64 2] w fun e w' => e = .returned (.tuple #[.int .i64 X, .int .i64 0]) ∧ Below w.heap.size w w'))
    (L5 : Hid (∀ w, Calls Tryz.prog 30 #[.agg #[.int .i64 x1, .int .i64 y1], .int .i64 1] w fun e w' => e = .returned (.tuple #[.int .i64 D, .int .i64 0]) ∧ Below w.heap.size w w'))
    (W1 : Hid (∀ w, Calls Tryz.prog 46 #[.agg #[.int .i64 x1, .int .i64 y1], .int .i64 X] w fun e w' => e = .returned (.tuple #[.bool true, .int .i64 0]) ∧ Below w.heap.size w w'))
    (W2 : Hid (∀ w, Calls Tryz.prog 46 #[.agg #[.int .i64 x1, .int .i64 y1], .int .i64 D1] w fun e w' => e = .returned (.tuple #[.bool false, .int .i64 0]) ∧ Below w.heap.size w w'))
    (FA : Hid (∀ w, Calls Tryz.prog 42 #[.agg #[.int .i64 x1, .int .i64 y1], .agg #[.int .i64 nx, .int .i64 x1]] w fun e w' => e = .returned (.tuple #[.int .i64 0, .int .i64 0]) ∧ Below w.heap.size w w'))
    (T1 : Hid (∀ w, Calls Tryz.prog 44 #[.agg #[.int .i64 x1, .int .i64 y1], .agg #[.int .i64 x2, .int .i64 y2]] w fun e w' => e = .returned (.tuple #[.int .i64 s, .int .i64 0]) ∧ Below w.heap.size w w'))
    (T2 : Hid (∀ w, Calls Tryz.prog 44 #[.agg #[.int .i64 x2, .int .i64 y2], .agg #[.int .i64 x1, .int .i64 y1]] w fun e w' => e = .returned (.tuple #[.int .i64 sn, .int .i64 0]) ∧ Below w.heap.size w w'))
    (T3 : Hid (∀ w, Calls Tryz.prog 44 #[.agg #[.int .i64 x1, .int .i64 y1], .agg #[.int .i64 nx, .int .i64 x1]] w fun e w' => e = .returned (.tuple #[.int .i64 own, .int .i64 0]) ∧ Below w.heap.size w w'))
    (_hD1 : IntKind.i64.wrap (D - 1) = D1) (hD2 : D - 1 = D1) (D0 : 0 ≤ D) (D3 : D ≤ 70368744177664)
    (_hsn : IntKind.i64.wrap (-sn) = s) (hsn' : -sn = s) (sn0 : -1 ≤ sn) (sn1 : sn ≤ 1)
    (o0 : 0 ≤ own) (o1 : own ≤ 1) (X0 : 0 ≤ X) (X1 : X ≤ 70368744177664) (Y0 : 0 ≤ Y) (Y1 : Y ≤ 70368744177664) (hZ : Z ≤ X + Y) (hDX : D ≤ X) (hXD : X ≤ D + 1)
    (hown : (own = 0 ∧ x1 = 0 ∧ y1 = 0) ∨ (own = 1 ∧ ¬ x1 = 0) ∨ (own = 1 ∧ x1 = 0 ∧ ¬ y1 = 0)) :
    Calls Tryz.prog 9 #[.agg #[.int .i64 x1, .int .i64 y1], .agg #[.int .i64 x2, .int .i64 y2]] w fun e w' => e = .returned (.bool true) ∧ Below w.heap.size w w' := by
  have HM := Lib.hid hM
  have BX : Hid (Below w.heap.size w ((w.alloc (.cells #[.int .i64 x1, .int .i64 y1] 45)).alloc (.cells #[.int .i64 x2, .int .i64 y2] 45))) := ((Below.refl _ _).alloc (Nat.le_refl _) _).alloc (by simp) _
  have HO := Lib.hid hown
  clear hM hown
  go_enter Tryz.func9, Tryz.ntmps9
  go_upto_region 3 with (first
    | (go_at_call 13; refine (alive_any _ (HM.out.up BX.out)).mono ?_; rintro e w1 ⟨rfl, hb1⟩; have a0 : w1.cell? ⟨w.heap.size, 0, none⟩ = some (.int .i64 x1) := (upc (by simp [go_sem]) hb1); have a1 : w1.cell? ⟨w.heap.size, 1, none⟩ = some (.int .i64 y1) := (upc (by simp [go_sem]) hb1); have a2 : w1.cell? ⟨w.heap.size + 1, 0, none⟩ = some (.int .i64 x2) := (upc (by simp [go_sem]) hb1); have a3 : w1.cell? ⟨w.heap.size + 1, 1, none⟩ = some (.int .i64 y2) := (upc (by simp [go_sem]) hb1))
    | (go_at_call 49; refine (HP.out _).mono ?_; rintro e w2 ⟨rfl, hb2⟩; have b0 := fun o => upa (upc a0 hb2) o; have b1 := fun o => upa (upc a1 hb2) o; have b2 := fun o => upa (upc a2 hb2) o; have b3 := fun o => upa (upc a3 hb2) o))
  have B2 : Hid (Below w.heap.size w (w2.alloc (.cells #[.int .i64 p1, .int .i64 p2] 45))) := by
    have b1 := BX.out.trans (hb1.mono BX.out.size)
    have b2 := b1.trans (hb2.mono b1.size)
    exact b2.alloc b2.size _
  go_upto_region 4 with (go_at_call 30; refine (L1.out _).mono ?_; rintro e w3 ⟨rfl, hb3⟩; have c0 := upc (b0 _) hb3; have c1 := upc (b1 _) hb3; have c2 := upc (b2 _) hb3; have c3 := upc (b3 _) hb3; have k0 : w3.cell? ⟨w2.heap.size, 0, none⟩ = some (.int .i64 p1) := (upc (by simp [go_sem]) hb3); have k1 : w3.cell? ⟨w2.heap.size, 1, none⟩ = some (.int .i64 p2) := (upc (by simp [go_sem]) hb3))
  have B3 : Hid (Below w.heap.size w w3) := B2.out.trans (hb3.mono (by have := B2.out.size; simpa using this))
  clear a0 a1 a2 a3 b0 b1 b2 b3 hb1 hb2 hb3 B2 BX HM
  go_upto_region 5 with (go_at_call 30; refine (L2.out _).mono ?_; rintro e w4 ⟨rfl, hb4⟩; have d0 := upc c0 hb4; have d1 := upc c1 hb4; have d2 := upc c2 hb4; have d3 := upc c3 hb4; have l0 := upc k0 hb4; have l1 := upc k1 hb4)
  have B4 : Hid (Below w.heap.size w w4) := B3.out.trans (hb4.mono B3.out.size)
  clear c0 c1 c2 c3 k0 k1 hb4 B3
  go_upto_region 6 with (go_at_call 30; refine (L3.out _).mono ?_; rintro e w5 ⟨rfl, hb5⟩; have a0 := upc d0 hb5; have a1 := upc d1 hb5; have a2 := upc d2 hb5; have a3 := upc d3 hb5)
  have B5 : Hid (Below w.heap.size w w5) := B4.out.trans (hb5.mono B4.out.size)
  clear d0 d1 d2 d3 l0 l1 hb5 B4
  go_upto_region 9 with (first
    | (go_at_call 29; refine (LF.out _).mono ?_; rintro e w6 ⟨rfl, hb6⟩; have b0 := upc a0 hb6; have b1 := upc a1 hb6; have b2 := upc a2 hb6; have b3 := upc a3 hb6)
    | (go_at_call 30; refine (L4.out _).mono ?_; rintro e w7 ⟨rfl, hb7⟩; have c0 := upc b0 hb7; have c1 := upc b1 hb7; have c2 := upc b2 hb7; have c3 := upc b3 hb7))
  have B6 : Hid (Below w.heap.size w w6) := B5.out.trans (hb6.mono B5.out.size)
  have B7 : Hid (Below w.heap.size w w7) := B6.out.trans (hb7.mono B6.out.size)
  clear a0 a1 a2 a3 b0 b1 b2 b3 hb6 hb7 B5 B6
  go_upto_region 10 with (go_at_call 30; refine (L5.out _).mono ?_; rintro e w8 ⟨rfl, hb8⟩; have d0 := upc c0 hb8; have d1 := upc c1 hb8; have d2 := upc c2 hb8; have d3 := upc c3 hb8)
  have B8 : Hid (Below w.heap.size w w8) := B7.out.trans (hb8.mono B7.out.size)
  clear c0 c1 c2 c3 hb8 B7
  go_upto_region 11 with (go_at_call 46; refine (W1.out _).mono ?_; rintro e w9 ⟨rfl, hb9⟩; have a0 := upc d0 hb9; have a1 := upc d1 hb9; have a2 := upc d2 hb9; have a3 := upc d3 hb9)
  have B9 : Hid (Below w.heap.size w w9) := B8.out.trans (hb9.mono B8.out.size)
  clear d0 d1 d2 d3 hb9 B8
  go_upto_region 12 with (go_at_call 46; refine (W2.out _).mono ?_; rintro e w10 ⟨rfl, hb10⟩; have b0 := upc a0 hb10; have b1 := upc a1 hb10; have b2 := upc a2 hb10; have b3 := upc a3 hb10)
  have B10 : Hid (Below w.heap.size w w10) := B9.out.trans (hb10.mono B9.out.size)
  clear a0 a1 a2 a3 hb10 B9
  have E0 : ∀ X : BW w10, X.to.cell? ⟨w.heap.size, 0, none⟩ = _ := fun X => upc b0 X.same
  have E1 : ∀ X : BW w10, X.to.cell? ⟨w.heap.size, 1, none⟩ = _ := fun X => upc b1 X.same
  refine wp_region_quietB (by kernel_rfl) (by kernel_rfl) ?_
  repeat (go_big_quiet_step ((first
    | (go_at_call 29; exact quietB (LF.out _))
    | (go_at_call 42; exact quietB (FA.out _)))))
  refine wpQuiet_nil ?_
  rintro w11 ⟨⟨_, hb11⟩, rfl⟩
  clear E0 E1
  have c0 := upc b0 hb11; have c1 := upc b1 hb11; have c2 := upc b2 hb11; have c3 := upc b3 hb11
  have B11 : Hid (Below w.heap.size w w11) := B10.out.trans (hb11.mono B10.out.size)
  clear b0 b1 b2 b3 hb11 B10
  go_upto_region 14 with (go_at_call 44; refine (T1.out _).mono ?_; rintro e w12 ⟨rfl, hb12⟩; have d0 := upc c0 hb12; have d1 := upc c1 hb12; have d2 := upc c2 hb12; have d3 := upc c3 hb12)
  have B12 : Hid (Below w.heap.size w w12) := B11.out.trans (hb12.mono B11.out.size)
  clear c0 c1 c2 c3 hb12 B11
  go_upto_region 15 with (go_at_call 44; refine (T2.out _).mono ?_; rintro e w13 ⟨rfl, hb13⟩; have a0 := upc d0 hb13; have a1 := upc d1 hb13)
  have B13 : Hid (Below w.heap.size w w13) := B12.out.trans (hb13.mono B12.out.size)
  clear d0 d1 d2 d3 hb13 B12
  have E0 : ∀ X : BW w13, X.to.cell? ⟨w.heap.size, 0, none⟩ = _ := fun X => upc a0 X.same
  have E1 : ∀ X : BW w13, X.to.cell? ⟨w.heap.size, 1, none⟩ = _ := fun X => upc a1 X.same
  refine wp_region_quietB (by kernel_rfl) (by kernel_rfl) ?_
  repeat (go_big_quiet_step ((first
    | (go_at_call 29; exact quietB (LF.out _))
    | (go_at_call 44; exact quietB (T3.out _)))))
  refine wpQuiet_nil ?_
  rintro w14 ⟨⟨_, hb14⟩, rfl⟩
  clear E0 E1
  have c0 := upc a0 hb14; have c1 := upc a1 hb14
  have B14 : Hid (Below w.heap.size w w14) := B13.out.trans (hb14.mono B13.out.size)
  clear a0 a1 hb14 B13 HP L1 L2 L3 LF L4 L5 W1 W2 FA T1 T2 T3
  obtain ⟨rfl, rfl, rfl⟩ | ⟨rfl, h1⟩ | ⟨rfl, rfl, h1⟩ := HO.out
  all_goals clear HO
  all_goals
    go_wp2_with fail
    go_ret
    exact ⟨rfl, B14.out⟩
end Go.Proofs.YthkhhjfldkebcaaGreatDoor
