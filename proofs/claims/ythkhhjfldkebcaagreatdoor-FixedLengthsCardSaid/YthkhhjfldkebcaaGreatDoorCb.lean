import Derived.Test.YthkhhjfldkebcaaGreatDoorCa
/- Contracts of the document's rooted, Spot, square, Length, Within, Farther. -/
namespace Go.Proofs.YthkhhjfldkebcaaGreatDoor
open Go.RowKit Go.Proofs Go.Shelf

theorem isq_nn (A : Nat) : ∃ R : Nat, isq (A : Int) = R ∧ R * R ≤ A := by
  have h := isq_spec (A := (A : Int)) (by omega)
  obtain ⟨R, hR⟩ := Int.eq_ofNat_of_zero_le h.nn
  refine ⟨R, hR, ?_⟩
  have := h.le
  rw [hR, ← Int.natCast_mul] at this
  omega
theorem root_small {R A : Nat} (h : R * R ≤ A) (hA : A < 332306998946228968225951765070086144) : R < 576460752303423488 := by
  rcases Nat.lt_or_ge R 576460752303423488 with h' | h'
  · exact h'
  · have := Nat.mul_le_mul h' h'; omega

set_option maxHeartbeats 4000000 in
theorem rooted_N (v : Value) (A : Nat) (how : Int) (w : World) (ha : BigN w v A) (hA : A < 332306998946228968225951765070086144) (hh : HowOk how) :
    Calls Tryz.prog 91 #[v, .int .i64 how] w fun e w' => e = .returned (.tuple #[.int .i64 (isq A + b2i (rbump (119 + how.toNat) A (isq A))), .bool true]) ∧ Below w.heap.size w w' := by
  have HA := Lib.hid ha
  obtain ⟨X, n, cap, rfl⟩ := ha.form
  have LA : Hid (Lim A) := lim_of (k := 118) (by omega) (by decide)
  obtain ⟨R, hR, hRA⟩ := isq_nn A
  have hR1 := root_small hRA hA
  have H1 : Hid (∀ v w, BigN w v A → Calls Tryz.prog 134 #[v] w fun e w' => e = .returned (.tuple #[.int .i64 (R : Int), .bool (decide ((R : Int) * (R : Int) = (A : Int)))]) ∧ Below w.heap.size w w') := fun v w h => by have := root_N v A w h hA; rw [hR] at this; exact this
  rw [hR]
  obtain ⟨b, hb⟩ : ∃ b, decide ((R : Int) * (R : Int) = (A : Int)) = b := ⟨_, rfl⟩
  rw [hb] at H1
  have OF : Hid (∀ w, Calls Tryz.prog 72 #[.int .i64 (2 * (R : Int) + 1)] w (BigOut w (2 * R + 1))) := fun w => by
    have := of_nat (2 * R + 1) w (by omega)
    rwa [show ((2 * R + 1 : Nat) : Int) = 2 * (R : Int) + 1 by omega] at this
  have LO : Hid (Lim (2 * R + 1)) := lim_of (k := 70) (by omega) (by decide)
  have LOO : Hid (Lim ((2 * R + 1) * (2 * R + 1))) := sq_lim (by omega)
  have L4 : Hid (Lim (A * 2 ^ 2)) := lim_of (k := 121) (by omega) (by decide)
  obtain ⟨c, hc⟩ : ∃ c, cmpI ((A * 2 ^ 2 : Nat) : Int) (((2 * R + 1) * (2 * R + 1) : Nat) : Int) = c := ⟨_, rfl⟩
  have hc' : c = -1 ∨ 0 ≤ c := by rw [← hc]; unfold cmpI; split <;> (try split) <;> omega
  obtain ⟨res, hres⟩ : ∃ res, (R : Int) + b2i (rbump (119 + how.toNat) (A : Int) (R : Int)) = res := ⟨_, rfl⟩
  have HRES := Lib.hid hres
  have HC := Lib.hid hc
  have HBB := Lib.hid hb
  have hexc : Hid (b = true → c = -1) := fun h => by
    have h1 : (R : Int) * (R : Int) = (A : Int) := by rw [h] at hb; exact of_decide_eq_true hb
    rw [← Int.natCast_mul] at h1
    have h2 : R * R = A := by omega
    rw [← hc]
    unfold cmpI
    have e : (2 * R + 1) * (2 * R + 1) = 4 * (R * R) + 4 * R + 1 := by grind
    rw [if_pos (by rw [e, h2]; omega)]
  rw [hres]
  clear hres hc hb hA hRA hR
  have hh4 : how = 0 ∨ how = 1 ∨ how = 2 ∨ how = 3 := by unfold HowOk at hh; omega
  clear hh
  have e4 : Hid (((A * 2 ^ 2 : Nat) : Int) = 4 * (A : Int) ∧ (((2 * R + 1) * (2 * R + 1) : Nat) : Int) = (2 * (R : Int) + 1) * (2 * (R : Int) + 1)) := ⟨by omega, by rw [Int.natCast_mul]; rfl⟩
  rcases hh4 with rfl | rfl | rfl | rfl <;> cases b <;> rcases hc' with rfl | hc0
  all_goals
    go_enter Tryz.func91, Tryz.ntmps91
    go_wp2_with (first
      | (go_at_call 134; refine (H1.out _ _ HA.out).mono ?_; rintro e w1 ⟨rfl, hb1⟩)
      | (go_at_call 72; refine (OF.out _).mono ?_; rintro e w2 ⟨v2, rfl, k2, hb2⟩; have G2 := Lib.hid k2; obtain ⟨X2, n2, cap2, rfl⟩ := k2.form; clear k2)
      | (go_at_call 111; refine (up_N _ A 2 _ ((HA.out.up hb1).up hb2) LA.out (.inl rfl)).mono ?_; rintro e w3 ⟨v3, rfl, k3, hb3⟩; have G3 := Lib.hid k3; obtain ⟨X3, n3, cap3, rfl⟩ := k3.form; clear k3)
      | (go_at_call 102; refine (times_N _ _ _ _ _ (G2.out.up hb3) (G2.out.up hb3) LO.out LO.out).mono ?_; rintro e w4 ⟨v4, rfl, k4, hb4⟩; have G4 := Lib.hid k4; obtain ⟨X4, n4, cap4, rfl⟩ := k4.form; clear k4)
      | (go_at_call 96; refine (order_N _ _ _ _ _ (G3.out.up hb4) G4.out L4.out LOO.out).mono ?_; rintro e w5 ⟨rfl, hb5⟩; rw [HC.out]))
    go_ret2
    refine ⟨ret2_b ?_ rfl, ?_⟩
    · rw [← HRES.out]
      have h1 := HBB.out
      have h2 := HC.out
      rw [e4.out.1, e4.out.2] at h2
      unfold rbump rndB
      rw [h2]
      first
        | (have h3 := of_decide_eq_true h1; simp [h3, b2i]; done)
        | (have h3 := of_decide_eq_false h1; simp [h3, b2i]; done)
        | (have h3 := of_decide_eq_true h1; have h4 := hexc.out (by first | trivial | rfl); simp [h3, b2i, h4]; done)
        | (have h3 := of_decide_eq_true h1; have h4 := hexc.out (by first | trivial | rfl); omega)
        | (have h3 := of_decide_eq_false h1; simp [h3, b2i, hc0]; done)
    · first
        | exact hb1
        | exact (((hb1.trans (hb2.mono hb1.size)).trans (hb3.mono (Nat.le_trans hb1.size hb2.size))).trans (hb4.mono (Nat.le_trans hb1.size (Nat.le_trans hb2.size hb3.size)))).trans (hb5.mono (Nat.le_trans hb1.size (Nat.le_trans hb2.size (Nat.le_trans hb3.size hb4.size))))
end Go.Proofs.YthkhhjfldkebcaaGreatDoor

/- Contracts of the document's Spot, square, Length, Within, Farther. -/
namespace Go.Proofs.YthkhhjfldkebcaaGreatDoor
open Go.RowKit Go.Proofs Go.Shelf

theorem refSpot (x y : Int) (w : World) : Calls Tryz.prog 90 #[.agg #[.int .i64 x, .int .i64 y]] w fun e w' => e = .returned (.bool (decide (Val x ∧ Val y))) ∧ Below w.heap.size w w' := by
  have H1 := Lib.hid (fun w => refValid x w)
  have H2 := Lib.hid (fun w => refValid y w)
  obtain ⟨r, hr⟩ : ∃ r, decide (Val x ∧ Val y) = r := ⟨_, rfl⟩
  have HR := Lib.hid hr
  rw [hr]
  by_cases hx : Val x
  · rw [decide_eq_true hx] at H1
    obtain ⟨b, hb⟩ : ∃ b, decide (Val y) = b := ⟨_, rfl⟩
    rw [hb] at H2
    have e : r = b := by rw [← hr, ← hb]; simp [hx]
    subst e
    clear hr hb HR hx
    go_enter Tryz.func90, Tryz.ntmps90
    go_wp2_with (go_at_call 69; first | ((with_reducible refine (H1.out _).mono ?_); rintro e w' ⟨rfl, rfl⟩) | ((with_reducible refine (H2.out _).mono ?_); rintro e w' ⟨rfl, rfl⟩))
    go_ret
    exact ⟨rfl, (Below.refl _ _).alloc (Nat.le_refl _) _⟩
  · rw [decide_eq_false hx] at H1
    have e : r = false := by rw [← hr]; simp [hx]
    subst e
    clear hr HR hx
    go_enter Tryz.func90, Tryz.ntmps90
    go_wp2_with (go_at_call 69; ((with_reducible refine (H1.out _).mono ?_); rintro e w' ⟨rfl, rfl⟩))
    go_ret
    exact ⟨rfl, (Below.refl _ _).alloc (Nat.le_refl _) _⟩

theorem sq_nat (x y : Int) : (sz x).toNat * (sz x).toNat + (sz y).toNat * (sz y).toNat = (sq x y).toNat := by
  have hx := sz_nn x; have hy := sz_nn y
  obtain ⟨X, hX⟩ := Int.eq_ofNat_of_zero_le hx
  obtain ⟨Y, hY⟩ := Int.eq_ofNat_of_zero_le hy
  unfold sq
  rw [hX, hY, Int.toNat_natCast, Int.toNat_natCast, ← Int.natCast_mul, ← Int.natCast_mul, ← Int.natCast_add, Int.toNat_natCast]
theorem sz_lim {x : Int} (h : Val x) : (sz x).toNat ≤ 70368744177664 := by have := sz_le h.1 h.2; omega

set_option maxHeartbeats 1000000 in
/-- The square of a length. -/
theorem refSquare (x y : Int) (w : World) (hx : Val x) (hy : Val y) : Calls Tryz.prog 92 #[.agg #[.int .i64 x, .int .i64 y]] w (BigOut w (sq x y).toNat) := by
  obtain ⟨X, hX⟩ : ∃ X, (sz x).toNat = X := ⟨_, rfl⟩
  obtain ⟨Y, hY⟩ : ∃ Y, (sz y).toNat = Y := ⟨_, rfl⟩
  have lx := sz_lim hx; have ly := sz_lim hy
  have e := sq_nat x y
  rw [hX, hY] at e
  rw [hX] at lx
  rw [hY] at ly
  rw [← e]
  obtain ⟨sx, hsx⟩ : ∃ s, sz x = s := ⟨_, rfl⟩
  obtain ⟨sy, hsy⟩ : ∃ s, sz y = s := ⟨_, rfl⟩
  have S1 : Hid (∀ w, Calls Tryz.prog 73 #[.int .i64 x] w fun e w' => e = .returned (.int .i64 sx) ∧ w = w') := fun w => by rw [← hsx]; exact refSize x w hx
  have S2 : Hid (∀ w, Calls Tryz.prog 73 #[.int .i64 y] w fun e w' => e = .returned (.int .i64 sy) ∧ w = w') := fun w => by rw [← hsy]; exact refSize y w hy
  have O1 : Hid (∀ w, Calls Tryz.prog 72 #[.int .i64 sx] w (BigOut w X)) := fun w => by rw [← hX, ← hsx]; exact of_any (sz x) w (sz_nn x) (by have := sz_le hx.1 hx.2; omega)
  have O2 : Hid (∀ w, Calls Tryz.prog 72 #[.int .i64 sy] w (BigOut w Y)) := fun w => by rw [← hY, ← hsy]; exact of_any (sz y) w (sz_nn y) (by have := sz_le hy.1 hy.2; omega)
  have LX : Hid (Lim X) := lim_of (k := 50) (by omega) (by decide)
  have LY : Hid (Lim Y) := lim_of (k := 50) (by omega) (by decide)
  have LXX : Hid (Lim (X * X)) := sq_lim (by omega)
  have LYY : Hid (Lim (Y * Y)) := sq_lim (by omega)
  have U1 : ∀ w1 : World, Below (w.alloc (.cells #[.int .i64 x, .int .i64 y] 45)).heap.size (w.alloc (.cells #[.int .i64 x, .int .i64 y] 45)) w1 → w1.cell? ⟨w.heap.size, 1, none⟩ = some (.int .i64 y) := fun w1 hb => upc (by simp [go_sem]) hb
  have HU := Lib.hid U1
  clear hX hY e hsx hsy hx hy U1
  go_enter Tryz.func92, Tryz.ntmps92
  go_upto_region 2 with (first
    | (go_at_call 73; ((with_reducible refine (S1.out _).mono ?_); rintro e w' ⟨rfl, rfl⟩))
    | (go_at_call 72; ((with_reducible refine (O1.out _).mono ?_); rintro e w1 ⟨v1, rfl, k1, hb1⟩; have G1 := Lib.hid k1; obtain ⟨X1, n1, cap1, rfl⟩ := k1.form; clear k1; have cy := HU.out _ hb1)))
  go_wp2_with (first
    | (go_at_call 73; ((with_reducible refine (S2.out _).mono ?_); rintro e w' ⟨rfl, rfl⟩))
    | (go_at_call 72; ((with_reducible refine (O2.out _).mono ?_); rintro e w2 ⟨v2, rfl, k2, hb2⟩; have G2 := Lib.hid k2; obtain ⟨X2, n2, cap2, rfl⟩ := k2.form; clear k2))
    | (go_at_call 102; ((with_reducible refine (times_N _ _ _ _ _ (G1.out.up hb2) (G1.out.up hb2) LX.out LX.out).mono ?_); rintro e w3 ⟨v3, rfl, k3, hb3⟩; have G3 := Lib.hid k3; obtain ⟨X3, n3, cap3, rfl⟩ := k3.form; clear k3))
    | (go_at_call 102; ((with_reducible refine (times_N _ _ _ _ _ (G2.out.up hb3) (G2.out.up hb3) LY.out LY.out).mono ?_); rintro e w4 ⟨v4, rfl, k4, hb4⟩; have G4 := Lib.hid k4; obtain ⟨X4, n4, cap4, rfl⟩ := k4.form; clear k4))
    | (go_at_call 110; refine (plus_N _ _ _ _ _ (G3.out.up hb4) G4.out LXX.out LYY.out).mono ?_; rintro e w5 ⟨v5, rfl, k5, hb5⟩))
  go_ret
  have b1 : Below w.heap.size w w1 := ((Below.refl _ _).alloc (Nat.le_refl _) _).trans (hb1.mono (by simp))
  have b2 := b1.trans (hb2.mono b1.size)
  have b3 := b2.trans (hb3.mono b2.size)
  have b4 := b3.trans (hb4.mono b3.size)
  exact ⟨_, rfl, k5, b4.trans (hb5.mono b4.size)⟩

theorem refFit_roo (q : Int) (h : 0 ≤ q) : refFitR q true = fitR q false := by
  unfold refFitR fitR sgn Val
  by_cases hq : q ≤ 70368744177664
  · rw [if_pos ⟨rfl, by omega, hq⟩, if_pos hq]; simp
  · rw [if_neg (fun h => hq h.2.2), if_neg hq]
theorem sq_big {x y : Int} (hx : Val x) (hy : Val y) : (sq x y).toNat < 332306998946228968225951765070086144 := by
  have := sq_le ⟨hx, hy⟩; omega

set_option maxHeartbeats 1000000 in
theorem refLength (x y how : Int) (w : World) :
    Calls Tryz.prog 40 #[.agg #[.int .i64 x, .int .i64 y], .int .i64 how] w fun e w' => e = .returned (.tuple #[.int .i64 (valE 0 (lenR x y how)), .int .i64 (errE (lenR x y how))]) ∧ Below w.heap.size w w' := by
  have H1 := Lib.hid (fun w => refSpot x y w)
  have H2 := Lib.hid (fun w => refHow how w)
  have BX : Hid (Below w.heap.size w (w.alloc (.cells #[.int .i64 x, .int .i64 y] 45))) := (Below.refl _ _).alloc (Nat.le_refl _) _
  by_cases hv : Val x ∧ Val y
  · rw [decide_eq_true hv] at H1
    by_cases hh : HowOk how
    · rw [decide_eq_true hh] at H2
      have H3 : Hid (∀ w, Calls Tryz.prog 92 #[.agg #[.int .i64 x, .int .i64 y]] w (BigOut w (sq x y).toNat)) := fun w => refSquare x y w hv.1 hv.2
      have hN : (((sq x y).toNat : Nat) : Int) = sq x y := by have := sq_nn x y; omega
      obtain ⟨q, hq⟩ : ∃ q, isq (sq x y) + b2i (rbump (119 + how.toNat) (sq x y) (isq (sq x y))) = q := ⟨_, rfl⟩
      have H4 : Hid (∀ v w, BigN w v (sq x y).toNat → Calls Tryz.prog 91 #[v, .int .i64 how] w fun e w' => e = .returned (.tuple #[.int .i64 q, .bool true]) ∧ Below w.heap.size w w') := fun v w h => by
        have := rooted_N v _ how w h (sq_big hv.1 hv.2) hh
        rw [hN, hq] at this
        exact this
      have hq0 : 0 ≤ q := by rw [← hq]; have := (isq_spec (sq_nn x y)).nn; have := b2i_le (rbump (119 + how.toNat) (sq x y) (isq (sq x y))); omega
      have e : lenR x y how = refFitR q true := by rw [refFit_roo _ hq0, ← hq]; unfold lenR rooR; rw [if_pos hv, if_pos hh]
      rw [e]
      have H5 := Lib.hid (fun w => refFit q true w)
      obtain ⟨r1, hr1⟩ : ∃ r, valE 0 (refFitR q true) = r := ⟨_, rfl⟩
      obtain ⟨r2, hr2⟩ : ∃ r, errE (refFitR q true) = r := ⟨_, rfl⟩
      rw [hr1, hr2] at H5 ⊢
      clear hr1 hr2 e hq hN hv hh hq0
      go_enter Tryz.func40, Tryz.ntmps40
      go_wp2_with (first
        | (go_at_call 90; refine (H1.out _).mono ?_; rintro e w1 ⟨rfl, hb1⟩; have c0 : w1.cell? ⟨w.heap.size, 0, none⟩ = some (.int .i64 x) := (upc (by simp [go_sem]) hb1); have c1 : w1.cell? ⟨w.heap.size, 1, none⟩ = some (.int .i64 y) := (upc (by simp [go_sem]) hb1))
        | (go_at_call 70; refine (H2.out _).mono ?_; rintro e w' ⟨rfl, rfl⟩)
        | (go_at_call 92; refine (H3.out _).mono ?_; rintro e w2 ⟨v2, rfl, k2, hb2⟩; have G2 := Lib.hid k2; obtain ⟨X2, n2, cap2, rfl⟩ := k2.form; clear k2)
        | (go_at_call 91; refine (H4.out _ _ G2.out).mono ?_; rintro e w3 ⟨rfl, hb3⟩)
        | (go_at_call 76; refine (H5.out _).mono ?_; rintro e w' ⟨rfl, rfl⟩))
      go_ret2
      have b1 := BX.out.trans (hb1.mono BX.out.size)
      have b2 := b1.trans (hb2.mono b1.size)
      exact ⟨rfl, b2.trans (hb3.mono b2.size)⟩
    · rw [decide_eq_false hh] at H2
      rw [show lenR x y how = .error 2 by unfold lenR; rw [if_pos hv, if_neg hh]]
      clear hv hh
      go_enter Tryz.func40, Tryz.ntmps40
      go_wp2_with (first
        | (go_at_call 90; refine (H1.out _).mono ?_; rintro e w1 ⟨rfl, hb1⟩)
        | (go_at_call 70; refine (H2.out _).mono ?_; rintro e w' ⟨rfl, rfl⟩))
      go_ret2
      exact ⟨rfl, BX.out.trans (hb1.mono BX.out.size)⟩
  · rw [decide_eq_false hv] at H1
    obtain ⟨b, hb⟩ : ∃ b, decide (HowOk how) = b := ⟨_, rfl⟩
    rw [hb] at H2
    rw [show lenR x y how = .error 2 by unfold lenR; rw [if_neg hv]]
    clear hv hb
    go_enter Tryz.func40, Tryz.ntmps40
    go_wp2_with (first
      | (go_at_call 90; refine (H1.out _).mono ?_; rintro e w1 ⟨rfl, hb1⟩)
      | (go_at_call 70; refine (H2.out _).mono ?_; rintro e w' ⟨rfl, rfl⟩))
    go_ret2
    exact ⟨rfl, BX.out.trans (hb1.mono BX.out.size)⟩

set_option maxHeartbeats 1000000 in
theorem refWithin (x y r : Int) (w : World) :
    Calls Tryz.prog 47 #[.agg #[.int .i64 x, .int .i64 y], .int .i64 r] w fun e w' => e = .returned (.tuple #[.bool (valE false (inR x y r)), .int .i64 (errE (inR x y r))]) ∧ Below w.heap.size w w' := by
  have H1 := Lib.hid (fun w => refSpot x y w)
  have H2 := Lib.hid (fun w => refValid r w)
  have BX : Hid (Below w.heap.size w (w.alloc (.cells #[.int .i64 x, .int .i64 y] 45))) := (Below.refl _ _).alloc (Nat.le_refl _) _
  by_cases hv : Val x ∧ Val y
  · rw [decide_eq_true hv] at H1
    by_cases hh : Val r
    · rw [decide_eq_true hh] at H2
      have H3 : Hid (∀ w, Calls Tryz.prog 92 #[.agg #[.int .i64 x, .int .i64 y]] w (BigOut w (sq x y).toNat)) := fun w => refSquare x y w hv.1 hv.2
      obtain ⟨s, hs⟩ : ∃ s, sz r = s := ⟨_, rfl⟩
      have H4 : Hid (∀ w, Calls Tryz.prog 73 #[.int .i64 r] w fun e w' => e = .returned (.int .i64 s) ∧ w = w') := fun w => by rw [← hs]; exact refSize r w hh
      have s0 : 0 ≤ s := by rw [← hs]; exact sz_nn r
      have s1 : s ≤ 70368744177664 := by rw [← hs]; exact sz_le hh.1 hh.2
      obtain ⟨S, hS⟩ := Int.eq_ofNat_of_zero_le s0
      have H5 : Hid (∀ w, Calls Tryz.prog 72 #[.int .i64 s] w (BigOut w S)) := fun w => by rw [hS]; exact of_nat S w (by omega)
      have LS : Hid (Lim S) := lim_of (k := 50) (by omega) (by decide)
      have LSS : Hid (Lim (S * S)) := sq_lim (by omega)
      have LQ : Hid (Lim (sq x y).toNat) := lim_of (k := 118) (by have := sq_big hv.1 hv.2; omega) (by decide)
      obtain ⟨c, hc⟩ : ∃ c, cmpI (((sq x y).toNat : Nat) : Int) ((S * S : Nat) : Int) = c := ⟨_, rfl⟩
      have e : Hid (inR x y r = .ok (decide (0 ≤ r) && decide (c ≤ 0))) := by
        show _ = _
        unfold inR inB
        rw [if_pos hv, if_pos hh, ← hc, Int.natCast_mul, ← hS, ← hs, show (((sq x y).toNat : Nat) : Int) = sq x y by have := sq_nn x y; omega]
      rw [e.out]
      have HC := Lib.hid hc
      obtain ⟨v1, v2⟩ := hh
      clear hv e hc hS hs
      by_cases h0 : 0 ≤ r
      · have hd : decide (0 ≤ r) = true := by simpa using h0
        rw [hd]
        go_enter Tryz.func47, Tryz.ntmps47
        go_wp2_with (first
          | (go_at_call 90; refine (H1.out _).mono ?_; rintro e w1 ⟨rfl, hb1⟩; have c0 : w1.cell? ⟨w.heap.size, 0, none⟩ = some (.int .i64 x) := (upc (by simp [go_sem]) hb1); have c1 : w1.cell? ⟨w.heap.size, 1, none⟩ = some (.int .i64 y) := (upc (by simp [go_sem]) hb1))
          | (go_at_call 69; refine (H2.out _).mono ?_; rintro e w' ⟨rfl, rfl⟩)
          | (go_at_call 73; refine (H4.out _).mono ?_; rintro e w' ⟨rfl, rfl⟩)
          | (go_at_call 72; refine (H5.out _).mono ?_; rintro e w2 ⟨v2, rfl, k2, hb2⟩; have G2 := Lib.hid k2; obtain ⟨X2, n2, cap2, rfl⟩ := k2.form; clear k2; have d0 := upc c0 hb2; have d1 := upc c1 hb2)
          | (go_at_call 92; refine (H3.out _).mono ?_; rintro e w3 ⟨v3, rfl, k3, hb3⟩; have G3 := Lib.hid k3; obtain ⟨X3, n3, cap3, rfl⟩ := k3.form; clear k3)
          | (go_at_call 102; refine (times_N _ _ _ _ _ (G2.out.up hb3) (G2.out.up hb3) LS.out LS.out).mono ?_; rintro e w4 ⟨v4, rfl, k4, hb4⟩; have G4 := Lib.hid k4; obtain ⟨X4, n4, cap4, rfl⟩ := k4.form; clear k4)
          | (go_at_call 96; refine (order_N _ _ _ _ _ (G3.out.up hb4) G4.out LQ.out LSS.out).mono ?_; rintro e w5 ⟨rfl, hb5⟩; rw [HC.out]))
        go_ret2
        have b1 := BX.out.trans (hb1.mono BX.out.size)
        have b2 := b1.trans (hb2.mono b1.size)
        have b3 := b2.trans (hb3.mono b2.size)
        have b4 := b3.trans (hb4.mono b3.size)
        exact ⟨rfl, b4.trans (hb5.mono b4.size)⟩
      · have hd : decide (0 ≤ r) = false := by simpa using h0
        rw [hd]
        go_enter Tryz.func47, Tryz.ntmps47
        go_wp2_with (first
          | (go_at_call 90; refine (H1.out _).mono ?_; rintro e w1 ⟨rfl, hb1⟩)
          | (go_at_call 69; refine (H2.out _).mono ?_; rintro e w' ⟨rfl, rfl⟩)
          | (go_at_call 73; refine (H4.out _).mono ?_; rintro e w' ⟨rfl, rfl⟩)
          | (go_at_call 72; refine (H5.out _).mono ?_; rintro e w2 ⟨v2, rfl, k2, hb2⟩; have G2 := Lib.hid k2; obtain ⟨X2, n2, cap2, rfl⟩ := k2.form; clear k2))
        go_ret2
        have b1 := BX.out.trans (hb1.mono BX.out.size)
        exact ⟨rfl, b1.trans (hb2.mono b1.size)⟩
    · rw [decide_eq_false hh] at H2
      rw [show inR x y r = .error 2 by unfold inR; rw [if_pos hv, if_neg hh]]
      clear hv hh
      go_enter Tryz.func47, Tryz.ntmps47
      go_wp2_with (first
        | (go_at_call 90; refine (H1.out _).mono ?_; rintro e w1 ⟨rfl, hb1⟩)
        | (go_at_call 69; refine (H2.out _).mono ?_; rintro e w' ⟨rfl, rfl⟩))
      go_ret2
      exact ⟨rfl, BX.out.trans (hb1.mono BX.out.size)⟩
  · rw [decide_eq_false hv] at H1
    obtain ⟨b, hb⟩ : ∃ b, decide (Val r) = b := ⟨_, rfl⟩
    rw [hb] at H2
    rw [show inR x y r = .error 2 by unfold inR; rw [if_neg hv]]
    clear hv hb
    go_enter Tryz.func47, Tryz.ntmps47
    go_wp2_with (first
      | (go_at_call 90; refine (H1.out _).mono ?_; rintro e w1 ⟨rfl, hb1⟩)
      | (go_at_call 69; refine (H2.out _).mono ?_; rintro e w' ⟨rfl, rfl⟩))
    go_ret2
    exact ⟨rfl, BX.out.trans (hb1.mono BX.out.size)⟩
end Go.Proofs.YthkhhjfldkebcaaGreatDoor

/- Contract of the document's Farther. -/
namespace Go.Proofs.YthkhhjfldkebcaaGreatDoor
open Go.RowKit Go.Proofs Go.Shelf

theorem upd {w w' : World} {b i : Nat} {v : Value} (h : w.cell? ⟨b, i, none⟩ = some v) (hb : Below w.heap.size w.drew w') : w'.cell? ⟨b, i, none⟩ = some v :=
  (hb.cell (p := ⟨b, i, none⟩) (lt_cell h)).trans h

set_option maxRecDepth 100000 in
set_option maxHeartbeats 2000000 in
theorem refFarther (x1 y1 x2 y2 : Int) (w : World) :
    Calls Tryz.prog 43 #[.agg #[.int .i64 x1, .int .i64 y1], .agg #[.int .i64 x2, .int .i64 y2]] w fun e w' => e = .returned (.tuple #[.int .i64 (valE 0 (farR x1 y1 x2 y2)), .int .i64 (errE (farR x1 y1 x2 y2))]) ∧ Below w.heap.size w w' := by
  have H1 := Lib.hid (fun w => refSpot x1 y1 w)
  have H2 := Lib.hid (fun w => refSpot x2 y2 w)
  have BX : Hid (Below w.heap.size w ((w.alloc (.cells #[.int .i64 x1, .int .i64 y1] 45)).alloc (.cells #[.int .i64 x2, .int .i64 y2] 45))) := ((Below.refl _ _).alloc (Nat.le_refl _) _).alloc (by simp) _
  by_cases hv : (Val x1 ∧ Val y1) ∧ Val x2 ∧ Val y2
  · rw [decide_eq_true hv.1] at H1
    rw [decide_eq_true hv.2] at H2
    obtain ⟨N1, hN1⟩ : ∃ N, (sq x1 y1).toNat = N := ⟨_, rfl⟩
    obtain ⟨N2, hN2⟩ : ∃ N, (sq x2 y2).toNat = N := ⟨_, rfl⟩
    have H3 : Hid (∀ w, Calls Tryz.prog 92 #[.agg #[.int .i64 x1, .int .i64 y1]] w (BigOut w N1)) := fun w => by rw [← hN1]; exact refSquare x1 y1 w hv.1.1 hv.1.2
    have H4 : Hid (∀ w, Calls Tryz.prog 92 #[.agg #[.int .i64 x2, .int .i64 y2]] w (BigOut w N2)) := fun w => by rw [← hN2]; exact refSquare x2 y2 w hv.2.1 hv.2.2
    have L1 : Hid (Lim N1) := by rw [← hN1]; exact lim_of (k := 118) (by have := sq_big hv.1.1 hv.1.2; omega) (by decide)
    have L2 : Hid (Lim N2) := by rw [← hN2]; exact lim_of (k := 118) (by have := sq_big hv.2.1 hv.2.2; omega) (by decide)
    have e : farR x1 y1 x2 y2 = .ok (cmpI (N1 : Int) (N2 : Int)) := by
      unfold farR
      rw [if_pos hv, ← hN1, ← hN2]
      have := sq_nn x1 y1; have := sq_nn x2 y2
      rw [show (((sq x1 y1).toNat : Nat) : Int) = sq x1 y1 by omega, show (((sq x2 y2).toNat : Nat) : Int) = sq x2 y2 by omega]
    rw [e]
    obtain ⟨c, hc⟩ : ∃ c, cmpI (N1 : Int) (N2 : Int) = c := ⟨_, rfl⟩
    have HC := Lib.hid hc
    rw [hc]
    clear hv hN1 hN2 e hc
    go_enter Tryz.func43, Tryz.ntmps43
    go_upto_region 5 with (first
      | (go_at_call 90; ((with_reducible refine (H1.out _).mono ?_); rintro e w1 ⟨rfl, hb1⟩; have c0 : w1.cell? ⟨w.heap.size, 0, none⟩ = some (.int .i64 x1) := (upc (by simp [go_sem]) hb1); have c1 : w1.cell? ⟨w.heap.size, 1, none⟩ = some (.int .i64 y1) := (upc (by simp [go_sem]) hb1); have c2 : w1.cell? ⟨w.heap.size + 1, 0, none⟩ = some (.int .i64 x2) := (upc (by simp [go_sem]) hb1); have c3 : w1.cell? ⟨w.heap.size + 1, 1, none⟩ = some (.int .i64 y2) := (upc (by simp [go_sem]) hb1)))
      | (go_at_call 90; ((with_reducible refine (H2.out _).mono ?_); rintro e w2 ⟨rfl, hb2⟩; have d0 := upc c0 hb2; have d1 := upc c1 hb2; have d2 := upc c2 hb2; have d3 := upc c3 hb2)))
    have B2 : Hid (Below w.heap.size w w2) := (BX.out.trans (hb1.mono BX.out.size)).trans (hb2.mono (Nat.le_trans BX.out.size hb1.size))
    clear c0 c1 c2 c3 hb1 hb2
    go_region_with (first
      | (go_at_call 92; ((with_reducible refine (H3.out _).mono ?_); rintro e w3 ⟨v3, rfl, k3, hb3⟩; have G3 := Lib.hid k3; obtain ⟨X3, n3, cap3, rfl⟩ := k3.form; clear k3; have e2 := (hb3.cell (p := ⟨w.heap.size + 1, 0, none⟩) (lt_cell d2)).trans d2; have e3 := (hb3.cell (p := ⟨w.heap.size + 1, 1, none⟩) (lt_cell d3)).trans d3))
      | (go_at_call 92; ((with_reducible refine (H4.out _).mono ?_); rintro e w4 ⟨v4, rfl, k4, hb4⟩; have G4 := Lib.hid k4; obtain ⟨X4, n4, cap4, rfl⟩ := k4.form; clear k4))
      | (go_at_call 96; refine (order_N _ _ _ _ _ (G3.out.up hb4) G4.out L1.out L2.out).mono ?_; rintro e w5 ⟨rfl, hb5⟩; rw [HC.out]))
    all_goals
      try go_wp2_with fail
      go_ret2
      have b3 := (below_drewN B2.out 1).trans (hb3.mono B2.out.size)
      have b4 := b3.trans (hb4.mono b3.size)
      exact ⟨rfl, b4.trans (hb5.mono b4.size)⟩
  · have e : Hid (farR x1 y1 x2 y2 = .error 2) := by show _ = _; unfold farR; rw [if_neg hv]
    rw [e.out]
    by_cases h1 : Val x1 ∧ Val y1
    · have h2 : ¬ (Val x2 ∧ Val y2) := fun h => hv ⟨h1, h⟩
      rw [decide_eq_true h1] at H1
      rw [decide_eq_false h2] at H2
      clear hv h1 h2
      go_enter Tryz.func43, Tryz.ntmps43
      go_wp2_with (first
        | (go_at_call 90; ((with_reducible refine (H1.out _).mono ?_); rintro e w1 ⟨rfl, hb1⟩; have c0 : w1.cell? ⟨w.heap.size, 0, none⟩ = some (.int .i64 x1) := (upc (by simp [go_sem]) hb1); have c1 : w1.cell? ⟨w.heap.size, 1, none⟩ = some (.int .i64 y1) := (upc (by simp [go_sem]) hb1); have c2 : w1.cell? ⟨w.heap.size + 1, 0, none⟩ = some (.int .i64 x2) := (upc (by simp [go_sem]) hb1); have c3 : w1.cell? ⟨w.heap.size + 1, 1, none⟩ = some (.int .i64 y2) := (upc (by simp [go_sem]) hb1)))
        | (go_at_call 90; ((with_reducible refine (H2.out _).mono ?_); rintro e w2 ⟨rfl, hb2⟩)))
      go_ret2
      exact ⟨rfl, (BX.out.trans (hb1.mono BX.out.size)).trans (hb2.mono (Nat.le_trans BX.out.size hb1.size))⟩
    · rw [decide_eq_false h1] at H1
      obtain ⟨b, hb⟩ : ∃ b, decide (Val x2 ∧ Val y2) = b := ⟨_, rfl⟩
      rw [hb] at H2
      clear hv h1 hb
      go_enter Tryz.func43, Tryz.ntmps43
      go_wp2_with (first
        | (go_at_call 90; ((with_reducible refine (H1.out _).mono ?_); rintro e w1 ⟨rfl, hb1⟩; have c2 : w1.cell? ⟨w.heap.size + 1, 0, none⟩ = some (.int .i64 x2) := (upc (by simp [go_sem]) hb1); have c3 : w1.cell? ⟨w.heap.size + 1, 1, none⟩ = some (.int .i64 y2) := (upc (by simp [go_sem]) hb1)))
        | (go_at_call 90; ((with_reducible refine (H2.out _).mono ?_); rintro e w2 ⟨rfl, hb2⟩)))
      go_ret2
      exact ⟨rfl, (BX.out.trans (hb1.mono BX.out.size)).trans (hb2.mono (Nat.le_trans BX.out.size hb1.size))⟩
end Go.Proofs.YthkhhjfldkebcaaGreatDoor

/- Contracts of the document's share, Unit. -/
namespace Go.Proofs.YthkhhjfldkebcaaGreatDoor
open Go.RowKit Go.Proofs Go.Shelf

/-- A round of the loop of share. -/
theorem share_step {r s j G S : Nat} (hs : s = 2 ^ j / 2) (hs0 : 0 < s) (h2 : G < (r + 2 ^ j) * (r + 2 ^ j) * S) (h3 : r + 2 ^ j ≤ 262144) :
    ∃ j', s / 2 = 2 ^ j' / 2 ∧ ((r + s) * (r + s) * S ≤ G → G < (r + s + 2 ^ j') * (r + s + 2 ^ j') * S ∧ r + s + 2 ^ j' ≤ 262144) ∧ (G < (r + s) * (r + s) * S → G < (r + 2 ^ j') * (r + 2 ^ j') * S ∧ r + 2 ^ j' ≤ 262144) ∧ r + s ≤ 262144 := by
  rcases j with _ | j
  · simp at hs; omega
  · have e : 2 ^ (j + 1) / 2 = 2 ^ j := by rw [Nat.pow_succ]; omega
    rw [e] at hs
    subst hs
    rw [Nat.pow_succ] at h2 h3
    refine ⟨j, rfl, fun h => ?_, fun h => ?_, by omega⟩
    · rw [show r + 2 ^ j + 2 ^ j = r + 2 ^ j * 2 by omega]; exact ⟨h2, by omega⟩
    · exact ⟨h, by omega⟩
theorem share_end {r S X : Nat} (hS : 0 < S) (hXS : X * X ≤ S) (h1 : r * r * S ≤ X * X * 2 ^ 32) (h2 : X * X * 2 ^ 32 < (r + 1) * (r + 1) * S) : shareN (S : Int) (X : Int) = (r : Int) := by
  have hr : r ≤ 65536 := by
    rcases Nat.lt_or_ge 65536 r with h | h
    · exfalso
      have a : 65537 * 65537 ≤ r * r := Nat.mul_le_mul h h
      have b : 65537 * 65537 * S ≤ r * r * S := Nat.mul_le_mul_right _ a
      have c : X * X * 2 ^ 32 ≤ S * 2 ^ 32 := Nat.mul_le_mul_right _ hXS
      omega
    · exact h
  refine IsShare.unique (shareN_spec _ _) ⟨by omega, by omega, ?_, fun k hk hk2 hs => ?_⟩
  · unfold Shr
    have e : ((r * r * S : Nat) : Int) = (r : Int) * (r : Int) * (S : Int) := by rw [Int.natCast_mul, Int.natCast_mul]
    have e2 : ((X * X : Nat) : Int) = (X : Int) * (X : Int) := Int.natCast_mul _ _
    rw [← e, ← e2]
    omega
  · unfold Shr at hs
    obtain ⟨K, rfl⟩ := Int.eq_ofNat_of_zero_le (show 0 ≤ k by omega)
    have hK : r + 1 ≤ K := by omega
    have a := Nat.mul_le_mul_right S (Nat.mul_le_mul hK hK)
    have e : ((K * K * S : Nat) : Int) = (K : Int) * (K : Int) * (S : Int) := by rw [Int.natCast_mul, Int.natCast_mul]
    have e2 : ((X * X : Nat) : Int) = (X : Int) * (X : Int) := Int.natCast_mul _ _
    rw [← e, ← e2] at hs
    omega
theorem mul3_lim {a S : Nat} (ha : a ≤ 262144) (hS : S < 332306998946228968225951765070086144) : Lim (a * a * S) := by
  have h1 := Nat.mul_le_mul ha ha
  have h2 : a * a * S ≤ 262144 * 262144 * 332306998946228968225951765070086144 := Nat.mul_le_mul h1 (Nat.le_of_lt hS)
  exact lim_of (k := 160) (by omega) (by decide)

set_option maxHeartbeats 4000000 in
theorem share_N (a : Int) (v : Value) (S : Nat) (w : World) (hv : BigN w v S) (ha : Val a) (hS : 0 < S) (hSl : S < 332306998946228968225951765070086144) (hXS : (sz a).toNat * (sz a).toNat ≤ S) :
    Calls Tryz.prog 93 #[.int .i64 a, v] w fun e w' => e = .returned (.int .i64 (unitC S a)) ∧ Below w.heap.size w w' := by
  have HV := Lib.hid hv
  obtain ⟨X0, n0, cap0, rfl⟩ := hv.form
  obtain ⟨X, hX⟩ := Int.eq_ofNat_of_zero_le (sz_nn a)
  have hX1 := sz_le ha.1 ha.2
  rw [hX] at hXS hX1
  rw [Int.toNat_natCast] at hXS
  have hX2 : X ≤ 70368744177664 := by omega
  have S1 : Hid (∀ w, Calls Tryz.prog 73 #[.int .i64 a] w fun e w' => e = .returned (.int .i64 (X : Int)) ∧ w = w') := fun w => by rw [← hX]; exact refSize a w ha
  have O1 : Hid (∀ w, Calls Tryz.prog 72 #[.int .i64 (X : Int)] w (BigOut w X)) := fun w => of_nat X w (by omega)
  have LX : Hid (Lim X) := lim_of (k := 50) (by omega) (by decide)
  have LXX : Hid (Lim (X * X)) := sq_lim (by omega)
  have LG : Hid (Lim (X * X * 2 ^ 32)) := by
    have h2 := Nat.mul_le_mul hX2 hX2
    exact lim_of (k := 130) (by omega) (by decide)
  have LS : Hid (Lim S) := lim_of (k := 118) (by omega) (by decide)
  have HS := Lib.hid hS
  have HSL := Lib.hid hSl
  have HXS := Lib.hid hXS
  have hst : Hid (X * X * 2 ^ 32 < (0 + 2 ^ 17) * (0 + 2 ^ 17) * S) := by
    show _ < _
    have c : X * X * 2 ^ 32 ≤ S * 2 ^ 32 := Nat.mul_le_mul_right _ hXS
    omega
  obtain ⟨G, hG⟩ : ∃ G, X * X * 2 ^ 32 = G := ⟨_, rfl⟩
  have HG := Lib.hid hG
  have RES : Hid (∀ r : Nat, r * r * S ≤ G → G < (r + 1) * (r + 1) * S → unitC S a = sgn (r : Int) (decide (a < 0))) := fun r h1 h2 => by
    unfold unitC
    rw [hX, share_end HS.out HXS.out (by rw [hG]; exact h1) (by rw [hG]; exact h2)]
  have UP : Hid (∀ v w, BigN w v (X * X) → Calls Tryz.prog 111 #[v, .int .i64 32] w (BigOut w G)) := fun v w h => by
    have := up_N v (X * X) 32 w h LXX.out (.inr (.inr rfl)); rw [hG] at this; exact this
  rw [hG] at LG hst
  obtain ⟨res, hres⟩ : ∃ res, unitC S a = res := ⟨_, rfl⟩
  rw [hres] at RES ⊢
  clear hX hX1 hXS hG hres hS hSl hv ha
  go_enter Tryz.func93, Tryz.ntmps93
  go_wp2_with (first
    | (go_at_call 73; refine (S1.out _).mono ?_; rintro e w' ⟨rfl, rfl⟩)
    | (go_at_call 72; refine (O1.out _).mono ?_; rintro e w1 ⟨v1, rfl, k1, hb1⟩; have G1 := Lib.hid k1; obtain ⟨X1, n1, cap1, rfl⟩ := k1.form; clear k1)
    | (go_at_call 102; refine (times_N _ _ _ _ _ G1.out G1.out LX.out LX.out).mono ?_; rintro e w2 ⟨v2, rfl, k2, hb2⟩; have G2 := Lib.hid k2; obtain ⟨X2, n2, cap2, rfl⟩ := k2.form; clear k2)
    | (go_at_call 111; refine (UP.out _ _ G2.out).mono ?_; rintro e w3 ⟨v3, rfl, k3, hb3⟩; have G3 := Lib.hid k3; obtain ⟨X3, n3, cap3, rfl⟩ := k3.form; clear k3))
  have B3 : Hid (Below w.heap.size w w3) := (hb1.trans (hb2.mono hb1.size)).trans (hb3.mono (Nat.le_trans hb1.size hb2.size))
  clear hb1 hb2 hb3 S1 O1 UP
  go_loopw [7, 8] (fun nv sv wr => ∃ (r s j : Nat), nv = .int .i64 r ∧ sv = .int .i64 s ∧ Hid (s = 2 ^ j / 2) ∧ s ≤ 262144 ∧ r ≤ 262144 ∧ Hid (r * r * S ≤ G) ∧ Hid (G < (r + 2 ^ j) * (r + 2 ^ j) * S) ∧ Hid (r + 2 ^ j ≤ 262144) ∧ Below w3.heap.size w3 wr)
    (fun _ sv _ => (intOf sv).toNat)
  case atStart => exact ⟨0, 65536, 17, rfl, rfl, by show _ = _; decide, by omega, by omega, by show _ ≤ _; omega, hst.out, by show _ ≤ _; omega, Below.refl _ _⟩
  case round =>
    obtain ⟨r, s, j, rfl, rfl, hj, hs, hr, h1, h2, h3, hbl⟩ := hrel
    have HB := Lib.hid hbl
    by_cases hs0 : 0 < s
    · obtain ⟨j', e1, e2, e3, e4⟩ := share_step hj.out hs0 h2.out h3.out
      have hs0' : (0 : Int) < (s : Int) := by omega
      have E1 := Lib.hid e1; have E2 := Lib.hid e2; have E3 := Lib.hid e3
      have OF : Hid (∀ w, Calls Tryz.prog 72 #[.int .i64 ((r : Int) + (s : Int))] w (BigOut w (r + s))) := fun w => by
        have := of_nat (r + s) w (by omega)
        rwa [Int.natCast_add] at this
      have LN : Hid (Lim (r + s)) := lim_of (k := 70) (by omega) (by decide)
      have LNN : Hid (Lim ((r + s) * (r + s))) := sq_lim (by omega)
      have LNS : Hid (Lim ((r + s) * (r + s) * S)) := mul3_lim e4 HSL.out
      clear e1 e2 e3 hbl
      by_cases hle : (r + s) * (r + s) * S ≤ G
      · obtain ⟨d, hd⟩ : ∃ d, cmpI (((r + s) * (r + s) * S : Nat)) (G : Nat) = d := ⟨_, rfl⟩
        have hd0 : d ≤ 0 := by rw [← hd]; exact cmp_le hle
        have HD := Lib.hid hd
        have HLE := Lib.hid hle
        clear hd hle
        go_wp2_with (first
          | (go_at_call 72; refine (OF.out _).mono ?_; rintro e w4 ⟨v4, rfl, k4, hb4⟩; have G4 := Lib.hid k4; obtain ⟨X4, n4, cap4, rfl⟩ := k4.form; clear k4)
          | (go_at_call 102; ((with_reducible refine (times_N _ _ _ _ _ G4.out G4.out LN.out LN.out).mono ?_); rintro e w5 ⟨v5, rfl, k5, hb5⟩; have G5 := Lib.hid k5; obtain ⟨X5, n5, cap5, rfl⟩ := k5.form; clear k5))
          | (go_at_call 102; ((with_reducible refine (times_N _ _ _ _ _ G5.out (((HV.out.up (B3.out.trans (HB.out.mono B3.out.size))).up hb4).up hb5) LNN.out LS.out).mono ?_); rintro e w6 ⟨v6, rfl, k6, hb6⟩; have G6 := Lib.hid k6; obtain ⟨X6, n6, cap6, rfl⟩ := k6.form; clear k6))
          | (go_at_call 96; refine (order_N _ _ _ G _ G6.out ((((G3.out.up HB.out).up hb4).up hb5).up hb6) LNS.out LG.out).mono ?_; rintro e w7 ⟨rfl, hb7⟩; rw [HD.out]))
        have b4 := HB.out.trans (hb4.mono HB.out.size)
        have b5 := b4.trans (hb5.mono b4.size)
        have b6 := b5.trans (hb6.mono b5.size)
        have BB := Lib.hid (b6.trans (hb7.mono b6.size))
        clear b4 b5 b6
        go_roundw
        case rel => exact ⟨r + s, s / 2, j', by go_num, by go_num, E1.out, by omega, e4, HLE.out, (E2.out HLE.out).1, (E2.out HLE.out).2, BB.out⟩
        case measure => simp [intOf]; omega
      · have hd1 : Hid (cmpI (((r + s) * (r + s) * S : Nat)) (G : Nat) = 1) := cmp_gt (by omega)
        have HLT : Hid (G < (r + s) * (r + s) * S) := by show _ < _; omega
        clear hle
        go_wp2_with (first
          | (go_at_call 72; refine (OF.out _).mono ?_; rintro e w4 ⟨v4, rfl, k4, hb4⟩; have G4 := Lib.hid k4; obtain ⟨X4, n4, cap4, rfl⟩ := k4.form; clear k4)
          | (go_at_call 102; ((with_reducible refine (times_N _ _ _ _ _ G4.out G4.out LN.out LN.out).mono ?_); rintro e w5 ⟨v5, rfl, k5, hb5⟩; have G5 := Lib.hid k5; obtain ⟨X5, n5, cap5, rfl⟩ := k5.form; clear k5))
          | (go_at_call 102; ((with_reducible refine (times_N _ _ _ _ _ G5.out (((HV.out.up (B3.out.trans (HB.out.mono B3.out.size))).up hb4).up hb5) LNN.out LS.out).mono ?_); rintro e w6 ⟨v6, rfl, k6, hb6⟩; have G6 := Lib.hid k6; obtain ⟨X6, n6, cap6, rfl⟩ := k6.form; clear k6))
          | (go_at_call 96; refine (order_N _ _ _ G _ G6.out ((((G3.out.up HB.out).up hb4).up hb5).up hb6) LNS.out LG.out).mono ?_; rintro e w7 ⟨rfl, hb7⟩; rw [hd1.out]))
        have b4 := HB.out.trans (hb4.mono HB.out.size)
        have b5 := b4.trans (hb5.mono b4.size)
        have b6 := b5.trans (hb6.mono b5.size)
        have BB := Lib.hid (b6.trans (hb7.mono b6.size))
        clear b4 b5 b6
        go_roundw
        case rel => exact ⟨r, s / 2, j', by go_num, by go_num, E1.out, by omega, hr, h1, (E3.out HLT.out).1, (E3.out HLT.out).2, BB.out⟩
        case measure => simp [intOf]; omega
    · obtain rfl : s = 0 := by omega
      have hj0 := root_end hj.out rfl
      subst hj0
      have h2' : G < (r + 1) * (r + 1) * S := by have := h2.out; simpa using this
      have HE := Lib.hid (RES.out r h1.out h2')
      clear h2' hs0 hbl
      by_cases hn : a < 0
      · go_wp2_with fail
        go_ret
        exact ⟨ret_i (by rw [HE.out]; simp [sgn, hn]), B3.out.trans (HB.out.mono B3.out.size)⟩
      · have hn' : decide (a < 0) = false := by simpa using hn
        go_wp2_with fail
        go_ret
        exact ⟨ret_i (by rw [HE.out, hn']; simp [sgn]), B3.out.trans (HB.out.mono B3.out.size)⟩
end Go.Proofs.YthkhhjfldkebcaaGreatDoor

/- Contract of the document's Unit. -/
namespace Go.Proofs.YthkhhjfldkebcaaGreatDoor
open Go.RowKit Go.Proofs Go.Shelf

theorem sq_ge {x y : Int} : (sz x).toNat * (sz x).toNat ≤ (sq x y).toNat ∧ (sz y).toNat * (sz y).toNat ≤ (sq x y).toNat := by
  rw [← sq_nat]
  exact ⟨Nat.le_add_right _ _, Nat.le_add_left _ _⟩

set_option maxRecDepth 100000 in
set_option maxHeartbeats 2000000 in
theorem refUnit (x y : Int) (w : World) :
    Calls Tryz.prog 41 #[.agg #[.int .i64 x, .int .i64 y]] w fun e w' => e = .returned (.tuple #[Sp (valE (0, 0) (unitR x y)), .int .i64 (errE (unitR x y))]) ∧ Below w.heap.size w w' := by
  have H1 := Lib.hid (fun w => refSpot x y w)
  have BX : Hid (Below w.heap.size w ((w.alloc (.cells #[.int .i64 x, .int .i64 y] 45)).alloc (.cells #[.int .i64 0, .int .i64 0] 45))) := ((Below.refl _ _).alloc (Nat.le_refl _) _).alloc (by simp) _
  by_cases hv : Val x ∧ Val y
  · rw [decide_eq_true hv] at H1
    obtain ⟨S, hS⟩ : ∃ S, (sq x y).toNat = S := ⟨_, rfl⟩
    have hSi : (S : Int) = sq x y := by have := sq_nn x y; omega
    have H2 : Hid (∀ w, Calls Tryz.prog 92 #[.agg #[.int .i64 x, .int .i64 y]] w (BigOut w S)) := fun w => by rw [← hS]; exact refSquare x y w hv.1 hv.2
    by_cases h0 : S = 0
    · have e : Hid (unitR x y = .error 10) := by show _ = _; unfold unitR; rw [if_pos hv, if_pos (by omega)]
      rw [e.out]
      have H0 := Lib.hid h0
      clear hv hS hSi h0
      go_enter Tryz.func41, Tryz.ntmps41
      go_wp2_with (first
        | (go_at_call 90; refine (H1.out _).mono ?_; rintro e w1 ⟨rfl, hb1⟩; have c0 : w1.cell? ⟨w.heap.size, 0, none⟩ = some (.int .i64 x) := (upc (by simp [go_sem]) hb1); have c1 : w1.cell? ⟨w.heap.size, 1, none⟩ = some (.int .i64 y) := (upc (by simp [go_sem]) hb1); have z0 : w1.cell? ⟨w.heap.size + 1, 0, none⟩ = some (.int .i64 0) := (upc (by simp [go_sem]) hb1); have z1 : w1.cell? ⟨w.heap.size + 1, 1, none⟩ = some (.int .i64 0) := (upc (by simp [go_sem]) hb1); have g0 : w1.frozen? ⟨w.heap.size + 1, 0, none⟩ = false := ((hb1.frozen (p := ⟨w.heap.size + 1, 0, none⟩) (by simp)).trans (by simp [go_sem])); have g1 : w1.frozen? ⟨w.heap.size + 1, 1, none⟩ = false := ((hb1.frozen (p := ⟨w.heap.size + 1, 1, none⟩) (by simp)).trans (by simp [go_sem])))
        | (go_at_call 92; refine (H2.out _).mono ?_; rintro e w2 ⟨v2, rfl, k2, hb2⟩; obtain ⟨X2, n2, cap2, rfl⟩ := k2.form; obtain rfl : n2 = 0 := (k2.len0).1 H0.out; clear k2; have y0 := upc z0 hb2; have y1 := upc z1 hb2; have g2 := (hb2.frozen (p := ⟨w.heap.size + 1, 0, none⟩) (lt_cell z0)).trans g0; have g3 := (hb2.frozen (p := ⟨w.heap.size + 1, 1, none⟩) (lt_cell z1)).trans g1))
      obtain ⟨t0, t1⟩ := two_cells y0 y1 (.int .i64 0) (.int .i64 0)
      refine bodyPost_ret (v := .tuple #[Sp (0, 0), .int .i64 10]) (by simp [results, Tryz.results41, go_sem, t0, t1]) rfl ⟨rfl, ?_⟩
      have b1 := BX.out.trans (hb1.mono BX.out.size)
      have b2 := b1.trans (hb2.mono b1.size)
      exact (b2.setCell (p := ⟨w.heap.size + 1, 0, none⟩) (by simp) _).setCell (p := ⟨w.heap.size + 1, 1, none⟩) (by simp) _
    · have e : unitR x y = .ok (unitC S x, unitC S y) := by unfold unitR; rw [if_pos hv, if_neg (by omega), hSi]
      rw [e]
      obtain ⟨p, hp⟩ : ∃ p, unitC (S : Int) x = p := ⟨_, rfl⟩
      obtain ⟨q, hq⟩ : ∃ q, unitC (S : Int) y = q := ⟨_, rfl⟩
      have hb := sq_big hv.1 hv.2
      rw [hS] at hb
      have hge := sq_ge (x := x) (y := y)
      rw [hS] at hge
      have H3 : Hid (∀ v w, BigN w v S → Calls Tryz.prog 93 #[.int .i64 x, v] w fun e w' => e = .returned (.int .i64 p) ∧ Below w.heap.size w w') := fun v w h => by rw [← hp]; exact share_N x v S w h hv.1 (by omega) hb hge.1
      have H4 : Hid (∀ v w, BigN w v S → Calls Tryz.prog 93 #[.int .i64 y, v] w fun e w' => e = .returned (.int .i64 q) ∧ Below w.heap.size w w') := fun v w h => by rw [← hq]; exact share_N y v S w h hv.2 (by omega) hb hge.2
      have H0 := Lib.hid h0
      rw [hp, hq]
      clear hv hS hSi h0 e hp hq hb hge
      go_enter Tryz.func41, Tryz.ntmps41
      go_upto_region 7 with (first
        | (go_at_call 90; refine (H1.out _).mono ?_; rintro e w1 ⟨rfl, hb1⟩; have c0 : w1.cell? ⟨w.heap.size, 0, none⟩ = some (.int .i64 x) := (upc (by simp [go_sem]) hb1); have c1 : w1.cell? ⟨w.heap.size, 1, none⟩ = some (.int .i64 y) := (upc (by simp [go_sem]) hb1); have z0 : w1.cell? ⟨w.heap.size + 1, 0, none⟩ = some (.int .i64 0) := (upc (by simp [go_sem]) hb1); have z1 : w1.cell? ⟨w.heap.size + 1, 1, none⟩ = some (.int .i64 0) := (upc (by simp [go_sem]) hb1); have g0 : w1.frozen? ⟨w.heap.size + 1, 0, none⟩ = false := ((hb1.frozen (p := ⟨w.heap.size + 1, 0, none⟩) (by simp)).trans (by simp [go_sem])); have g1 : w1.frozen? ⟨w.heap.size + 1, 1, none⟩ = false := ((hb1.frozen (p := ⟨w.heap.size + 1, 1, none⟩) (by simp)).trans (by simp [go_sem])))
        | (go_at_call 92; refine (H2.out _).mono ?_; rintro e w2 ⟨v2, rfl, k2, hb2⟩; have G2 := Lib.hid k2; obtain ⟨X2, n2, cap2, rfl⟩ := k2.form; have hn0 : ((n2 : Int) == 0) = false := (by have h9 : ¬ n2 = 0 := fun h => H0.out ((k2.len0).2 h); simp; omega); clear k2; have d0 := upc c0 hb2; have d1 := upc c1 hb2; have y0 := upc z0 hb2; have y1 := upc z1 hb2; have g2 := (hb2.frozen (p := ⟨w.heap.size + 1, 0, none⟩) (lt_cell z0)).trans g0; have g3 := (hb2.frozen (p := ⟨w.heap.size + 1, 1, none⟩) (lt_cell z1)).trans g1))
      have B2 : Hid (Below w.heap.size w w2) := (BX.out.trans (hb1.mono BX.out.size)).trans (hb2.mono (Nat.le_trans BX.out.size hb1.size))
      have Y0 := Lib.hid y0; have Y1 := Lib.hid y1; have Y2 := Lib.hid g2; have Y3 := Lib.hid g3
      have P1 : Hid (∀ X : BW w2, Calls Tryz.prog 93 #[.int .i64 x, .slice X2 n2 cap2] X.to fun e w' => e = .returned (.int .i64 p) ∧ Below X.to.heap.size X.to w') := fun X => H3.out _ _ (G2.out.up X.same)
      have P2 : Hid (∀ X : BW w2, Calls Tryz.prog 93 #[.int .i64 y, .slice X2 n2 cap2] X.to fun e w' => e = .returned (.int .i64 q) ∧ Below X.to.heap.size X.to w') := fun X => H4.out _ _ (G2.out.up X.same)
      have E0 : ∀ X : BW w2, X.to.cell? ⟨w.heap.size, 0, none⟩ = _ := fun X => upc d0 X.same
      have E1 : ∀ X : BW w2, X.to.cell? ⟨w.heap.size, 1, none⟩ = _ := fun X => upc d1 X.same
      clear c0 c1 z0 z1 g0 g1 d0 d1 y0 y1 g2 g3 hb1 hb2 hn0
      refine wp_region_quiet_tail 9 (by kernel_rfl) (by kernel_rfl) ?_
      simp only [List.take_succ_cons, List.take_zero, List.drop_succ_cons, List.drop_zero]
      repeat (go_big_quiet_step ((first
        | (go_at_call 93; with_reducible exact quietB (P1.out _))
        | (go_at_call 93; with_reducible exact quietB (P2.out _)))))
      refine wpQuiet_nil ?_
      rintro wy ⟨⟨wz, hby⟩, hwz⟩
      change wy = wz at hwz
      subst hwz
      clear E0 E1
      have y0 := upc Y0.out hby
      have y1 := upc Y1.out hby
      have g2 := (hby.frozen (p := ⟨w.heap.size + 1, 0, none⟩) (lt_cell Y0.out)).trans Y2.out
      have g3 := (hby.frozen (p := ⟨w.heap.size + 1, 1, none⟩) (lt_cell Y1.out)).trans Y3.out
      go_wp2_with fail
      obtain ⟨t0, t1⟩ := two_cells y0 y1 (.int .i64 p) (.int .i64 q)
      refine bodyPost_ret (v := .tuple #[Sp (p, q), .int .i64 0]) (by simp [results, Tryz.results41, go_sem, t0, t1]) rfl ⟨rfl, ?_⟩
      have b3 := B2.out.trans (hby.mono B2.out.size)
      exact (b3.setCell (p := ⟨w.heap.size + 1, 0, none⟩) (by simp) _).setCell (p := ⟨w.heap.size + 1, 1, none⟩) (by simp) _
  · rw [decide_eq_false hv] at H1
    rw [show unitR x y = .error 2 by unfold unitR; rw [if_neg hv]]
    clear hv
    go_enter Tryz.func41, Tryz.ntmps41
    go_wp2_with (go_at_call 90; refine (H1.out _).mono ?_; rintro e w1 ⟨rfl, hb1⟩; have z0 : w1.cell? ⟨w.heap.size + 1, 0, none⟩ = some (.int .i64 0) := (upc (by simp [go_sem]) hb1); have z1 : w1.cell? ⟨w.heap.size + 1, 1, none⟩ = some (.int .i64 0) := (upc (by simp [go_sem]) hb1); have g0 : w1.frozen? ⟨w.heap.size + 1, 0, none⟩ = false := ((hb1.frozen (p := ⟨w.heap.size + 1, 0, none⟩) (by simp)).trans (by simp [go_sem])); have g1 : w1.frozen? ⟨w.heap.size + 1, 1, none⟩ = false := ((hb1.frozen (p := ⟨w.heap.size + 1, 1, none⟩) (by simp)).trans (by simp [go_sem])))
    obtain ⟨t0, t1⟩ := two_cells z0 z1 (.int .i64 0) (.int .i64 0)
    refine bodyPost_ret (v := .tuple #[Sp (0, 0), .int .i64 2]) (by simp [results, Tryz.results41, go_sem, t0, t1]) rfl ⟨rfl, ?_⟩
    have b1 := BX.out.trans (hb1.mono BX.out.size)
    exact (b1.setCell (p := ⟨w.heap.size + 1, 0, none⟩) (by simp) _).setCell (p := ⟨w.heap.size + 1, 1, none⟩) (by simp) _
end Go.Proofs.YthkhhjfldkebcaaGreatDoor
