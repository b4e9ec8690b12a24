/- Contracts: square, Length, bits3, below, share. -/
import Derived.Test.YthkhhjfldkebcaaGreatDoorS
namespace Go.Proofs.YthkhhjfldkebcaaGreatDoor
open Go.RowKit Go.Proofs Go.Shelf

/-- A number of 128 bits, as the program keeps it. -/
abbrev Wd (n : Int) : Value := .agg #[.int .u64 (hiU n), .int .u64 (loU n)]
theorem wd_of {h l n : Int} (H : InW h l n) : h = hiU n ∧ l = loU n := by
  have a := H.h0; have b := H.l0; have c := H.l1; have e := H.e
  unfold hiU loU
  omega
theorem plus2 (n1 n2 : Int) (w : World) (h1 : 0 ≤ n1) (h2 : 0 ≤ n2) (hb : n1 + n2 < 340282366920938463463374607431768211456) :
    Calls Tryz.prog 124 #[Wd n1, Wd n2] w fun e w' => e = .returned (Wd (n1 + n2)) ∧ Below w.heap.size w w' := by
  refine (plusW (InW.mk' h1 (by omega)) (InW.mk' h2 (by omega)) hb w).mono ?_
  rintro e w' ⟨h, l, rfl, hW, hbl⟩
  obtain ⟨rfl, rfl⟩ := wd_of hW.out
  exact ⟨rfl, hbl⟩
theorem product2 (x y : Int) (w : World) (hx0 : 0 ≤ x) (hx : x ≤ 18446744073709551615) (hy0 : 0 ≤ y) (hy : y ≤ 18446744073709551615) :
    Calls Tryz.prog 62 #[.int .u64 x, .int .u64 y] w fun e w' => e = .returned (Wd (x * y)) ∧ Below w.heap.size w w' := product_any x y w hx0 hx hy0 hy

/-- The square of a length. -/
def sq (x y : Int) : Int := sz x * sz x + sz y * sz y
theorem sq_nn (x y : Int) : 0 ≤ sq x y := by
  have := Int.mul_nonneg (sz_nn x) (sz_nn x); have := Int.mul_nonneg (sz_nn y) (sz_nn y); unfold sq; omega
theorem sq_le {x y : Int} (h : Val x ∧ Val y) : sq x y ≤ 9903520314283042199192993792 := by
  obtain ⟨⟨a, b⟩, c, d⟩ := h
  have := Int.mul_le_mul (sz_le a b) (sz_le a b) (sz_nn x) (by omega)
  have := Int.mul_le_mul (sz_le c d) (sz_le c d) (sz_nn y) (by omega)
  unfold sq; omega

theorem two_cells {w : World} {b : Nat} {x y : Value} (h0 : w.cell? ⟨b, 0, none⟩ = some x) (h1 : w.cell? ⟨b, 1, none⟩ = some y) (u v : Value) :
    ((w.setCell ⟨b, 0, none⟩ u).setCell ⟨b, 1, none⟩ v).cell? ⟨b, 0, none⟩ = some u ∧ ((w.setCell ⟨b, 0, none⟩ u).setCell ⟨b, 1, none⟩ v).cell? ⟨b, 1, none⟩ = some v := by
  have y0 := World.cell?_setCell_same w ⟨b, 0, none⟩ u h0
  have y1 : (w.setCell ⟨b, 0, none⟩ u).cell? ⟨b, 1, none⟩ = some y := by rw [World.cell?_setCell_other _ _ _ _ (by simp)]; exact h1
  exact ⟨by rw [World.cell?_setCell_other _ _ _ _ (by simp)]; exact y0, World.cell?_setCell_same _ _ _ y1⟩
set_option maxHeartbeats 1000000 in
theorem square_ok (x y : Int) (w : World) (hv : Val x ∧ Val y) :
    Calls Tryz.prog 82 #[.agg #[.int .i64 x, .int .i64 y]] w fun e w' => e = .returned (Wd (sq x y)) ∧ Below w.heap.size w w' := by
  have sx := sz_nn x; have sy := sz_nn y
  have sx' : sz x ≤ 70368744177664 := sz_le hv.1.1 hv.1.2
  have sy' : sz y ≤ 70368744177664 := sz_le hv.2.1 hv.2.2
  have px := Int.mul_nonneg sx sx; have py := Int.mul_nonneg sy sy
  have qx := Int.mul_le_mul sx' sx' sx (by omega)
  have qy := Int.mul_le_mul sy' sy' sy (by omega)
  have HV := Lib.hid hv
  obtain ⟨⟨v1, v2⟩, v3, v4⟩ := hv
  have X0 : ∀ t o2 o3 (X : BW (((w.alloc (.cells #[.int .i64 x, .int .i64 y] t)).alloc o2).alloc o3)), X.to.cell? ⟨w.heap.size, 0, none⟩ = some (.int .i64 x) := fun t o2 o3 X => (X.cell _ _ (by simp; omega)).trans (by simp [go_sem])
  have X1 : ∀ t o2 o3 (X : BW (((w.alloc (.cells #[.int .i64 x, .int .i64 y] t)).alloc o2).alloc o3)), X.to.cell? ⟨w.heap.size, 1, none⟩ = some (.int .i64 y) := fun t o2 o3 X => (X.cell _ _ (by simp; omega)).trans (by simp [go_sem])
  have PB : Hid (sz x * sz x + sz y * sz y < 340282366920938463463374607431768211456) := by show _ < _; omega
  have PX := Lib.hid px; have PY := Lib.hid py
  clear px py qx qy
  go_enter Tryz.func82, Tryz.ntmps82
  go_wp2_with (go_at_call 59; refine (right2_ok x y _ _ HV.out (by simp [go_sem]) (by simp [go_sem])).mono ?_; rintro e w' ⟨rfl, rfl⟩)
  refine wp_region_quiet_tail 15 (by kernel_rfl) (by kernel_rfl) ?_
  simp only [List.take_succ_cons, List.take_zero, List.drop_succ_cons, List.drop_zero]
  repeat (go_big_quiet_step ((first
    | (go_at_call 63; exact quietS (size_any _ _ (by omega) (by omega)))
    | (go_at_call 62; exact quietB (product2 _ _ _ (by omega) (by omega) (by omega) (by omega)))
    | (go_at_call 124; exact quietB (plus2 _ _ _ PX.out PY.out PB.out)))))
  refine wpQuiet_nil ?_
  rintro wy ⟨⟨wz, hby⟩, hwz⟩
  change wy = wz at hwz
  subst hwz
  have hc := bcell hby
  have hsz := hby.size
  simp only [World.size_alloc] at hc hsz
  have z0 : wy.cell? ⟨w.heap.size + 1, 0, none⟩ = some (.int .u64 0) := by rw [hc.1 _ _ (by omega)]; simp [go_sem]
  have z1 : wy.cell? ⟨w.heap.size + 1, 1, none⟩ = some (.int .u64 0) := by rw [hc.1 _ _ (by omega)]; simp [go_sem]
  have g0 : wy.frozen? ⟨w.heap.size + 1, 0, none⟩ = false := by rw [hc.2 _ _ (by omega)]; simp [go_sem]
  have g1 : wy.frozen? ⟨w.heap.size + 1, 1, none⟩ = false := by rw [hc.2 _ _ (by omega)]; simp [go_sem]
  clear hc
  go_wp2_with fail
  obtain ⟨y0, y1⟩ := two_cells z0 z1 (.int .u64 (hiU (sz x * sz x + sz y * sz y))) (.int .u64 (loU (sz x * sz x + sz y * sz y)))
  refine bodyPost_ret (v := Wd (sq x y)) (by simp [results, Tryz.results82, go_sem, y0, y1, sq]) rfl ⟨rfl, ?_⟩
  exact ((((((Below.refl _ _).alloc (Nat.le_refl _) _).alloc (by simp) _).alloc (by simp; omega) _).trans (hby.mono (by simp; omega))).setCell (p := ⟨w.heap.size + 1, 0, none⟩) (by simp) _).setCell (p := ⟨w.heap.size + 1, 1, none⟩) (by simp) _
set_option maxHeartbeats 1000000 in
theorem square_no (x y : Int) (w : World) (hv : ¬ (Val x ∧ Val y)) :
    Calls Tryz.prog 82 #[.agg #[.int .i64 x, .int .i64 y]] w fun e w' => e = .panicked (Mis 2) ∧ Below w.heap.size w w' := by
  have HV := Lib.hid hv
  clear hv
  go_enter Tryz.func82, Tryz.ntmps82
  go_wp2_with (go_at_call 59; refine (right2_no x y _ _ HV.out (by simp [go_sem]) (by simp [go_sem])).mono ?_; rintro e w' ⟨rfl, rfl⟩)
  exact ⟨rfl, rfl, (((Below.refl _ _).alloc (Nat.le_refl _) _).alloc (by simp) _).alloc (by simp; omega) _⟩
/-- What square comes to. -/
def squareR (x y : Int) : Except Int Int := if Val x ∧ Val y then .ok (sq x y) else .error 2
theorem square_any (x y : Int) (w : World) : Calls Tryz.prog 82 #[.agg #[.int .i64 x, .int .i64 y]] w (Do w ((squareR x y).map Wd)) := by
  unfold squareR
  by_cases hv : Val x ∧ Val y
  · rw [if_pos hv]; exact (square_ok x y w hv).mono fun e w' h => ⟨h.1, h.2⟩
  · rw [if_neg hv]; exact (square_no x y w hv).mono fun e w' h => ⟨h.1, h.2⟩

/-- What Length comes to. -/
noncomputable def lenR (x y how : Int) : Except Int Int := if Val x ∧ Val y then (if HowOk how then rooR (sq x y) (119 + how.toNat) else .error 2) else .error 2

theorem spot_cell {w : World} {b : Nat} {o : Nat} {v : Value} (h : w.cell? ⟨b, o, none⟩ = some v) : b < w.heap.size := by
  rcases Nat.lt_or_ge b w.heap.size with h' | h'
  · exact h'
  · simp [World.cell?, Array.getElem?_eq_none h'] at h

set_option maxHeartbeats 1000000 in
theorem cl87 (p q : Nat) (x y how : Int) (w : World) (hp : w.cell? ⟨p, 0, none⟩ = some (.int .i64 x)) (hp' : w.cell? ⟨p, 1, none⟩ = some (.int .i64 y)) (hq : w.cell? ⟨q, 0, none⟩ = some (.int .i64 how)) :
    Calls Tryz.prog 87 #[.pointer (some ⟨p, 0, none⟩), .pointer (some ⟨q, 0, none⟩)] w (Do w ((lenR x y how).map (.int .i64 ·))) := by
  have lp := spot_cell hp; have lq := spot_cell hq
  unfold lenR
  by_cases hv : Val x ∧ Val y
  · rw [if_pos hv]
    have HS : Hid (sq x y ≤ 9903520314283042199192993792) := sq_le hv
    have HN : Hid (0 ≤ sq x y) := sq_nn x y
    have HV := Lib.hid hv
    clear hv
    by_cases hh : HowOk how
    · rw [if_pos hh]
      have GH := Lib.hid hh
      obtain ⟨h0, h3⟩ := hh
      obtain ⟨s, hs⟩ : ∃ s, sq x y = s := ⟨_, rfl⟩
      rw [hs] at HS HN
      have HSS := Lib.hid hs
      obtain ⟨r, hr⟩ : ∃ r, rooR (sq x y) (119 + how.toNat) = r := ⟨_, rfl⟩
      rw [hr]
      have HQ : Hid (∀ w, Calls Tryz.prog 65 #[Wd s, .func (.func (119 + how.toNat)) #[] #[]] w (Do w (r.map (.int .i64 ·)))) := by
        intro w; rw [← hr]
        have h2 := HS.out; have h1 := HN.out
        rw [← HSS.out] at h1 h2 ⊢
        exact (root_any (InW.mk' h1 (by omega)) _ w (isq_spec h1) (by omega) (kOf GH.out)).mono fun e w' h => h.toDo
      clear hr hs
      have X1 : ∀ w1 o (X : BW (w1.alloc o)), Below w.heap.size w w1 → X.to.cell? ⟨q, 0, none⟩ = some (.int .i64 how) := fun w1 o X hb => by
        have := hb.size
        rw [X.cell _ _ (by simp; omega), World.cell?_alloc_past _ _ _ (by omega), hb.cell (p := ⟨q, 0, none⟩) lq]; exact hq
      have X3 : ∀ (w1 : World) t (X : BW (w1.alloc (.cells #[.int .u64 (hiU s), .int .u64 (loU s)] t))), X.to.cell? ⟨w1.heap.size, 0, none⟩ = some (.int .u64 (hiU s)) := fun w1 t X => (X.cell _ _ (by simp)).trans (by simp [go_sem])
      have X4 : ∀ (w1 : World) t (X : BW (w1.alloc (.cells #[.int .u64 (hiU s), .int .u64 (loU s)] t))), X.to.cell? ⟨w1.heap.size, 1, none⟩ = some (.int .u64 (loU s)) := fun w1 t X => (X.cell _ _ (by simp)).trans (by simp [go_sem])
      cases r with
      | ok v =>
        go_enter Tryz.func87, Tryz.ntmps87
        go_wp2_with (go_at_call 82; refine (square_ok x y _ HV.out).mono ?_; rintro e w1 ⟨rfl, hb⟩; rw [HSS.out])
        have Y1 := fun o X => X1 w1 o X hb
        clear X1
        refine wp_region_quietB (by kernel_rfl) (by kernel_rfl) ?_
        repeat (go_big_quiet_step ((first
          | (go_at_call 57; exact quietS (ways_ok _ _ h0 h3))
          | (go_at_call 65; exact Do.quiet (HQ.out _) rfl))))
        refine wpQuiet_nil ?_
        rintro _ ⟨⟨wy, hby⟩, rfl⟩
        go_wp2_with fail
        go_ret
        exact Do.ok rfl ((hb.alloc hb.size _).trans (hby.mono (by have := hb.size; simp; omega)))
      | error c =>
        go_enter Tryz.func87, Tryz.ntmps87
        go_wp2_with (go_at_call 82; refine (square_ok x y _ HV.out).mono ?_; rintro e w1 ⟨rfl, hb⟩; rw [HSS.out])
        have Y1 := fun o X => X1 w1 o X hb
        clear X1
        refine wp_region_ends_lit [true, true, true] [false, false, false, true] [4] (by kernel_rfl) (by kernel_rfl) (by simp) (by simp) ?_
        simp only [maskSel]
        repeat (go_big_quiet_step ((go_at_call 57; exact quietS (ways_ok _ _ h0 h3))))
        refine wpQuiet_nil ?_
        intro o ho
        simp only [List.mem_singleton] at ho
        subst ho
        exact panicsB rfl (fun X => by simp [go_sem]) (fun X => HQ.out _) rfl (hb.alloc hb.size _)
    · rw [if_neg hh]
      have X1 : ∀ w1 o (X : BW (w1.alloc o)), Below w.heap.size w w1 → X.to.cell? ⟨q, 0, none⟩ = some (.int .i64 how) := fun w1 o X hb => by
        have := hb.size
        rw [X.cell _ _ (by simp; omega), World.cell?_alloc_past _ _ _ (by omega), hb.cell (p := ⟨q, 0, none⟩) lq]; exact hq
      obtain ⟨s, hs⟩ : ∃ s, sq x y = s := ⟨_, rfl⟩
      have HSS := Lib.hid hs
      clear hs
      have X3 : ∀ (w1 : World) t (X : BW (w1.alloc (.cells #[.int .u64 (hiU s), .int .u64 (loU s)] t))), X.to.cell? ⟨w1.heap.size, 0, none⟩ = some (.int .u64 (hiU s)) := fun w1 t X => (X.cell _ _ (by simp)).trans (by simp [go_sem])
      have X4 : ∀ (w1 : World) t (X : BW (w1.alloc (.cells #[.int .u64 (hiU s), .int .u64 (loU s)] t))), X.to.cell? ⟨w1.heap.size, 1, none⟩ = some (.int .u64 (loU s)) := fun w1 t X => (X.cell _ _ (by simp)).trans (by simp [go_sem])
      go_enter Tryz.func87, Tryz.ntmps87
      go_wp2_with (go_at_call 82; refine (square_ok x y _ HV.out).mono ?_; rintro e w1 ⟨rfl, hb⟩; rw [HSS.out])
      have Y1 := fun o X => X1 w1 o X hb
      clear X1
      refine wp_region_ends_lit [true, true] [false, false, true] [3, 4] (by kernel_rfl) (by kernel_rfl) (by simp) (by simp) ?_
      simp only [maskSel]
      repeat (go_big_quiet_step ((fail)))
      refine wpQuiet_nil ?_
      intro o ho
      simp only [List.mem_singleton] at ho
      subst ho
      exact panicsB rfl (fun X => by simp [go_sem]) (fun X => (ways_no how _ (by unfold HowOk at hh; omega)).mono fun e w' h => ⟨h.1, by rw [← h.2]; exact Below.refl _ _⟩) rfl (hb.alloc hb.size _)
  · rw [if_neg hv]
    have HV := Lib.hid hv
    clear hv
    go_enter Tryz.func87, Tryz.ntmps87
    go_wp2_with (go_at_call 82; refine (square_no x y _ HV.out).mono ?_; rintro e w1 ⟨rfl, hb⟩)
    exact ⟨rfl, Do.no rfl hb⟩

set_option maxHeartbeats 1000000 in
theorem Length_any (x y how : Int) (w : World) :
    Calls Tryz.prog 30 #[.agg #[.int .i64 x, .int .i64 y], .int .i64 how] w fun e w' => e = .returned (.tuple #[.int .i64 (valE 0 (lenR x y how)), .int .i64 (errE (lenR x y how))]) ∧ Below w.heap.size w w' := by
  have hmf : ∀ (fn : Fn) (first cap : Array Value) (w : World), (Instr.makeFunc fn first cap).run Tryz.prog w = .ok (.func fn first cap) w := fun _ _ _ _ => rfl
  have hcl : ∀ W, Below ((w.alloc (.cells #[.int .i64 x, .int .i64 y] 45)).alloc (.cells #[.int .i64 how] 3)).heap.size ((w.alloc (.cells #[.int .i64 x, .int .i64 y] 45)).alloc (.cells #[.int .i64 how] 3)) W → Calls Tryz.prog 87 #[.pointer (some ⟨w.heap.size, 0, none⟩), .pointer (some ⟨w.heap.size + 1, 0, none⟩)] W (Do W ((lenR x y how).map (.int .i64 ·))) := by
    intro W hW
    have hc := (bcell hW).1
    simp only [World.size_alloc] at hc
    have c0 : W.cell? ⟨w.heap.size, 0, none⟩ = some (.int .i64 x) := by rw [hc _ _ (by omega)]; simp [go_sem]
    have c1 : W.cell? ⟨w.heap.size, 1, none⟩ = some (.int .i64 y) := by rw [hc _ _ (by omega)]; simp [go_sem]
    have c2 : W.cell? ⟨w.heap.size + 1, 0, none⟩ = some (.int .i64 how) := by rw [hc _ _ (by omega)]; simp [go_sem]
    exact cl87 _ _ x y how W c0 c1 c2
  have HC := Lib.hid hcl
  clear hcl
  go_enter Tryz.func30, Tryz.ntmps30
  go_wp2_with (go_at_call 54; refine (triedFix 87 _ _ _ (enters_of Tryz.func87 (by kernel_rfl) rfl) HC.out).mono ?_; rintro e w1 ⟨rfl, hb⟩)
  go_ret2
  exact ⟨rfl, (((Below.refl _ _).alloc (Nat.le_refl _) _).alloc (by simp) _).trans (hb.mono (by simp; omega))⟩
end Go.Proofs.YthkhhjfldkebcaaGreatDoor
