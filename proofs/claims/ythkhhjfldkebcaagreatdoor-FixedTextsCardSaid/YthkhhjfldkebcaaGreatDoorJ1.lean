/- Contracts: Farther, Within. -/
import Derived.Test.YthkhhjfldkebcaaGreatDoorN1
namespace Go.Proofs.YthkhhjfldkebcaaGreatDoor
open Go.RowKit Go.Proofs Go.Shelf

theorem sq_inW {x y : Int} (h : Val x ∧ Val y) : InW (hiU (sq x y)) (loU (sq x y)) (sq x y) := InW.mk' (sq_nn x y) (by have := sq_le h; omega)
/-- An old cell, behind a call, and behind a new variable. -/
theorem upc {w w' : World} {b i : Nat} {v : Value} (h : w.cell? ⟨b, i, none⟩ = some v) (hb : Below w.heap.size w w') : w'.cell? ⟨b, i, none⟩ = some v :=
  (hb.cell (p := ⟨b, i, none⟩) (lt_cell h)).trans h
theorem upa {w : World} {b i : Nat} {v : Value} (h : w.cell? ⟨b, i, none⟩ = some v) (o : Obj) : (w.alloc o).cell? ⟨b, i, none⟩ = some v := by
  rw [World.cell?_alloc_past _ _ _ (lt_cell h)]; exact h

/-- What Farther comes to. -/
def farR (x1 y1 x2 y2 : Int) : Except Int Int := if (Val x1 ∧ Val y1) ∧ Val x2 ∧ Val y2 then .ok (cmpI (sq x1 y1) (sq x2 y2)) else .error 2

set_option maxHeartbeats 1000000 in
theorem cl94 (p q : Nat) (x1 y1 x2 y2 : Int) (w : World) (hp : w.cell? ⟨p, 0, none⟩ = some (.int .i64 x1)) (hp' : w.cell? ⟨p, 1, none⟩ = some (.int .i64 y1)) (hq : w.cell? ⟨q, 0, none⟩ = some (.int .i64 x2)) (hq' : w.cell? ⟨q, 1, none⟩ = some (.int .i64 y2)) :
    Calls Tryz.prog 94 #[.pointer (some ⟨p, 0, none⟩), .pointer (some ⟨q, 0, none⟩)] w (Do w ((farR x1 y1 x2 y2).map (.int .i64 ·))) := by
  have X0 : ∀ X : BW w, X.to.cell? ⟨p, 0, none⟩ = some (.int .i64 x1) := fun X => upc hp X.same
  have X1 : ∀ X : BW w, X.to.cell? ⟨p, 1, none⟩ = some (.int .i64 y1) := fun X => upc hp' X.same
  have X2 : ∀ X : BW w, X.to.cell? ⟨q, 0, none⟩ = some (.int .i64 x2) := fun X => upc hq X.same
  have X3 : ∀ X : BW w, X.to.cell? ⟨q, 1, none⟩ = some (.int .i64 y2) := fun X => upc hq' X.same
  unfold farR
  by_cases ha : Val x1 ∧ Val y1 <;> by_cases hb : Val x2 ∧ Val y2
  · rw [if_pos ⟨ha, hb⟩]
    have HA := Lib.hid ha; have HB := Lib.hid hb
    clear ha hb
    go_enter Tryz.func94, Tryz.ntmps94
    go_wp2_with fail
    refine wp_region_quietB (by kernel_rfl) (by kernel_rfl) ?_
    repeat (go_big_quiet_step ((first
      | (go_at_call 95; exact quietB (compareW (sq_inW HA.out) (sq_inW HB.out) _))
      | (go_at_call 82; refine quietB (square_ok _ _ _ ?_); first | exact HA.out | exact HB.out))))
    refine wpQuiet_nil ?_
    rintro _ ⟨⟨wy, hby⟩, rfl⟩
    go_wp2_with fail
    go_ret
    exact Do.ok rfl hby
  · rw [if_neg (fun h => hb h.2)]
    have HA := Lib.hid ha; have HB := Lib.hid hb
    clear ha hb
    go_enter Tryz.func94, Tryz.ntmps94
    go_wp2_with fail
    refine wp_region_ends_lit [true, true, true] [false, false, false, true] [4, 5] (by kernel_rfl) (by kernel_rfl) (by simp) (by simp) ?_
    simp only [maskSel]
    repeat (go_big_quiet_step ((go_at_call 82; exact quietB (square_ok x1 y1 _ HA.out))))
    refine wpQuiet_nil ?_
    intro o ho
    simp only [List.mem_singleton] at ho
    subst ho
    exact panicsB rfl (fun X => by simp [go_sem]) (fun X => square_no x2 y2 _ HB.out) rfl (Below.refl _ _)
  all_goals
    rw [if_neg (fun h => ha h.1)]
    have HA := Lib.hid ha
    clear ha hb
    go_enter Tryz.func94, Tryz.ntmps94
    go_wp2_with fail
    refine wp_region_ends_lit [true, false, true] [false, true] [3, 4, 5] (by kernel_rfl) (by kernel_rfl) (by simp) (by simp) ?_
    simp only [maskSel]
    repeat (go_big_quiet_step (fail))
    refine wpQuiet_nil ?_
    intro o ho
    simp only [List.mem_singleton] at ho
    subst ho
    exact panicsB rfl (fun X => by simp [go_sem]) (fun X => square_no x1 y1 _ HA.out) rfl (Below.refl _ _)

set_option maxHeartbeats 1000000 in
theorem Farther_any (x1 y1 x2 y2 : Int) (w : World) :
    Calls Tryz.prog 42 #[.agg #[.int .i64 x1, .int .i64 y1], .agg #[.int .i64 x2, .int .i64 y2]] w fun e w' => e = .returned (.tuple #[.int .i64 (valE 0 (farR x1 y1 x2 y2)), .int .i64 (errE (farR x1 y1 x2 y2))]) ∧ Below w.heap.size w w' := by
  have hmf : ∀ (fn : Fn) (first cap : Array Value) (w : World), (Instr.makeFunc fn first cap).run Tryz.prog w = .ok (.func fn first cap) w := fun _ _ _ _ => rfl
  have HC : Hid (∀ W, Below ((w.alloc (.cells #[.int .i64 x1, .int .i64 y1] 45)).alloc (.cells #[.int .i64 x2, .int .i64 y2] 45)).heap.size ((w.alloc (.cells #[.int .i64 x1, .int .i64 y1] 45)).alloc (.cells #[.int .i64 x2, .int .i64 y2] 45)) W →
      Calls Tryz.prog 94 #[.pointer (some ⟨w.heap.size, 0, none⟩), .pointer (some ⟨w.heap.size + 1, 0, none⟩)] W (Do W ((farR x1 y1 x2 y2).map (.int .i64 ·)))) := by
    intro W hW
    exact cl94 _ _ x1 y1 x2 y2 W (upc (by simp [go_sem]) hW) (upc (by simp [go_sem]) hW) (upc (by simp [go_sem]) hW) (upc (by simp [go_sem]) hW)
  go_enter Tryz.func42, Tryz.ntmps42
  go_wp2_with (go_at_call 67; refine (triedInt 94 _ _ _ (enters_of Tryz.func94 (by kernel_rfl) rfl) HC.out).mono ?_; rintro e w1 ⟨rfl, hb⟩)
  go_ret2
  exact ⟨rfl, (((Below.refl _ _).alloc (Nat.le_refl _) _).alloc (by simp) _).trans (hb.mono (by simp; omega))⟩

/-- What Within comes to. -/
def inB (x y r : Int) : Bool := decide (0 ≤ r) && decide (cmpI (sq x y) (sz r * sz r) ≤ 0)
def inR (x y r : Int) : Except Int Bool := if Val x ∧ Val y then (if Val r then .ok (inB x y r) else .error 2) else .error 2

set_option maxHeartbeats 1000000 in
theorem cl101 (p q : Nat) (x y r : Int) (w : World) (hp : w.cell? ⟨p, 0, none⟩ = some (.int .i64 x)) (hp' : w.cell? ⟨p, 1, none⟩ = some (.int .i64 y)) (hq : w.cell? ⟨q, 0, none⟩ = some (.int .i64 r)) :
    Calls Tryz.prog 101 #[.pointer (some ⟨p, 0, none⟩), .pointer (some ⟨q, 0, none⟩)] w (Do w ((inR x y r).map (.bool ·))) := by
  unfold inR
  by_cases hv : Val x ∧ Val y
  · rw [if_pos hv]
    have HV := Lib.hid hv
    clear hv
    by_cases hr : Val r
    · rw [if_pos hr]
      have HR := Lib.hid hr
      have r1 := hr.1; have r2 := hr.2
      have sr := sz_nn r
      have sr' : sz r ≤ 70368744177664 := sz_le hr.1 hr.2
      have HP : Hid (InW (hiU (sz r * sz r)) (loU (sz r * sz r)) (sz r * sz r)) := InW.mk' (Int.mul_nonneg sr sr) (by have := Int.mul_le_mul sr' sr' sr (by omega); omega)
      clear hr
      have X1 : ∀ w1 o1 o2 (X : BW ((w1.alloc o1).alloc o2)), Below w.heap.size w w1 → X.to.cell? ⟨q, 0, none⟩ = some (.int .i64 r) := fun w1 o1 o2 X hb => upc (upa (upa (upc hq hb) _) _) X.same
      have X3 : ∀ (w1 : World) t o (X : BW ((w1.alloc (.cells #[.int .u64 (hiU (sq x y)), .int .u64 (loU (sq x y))] t)).alloc o)), X.to.cell? ⟨w1.heap.size, 0, none⟩ = some (.int .u64 (hiU (sq x y))) := fun w1 t o X => upc (upa (by simp [go_sem]) _) X.same
      have X4 : ∀ (w1 : World) t o (X : BW ((w1.alloc (.cells #[.int .u64 (hiU (sq x y)), .int .u64 (loU (sq x y))] t)).alloc o)), X.to.cell? ⟨w1.heap.size, 1, none⟩ = some (.int .u64 (loU (sq x y))) := fun w1 t o X => upc (upa (by simp [go_sem]) _) X.same
      by_cases h0 : 0 ≤ r
      · go_enter Tryz.func101, Tryz.ntmps101
        go_wp2_with (first
          | (go_at_call 82; refine (square_ok x y _ HV.out).mono ?_; rintro e w1 ⟨rfl, hb⟩; have Y0 := fun o => upa (upc hq hb) o)
          | (go_at_call 59; refine (right1_ok r _ _ HR.out (by simp [go_sem])).mono ?_; rintro e w' ⟨rfl, rfl⟩))
        have Y1 := fun o1 o2 X => X1 w1 o1 o2 X hb
        clear X1 Y0
        refine wp_region_quietB (by kernel_rfl) (by kernel_rfl) ?_
        repeat (go_big_quiet_step ((first
          | (go_at_call 63; exact quietS (size_any _ _ (by omega) (by omega)))
          | (go_at_call 62; exact quietB (product2 _ _ _ (by omega) (by omega) (by omega) (by omega)))
          | (go_at_call 95; exact quietB (compareW (sq_inW HV.out) HP.out _)))))
        refine wpQuiet_nil ?_
        rintro _ ⟨⟨wy, hby⟩, rfl⟩
        go_wp2_with fail
        go_ret
        refine Do.ok (by simp [inB, h0, Except.map]) ?_
        exact ((hb.alloc hb.size _).alloc (by have := hb.size; simp; omega) _).trans (hby.mono (by have := hb.size; simp; omega))
      · have h1 : decide (0 ≤ r) = false := by simpa using h0
        go_enter Tryz.func101, Tryz.ntmps101
        go_wp2_with (first
          | (go_at_call 82; refine (square_ok x y _ HV.out).mono ?_; rintro e w1 ⟨rfl, hb⟩; have Y0 := fun o => upa (upc hq hb) o)
          | (go_at_call 59; refine (right1_ok r _ _ HR.out (by simp [go_sem])).mono ?_; rintro e w' ⟨rfl, rfl⟩))
        have Y1 := fun o1 o2 X => X1 w1 o1 o2 X hb
        clear X1 Y0
        refine wp_region_quietB (by kernel_rfl) (by kernel_rfl) ?_
        repeat (go_big_quiet_step (fail))
        refine wpQuiet_nil ?_
        rintro _ ⟨⟨wy, hby⟩, rfl⟩
        go_wp2_with fail
        go_ret
        refine Do.ok (by simp [inB, h1, Except.map]) ?_
        exact ((hb.alloc hb.size _).alloc (by have := hb.size; simp; omega) _).trans (hby.mono (by have := hb.size; simp; omega))
    · rw [if_neg hr]
      have HR := Lib.hid hr
      clear hr
      go_enter Tryz.func101, Tryz.ntmps101
      go_wp2_with (first
        | (go_at_call 82; refine (square_ok x y _ HV.out).mono ?_; rintro e w1 ⟨rfl, hb⟩; have Y0 := fun o => upa (upc hq hb) o)
        | (go_at_call 59; refine (right1_no r _ _ HR.out (by simp [go_sem])).mono ?_; rintro e w' ⟨rfl, rfl⟩))
      exact ⟨rfl, Do.no rfl ((hb.alloc hb.size _).alloc (by have := hb.size; simp; omega) _)⟩
  · rw [if_neg hv]
    have HV := Lib.hid hv
    clear hv
    go_enter Tryz.func101, Tryz.ntmps101
    go_wp2_with (go_at_call 82; refine (square_no x y _ HV.out).mono ?_; rintro e w1 ⟨rfl, hb⟩)
    exact ⟨rfl, Do.no rfl hb⟩

set_option maxHeartbeats 1000000 in
theorem Within_any (x y r : Int) (w : World) :
    Calls Tryz.prog 46 #[.agg #[.int .i64 x, .int .i64 y], .int .i64 r] w fun e w' => e = .returned (.tuple #[.bool (valE false (inR x y r)), .int .i64 (errE (inR x y r))]) ∧ Below w.heap.size w w' := by
  have hmf : ∀ (fn : Fn) (first cap : Array Value) (w : World), (Instr.makeFunc fn first cap).run Tryz.prog w = .ok (.func fn first cap) w := fun _ _ _ _ => rfl
  have HC : Hid (∀ W, Below ((w.alloc (.cells #[.int .i64 x, .int .i64 y] 45)).alloc (.cells #[.int .i64 r] 23)).heap.size ((w.alloc (.cells #[.int .i64 x, .int .i64 y] 45)).alloc (.cells #[.int .i64 r] 23)) W →
      Calls Tryz.prog 101 #[.pointer (some ⟨w.heap.size, 0, none⟩), .pointer (some ⟨w.heap.size + 1, 0, none⟩)] W (Do W ((inR x y r).map (.bool ·)))) := by
    intro W hW
    exact cl101 _ _ x y r W (upc (by simp [go_sem]) hW) (upc (by simp [go_sem]) hW) (upc (by simp [go_sem]) hW)
  go_enter Tryz.func46, Tryz.ntmps46
  go_wp2_with (go_at_call 100; refine (triedBool 101 _ _ _ (enters_of Tryz.func101 (by kernel_rfl) rfl) HC.out).mono ?_; rintro e w1 ⟨rfl, hb⟩)
  go_ret2
  exact ⟨rfl, (((Below.refl _ _).alloc (Nat.le_refl _) _).alloc (by simp) _).trans (hb.mono (by simp; omega))⟩
end Go.Proofs.YthkhhjfldkebcaaGreatDoor
