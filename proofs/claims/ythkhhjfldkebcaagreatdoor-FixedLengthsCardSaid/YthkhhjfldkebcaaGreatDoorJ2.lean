/- Contract: Plus. -/
import Derived.Test.YthkhhjfldkebcaaGreatDoorJ1
namespace Go.Proofs.YthkhhjfldkebcaaGreatDoor
open Go.RowKit Go.Proofs Go.Shelf

theorem add_ok {a b : Int} (h1 : Val a) (h2 : Val b) (h : Val (a + b)) (w : World) : Calls Tryz.prog 75 #[.int .i64 a, .int .i64 b] w fun e w' => e = .returned (.int .i64 (a + b)) ∧ Below w.heap.size w w' := by
  have H := add_any a b w
  rw [show sumR (a + b) (Val a ∧ Val b) = .ok (a + b) by unfold sumR; rw [if_pos ⟨h1, h2⟩]; exact if_pos h] at H
  exact H
theorem add_no {a b : Int} (h1 : Val a) (h2 : Val b) (h : ¬ Val (a + b)) (w : World) : Calls Tryz.prog 75 #[.int .i64 a, .int .i64 b] w fun e w' => e = .panicked (Mis 4) ∧ Below w.heap.size w w' := by
  have H := add_any a b w
  rw [show sumR (a + b) (Val a ∧ Val b) = .error 4 by unfold sumR; rw [if_pos ⟨h1, h2⟩]; exact if_neg h] at H
  exact H

set_option maxHeartbeats 1000000 in
/-- Outside of the range: the work ends. -/
theorem cl132_add_no (a b c : Nat) (x1 y1 x2 y2 : Int) (w : World)
    (ha : w.cell? ⟨a, 0, none⟩ = some (.int .i64 x1)) (ha' : w.cell? ⟨a, 1, none⟩ = some (.int .i64 y1)) (hb : w.cell? ⟨b, 0, none⟩ = some (.int .i64 x2)) (hb' : w.cell? ⟨b, 1, none⟩ = some (.int .i64 y2)) (hc : w.cell? ⟨c, 0, none⟩ = some (.func (.func 75) #[] #[]))
    (hv : Val x1 ∧ Val y1 ∧ Val x2 ∧ Val y2) (hn : ¬ (Val (x1 + x2) ∧ Val (y1 + y2))) :
    Calls Tryz.prog 132 #[.pointer (some ⟨a, 0, none⟩), .pointer (some ⟨b, 0, none⟩), .pointer (some ⟨c, 0, none⟩)] w fun e w' => e = .panicked (Mis 4) ∧ Below w.heap.size w w' := by
  have HV := Lib.hid hv
  have X1 : ∀ o1 o2 (X : BW ((w.alloc o1).alloc o2)), X.to.cell? ⟨a, 0, none⟩ = _ := fun o1 o2 X => upc (upa (upa ha _) _) X.same
  have X2 : ∀ o1 o2 (X : BW ((w.alloc o1).alloc o2)), X.to.cell? ⟨a, 1, none⟩ = _ := fun o1 o2 X => upc (upa (upa ha' _) _) X.same
  have X3 : ∀ o1 o2 (X : BW ((w.alloc o1).alloc o2)), X.to.cell? ⟨b, 0, none⟩ = _ := fun o1 o2 X => upc (upa (upa hb _) _) X.same
  have X4 : ∀ o1 o2 (X : BW ((w.alloc o1).alloc o2)), X.to.cell? ⟨b, 1, none⟩ = _ := fun o1 o2 X => upc (upa (upa hb' _) _) X.same
  have X5 : ∀ o1 o2 (X : BW ((w.alloc o1).alloc o2)), X.to.cell? ⟨c, 0, none⟩ = _ := fun o1 o2 X => upc (upa (upa hc _) _) X.same
  have la := lt_cell ha; have lb := lt_cell hb; have lc := lt_cell hc
  have BB : ∀ o1 o2, Below w.heap.size w ((w.alloc o1).alloc o2) := fun o1 o2 => ((Below.refl _ _).alloc (Nat.le_refl _) _).alloc (by simp) _
  have HN := Lib.hid hn
  by_cases h1 : Val (x1 + x2) <;> by_cases h2 : Val (y1 + y2)
  · exact absurd ⟨h1, h2⟩ hn
  · have H1 := Lib.hid h1; have H2 := Lib.hid h2
    clear hv hn h1 h2
    go_enter Tryz.func132, Tryz.ntmps132
    go_wp2_with (go_at_call 59; refine (right4_ok x1 y1 x2 y2 _ _ HV.out (by simp [go_sem]) (by simp [go_sem]) (by simp [go_sem]) (by simp [go_sem])).mono ?_; rintro e w' ⟨rfl, rfl⟩)
    refine wp_region_ends_lit [true, true, true, true, true, true, true, true, true, true, true] [false, false, false, false, false, false, false, false, false, false, false, true] [12, 13] (by kernel_rfl) (by kernel_rfl) (by simp) (by simp) ?_
    simp only [maskSel]
    repeat (go_big_quiet_step ((go_at_call 75; exact quietB (add_ok HV.out.1 HV.out.2.2.1 H1.out _))))
    refine wpQuiet_nil ?_
    intro o ho
    simp only [List.mem_singleton] at ho
    subst ho
    exact panicsB (r := .error 4) rfl (fun X => by simp [go_sem]) (fun X => add_no HV.out.2.1 HV.out.2.2.2 H2.out _) rfl (BB _ _)
  all_goals
    have H1 := Lib.hid h1
    clear hv hn h1 h2
    go_enter Tryz.func132, Tryz.ntmps132
    go_wp2_with (go_at_call 59; refine (right4_ok x1 y1 x2 y2 _ _ HV.out (by simp [go_sem]) (by simp [go_sem]) (by simp [go_sem]) (by simp [go_sem])).mono ?_; rintro e w' ⟨rfl, rfl⟩)
    refine wp_region_ends_lit [true, true, true, true, true, false, true, true, true, true, true] [false, false, false, false, false, true] [11, 12, 13] (by kernel_rfl) (by kernel_rfl) (by simp) (by simp) ?_
    simp only [maskSel]
    repeat (go_big_quiet_step (fail))
    refine wpQuiet_nil ?_
    intro o ho
    simp only [List.mem_singleton] at ho
    subst ho
    exact panicsB (r := .error 4) rfl (fun X => by simp [go_sem]) (fun X => add_no HV.out.1 HV.out.2.2.1 H1.out _) rfl (BB _ _)

set_option maxHeartbeats 1000000 in
theorem cl132_right_no (a b c : Nat) (x1 y1 x2 y2 : Int) (w : World)
    (ha : w.cell? ⟨a, 0, none⟩ = some (.int .i64 x1)) (ha' : w.cell? ⟨a, 1, none⟩ = some (.int .i64 y1)) (hb : w.cell? ⟨b, 0, none⟩ = some (.int .i64 x2)) (hb' : w.cell? ⟨b, 1, none⟩ = some (.int .i64 y2))
    (hv : ¬ (Val x1 ∧ Val y1 ∧ Val x2 ∧ Val y2)) :
    Calls Tryz.prog 132 #[.pointer (some ⟨a, 0, none⟩), .pointer (some ⟨b, 0, none⟩), .pointer (some ⟨c, 0, none⟩)] w fun e w' => e = .panicked (Mis 2) ∧ Below w.heap.size w w' := by
  have HV := Lib.hid hv
  have la := lt_cell ha; have lb := lt_cell hb
  have U1 := fun o => upa ha o
  have U2 := fun o => upa ha' o
  have U3 := fun o => upa hb o
  have U4 := fun o => upa hb' o
  clear hv
  go_enter Tryz.func132, Tryz.ntmps132
  go_wp2_with (go_at_call 59; refine (right4_no x1 y1 x2 y2 _ _ HV.out (by simp [go_sem]) (by simp [go_sem]) (by simp [go_sem]) (by simp [go_sem])).mono ?_; rintro e w' ⟨rfl, rfl⟩)
  exact ⟨rfl, rfl, ((Below.refl _ _).alloc (Nat.le_refl _) _).alloc (by simp) _⟩

/-- What Plus comes to. -/
def plusR (x1 y1 x2 y2 : Int) : Except Int (Int × Int) := if Val x1 ∧ Val y1 ∧ Val x2 ∧ Val y2 then (if Val (x1 + x2) ∧ Val (y1 + y2) then .ok (x1 + x2, y1 + y2) else .error 4) else .error 2

set_option maxHeartbeats 1000000 in
theorem each_add (x1 y1 x2 y2 : Int) (w : World) :
    Calls Tryz.prog 83 #[.agg #[.int .i64 x1, .int .i64 y1], .agg #[.int .i64 x2, .int .i64 y2], .func (.func 75) #[] #[]] w fun e w' => e = .returned (.tuple #[Sp (valE (0, 0) (plusR x1 y1 x2 y2)), .int .i64 (errE (plusR x1 y1 x2 y2))]) ∧ Below w.heap.size w w' := by
  refine each_any 75 #[] x1 y1 x2 y2 (plusR x1 y1 x2 y2) w ?_
  intro W a b c hW a0 a1 b0 b1 c0
  unfold plusR
  by_cases hv : Val x1 ∧ Val y1 ∧ Val x2 ∧ Val y2
  · rw [if_pos hv]
    by_cases hs : Val (x1 + x2) ∧ Val (y1 + y2)
    · rw [if_pos hs]
      exact cl132_ok 75 #[] (enters_of Tryz.func75 (by kernel_rfl) rfl) a b c x1 y1 x2 y2 _ _ W a0 a1 b0 b1 c0 hv (fun W3 _ => add_ok hv.1 hv.2.2.1 hs.1 W3) (fun W3 _ => add_ok hv.2.1 hv.2.2.2 hs.2 W3)
    · rw [if_neg hs]
      exact cl132_add_no a b c x1 y1 x2 y2 W a0 a1 b0 b1 c0 hv hs
  · rw [if_neg hv]
    exact cl132_right_no a b c x1 y1 x2 y2 W a0 a1 b0 b1 hv

set_option maxHeartbeats 1000000 in
theorem Plus_any (x1 y1 x2 y2 : Int) (w : World) :
    Calls Tryz.prog 49 #[.agg #[.int .i64 x1, .int .i64 y1], .agg #[.int .i64 x2, .int .i64 y2]] w fun e w' => e = .returned (.tuple #[Sp (valE (0, 0) (plusR x1 y1 x2 y2)), .int .i64 (errE (plusR x1 y1 x2 y2))]) ∧ Below w.heap.size w w' := by
  have HE := Lib.hid (each_add x1 y1 x2 y2)
  obtain ⟨r, hr⟩ : ∃ r, plusR x1 y1 x2 y2 = r := ⟨_, rfl⟩
  rw [hr] at HE ⊢
  clear hr
  obtain ⟨v, hv⟩ : ∃ v, valE (0, 0) r = v := ⟨_, rfl⟩
  have HV := Lib.hid hv
  rw [hv]
  clear hv
  obtain ⟨v1, v2⟩ := v
  go_enter Tryz.func49, Tryz.ntmps49
  go_wp2_with (go_at_call 83; refine (HE.out _).mono ?_; rintro e w1 ⟨rfl, hb⟩; rw [HV.out]; have hc := bcell hb; have hsz := hb.size; simp only [World.size_alloc] at hc hsz; have z0 : w1.cell? ⟨w.heap.size + 1 + 1, 0, none⟩ = some (.int .i64 0) := (by rw [hc.1 _ _ (by omega)]; simp [go_sem]); have z1 : w1.cell? ⟨w.heap.size + 1 + 1, 1, none⟩ = some (.int .i64 0) := (by rw [hc.1 _ _ (by omega)]; simp [go_sem]); have g0 : w1.frozen? ⟨w.heap.size + 1 + 1, 0, none⟩ = false := (by rw [hc.2 _ _ (by omega)]; simp [go_sem]); have g1 : w1.frozen? ⟨w.heap.size + 1 + 1, 1, none⟩ = false := (by rw [hc.2 _ _ (by omega)]; simp [go_sem]); clear hc)
  obtain ⟨y0, y1⟩ := two_cells z0 z1 (.int .i64 v1) (.int .i64 v2)
  refine bodyPost_ret (v := .tuple #[Sp (v1, v2), .int .i64 (errE r)]) (by simp [results, Tryz.results49, go_sem, y0, y1]) rfl ⟨rfl, ?_⟩
  exact (((((Below.refl _ _).alloc (Nat.le_refl _) _).alloc (by simp) _).alloc (by simp; omega) _).trans (hb.mono (by simp; omega))).setCell (p := ⟨w.heap.size + 1 + 1, 0, none⟩) (by simp; omega) _ |>.setCell (p := ⟨w.heap.size + 1 + 1, 1, none⟩) (by simp; omega) _
end Go.Proofs.YthkhhjfldkebcaaGreatDoor
