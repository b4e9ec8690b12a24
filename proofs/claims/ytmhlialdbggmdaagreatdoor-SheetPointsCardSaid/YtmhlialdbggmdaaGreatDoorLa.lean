/- The walks of SheetContacts and SheetPlaces: they answer true. -/
import Derived.Test.YtmhlialdbggmdaaGreatDoorAw
import Derived.Deep.Cut
namespace Go.Proofs.YtmhlialdbggmdaaGreatDoor
open Go.RowKit Go.Proofs Go.Shelf

theorem touR_form (a b c d : Int) : ∃ z e : Int, touR a b c d = .tuple #[.int .i64 z, .int .i64 e] := by
  unfold touR; split <;> exact ⟨_, _, rfl⟩
theorem zoneR_form (x y : Int) : ∃ z e : Int, zoneR x y = .tuple #[.int .i64 z, .int .i64 e] := by
  unfold zoneR; split <;> exact ⟨_, _, rfl⟩

set_option maxHeartbeats 1000000 in
theorem Contacts_law (a b c d : Int) (w : World) (hE : ErrMem w) (hT : Tab w) : Calls Tryz.prog 3 #[Sp a b, Sp c d] w (Back (.bool true) w) := by
  obtain ⟨z, e, hz⟩ := touR_form a b c d
  have H1 : Hid (∀ w, Calls Tryz.prog 10 #[Sp a b, Sp c d] w (Back (.tuple #[.int .i64 z, .int .i64 e]) w)) := fun w => by rw [← hz]; exact Contact_any a b c d w
  have H2 : Hid (∀ w, Calls Tryz.prog 11 #[Sp a b, Sp c d] w (Back (.tuple #[.int .i64 z, .int .i64 e]) w)) := fun w => by rw [← hz]; exact refContact a b c d w
  have H3 : Hid (∀ w, Calls Tryz.prog 10 #[Sp c d, Sp a b] w (Back (.tuple #[.int .i64 z, .int .i64 e]) w)) := fun w => by rw [← hz, touR_comm]; exact Contact_any c d a b w
  have H4 : Hid (∀ W, Below w.heap.size w W → Calls Tryz.prog 12 #[] W (Back (.bool true) W)) := fun W hb => awake_any W (Lib.tabBelow_of_tabIs hT W hb) (hE.up hb)
  clear hz hE hT
  obtain ⟨w0, hw0⟩ : ∃ w0, (w.alloc (.cells #[.int .i64 a, .int .i64 b] 24)).alloc (.cells #[.int .i64 c, .int .i64 d] 24) = w0 := ⟨_, rfl⟩
  have B : Hid (Below w.heap.size w w0) := by show Below _ _ _; rw [← hw0]; exact ((Below.refl _ _).alloc (Nat.le_refl _) _).alloc (by simp) _
  have c0 : w0.cell? ⟨w.heap.size, 0, none⟩ = some (.int .i64 a) := by rw [← hw0]; simp [go_sem]
  have c1 : w0.cell? ⟨w.heap.size, 1, none⟩ = some (.int .i64 b) := by rw [← hw0]; simp [go_sem]
  have c2 : w0.cell? ⟨w.heap.size + 1, 0, none⟩ = some (.int .i64 c) := by rw [← hw0]; simp [go_sem]
  have c3 : w0.cell? ⟨w.heap.size + 1, 1, none⟩ = some (.int .i64 d) := by rw [← hw0]; simp [go_sem]
  go_enter Tryz.func3, Tryz.ntmps3
  go_wp2_with (first
    | (go_at_call 10; first
      | ((with_reducible refine (H1.out _).mono ?_); rintro e w1 ⟨rfl, hb1⟩; replace c0 := upc c0 hb1; replace c1 := upc c1 hb1; replace c2 := upc c2 hb1; replace c3 := upc c3 hb1; replace B := Lib.hid (B.out.trans (hb1.mono B.out.size)); clear hb1)
      | ((with_reducible refine (H3.out _).mono ?_); rintro e w1 ⟨rfl, hb1⟩; replace B := Lib.hid (B.out.trans (hb1.mono B.out.size)); clear hb1))
    | (go_at_call 11; (with_reducible refine (H2.out _).mono ?_); rintro e w1 ⟨rfl, hb1⟩; replace c0 := upc c0 hb1; replace c1 := upc c1 hb1; replace c2 := upc c2 hb1; replace c3 := upc c3 hb1; replace B := Lib.hid (B.out.trans (hb1.mono B.out.size)); clear hb1)
    | (go_at_call 12; (with_reducible refine (H4.out _ B.out).mono ?_); rintro e w1 ⟨rfl, hb1⟩; replace B := Lib.hid (B.out.trans (hb1.mono B.out.size)); clear hb1))
  go_ret
  exact ⟨rfl, B.out⟩

theorem OkS_neg (x y : Int) : OkS (-x) y ↔ OkS x y := by unfold OkS; omega
theorem Play_neg (x y : Int) : Play (-x) y ↔ Play x y := by unfold Play; rw [ab_neg]
theorem sqd_neg (x y : Int) : sqd (-x) y = sqd x y := by unfold sqd; rw [Int.neg_mul_neg]
theorem zoneZ_neg (x y : Int) : zoneZ (-x) y = zoneZ x y := by
  unfold zoneZ; rw [sqd_neg]
  by_cases h : Play x y
  · rw [if_pos h, if_pos ((Play_neg x y).2 h)]
  · rw [if_neg h, if_neg (fun h' => h ((Play_neg x y).1 h'))]
theorem onC_neg (x y : Int) : decide (Play (-x) y ∧ ab (-x) ≤ 9502720) = decide (Play x y ∧ ab x ≤ 9502720) := by
  rw [ab_neg, decide_eq_decide, Play_neg]

set_option maxHeartbeats 2000000 in
theorem Places_law (x y : Int) (w : World) (hE : ErrMem w) (hT : Tab w) : Calls Tryz.prog 5 #[Sp x y] w (Back (.bool true) w) := by
  have H12 : Hid (∀ W, Below w.heap.size w W → Calls Tryz.prog 12 #[] W (Back (.bool true) W)) := fun W hb => awake_any W (Lib.tabBelow_of_tabIs hT W hb) (hE.up hb)
  obtain ⟨w0, hw0⟩ : ∃ w0, w.alloc (.cells #[.int .i64 x, .int .i64 y] 24) = w0 := ⟨_, rfl⟩
  have B : Hid (Below w.heap.size w w0) := by show Below _ _ _; rw [← hw0]; exact (Below.refl _ _).alloc (Nat.le_refl _) _
  have c0 : w0.cell? ⟨w.heap.size, 0, none⟩ = some (.int .i64 x) := by rw [← hw0]; simp [go_sem]
  have c1 : w0.cell? ⟨w.heap.size, 1, none⟩ = some (.int .i64 y) := by rw [← hw0]; simp [go_sem]
  have f0 : w0.frozen? ⟨w.heap.size, 0, none⟩ = false := by rw [← hw0]; simp [go_sem]
  clear hE hT
  by_cases hok : OkS x y
  · obtain ⟨z, hz⟩ : ∃ z, zoneZ x y = z := ⟨_, rfl⟩
    obtain ⟨b, hb⟩ : ∃ b, decide (Play x y ∧ ab x ≤ 9502720) = b := ⟨_, rfl⟩
    have e1 : zoneR x y = .tuple #[.int .i64 z, .int .i64 0] := by unfold zoneR; rw [if_pos hok, hz]
    have e2 : onR x y = .tuple #[.bool b, .int .i64 0] := by unfold onR; rw [if_pos hok, hb]
    have e3 : zoneR (-x) y = .tuple #[.int .i64 z, .int .i64 0] := by unfold zoneR; rw [if_pos ((OkS_neg x y).2 hok), zoneZ_neg, hz]
    have e4 : onR (-x) y = .tuple #[.bool b, .int .i64 0] := by unfold onR; rw [if_pos ((OkS_neg x y).2 hok), onC_neg, hb]
    have H1 : Hid (∀ w, Calls Tryz.prog 18 #[Sp x y] w (Back (.tuple #[.int .i64 z, .int .i64 0]) w)) := fun w => by rw [← e1]; exact Zone_any x y w
    have H2 : Hid (∀ w, Calls Tryz.prog 19 #[Sp x y] w (Back (.tuple #[.int .i64 z, .int .i64 0]) w)) := fun w => by rw [← e1]; exact refZone x y w
    have H3 : Hid (∀ w, Calls Tryz.prog 20 #[Sp x y] w (Back (.tuple #[.bool b, .int .i64 0]) w)) := fun w => by rw [← e2]; exact OnCentre_any x y w
    have H4 : Hid (∀ w, Calls Tryz.prog 21 #[Sp x y] w (Back (.tuple #[.bool b, .int .i64 0]) w)) := fun w => by rw [← e2]; exact refOnCentre x y w
    have H5 : Hid (∀ w, Calls Tryz.prog 22 #[Sp x y] w (Back (.bool true) w)) := fun w => by have := CheckSpot_any x y w; rwa [decide_eq_true hok] at this
    have H6 : Hid (∀ w, Calls Tryz.prog 23 #[Sp x y] w (Back (.bool true) w)) := fun w => by have := refCheckSpot x y w; rwa [decide_eq_true hok] at this
    have H7 : Hid (∀ w, Calls Tryz.prog 18 #[Sp (-x) y] w (Back (.tuple #[.int .i64 z, .int .i64 0]) w)) := fun w => by rw [← e3]; exact Zone_any (-x) y w
    have H8 : Hid (∀ w, Calls Tryz.prog 20 #[Sp (-x) y] w (Back (.tuple #[.bool b, .int .i64 0]) w)) := fun w => by rw [← e4]; exact OnCentre_any (-x) y w
    have hx : -6553600000 ≤ x ∧ x ≤ 6553600000 := hok.1
    obtain ⟨hx1, hx2⟩ := hx
    clear e1 e2 e3 e4 hz hb hok
    go_enter Tryz.func5, Tryz.ntmps5
    go_upto_region 5 with (first
      | (go_at_call 18; (with_reducible refine (H1.out _).mono ?_); rintro e w1 ⟨rfl, hb1⟩; replace f0 := (hb1.frozen (p := ⟨w.heap.size, 0, none⟩) (lt_cell c0)).trans f0; replace c0 := upc c0 hb1; replace c1 := upc c1 hb1; replace B := Lib.hid (B.out.trans (hb1.mono B.out.size)); clear hb1)
      | (go_at_call 19; (with_reducible refine (H2.out _).mono ?_); rintro e w1 ⟨rfl, hb1⟩; replace f0 := (hb1.frozen (p := ⟨w.heap.size, 0, none⟩) (lt_cell c0)).trans f0; replace c0 := upc c0 hb1; replace c1 := upc c1 hb1; replace B := Lib.hid (B.out.trans (hb1.mono B.out.size)); clear hb1)
      | (go_at_call 20; (with_reducible refine (H3.out _).mono ?_); rintro e w1 ⟨rfl, hb1⟩; replace f0 := (hb1.frozen (p := ⟨w.heap.size, 0, none⟩) (lt_cell c0)).trans f0; replace c0 := upc c0 hb1; replace c1 := upc c1 hb1; replace B := Lib.hid (B.out.trans (hb1.mono B.out.size)); clear hb1)
      | (go_at_call 21; (with_reducible refine (H4.out _).mono ?_); rintro e w4 ⟨rfl, hb1⟩; replace f0 := (hb1.frozen (p := ⟨w.heap.size, 0, none⟩) (lt_cell c0)).trans f0; replace c0 := upc c0 hb1; replace c1 := upc c1 hb1; replace B := Lib.hid (B.out.trans (hb1.mono B.out.size)); clear hb1))
    have q0 : ∀ X : BW w4, X.to.cell? ⟨w.heap.size, 0, none⟩ = some (.int .i64 x) := fun X => upc c0 X.same
    have q1 : ∀ X : BW w4, X.to.cell? ⟨w.heap.size, 1, none⟩ = some (.int .i64 y) := fun X => upc c1 X.same
    refine wp_region_quietB (by kernel_rfl) (by kernel_rfl) ?_
    repeat (go_big_quiet_step ((first | (go_at_call 22; exact quietB (H5.out _)) | (go_at_call 23; exact quietB (H6.out _)))))
    refine wpQuiet_nil ?_
    rintro wy ⟨⟨wz, hby⟩, hwz⟩
    change wy = wz at hwz
    subst hwz
    replace f0 := (hby.frozen (p := ⟨w.heap.size, 0, none⟩) (lt_cell c0)).trans f0
    replace c0 := upc c0 hby
    replace c1 := upc c1 hby
    replace B := Lib.hid (B.out.trans (hby.mono B.out.size))
    clear q0 q1 hby
    clear H1 H2 H3 H4 H5 H6
    have hneg : IntKind.i64.wrap (-x) = -x := IntWalk.i64_in _ (by omega)
    go_upto_region 10 with fail
    have d0 : (wy.setCell ⟨w.heap.size, 0, none⟩ (.int .i64 (-x))).cell? ⟨w.heap.size, 0, none⟩ = some (.int .i64 (-x)) := World.cell?_setCell_same _ _ _ c0
    have d1 : (wy.setCell ⟨w.heap.size, 0, none⟩ (.int .i64 (-x))).cell? ⟨w.heap.size, 1, none⟩ = some (.int .i64 y) := (World.cell?_setCell_other _ _ _ _ (by simp)).trans c1
    replace B := Lib.hid (B.out.setCell (p := ⟨w.heap.size, 0, none⟩) (by simp) (.int .i64 (-x)))
    clear c0 c1 f0 hneg
    generalize wy.setCell ⟨w.heap.size, 0, none⟩ (.int .i64 (-x)) = w7 at d0 d1 B ⊢
    go_wp2_with (first
      | (go_at_call 18; (with_reducible refine (H7.out _).mono ?_); rintro e w1 ⟨rfl, hb1⟩; replace d0 := upc d0 hb1; replace d1 := upc d1 hb1; replace B := Lib.hid (B.out.trans (hb1.mono B.out.size)); clear hb1)
      | (go_at_call 20; (with_reducible refine (H8.out _).mono ?_); rintro e w1 ⟨rfl, hb1⟩; replace B := Lib.hid (B.out.trans (hb1.mono B.out.size)); clear hb1)
      | (go_at_call 12; (with_reducible refine (H12.out _ B.out).mono ?_); rintro e w1 ⟨rfl, hb1⟩; replace B := Lib.hid (B.out.trans (hb1.mono B.out.size)); clear hb1))
    go_ret
    exact ⟨rfl, B.out⟩
  · have e1 : zoneR x y = .tuple #[.int .i64 0, .int .i64 2] := by unfold zoneR; rw [if_neg hok]
    have e2 : onR x y = .tuple #[.bool false, .int .i64 2] := by unfold onR; rw [if_neg hok]
    have H1 : Hid (∀ w, Calls Tryz.prog 18 #[Sp x y] w (Back (.tuple #[.int .i64 0, .int .i64 2]) w)) := fun w => by rw [← e1]; exact Zone_any x y w
    have H2 : Hid (∀ w, Calls Tryz.prog 19 #[Sp x y] w (Back (.tuple #[.int .i64 0, .int .i64 2]) w)) := fun w => by rw [← e1]; exact refZone x y w
    have H3 : Hid (∀ w, Calls Tryz.prog 20 #[Sp x y] w (Back (.tuple #[.bool false, .int .i64 2]) w)) := fun w => by rw [← e2]; exact OnCentre_any x y w
    have H4 : Hid (∀ w, Calls Tryz.prog 21 #[Sp x y] w (Back (.tuple #[.bool false, .int .i64 2]) w)) := fun w => by rw [← e2]; exact refOnCentre x y w
    have H5 : Hid (∀ w, Calls Tryz.prog 22 #[Sp x y] w (Back (.bool false) w)) := fun w => by have := CheckSpot_any x y w; rwa [decide_eq_false hok] at this
    have H6 : Hid (∀ w, Calls Tryz.prog 23 #[Sp x y] w (Back (.bool false) w)) := fun w => by have := refCheckSpot x y w; rwa [decide_eq_false hok] at this
    clear e1 e2 hok
    go_enter Tryz.func5, Tryz.ntmps5
    go_upto_region 5 with (first
      | (go_at_call 18; (with_reducible refine (H1.out _).mono ?_); rintro e w1 ⟨rfl, hb1⟩; replace f0 := (hb1.frozen (p := ⟨w.heap.size, 0, none⟩) (lt_cell c0)).trans f0; replace c0 := upc c0 hb1; replace c1 := upc c1 hb1; replace B := Lib.hid (B.out.trans (hb1.mono B.out.size)); clear hb1)
      | (go_at_call 19; (with_reducible refine (H2.out _).mono ?_); rintro e w1 ⟨rfl, hb1⟩; replace f0 := (hb1.frozen (p := ⟨w.heap.size, 0, none⟩) (lt_cell c0)).trans f0; replace c0 := upc c0 hb1; replace c1 := upc c1 hb1; replace B := Lib.hid (B.out.trans (hb1.mono B.out.size)); clear hb1)
      | (go_at_call 20; (with_reducible refine (H3.out _).mono ?_); rintro e w1 ⟨rfl, hb1⟩; replace f0 := (hb1.frozen (p := ⟨w.heap.size, 0, none⟩) (lt_cell c0)).trans f0; replace c0 := upc c0 hb1; replace c1 := upc c1 hb1; replace B := Lib.hid (B.out.trans (hb1.mono B.out.size)); clear hb1)
      | (go_at_call 21; (with_reducible refine (H4.out _).mono ?_); rintro e w4 ⟨rfl, hb1⟩; replace f0 := (hb1.frozen (p := ⟨w.heap.size, 0, none⟩) (lt_cell c0)).trans f0; replace c0 := upc c0 hb1; replace c1 := upc c1 hb1; replace B := Lib.hid (B.out.trans (hb1.mono B.out.size)); clear hb1))
    have q0 : ∀ X : BW w4, X.to.cell? ⟨w.heap.size, 0, none⟩ = some (.int .i64 x) := fun X => upc c0 X.same
    have q1 : ∀ X : BW w4, X.to.cell? ⟨w.heap.size, 1, none⟩ = some (.int .i64 y) := fun X => upc c1 X.same
    refine wp_region_quietB (by kernel_rfl) (by kernel_rfl) ?_
    repeat (go_big_quiet_step ((first | (go_at_call 22; exact quietB (H5.out _)) | (go_at_call 23; exact quietB (H6.out _)))))
    refine wpQuiet_nil ?_
    rintro wy ⟨⟨wz, hby⟩, hwz⟩
    change wy = wz at hwz
    subst hwz
    replace B := Lib.hid (B.out.trans (hby.mono B.out.size))
    clear q0 q1 hby c0 c1 f0
    go_wp2_with (go_at_call 12; (with_reducible refine (H12.out _ B.out).mono ?_); rintro e w1 ⟨rfl, hb1⟩; replace B := Lib.hid (B.out.trans (hb1.mono B.out.size)); clear hb1)
    go_ret
    exact ⟨rfl, B.out⟩
end Go.Proofs.YtmhlialdbggmdaaGreatDoor
