/- Contracts: Zone, OnCentre, Contact, and the document's. -/
import Derived.Test.YtomcpgdpjpjioaaA
namespace Go.Proofs.Ytomcpgdpjpjioaa
open Go.RowKit Go.Proofs

/-- A Spot's value. -/
abbrev Sp (x y : Int) : Value := .agg #[.int .i64 x, .int .i64 y]
theorem refInHouse (x y : Int) (w : World) (h : OkS x y) : Calls Try.prog 97 #[Sp x y] w (Back (.bool (decide (InH x y))) w) := by
  have H1 := Lib.hid (fun w => refPlaying x y w h)
  obtain ⟨r, hr⟩ : ∃ r, decide (InH x y) = r := ⟨_, rfl⟩
  rw [hr]
  by_cases hp : Play x y
  · rw [decide_eq_true hp] at H1
    have H2 := Lib.hid (fun w => refSquare x y w (sqd_bound hp))
    obtain ⟨s, hs⟩ : ∃ s, sqd x y = s := ⟨_, rfl⟩
    have e : decide (s ≤ 16736095983108096) = r := by rw [← hr, ← hs]; exact decide_eq_decide.2 ⟨fun h => ⟨hp, h⟩, fun h => h.2⟩
    rw [hs] at H2
    clear hr hs hp h
    go_enter Try.func97, Try.ntmps97
    go_wp2_with (first
      | (go_at_call 53; refine (H1.out _).mono ?_; rintro e w1 ⟨rfl, hb1⟩; have c0 : w1.cell? ⟨w.heap.size, 0, none⟩ = some (.int .i64 x) := (upc (by simp [go_sem]) hb1); have c1 : w1.cell? ⟨w.heap.size, 1, none⟩ = some (.int .i64 y) := (upc (by simp [go_sem]) hb1))
      | (go_at_call 109; refine (H2.out _).mono ?_; rintro e w2 ⟨rfl, hb2⟩))
    go_ret
    have b1 := ((Below.refl w.heap.size w).alloc (Nat.le_refl _) _).trans (hb1.mono (by simp))
    exact ⟨rfl, b1.trans (hb2.mono b1.size)⟩
  · rw [decide_eq_false hp] at H1
    obtain rfl : r = false := by rw [← hr]; exact decide_eq_false (fun h => hp h.1)
    clear hr hp h
    go_enter Try.func97, Try.ntmps97
    go_wp2_with (go_at_call 53; refine (H1.out _).mono ?_; rintro e w1 ⟨rfl, hb1⟩)
    go_ret
    exact ⟨rfl, ((Below.refl w.heap.size w).alloc (Nat.le_refl _) _).trans (hb1.mono (by simp))⟩

def zoneR (x y : Int) : Value := if OkS x y then .tuple #[.int .i64 (zoneZ x y), .int .i64 0] else .tuple #[.int .i64 0, .int .i64 2]
theorem Zone_any (x y : Int) (w : World) : Calls Try.prog 80 #[Sp x y] w (Back (zoneR x y) w) := by
  have H1 := Lib.hid (fun w => CheckSpot_any x y w)
  unfold zoneR
  by_cases hp : OkS x y
  · rw [decide_eq_true hp] at H1
    have H2 := Lib.hid (fun w => zone_any x y w hp)
    rw [if_pos hp]
    obtain ⟨z, hz⟩ : ∃ z, zoneZ x y = z := ⟨_, rfl⟩
    rw [hz] at H2 ⊢
    clear hp hz
    go_enter Try.func80, Try.ntmps80
    go_wp2_with (first
      | (go_at_call 56; refine (H1.out _).mono ?_; rintro e w1 ⟨rfl, hb1⟩; have c0 : w1.cell? ⟨w.heap.size, 0, none⟩ = some (.int .i64 x) := (upc (by simp [go_sem]) hb1); have c1 : w1.cell? ⟨w.heap.size, 1, none⟩ = some (.int .i64 y) := (upc (by simp [go_sem]) hb1))
      | (go_at_call 57; refine (H2.out _).mono ?_; rintro e w2 ⟨rfl, hb2⟩))
    go_ret2
    have b1 := ((Below.refl w.heap.size w).alloc (Nat.le_refl _) _).trans (hb1.mono (by simp))
    exact ⟨rfl, b1.trans (hb2.mono b1.size)⟩
  · rw [decide_eq_false hp] at H1
    rw [if_neg hp]
    clear hp
    go_enter Try.func80, Try.ntmps80
    go_wp2_with (go_at_call 56; refine (H1.out _).mono ?_; rintro e w1 ⟨rfl, hb1⟩)
    go_ret2
    exact ⟨rfl, ((Below.refl w.heap.size w).alloc (Nat.le_refl _) _).trans (hb1.mono (by simp))⟩
theorem refZone (x y : Int) (w : World) : Calls Try.prog 82 #[Sp x y] w (Back (zoneR x y) w) := by
  have H1 := Lib.hid (fun w => refCheckSpot x y w)
  unfold zoneR
  by_cases hp : OkS x y
  · rw [decide_eq_true hp] at H1
    have H2 := Lib.hid (fun w => refPlaying x y w hp)
    have H3 := Lib.hid (fun w => refInHouse x y w hp)
    rw [if_pos hp]
    have hy : -6553600000 ≤ y ∧ y ≤ 6553600000 := hp.2
    obtain ⟨y1, y2⟩ := hy
    have hc : (¬ Play x y ∧ zoneZ x y = 0) ∨ (Play x y ∧ InH x y ∧ zoneZ x y = 2) ∨ (Play x y ∧ ¬ InH x y ∧ y + 9502720 < 0 ∧ zoneZ x y = 1) ∨ (Play x y ∧ ¬ InH x y ∧ ¬ y + 9502720 < 0 ∧ zoneZ x y = 3) := by
      unfold zoneZ InH
      by_cases h1 : Play x y
      · by_cases h2 : sqd x y ≤ 16736095983108096
        · exact .inr (.inl ⟨h1, ⟨h1, h2⟩, by rw [if_pos h1, if_pos h2]⟩)
        · by_cases h3 : y + 9502720 < 0
          · exact .inr (.inr (.inl ⟨h1, fun h => h2 h.2, h3, by rw [if_pos h1, if_neg h2, if_pos h3]⟩))
          · exact .inr (.inr (.inr ⟨h1, fun h => h2 h.2, h3, by rw [if_pos h1, if_neg h2, if_neg h3]⟩))
      · exact .inl ⟨h1, if_neg h1⟩
    clear hp
    rcases hc with ⟨h1, h2⟩ | ⟨h1, h3, h2⟩ | ⟨h1, h3, h4, h2⟩ | ⟨h1, h3, h4, h2⟩
    all_goals
      first | rw [decide_eq_true h1] at H2 | rw [decide_eq_false h1] at H2
      try (first | rw [decide_eq_true h3] at H3 | rw [decide_eq_false h3] at H3)
      rw [h2]
      clear h1 h2
      try clear h3
      go_enter Try.func82, Try.ntmps82
      go_wp2_with (first
        | (go_at_call 52; refine (H1.out _).mono ?_; rintro e w1 ⟨rfl, hb1⟩; have c0 : w1.cell? ⟨w.heap.size, 0, none⟩ = some (.int .i64 x) := (upc (by simp [go_sem]) hb1); have c1 : w1.cell? ⟨w.heap.size, 1, none⟩ = some (.int .i64 y) := (upc (by simp [go_sem]) hb1); have B := Lib.hid (((Below.refl w.heap.size w).alloc (Nat.le_refl _) _).trans (hb1.mono (by simp))); clear hb1)
        | (go_at_call 53; refine (H2.out _).mono ?_; rintro e w2 ⟨rfl, hb2⟩; replace B := Lib.hid (B.out.trans (hb2.mono B.out.size)); replace c0 := upc c0 hb2; replace c1 := upc c1 hb2; clear hb2)
        | (go_at_call 97; refine (H3.out _).mono ?_; rintro e w3 ⟨rfl, hb3⟩; replace B := Lib.hid (B.out.trans (hb3.mono B.out.size)); replace c0 := upc c0 hb3; replace c1 := upc c1 hb3; clear hb3))
      go_ret2
      exact ⟨rfl, B.out⟩
  · rw [decide_eq_false hp] at H1
    rw [if_neg hp]
    clear hp
    go_enter Try.func82, Try.ntmps82
    go_wp2_with (go_at_call 52; refine (H1.out _).mono ?_; rintro e w1 ⟨rfl, hb1⟩)
    go_ret2
    exact ⟨rfl, ((Below.refl w.heap.size w).alloc (Nat.le_refl _) _).trans (hb1.mono (by simp))⟩

def onR (x y : Int) : Value := if OkS x y then .tuple #[.bool (decide (Play x y ∧ ab x ≤ 9502720)), .int .i64 0] else .tuple #[.bool false, .int .i64 2]
theorem OnCentre_any (x y : Int) (w : World) : Calls Try.prog 81 #[Sp x y] w (Back (onR x y) w) := by
  have H1 := Lib.hid (fun w => CheckSpot_any x y w)
  unfold onR
  by_cases hp : OkS x y
  · rw [decide_eq_true hp] at H1
    have H2 := Lib.hid (fun w => zone_any x y w hp)
    have H3 : Hid (∀ w, Calls Try.prog 75 #[.int .i64 x] w fun e w' => e = .returned (.int .i64 (ab x)) ∧ w = w') := fun w => size_any x w (by have := hp.1; omega) (by have := hp.1; omega)
    rw [if_pos hp]
    obtain ⟨z, hz⟩ : ∃ z, zoneZ x y = z := ⟨_, rfl⟩
    obtain ⟨a, ha⟩ : ∃ a, ab x = a := ⟨_, rfl⟩
    have hc : (z ≠ 0 ∧ decide (a ≤ 9502720) = decide (Play x y ∧ a ≤ 9502720)) ∨ (z = 0 ∧ decide (Play x y ∧ a ≤ 9502720) = false) := by
      by_cases h1 : Play x y
      · refine .inl ⟨?_, decide_eq_decide.2 ⟨fun h => ⟨h1, h⟩, fun h => h.2⟩⟩
        rw [← hz]; exact fun h => (zone_away x y).1 h h1
      · exact .inr ⟨by rw [← hz]; exact (zone_away x y).2 h1, decide_eq_false (fun h => h1 h.1)⟩
    rw [hz] at H2
    rw [ha] at H3 ⊢
    obtain ⟨r, hr⟩ : ∃ r, decide (Play x y ∧ a ≤ 9502720) = r := ⟨_, rfl⟩
    rw [hr] at hc ⊢
    clear hp hz ha hr
    rcases hc with ⟨h1, h2⟩ | ⟨rfl, rfl⟩
    · have h1' : (z != 0) = true := by simpa using h1
      clear h1
      go_enter Try.func81, Try.ntmps81
      go_wp2_with (first
        | (go_at_call 56; refine (H1.out _).mono ?_; rintro e w1 ⟨rfl, hb1⟩; have c0 : w1.cell? ⟨w.heap.size, 0, none⟩ = some (.int .i64 x) := (upc (by simp [go_sem]) hb1); have c1 : w1.cell? ⟨w.heap.size, 1, none⟩ = some (.int .i64 y) := (upc (by simp [go_sem]) hb1))
        | (go_at_call 57; refine (H2.out _).mono ?_; rintro e w2 ⟨rfl, hb2⟩; replace c0 := upc c0 hb2; replace c1 := upc c1 hb2)
        | (go_at_call 75; refine (H3.out _).mono ?_; rintro e w' ⟨rfl, rfl⟩))
      go_ret2
      have b1 := ((Below.refl w.heap.size w).alloc (Nat.le_refl _) _).trans (hb1.mono (by simp))
      exact ⟨rfl, b1.trans (hb2.mono b1.size)⟩
    · go_enter Try.func81, Try.ntmps81
      go_wp2_with (first
        | (go_at_call 56; refine (H1.out _).mono ?_; rintro e w1 ⟨rfl, hb1⟩; have c0 : w1.cell? ⟨w.heap.size, 0, none⟩ = some (.int .i64 x) := (upc (by simp [go_sem]) hb1); have c1 : w1.cell? ⟨w.heap.size, 1, none⟩ = some (.int .i64 y) := (upc (by simp [go_sem]) hb1))
        | (go_at_call 57; refine (H2.out _).mono ?_; rintro e w2 ⟨rfl, hb2⟩; replace c0 := upc c0 hb2; replace c1 := upc c1 hb2))
      go_ret2
      have b1 := ((Below.refl w.heap.size w).alloc (Nat.le_refl _) _).trans (hb1.mono (by simp))
      exact ⟨rfl, b1.trans (hb2.mono b1.size)⟩
  · rw [decide_eq_false hp] at H1
    rw [if_neg hp]
    clear hp
    go_enter Try.func81, Try.ntmps81
    go_wp2_with (go_at_call 56; refine (H1.out _).mono ?_; rintro e w1 ⟨rfl, hb1⟩)
    go_ret2
    exact ⟨rfl, ((Below.refl w.heap.size w).alloc (Nat.le_refl _) _).trans (hb1.mono (by simp))⟩
theorem refOnCentre (x y : Int) (w : World) : Calls Try.prog 83 #[Sp x y] w (Back (onR x y) w) := by
  have H1 := Lib.hid (fun w => refCheckSpot x y w)
  unfold onR
  by_cases hp : OkS x y
  · rw [decide_eq_true hp] at H1
    have H2 := Lib.hid (fun w => refPlaying x y w hp)
    have H3 : Hid (∀ w, Calls Try.prog 72 #[.int .i64 x] w fun e w' => e = .returned (.int .i64 (ab x)) ∧ w = w') := fun w => refSize x w (by have := hp.1; omega) (by have := hp.1; omega)
    rw [if_pos hp]
    obtain ⟨a, ha⟩ : ∃ a, ab x = a := ⟨_, rfl⟩
    rw [ha] at H3 ⊢
    obtain ⟨q, hq⟩ : ∃ q, decide (Play x y) = q := ⟨_, rfl⟩
    rw [hq] at H2
    have hc : (q = true ∧ decide (a ≤ 9502720) = decide (Play x y ∧ a ≤ 9502720)) ∨ (q = false ∧ decide (Play x y ∧ a ≤ 9502720) = false) := by
      by_cases h1 : Play x y
      · exact .inl ⟨by rw [← hq]; exact decide_eq_true h1, decide_eq_decide.2 ⟨fun h => ⟨h1, h⟩, fun h => h.2⟩⟩
      · exact .inr ⟨by rw [← hq]; exact decide_eq_false h1, decide_eq_false (fun h => h1 h.1)⟩
    obtain ⟨r, hr⟩ : ∃ r, decide (Play x y ∧ a ≤ 9502720) = r := ⟨_, rfl⟩
    rw [hr] at hc ⊢
    clear hp hq ha hr
    rcases hc with ⟨rfl, h2⟩ | ⟨rfl, rfl⟩
    all_goals
      go_enter Try.func83, Try.ntmps83
      go_wp2_with (first
        | (go_at_call 52; refine (H1.out _).mono ?_; rintro e w1 ⟨rfl, hb1⟩; have c0 : w1.cell? ⟨w.heap.size, 0, none⟩ = some (.int .i64 x) := (upc (by simp [go_sem]) hb1); have c1 : w1.cell? ⟨w.heap.size, 1, none⟩ = some (.int .i64 y) := (upc (by simp [go_sem]) hb1))
        | (go_at_call 53; refine (H2.out _).mono ?_; rintro e w2 ⟨rfl, hb2⟩; replace c0 := upc c0 hb2; replace c1 := upc c1 hb2)
        | (go_at_call 72; refine (H3.out _).mono ?_; rintro e w' ⟨rfl, rfl⟩))
      go_ret2
      have b1 := ((Below.refl w.heap.size w).alloc (Nat.le_refl _) _).trans (hb1.mono (by simp))
      exact ⟨rfl, b1.trans (hb2.mono b1.size)⟩
  · rw [decide_eq_false hp] at H1
    rw [if_neg hp]
    clear hp
    go_enter Try.func83, Try.ntmps83
    go_wp2_with (go_at_call 52; refine (H1.out _).mono ?_; rintro e w1 ⟨rfl, hb1⟩)
    go_ret2
    exact ⟨rfl, ((Below.refl w.heap.size w).alloc (Nat.le_refl _) _).trans (hb1.mono (by simp))⟩

/-- How stones that lie dx, dy apart touch: -1 they overlap, 0 they touch, 1 neither. -/
def touZ (dx dy : Int) : Int := if 19005440 < ab dx ∨ 19005440 < ab dy then 1 else if sqd dx dy < 361206749593600 then -1 else if 361206749593600 < sqd dx dy then 1 else 0
theorem contact_any (a b c d : Int) (w : World) (h : OkS a b) (h' : OkS c d) : Calls Try.prog 79 #[Sp a b, Sp c d] w (Back (.int .i64 (touZ (a - c) (b - d))) w) := by
  have g := h.1; have g2 := h.2; have g3 := h'.1; have g4 := h'.2
  obtain ⟨x, hx⟩ : ∃ x, a - c = x := ⟨_, rfl⟩
  obtain ⟨y, hy⟩ : ∃ y, b - d = y := ⟨_, rfl⟩
  have bx : -13107200000 ≤ x ∧ x ≤ 13107200000 := by omega
  have by' : -13107200000 ≤ y ∧ y ≤ 13107200000 := by omega
  have H1 : Hid (∀ w, Calls Try.prog 75 #[.int .i64 x] w fun e w' => e = .returned (.int .i64 (ab x)) ∧ w = w') := fun w => size_any x w (by omega) (by omega)
  have H2 : Hid (∀ w, Calls Try.prog 75 #[.int .i64 y] w fun e w' => e = .returned (.int .i64 (ab y)) ∧ w = w') := fun w => size_any y w (by omega) (by omega)
  obtain ⟨p, hp⟩ : ∃ p, ab x = p := ⟨_, rfl⟩
  obtain ⟨q, hq⟩ : ∃ q, ab y = q := ⟨_, rfl⟩
  have HP := Lib.hid hp; have HQ := Lib.hid hq
  rw [hp] at H1
  rw [hq] at H2
  obtain ⟨r, hr⟩ : ∃ r, touZ x y = r := ⟨_, rfl⟩
  rw [hx, hy, hr]
  have HR := Lib.hid hr
  clear hr hp hq h h' g g2 g3 g4
  obtain ⟨x1, x2⟩ := bx; obtain ⟨y1, y2⟩ := by'
  have hc : (p < q ∧ 19005440 < q) ∨ (¬ p < q ∧ 19005440 < p) ∨ (p < q ∧ ¬ 19005440 < q) ∨ (¬ p < q ∧ ¬ 19005440 < p) := by omega
  rcases hc with ⟨h1, h2⟩ | ⟨h1, h2⟩ | ⟨h1, h2⟩ | ⟨h1, h2⟩
  iterate 2
    · obtain rfl : r = 1 := by rw [← HR.out]; unfold touZ; rw [HP.out, HQ.out, if_pos (by omega)]
      go_enter Try.func79, Try.ntmps79
      go_wp2_with fail
      go_quiet (fail)
      go_wp2_with (go_at_call 75; first | ((with_reducible refine (H1.out _).mono ?_); rintro e w' ⟨rfl, rfl⟩) | ((with_reducible refine (H2.out _).mono ?_); rintro e w' ⟨rfl, rfl⟩))
      go_ret
      exact ⟨rfl, below_drewN (((Below.refl _ _).alloc (Nat.le_refl _) _).alloc (by simp) _) _⟩
  all_goals
    have sx := sq_bound (x := x) (B := 19005440) (by rw [HP.out]; omega)
    have sy := sq_bound (x := y) (B := 19005440) (by rw [HQ.out]; omega)
    obtain ⟨s1, s2⟩ := sx
    obtain ⟨s3, s4⟩ := sy
    have hr2 : (x * x + y * y < 361206749593600 ∧ r = -1) ∨ (¬ x * x + y * y < 361206749593600 ∧ 361206749593600 < x * x + y * y ∧ r = 1) ∨ (¬ x * x + y * y < 361206749593600 ∧ ¬ 361206749593600 < x * x + y * y ∧ r = 0) := by
      rw [← HR.out]
      unfold touZ sqd
      rw [HP.out, HQ.out, if_neg (by omega)]
      split
      · exact .inl ⟨by assumption, rfl⟩
      · split
        · exact .inr (.inl ⟨by assumption, by assumption, rfl⟩)
        · exact .inr (.inr ⟨by assumption, by assumption, rfl⟩)
    obtain ⟨s, hs⟩ : ∃ s, x * x + y * y = s := ⟨_, rfl⟩
    rw [hs] at hr2
    rcases hr2 with ⟨e1, rfl⟩ | ⟨e1, e2, rfl⟩ | ⟨e1, e2, rfl⟩
    all_goals
      go_enter Try.func79, Try.ntmps79
      go_wp2_with fail
      go_quiet (fail)
      go_wp2_with (go_at_call 75; first | ((with_reducible refine (H1.out _).mono ?_); rintro e w' ⟨rfl, rfl⟩) | ((with_reducible refine (H2.out _).mono ?_); rintro e w' ⟨rfl, rfl⟩))
      go_ret
      exact ⟨rfl, below_drewN (((Below.refl _ _).alloc (Nat.le_refl _) _).alloc (by simp) _) _⟩
theorem refcontact (a b c d : Int) (w : World) (h : OkS a b) (h' : OkS c d) : Calls Try.prog 73 #[Sp a b, Sp c d] w (Back (.int .i64 (touZ (a - c) (b - d))) w) := by
  have g := h.1; have g2 := h.2; have g3 := h'.1; have g4 := h'.2
  obtain ⟨x, hx⟩ : ∃ x, a - c = x := ⟨_, rfl⟩
  obtain ⟨y, hy⟩ : ∃ y, b - d = y := ⟨_, rfl⟩
  have bx : -13107200000 ≤ x ∧ x ≤ 13107200000 := by omega
  have by' : -13107200000 ≤ y ∧ y ≤ 13107200000 := by omega
  have H1 : Hid (∀ w, Calls Try.prog 72 #[.int .i64 x] w fun e w' => e = .returned (.int .i64 (ab x)) ∧ w = w') := fun w => refSize x w (by omega) (by omega)
  have H2 : Hid (∀ w, Calls Try.prog 72 #[.int .i64 y] w fun e w' => e = .returned (.int .i64 (ab y)) ∧ w = w') := fun w => refSize y w (by omega) (by omega)
  obtain ⟨p, hp⟩ : ∃ p, ab x = p := ⟨_, rfl⟩
  obtain ⟨q, hq⟩ : ∃ q, ab y = q := ⟨_, rfl⟩
  have HP := Lib.hid hp; have HQ := Lib.hid hq
  have p0 := ab_nn x; have q0 := ab_nn y
  rw [hp] at H1 p0
  rw [hq] at H2 q0
  obtain ⟨r, hr⟩ : ∃ r, touZ x y = r := ⟨_, rfl⟩
  rw [hx, hy, hr]
  have HR := Lib.hid hr
  have HE : Hid (p * p = x * x ∧ q * q = y * y) := ⟨by rw [← hp]; exact ab_sq x, by rw [← hq]; exact ab_sq y⟩
  have WX : Hid (IntKind.i64.wrap x = x) := IntWalk.i64_in _ (by omega)
  have WY : Hid (IntKind.i64.wrap y = y) := IntWalk.i64_in _ (by omega)
  clear hr hp hq h h' g g2 g3 g4
  obtain ⟨x1, x2⟩ := bx; obtain ⟨y1, y2⟩ := by'
  have hc : (19005440 < p) ∨ (¬ 19005440 < p ∧ 19005440 < q) ∨ (¬ 19005440 < p ∧ ¬ 19005440 < q) := by omega
  rcases hc with h1 | ⟨h1, h2⟩ | ⟨h1, h2⟩
  iterate 2
    · obtain rfl : r = 1 := by rw [← HR.out]; unfold touZ; rw [HP.out, HQ.out, if_pos (by omega)]
      try have h1' : decide (19005440 < p) = false := by simp; omega
      go_enter Try.func73, Try.ntmps73
      go_wp2_with fail
      go_quiet ((go_at_call 72; first | (rw [WX.out]; exact Calls.quiet_of_same ((H1.out _).mono fun _ _ h => ⟨h.1, h.2.symm⟩)) | (rw [WY.out]; exact Calls.quiet_of_same ((H2.out _).mono fun _ _ h => ⟨h.1, h.2.symm⟩))))
      go_wp2_with fail
      go_ret
      exact ⟨rfl, below_drewN (((Below.refl _ _).alloc (Nat.le_refl _) _).alloc (by simp) _) _⟩
  have h1' : decide (19005440 < p) = false := by simp; omega
  have sx := sq_bound (x := x) (B := 19005440) (by rw [HP.out]; omega)
  have sy := sq_bound (x := y) (B := 19005440) (by rw [HQ.out]; omega)
  rw [← HE.out.1] at sx
  rw [← HE.out.2] at sy
  obtain ⟨s1, s2⟩ := sx
  obtain ⟨s3, s4⟩ := sy
  obtain ⟨s, hs⟩ : ∃ s, p * p + q * q - 361206749593600 = s := ⟨_, rfl⟩
  have hr2 : (s < 0 ∧ r = -1) ∨ (¬ s < 0 ∧ ¬ s = 0 ∧ r = 1) ∨ (s = 0 ∧ r = 0) := by
    rw [← HR.out]
    unfold touZ sqd
    rw [HP.out, HQ.out, if_neg (by omega), ← HE.out.1, ← HE.out.2]
    split
    · exact .inl ⟨by omega, rfl⟩
    · split
      · exact .inr (.inl ⟨by omega, by omega, rfl⟩)
      · exact .inr (.inr ⟨by omega, rfl⟩)
  rcases hr2 with ⟨e1, rfl⟩ | ⟨e1, e2, rfl⟩ | ⟨e1, rfl⟩
  all_goals
    try have e2' : (s == 0) = false := by simpa using e2
    go_enter Try.func73, Try.ntmps73
    go_wp2_with fail
    go_quiet ((go_at_call 72; first | (rw [WX.out]; exact Calls.quiet_of_same ((H1.out _).mono fun _ _ h => ⟨h.1, h.2.symm⟩)) | (rw [WY.out]; exact Calls.quiet_of_same ((H2.out _).mono fun _ _ h => ⟨h.1, h.2.symm⟩))))
    go_wp2_with fail
    go_ret
    exact ⟨rfl, below_drewN (((Below.refl _ _).alloc (Nat.le_refl _) _).alloc (by simp) _) _⟩
end Go.Proofs.Ytomcpgdpjpjioaa
