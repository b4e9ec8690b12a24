/- Contracts: Contact and the document's. -/
import Derived.Test.YtmhlialdbggmdaaGreatDoorB
namespace Go.Proofs.YtmhlialdbggmdaaGreatDoor
open Go.RowKit Go.Proofs

def touR (a b c d : Int) : Value := if OkS a b ∧ OkS c d then .tuple #[.int .i64 (touZ (a - c) (b - d)), .int .i64 0] else .tuple #[.int .i64 0, .int .i64 2]
theorem touZ_comm (a b c d : Int) : touZ (a - c) (b - d) = touZ (c - a) (d - b) := by
  have e1 : ab (a - c) = ab (c - a) := by rw [← ab_neg]; congr 1; omega
  have e2 : ab (b - d) = ab (d - b) := by rw [← ab_neg]; congr 1; omega
  have e3 : sqd (a - c) (b - d) = sqd (c - a) (d - b) := by unfold sqd; rw [← ab_sq, ← ab_sq (b - d), e1, e2, ab_sq, ab_sq]
  unfold touZ; rw [e1, e2, e3]
theorem touR_comm (a b c d : Int) : touR a b c d = touR c d a b := by
  unfold touR
  rw [touZ_comm]
  by_cases h1 : OkS a b <;> by_cases h2 : OkS c d <;> simp [h1, h2]
set_option maxHeartbeats 1000000 in
theorem Contact_any (a b c d : Int) (w : World) : Calls Tryz.prog 10 #[Sp a b, Sp c d] w (Back (touR a b c d) w) := by
  have H1 := Lib.hid (fun w => CheckSpot_any a b w)
  have H2 := Lib.hid (fun w => CheckSpot_any c d w)
  have B0 : Hid (Below w.heap.size w ((w.alloc (.cells #[.int .i64 a, .int .i64 b] 24)).alloc (.cells #[.int .i64 c, .int .i64 d] 24))) := ((Below.refl _ _).alloc (Nat.le_refl _) _).alloc (by simp) _
  unfold touR
  by_cases h1 : OkS a b
  · by_cases h2 : OkS c d
    · rw [decide_eq_true h1] at H1
      rw [decide_eq_true h2] at H2
      have H3 := Lib.hid (fun w => contact_any a b c d w h1 h2)
      rw [if_pos ⟨h1, h2⟩]
      obtain ⟨z, hz⟩ : ∃ z, touZ (a - c) (b - d) = z := ⟨_, rfl⟩
      rw [hz] at H3 ⊢
      clear h1 h2 hz
      go_enter Tryz.func10, Tryz.ntmps10
      go_wp2_with (first
        | (go_at_call 22; ((with_reducible refine (H1.out _).mono ?_); rintro e w1 ⟨rfl, hb1⟩; have B1 := Lib.hid (B0.out.trans (hb1.mono B0.out.size)); have c0 : w1.cell? ⟨w.heap.size, 0, none⟩ = some (.int .i64 a) := (upc (by simp [go_sem]) hb1); have c1 : w1.cell? ⟨w.heap.size, 1, none⟩ = some (.int .i64 b) := (upc (by simp [go_sem]) hb1); have c2 : w1.cell? ⟨w.heap.size + 1, 0, none⟩ = some (.int .i64 c) := (upc (by simp [go_sem]) hb1); have c3 : w1.cell? ⟨w.heap.size + 1, 1, none⟩ = some (.int .i64 d) := (upc (by simp [go_sem]) hb1)))
        | (go_at_call 22; ((with_reducible refine (H2.out _).mono ?_); rintro e w2 ⟨rfl, hb2⟩; have B2 := Lib.hid (B1.out.trans (hb2.mono B1.out.size)); replace c0 := upc c0 hb2; replace c1 := upc c1 hb2; replace c2 := upc c2 hb2; replace c3 := upc c3 hb2))
        | (go_at_call 40; refine (H3.out _).mono ?_; rintro e w3 ⟨rfl, hb3⟩))
      go_ret2
      exact ⟨rfl, B2.out.trans (hb3.mono B2.out.size)⟩
    · rw [decide_eq_true h1] at H1
      rw [decide_eq_false h2] at H2
      rw [if_neg (fun h => h2 h.2)]
      clear h1 h2
      go_enter Tryz.func10, Tryz.ntmps10
      go_wp2_with (first
        | (go_at_call 22; ((with_reducible refine (H1.out _).mono ?_); rintro e w1 ⟨rfl, hb1⟩; have B1 := Lib.hid (B0.out.trans (hb1.mono B0.out.size)); have c2 : w1.cell? ⟨w.heap.size + 1, 0, none⟩ = some (.int .i64 c) := (upc (by simp [go_sem]) hb1); have c3 : w1.cell? ⟨w.heap.size + 1, 1, none⟩ = some (.int .i64 d) := (upc (by simp [go_sem]) hb1)))
        | (go_at_call 22; ((with_reducible refine (H2.out _).mono ?_); rintro e w2 ⟨rfl, hb2⟩; have B2 := Lib.hid (B1.out.trans (hb2.mono B1.out.size)))))
      go_ret2
      exact ⟨rfl, B2.out⟩
  · rw [decide_eq_false h1] at H1
    rw [if_neg (fun h => h1 h.1)]
    clear h1
    go_enter Tryz.func10, Tryz.ntmps10
    go_wp2_with (go_at_call 22; ((with_reducible refine (H1.out _).mono ?_); rintro e w1 ⟨rfl, hb1⟩; have B1 := Lib.hid (B0.out.trans (hb1.mono B0.out.size))))
    go_ret2
    exact ⟨rfl, B1.out⟩
set_option maxHeartbeats 1000000 in
theorem refContact (a b c d : Int) (w : World) : Calls Tryz.prog 11 #[Sp a b, Sp c d] w (Back (touR a b c d) w) := by
  have H1 := Lib.hid (fun w => refCheckSpot a b w)
  have H2 := Lib.hid (fun w => refCheckSpot c d w)
  have B0 : Hid (Below w.heap.size w ((w.alloc (.cells #[.int .i64 a, .int .i64 b] 24)).alloc (.cells #[.int .i64 c, .int .i64 d] 24))) := ((Below.refl _ _).alloc (Nat.le_refl _) _).alloc (by simp) _
  unfold touR
  by_cases h1 : OkS a b
  · by_cases h2 : OkS c d
    · rw [decide_eq_true h1] at H1
      rw [decide_eq_true h2] at H2
      have H3 := Lib.hid (fun w => refcontact a b c d w h1 h2)
      rw [if_pos ⟨h1, h2⟩]
      obtain ⟨z, hz⟩ : ∃ z, touZ (a - c) (b - d) = z := ⟨_, rfl⟩
      rw [hz] at H3 ⊢
      clear h1 h2 hz
      go_enter Tryz.func11, Tryz.ntmps11
      go_wp2_with (first
        | (go_at_call 23; ((with_reducible refine (H1.out _).mono ?_); rintro e w1 ⟨rfl, hb1⟩; have B1 := Lib.hid (B0.out.trans (hb1.mono B0.out.size)); have c0 : w1.cell? ⟨w.heap.size, 0, none⟩ = some (.int .i64 a) := (upc (by simp [go_sem]) hb1); have c1 : w1.cell? ⟨w.heap.size, 1, none⟩ = some (.int .i64 b) := (upc (by simp [go_sem]) hb1); have c2 : w1.cell? ⟨w.heap.size + 1, 0, none⟩ = some (.int .i64 c) := (upc (by simp [go_sem]) hb1); have c3 : w1.cell? ⟨w.heap.size + 1, 1, none⟩ = some (.int .i64 d) := (upc (by simp [go_sem]) hb1)))
        | (go_at_call 23; ((with_reducible refine (H2.out _).mono ?_); rintro e w2 ⟨rfl, hb2⟩; have B2 := Lib.hid (B1.out.trans (hb2.mono B1.out.size)); replace c0 := upc c0 hb2; replace c1 := upc c1 hb2; replace c2 := upc c2 hb2; replace c3 := upc c3 hb2))
        | (go_at_call 41; refine (H3.out _).mono ?_; rintro e w3 ⟨rfl, hb3⟩))
      go_ret2
      exact ⟨rfl, B2.out.trans (hb3.mono B2.out.size)⟩
    · rw [decide_eq_true h1] at H1
      rw [decide_eq_false h2] at H2
      rw [if_neg (fun h => h2 h.2)]
      clear h1 h2
      go_enter Tryz.func11, Tryz.ntmps11
      go_wp2_with (first
        | (go_at_call 23; ((with_reducible refine (H1.out _).mono ?_); rintro e w1 ⟨rfl, hb1⟩; have B1 := Lib.hid (B0.out.trans (hb1.mono B0.out.size)); have c2 : w1.cell? ⟨w.heap.size + 1, 0, none⟩ = some (.int .i64 c) := (upc (by simp [go_sem]) hb1); have c3 : w1.cell? ⟨w.heap.size + 1, 1, none⟩ = some (.int .i64 d) := (upc (by simp [go_sem]) hb1)))
        | (go_at_call 23; ((with_reducible refine (H2.out _).mono ?_); rintro e w2 ⟨rfl, hb2⟩; have B2 := Lib.hid (B1.out.trans (hb2.mono B1.out.size)))))
      go_ret2
      exact ⟨rfl, B2.out⟩
  · rw [decide_eq_false h1] at H1
    rw [if_neg (fun h => h1 h.1)]
    clear h1
    go_enter Tryz.func11, Tryz.ntmps11
    go_wp2_with (go_at_call 23; ((with_reducible refine (H1.out _).mono ?_); rintro e w1 ⟨rfl, hb1⟩; have B1 := Lib.hid (B0.out.trans (hb1.mono B0.out.size))))
    go_ret2
    exact ⟨rfl, B1.out⟩
end Go.Proofs.YtmhlialdbggmdaaGreatDoor
