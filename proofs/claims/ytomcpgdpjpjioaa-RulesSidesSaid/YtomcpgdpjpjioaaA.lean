/- Contracts of the small functions of package sheet and of its document: sizes, places, zones. -/
import Derived.Test.YtomcpgdpjpjioaaProg
import Derived.WalkKit
import Derived.WalkLawsBesides
import Derived.Lib.Hide
import Derived.Deep.QuietTactic
import Derived.BigQuiet
namespace Go.Proofs.Ytomcpgdpjpjioaa
open Go.RowKit Go.Proofs

theorem ret_i {a b : Int} (h : a = b) : Ending.returned (.int .i64 a) = .returned (.int .i64 b) := by rw [h]
theorem ret_b {a b : Bool} (h : a = b) : Ending.returned (.bool a) = .returned (.bool b) := by rw [h]
theorem lt_cell {w : World} {b o : Nat} {v : Value} (h : w.cell? ⟨b, o, none⟩ = some v) : b < w.heap.size := by
  rcases Nat.lt_or_ge b w.heap.size with h' | h'
  · exact h'
  · exfalso
    simp [World.cell?, Array.getElem?_eq_none h'] at h
/-- An old cell, behind a call, and behind a new variable. -/
theorem upc {w w' : World} {b i : Nat} {v : Value} (h : w.cell? ⟨b, i, none⟩ = some v) (hb : Below w.heap.size w w') : w'.cell? ⟨b, i, none⟩ = some v :=
  (hb.cell (p := ⟨b, i, none⟩) (lt_cell h)).trans h
theorem upa {w : World} {b i : Nat} {v : Value} (h : w.cell? ⟨b, i, none⟩ = some v) (o : Obj) : (w.alloc o).cell? ⟨b, i, none⟩ = some v := by
  rw [World.cell?_alloc_past _ _ _ (lt_cell h)]; exact h
theorem below_drewN {B : Nat} {a w : World} (h : Below B a w) (n : Nat) : Below B a (w.drewN n) := ⟨h.os, h.tape, h.output, h.size, h.block⟩
/-- A call that leaves the world as it lay. -/
abbrev Back (v : Value) (w : World) (e : Ending) (w' : World) : Prop := e = .returned v ∧ Below w.heap.size w w'

def ab (x : Int) : Int := if x < 0 then -x else x
theorem ab_nn (x : Int) : 0 ≤ ab x := by unfold ab; split <;> omega
theorem ab_neg (x : Int) : ab (-x) = ab x := by unfold ab; split <;> split <;> omega
theorem ab_sq (x : Int) : ab x * ab x = x * x := by
  unfold ab; split
  · rw [Int.neg_mul_neg]
  · rfl
theorem sq_bound {x B : Int} (h : ab x ≤ B) : 0 ≤ x * x ∧ x * x ≤ B * B := by
  rw [← ab_sq]
  have h0 := ab_nn x
  exact ⟨Int.mul_nonneg h0 h0, Int.mul_le_mul h h h0 (by omega)⟩

/-- A place is valid; a stone there is in play. -/
def OkS (x y : Int) : Prop := (-6553600000 ≤ x ∧ x ≤ 6553600000) ∧ -6553600000 ≤ y ∧ y ≤ 6553600000
def Play (x y : Int) : Prop := ab x + 9502720 < 155648000 ∧ -419495936 < y - 9502720 ∧ y - 9502720 ≤ 119865344
instance (x y : Int) : Decidable (OkS x y) := by unfold OkS; infer_instance
instance (x y : Int) : Decidable (Play x y) := by unfold Play; infer_instance
def sqd (x y : Int) : Int := x * x + y * y
def zoneZ (x y : Int) : Int := if Play x y then (if sqd x y ≤ 16736095983108096 then 2 else if y + 9502720 < 0 then 1 else 3) else 0
def InH (x y : Int) : Prop := Play x y ∧ sqd x y ≤ 16736095983108096
instance (x y : Int) : Decidable (InH x y) := by unfold InH; infer_instance
theorem zone_house (x y : Int) : zoneZ x y = 2 ↔ InH x y := by
  unfold zoneZ InH
  constructor
  · intro h; split at h
    · rename_i h1; split at h
      · exact ⟨h1, by assumption⟩
      · split at h <;> omega
    · omega
  · rintro ⟨h1, h2⟩; rw [if_pos h1, if_pos h2]
theorem zone_away (x y : Int) : zoneZ x y = 0 ↔ ¬ Play x y := by
  unfold zoneZ
  constructor
  · intro h h1; rw [if_pos h1] at h; split at h
    · omega
    · split at h <;> omega
  · intro h; rw [if_neg h]

theorem withinFix (n a b : Int) (w : World) : Calls Try.prog 74 #[.int .i64 n, .int .i64 a, .int .i64 b] w fun e w' => e = .returned (.bool (decide (a ≤ n ∧ n ≤ b))) ∧ w = w' := by
  obtain ⟨r, hr⟩ : ∃ r, decide (a ≤ n ∧ n ≤ b) = r := ⟨_, rfl⟩
  have HR := Lib.hid hr
  rw [hr]
  clear hr
  by_cases h1 : a ≤ n
  · by_cases h2 : n ≤ b
    · go_enter Try.func74, Try.ntmps74
      go_wp2_with fail
      go_ret
      exact ⟨by rw [← HR.out, decide_eq_true ⟨h1, h2⟩]; rfl, rfl⟩
    · have h2' : decide (n ≤ b) = false := by simpa using h2
      go_enter Try.func74, Try.ntmps74
      go_wp2_with fail
      go_ret
      exact ⟨by rw [← HR.out, decide_eq_false (by omega)]; rfl, rfl⟩
  · have h1' : decide (a ≤ n) = false := by simpa using h1
    go_enter Try.func74, Try.ntmps74
    go_wp2_with fail
    go_ret
    exact ⟨by rw [← HR.out, decide_eq_false (by omega)]; rfl, rfl⟩
theorem withinInt (n a b : Int) (w : World) : Calls Try.prog 55 #[.int .i64 n, .int .i64 a, .int .i64 b] w fun e w' => e = .returned (.bool (decide (a ≤ n ∧ n ≤ b))) ∧ w = w' := by
  obtain ⟨r, hr⟩ : ∃ r, decide (a ≤ n ∧ n ≤ b) = r := ⟨_, rfl⟩
  have HR := Lib.hid hr
  rw [hr]
  clear hr
  by_cases h1 : a ≤ n
  · by_cases h2 : n ≤ b
    · go_enter Try.func55, Try.ntmps55
      go_wp2_with fail
      go_ret
      exact ⟨by rw [← HR.out, decide_eq_true ⟨h1, h2⟩]; rfl, rfl⟩
    · have h2' : decide (n ≤ b) = false := by simpa using h2
      go_enter Try.func55, Try.ntmps55
      go_wp2_with fail
      go_ret
      exact ⟨by rw [← HR.out, decide_eq_false (by omega)]; rfl, rfl⟩
  · have h1' : decide (a ≤ n) = false := by simpa using h1
    go_enter Try.func55, Try.ntmps55
    go_wp2_with fail
    go_ret
    exact ⟨by rw [← HR.out, decide_eq_false (by omega)]; rfl, rfl⟩
theorem refIn (n a b : Int) (w : World) : Calls Try.prog 51 #[.int .i64 n, .int .i64 a, .int .i64 b] w fun e w' => e = .returned (.bool (decide (a ≤ n ∧ n ≤ b))) ∧ w = w' := by
  obtain ⟨r, hr⟩ : ∃ r, decide (a ≤ n ∧ n ≤ b) = r := ⟨_, rfl⟩
  have HR := Lib.hid hr
  rw [hr]
  clear hr
  by_cases h1 : a ≤ n
  · by_cases h2 : n ≤ b
    · go_enter Try.func51, Try.ntmps51
      go_wp2_with fail
      go_ret
      exact ⟨by rw [← HR.out, decide_eq_true ⟨h1, h2⟩]; rfl, rfl⟩
    · have h2' : decide (n ≤ b) = false := by simpa using h2
      go_enter Try.func51, Try.ntmps51
      go_wp2_with fail
      go_ret
      exact ⟨by rw [← HR.out, decide_eq_false (by omega)]; rfl, rfl⟩
  · have h1' : decide (a ≤ n) = false := by simpa using h1
    go_enter Try.func51, Try.ntmps51
    go_wp2_with fail
    go_ret
    exact ⟨by rw [← HR.out, decide_eq_false (by omega)]; rfl, rfl⟩
theorem size_any (n : Int) (w : World) (h1 : -9223372036854775807 ≤ n) (h2 : n ≤ 9223372036854775807) : Calls Try.prog 75 #[.int .i64 n] w fun e w' => e = .returned (.int .i64 (ab n)) ∧ w = w' := by
  by_cases hn : n < 0
  · have hm : max n (-n) = -n := by omega
    go_enter Try.func75, Try.ntmps75
    go_wp2_with fail
    go_ret
    exact ⟨ret_i (by unfold ab; rw [if_pos hn]), rfl⟩
  · have hm : max n (-n) = n := by omega
    go_enter Try.func75, Try.ntmps75
    go_wp2_with fail
    go_ret
    exact ⟨ret_i (by unfold ab; rw [if_neg (by omega)]), rfl⟩
theorem refSize (n : Int) (w : World) (h1 : -9223372036854775807 ≤ n) (h2 : n ≤ 9223372036854775807) : Calls Try.prog 72 #[.int .i64 n] w fun e w' => e = .returned (.int .i64 (ab n)) ∧ w = w' := by
  by_cases hn : n < 0
  · have hm : max n (-n) = -n := by omega
    go_enter Try.func72, Try.ntmps72
    go_wp2_with fail
    go_ret
    exact ⟨ret_i (by unfold ab; rw [if_pos hn]), rfl⟩
  · have hm : max n (-n) = n := by omega
    go_enter Try.func72, Try.ntmps72
    go_wp2_with fail
    go_ret
    exact ⟨ret_i (by unfold ab; rw [if_neg (by omega)]), rfl⟩

theorem CheckSpot_any (x y : Int) (w : World) : Calls Try.prog 56 #[.agg #[.int .i64 x, .int .i64 y]] w (Back (.bool (decide (OkS x y))) w) := by
  have H1 := Lib.hid (fun w => withinFix x (-6553600000) 6553600000 w)
  have H2 := Lib.hid (fun w => withinFix y (-6553600000) 6553600000 w)
  obtain ⟨r, hr⟩ : ∃ r, decide (OkS x y) = r := ⟨_, rfl⟩
  rw [hr]
  by_cases hx : -6553600000 ≤ x ∧ x ≤ 6553600000
  · rw [decide_eq_true hx] at H1
    obtain ⟨b, hb⟩ : ∃ b, decide (-6553600000 ≤ y ∧ y ≤ 6553600000) = b := ⟨_, rfl⟩
    rw [hb] at H2
    have e : r = b := by rw [← hr, ← hb]; simp [OkS, hx]
    subst e
    clear hr hb hx
    go_enter Try.func56, Try.ntmps56
    go_wp2_with (go_at_call 74; first | ((with_reducible refine (H1.out _).mono ?_); rintro e w' ⟨rfl, rfl⟩) | ((with_reducible refine (H2.out _).mono ?_); rintro e w' ⟨rfl, rfl⟩))
    go_ret
    exact ⟨rfl, (Below.refl _ _).alloc (Nat.le_refl _) _⟩
  · rw [decide_eq_false hx] at H1
    have e : r = false := by rw [← hr]; exact decide_eq_false (fun h => hx h.1)
    subst e
    clear hr hx
    go_enter Try.func56, Try.ntmps56
    go_wp2_with (go_at_call 74; ((with_reducible refine (H1.out _).mono ?_); rintro e w' ⟨rfl, rfl⟩))
    go_ret
    exact ⟨rfl, (Below.refl _ _).alloc (Nat.le_refl _) _⟩
theorem refCheckSpot (x y : Int) (w : World) : Calls Try.prog 52 #[.agg #[.int .i64 x, .int .i64 y]] w (Back (.bool (decide (OkS x y))) w) := by
  obtain ⟨r, hr⟩ : ∃ r, decide (OkS x y) = r := ⟨_, rfl⟩
  have HR := Lib.hid hr
  rw [hr]
  have hc : x < -6553600000 ∨ (-6553600000 ≤ x ∧ 6553600000 < x) ∨ (-6553600000 ≤ x ∧ x ≤ 6553600000 ∧ y < -6553600000) ∨ (-6553600000 ≤ x ∧ x ≤ 6553600000 ∧ -6553600000 ≤ y ∧ 6553600000 < y) ∨ (-6553600000 ≤ x ∧ x ≤ 6553600000 ∧ -6553600000 ≤ y ∧ y ≤ 6553600000) := by omega
  clear hr
  rcases hc with a | ⟨a, b⟩ | ⟨a, b, c⟩ | ⟨a, b, c, d⟩ | ⟨a, b, c, d⟩
  all_goals
    try have a' : decide (-6553600000 ≤ x) = false := by simpa using a
    try have b' : decide (x ≤ 6553600000) = false := by simpa using b
    try have c' : decide (-6553600000 ≤ y) = false := by simpa using c
    try have d' : decide (y ≤ 6553600000) = false := by simpa using d
    go_enter Try.func52, Try.ntmps52
    go_wp2_with fail
    go_ret
    exact ⟨by rw [← HR.out]; first | (rw [decide_eq_true (show OkS x y from ⟨by omega, by omega⟩)]; rfl) | (rw [decide_eq_false (show ¬ OkS x y from fun h => by unfold OkS at h; omega)]; rfl), (Below.refl _ _).alloc (Nat.le_refl _) _⟩
theorem play_bound {x y : Int} (h : Play x y) : ab x ≤ 146145280 ∧ ab y ≤ 409993216 := by
  unfold Play ab at *; split at h <;> split <;> omega
theorem sqd_bound {x y : Int} (h : Play x y) : (0 ≤ x * x ∧ x * x ≤ 21358442866278400) ∧ 0 ≤ y * y ∧ y * y ≤ 168094437166022656 := by
  obtain ⟨h1, h2⟩ := play_bound h
  exact ⟨sq_bound (B := 146145280) h1, sq_bound (B := 409993216) h2⟩
theorem square_any (x y : Int) (w : World) (h : (0 ≤ x * x ∧ x * x ≤ 21358442866278400) ∧ 0 ≤ y * y ∧ y * y ≤ 168094437166022656) : Calls Try.prog 76 #[.agg #[.int .i64 x, .int .i64 y]] w (Back (.int .i64 (sqd x y)) w) := by
  obtain ⟨⟨h1, h2⟩, h3, h4⟩ := h
  go_enter Try.func76, Try.ntmps76
  go_wp2_with fail
  go_ret
  exact ⟨rfl, (Below.refl _ _).alloc (Nat.le_refl _) _⟩
theorem refSquare (x y : Int) (w : World) (h : (0 ≤ x * x ∧ x * x ≤ 21358442866278400) ∧ 0 ≤ y * y ∧ y * y ≤ 168094437166022656) : Calls Try.prog 109 #[.agg #[.int .i64 x, .int .i64 y]] w (Back (.int .i64 (sqd x y)) w) := by
  obtain ⟨⟨h1, h2⟩, h3, h4⟩ := h
  go_enter Try.func109, Try.ntmps109
  go_wp2_with fail
  go_ret
  exact ⟨rfl, (Below.refl _ _).alloc (Nat.le_refl _) _⟩
theorem at_any (x y : Int) (w : World) (h1 : -100000000 ≤ x ∧ x ≤ 100000000) (h2 : -100000000 ≤ y ∧ y ≤ 100000000) : Calls Try.prog 30 #[.int .i64 x, .int .i64 y] w (Back (.agg #[.int .i64 (x * 65536), .int .i64 (y * 65536)]) w) := by
  go_enter Try.func30, Try.ntmps30
  go_wp2_with fail
  refine bodyPost_ret (v := .agg #[.int .i64 (x * 65536), .int .i64 (y * 65536)]) (by simp [results, Try.results30, go_sem]) rfl ⟨rfl, ?_⟩
  exact (Below.refl _ _).alloc (Nat.le_refl _) _

theorem zone_any (x y : Int) (w : World) (h : OkS x y) : Calls Try.prog 57 #[.agg #[.int .i64 x, .int .i64 y]] w (Back (.int .i64 (zoneZ x y)) w) := by
  have HO := Lib.hid h
  obtain ⟨⟨hx1, hx2⟩, hy1, hy2⟩ := h
  have H1 : Hid (∀ w, Calls Try.prog 75 #[.int .i64 x] w fun e w' => e = .returned (.int .i64 (ab x)) ∧ w = w') := fun w => size_any x w (by omega) (by omega)
  obtain ⟨a, ha⟩ : ∃ a, ab x = a := ⟨_, rfl⟩
  have HA := Lib.hid ha
  have ha1 : 0 ≤ a ∧ a ≤ 6553600000 := by rw [← ha]; unfold ab; split <;> omega
  obtain ⟨z, hz⟩ : ∃ z, zoneZ x y = z := ⟨_, rfl⟩
  have HZ := Lib.hid hz
  rw [hz]
  rw [ha] at H1
  obtain ⟨a1, a2⟩ := ha1
  clear ha hz
  by_cases hp : Play x y
  · have HP := Lib.hid hp
    have hp' := hp
    unfold Play at hp'
    rw [HA.out] at hp'
    obtain ⟨p1, p2, p3⟩ := hp'
    have q1 : ¬ (155648000 : Int) ≤ a + 9502720 := by omega
    have q2 : ¬ (119865344 : Int) < y - 9502720 := by omega
    have q3 : ¬ y - 9502720 ≤ (-419495936 : Int) := by omega
    have H2 : Hid (∀ w, Calls Try.prog 76 #[.agg #[.int .i64 x, .int .i64 y]] w (Back (.int .i64 (sqd x y)) w)) := fun w => square_any x y w (sqd_bound HP.out)
    obtain ⟨s, hs⟩ : ∃ s, sqd x y = s := ⟨_, rfl⟩
    have HS := Lib.hid hs
    rw [hs] at H2
    clear hs hp p1 p2 p3
    have hc : s ≤ 16736095983108096 ∨ (¬ s ≤ 16736095983108096 ∧ y + 9502720 < 0) ∨ (¬ s ≤ 16736095983108096 ∧ ¬ y + 9502720 < 0) := by omega
    rcases hc with c | ⟨c, d⟩ | ⟨c, d⟩
    all_goals
      try have c' : decide (s ≤ 16736095983108096) = false := by simpa using c
      go_enter Try.func57, Try.ntmps57
      go_wp2_with (first
        | (go_at_call 75; refine (H1.out _).mono ?_; rintro e w' ⟨rfl, rfl⟩)
        | (go_at_call 76; refine (H2.out _).mono ?_; rintro e w1 ⟨rfl, hb1⟩; have c0 : w1.cell? ⟨w.heap.size, 0, none⟩ = some (.int .i64 x) := (upc (by simp [go_sem]) hb1); have c1 : w1.cell? ⟨w.heap.size, 1, none⟩ = some (.int .i64 y) := (upc (by simp [go_sem]) hb1)))
      go_ret
      refine ⟨ret_i ?_, ((Below.refl _ _).alloc (Nat.le_refl _) _).trans (hb1.mono (by simp))⟩
      rw [← HZ.out]
      unfold zoneZ
      rw [if_pos HP.out, HS.out]
      first
        | rw [if_pos (by omega)]
        | rw [if_neg (by omega), if_pos (by omega)]
        | rw [if_neg (by omega), if_neg (by omega)]
  · obtain rfl : z = 0 := by rw [← HZ.out]; exact (zone_away x y).2 hp
    have hc : 155648000 ≤ a + 9502720 ∨ (¬ 155648000 ≤ a + 9502720 ∧ 119865344 < y - 9502720) ∨ (¬ 155648000 ≤ a + 9502720 ∧ ¬ 119865344 < y - 9502720 ∧ y - 9502720 ≤ -419495936) := by
      unfold Play at hp; rw [HA.out] at hp; omega
    clear hp
    rcases hc with c | ⟨c, d⟩ | ⟨c, d, e⟩
    all_goals
      go_enter Try.func57, Try.ntmps57
      go_wp2_with (go_at_call 75; refine (H1.out _).mono ?_; rintro e w' ⟨rfl, rfl⟩)
      go_ret
      exact ⟨rfl, (Below.refl _ _).alloc (Nat.le_refl _) _⟩
theorem refPlaying (x y : Int) (w : World) (h : OkS x y) : Calls Try.prog 53 #[.agg #[.int .i64 x, .int .i64 y]] w (Back (.bool (decide (Play x y))) w) := by
  obtain ⟨⟨hx1, hx2⟩, hy1, hy2⟩ := h
  have H1 : Hid (∀ w, Calls Try.prog 72 #[.int .i64 x] w fun e w' => e = .returned (.int .i64 (ab x)) ∧ w = w') := fun w => refSize x w (by omega) (by omega)
  obtain ⟨a, ha⟩ : ∃ a, ab x = a := ⟨_, rfl⟩
  have HA := Lib.hid ha
  have ha1 : 0 ≤ a ∧ a ≤ 6553600000 := by rw [← ha]; unfold ab; split <;> omega
  obtain ⟨r, hr⟩ : ∃ r, decide (Play x y) = r := ⟨_, rfl⟩
  have HR := Lib.hid hr
  rw [hr]
  rw [ha] at H1
  obtain ⟨a1, a2⟩ := ha1
  clear ha hr
  have hc : ¬ a + 9502720 < 155648000 ∨ (a + 9502720 < 155648000 ∧ ¬ -419495936 < y - 9502720) ∨ (a + 9502720 < 155648000 ∧ -419495936 < y - 9502720 ∧ ¬ y - 9502720 ≤ 119865344) ∨ (a + 9502720 < 155648000 ∧ -419495936 < y - 9502720 ∧ y - 9502720 ≤ 119865344) := by omega
  rcases hc with c | ⟨c, d⟩ | ⟨c, d, f⟩ | ⟨c, d, f⟩
  all_goals
    try have c' : decide (a + 9502720 < 155648000) = false := by simpa using c
    try have d' : decide (-419495936 < y - 9502720) = false := by simpa using d
    try have f' : decide (y - 9502720 ≤ 119865344) = false := by simpa using f
    go_enter Try.func53, Try.ntmps53
    go_wp2_with (go_at_call 72; refine (H1.out _).mono ?_; rintro e w' ⟨rfl, rfl⟩)
    go_ret
    exact ⟨by rw [← HR.out]; first | (rw [decide_eq_true (show Play x y from ⟨by rw [HA.out]; omega, by omega, by omega⟩)]; rfl) | (rw [decide_eq_false (show ¬ Play x y from fun h => by unfold Play at h; rw [HA.out] at h; omega)]; rfl), (Below.refl _ _).alloc (Nat.le_refl _) _⟩
end Go.Proofs.Ytomcpgdpjpjioaa
