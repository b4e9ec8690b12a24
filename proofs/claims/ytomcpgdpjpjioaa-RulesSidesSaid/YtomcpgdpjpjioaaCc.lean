/- Codes of rules: contracts of CheckCode and of the document's. -/
import Derived.Test.YtomcpgdpjpjioaaOw
namespace Go.Proofs.Ytomcpgdpjpjioaa
open Go.RowKit Go.Proofs Go.Shelf

/-- A code. -/
structure Cd where
  f : Int
  t : Int
  s : Int
  e : Int
  p : Bool
abbrev Cdv (c : Cd) : Value := .agg #[.int .i64 c.f, .int .i64 c.t, .int .i64 c.s, .int .i64 c.e, .bool c.p]
def okN (n : Int) : Bool := decide (0 ≤ n ∧ n ≤ 16)
def ccB (c : Cd) : Bool := okN c.f && okN c.t && okN c.s && decide (1 ≤ c.e ∧ c.e ≤ 8) && (!c.p || decide (c.e ≤ 7))

theorem rwithin (n a b : Int) (w : World) : Calls Try.prog 33 #[.int .i64 n, .int .i64 a, .int .i64 b] w fun e w' => e = .returned (.bool (decide (a ≤ n ∧ n ≤ b))) ∧ w = w' := by
  obtain ⟨r, hr⟩ : ∃ r, decide (a ≤ n ∧ n ≤ b) = r := ⟨_, rfl⟩
  have HR := Lib.hid hr
  rw [hr]
  clear hr
  by_cases h1 : a ≤ n
  · by_cases h2 : n ≤ b
    · go_enter Try.func33, Try.ntmps33
      go_wp2_with fail
      go_ret
      exact ⟨by rw [← HR.out, decide_eq_true ⟨h1, h2⟩]; rfl, rfl⟩
    · have h2' : decide (n ≤ b) = false := by simpa using h2
      go_enter Try.func33, Try.ntmps33
      go_wp2_with fail
      go_ret
      exact ⟨by rw [← HR.out, decide_eq_false (by omega)]; rfl, rfl⟩
  · have h1' : decide (a ≤ n) = false := by simpa using h1
    go_enter Try.func33, Try.ntmps33
    go_wp2_with fail
    go_ret
    exact ⟨by rw [← HR.out, decide_eq_false (by omega)]; rfl, rfl⟩
theorem rin (n a b : Int) (w : World) : Calls Try.prog 37 #[.int .i64 n, .int .i64 a, .int .i64 b] w fun e w' => e = .returned (.bool (decide (a ≤ n ∧ n ≤ b))) ∧ w = w' := by
  have H := Lib.hid (fun w => refIn n a b w)
  obtain ⟨r, hr⟩ : ∃ r, decide (a ≤ n ∧ n ≤ b) = r := ⟨_, rfl⟩
  rw [hr] at H ⊢
  clear hr
  go_enter Try.func37, Try.ntmps37
  go_wp2_with (go_at_call 51; refine (H.out _).mono ?_; rintro e w1 ⟨rfl, rfl⟩)
  go_ret
  exact ⟨rfl, rfl⟩

set_option maxHeartbeats 2000000 in
theorem refCheckCode (c : Cd) (w : World) : Calls Try.prog 14 #[Cdv c] w (Back (.bool (ccB c)) w) := by
  obtain ⟨f, t, s, e, p⟩ := c
  have B : Hid (Below w.heap.size w (w.alloc (.cells #[.int .i64 f, .int .i64 t, .int .i64 s, .int .i64 e, .bool p] 23))) := (Below.refl _ _).alloc (Nat.le_refl _) _
  obtain ⟨r, hr⟩ : ∃ r, ccB ⟨f, t, s, e, p⟩ = r := ⟨_, rfl⟩
  rw [hr]
  have HR : Hid ((okN f && okN t && okN s && decide (1 ≤ e ∧ e ≤ 8) && (!p || decide (e ≤ 7))) = r) := hr
  obtain ⟨k0, h0⟩ : ∃ k, okN f = k := ⟨_, rfl⟩
  obtain ⟨k1, h1⟩ : ∃ k, okN t = k := ⟨_, rfl⟩
  obtain ⟨k2, h2⟩ : ∃ k, okN s = k := ⟨_, rfl⟩
  obtain ⟨k3, h3⟩ : ∃ k, decide (1 ≤ e ∧ e ≤ 8) = k := ⟨_, rfl⟩
  have A0 : Hid (∀ w, Calls Try.prog 37 #[.int .i64 f, .int .i64 0, .int .i64 16] w fun e w' => e = .returned (.bool k0) ∧ w = w') := fun w => by rw [← h0]; exact rin _ _ _ w
  have A1 : Hid (∀ w, Calls Try.prog 37 #[.int .i64 t, .int .i64 0, .int .i64 16] w fun e w' => e = .returned (.bool k1) ∧ w = w') := fun w => by rw [← h1]; exact rin _ _ _ w
  have A2 : Hid (∀ w, Calls Try.prog 37 #[.int .i64 s, .int .i64 0, .int .i64 16] w fun e w' => e = .returned (.bool k2) ∧ w = w') := fun w => by rw [← h2]; exact rin _ _ _ w
  have A3 : Hid (∀ w, Calls Try.prog 37 #[.int .i64 e, .int .i64 1, .int .i64 8] w fun e w' => e = .returned (.bool k3) ∧ w = w') := fun w => by rw [← h3]; exact rin _ _ _ w
  rw [h0, h1, h2, h3] at HR
  clear hr h0 h1 h2 h3
  rcases k0 with _ | _ <;> rcases k1 with _ | _ <;> rcases k2 with _ | _ <;> rcases k3 with _ | _ <;> rcases p with _ | _
  all_goals
    obtain rfl : r = _ := HR.out.symm
    clear HR
    go_enter Try.func14, Try.ntmps14
    go_wp2_with (first
      | (go_at_call 37; (with_reducible refine (A0.out _).mono ?_); rintro e w1 ⟨rfl, rfl⟩)
      | (go_at_call 37; (with_reducible refine (A1.out _).mono ?_); rintro e w1 ⟨rfl, rfl⟩)
      | (go_at_call 37; (with_reducible refine (A2.out _).mono ?_); rintro e w1 ⟨rfl, rfl⟩)
      | (go_at_call 37; (with_reducible refine (A3.out _).mono ?_); rintro e w1 ⟨rfl, rfl⟩))
    go_ret
    exact ⟨rfl, B.out⟩

set_option maxRecDepth 100000 in
set_option maxHeartbeats 4000000 in
theorem CheckCode_any (c : Cd) (w : World) : Calls Try.prog 13 #[Cdv c] w (Back (.bool (ccB c)) w) := by
  obtain ⟨f, t, s, e, p⟩ := c
  have B : Hid (Below w.heap.size w ((w.alloc (.cells #[.int .i64 f, .int .i64 t, .int .i64 s, .int .i64 e, .bool p] 23)).alloc (.cells #[.int .i64 f, .int .i64 t, .int .i64 s] 3))) := ((Below.refl _ _).alloc (Nat.le_refl _) _).alloc (by simp) _
  obtain ⟨r, hr⟩ : ∃ r, ccB ⟨f, t, s, e, p⟩ = r := ⟨_, rfl⟩
  rw [hr]
  have HR : Hid ((okN f && okN t && okN s && decide (1 ≤ e ∧ e ≤ 8) && (!p || decide (e ≤ 7))) = r) := hr
  have A : Hid (∀ n w, Calls Try.prog 33 #[.int .i64 n, .int .i64 0, .int .i64 16] w fun e w' => e = .returned (.bool (okN n)) ∧ w = w') := fun n w => rwithin _ _ _ w
  obtain ⟨k3, h3⟩ : ∃ k, decide (1 ≤ e ∧ e ≤ 8) = k := ⟨_, rfl⟩
  have A3 : Hid (∀ w, Calls Try.prog 33 #[.int .i64 e, .int .i64 1, .int .i64 8] w fun e w' => e = .returned (.bool k3) ∧ w = w') := fun w => by rw [← h3]; exact rwithin _ _ _ w
  rw [h3] at HR
  clear hr h3
  go_enter Try.func13, Try.ntmps13
  go_wp2_with fail
  go_loopw [13] (fun iv wr => ∃ j : Nat, j ≤ 3 ∧ iv = .int .i64 j ∧ Hid ((1 ≤ j → okN f = true) ∧ (2 ≤ j → okN t = true) ∧ (3 ≤ j → okN s = true)) ∧ wr = (w.alloc (.cells #[.int .i64 f, .int .i64 t, .int .i64 s, .int .i64 e, .bool p] 23)).alloc (.cells #[.int .i64 f, .int .i64 t, .int .i64 s] 3)) (fun iv _ => 3 - (intOf iv).toNat)
  case atStart => exact ⟨0, by omega, rfl, ⟨fun h => by omega, fun h => by omega, fun h => by omega⟩, rfl⟩
  case round =>
    obtain ⟨j, hj, rfl, hk, rfl⟩ := hrel
    have HK := Lib.hid hk.out
    clear hk
    rcases (show j = 0 ∨ j = 1 ∨ j = 2 ∨ j = 3 by omega) with rfl | rfl | rfl | rfl
    · obtain ⟨o, ho⟩ : ∃ o, okN f = o := ⟨_, rfl⟩
      have A1 := Lib.hid (A.out f)
      rw [ho] at A1
      have HO := Lib.hid ho
      clear ho A
      cases o
      · have hr2 : Hid (r = false) := by show _ = _; rw [← HR.out, HO.out]; simp
        clear HR A3
        go_wp2_with (go_at_call 33; (with_reducible refine (A1.out _).mono ?_); rintro e w1 ⟨rfl, rfl⟩)
        go_ret
        exact ⟨by rw [hr2.out]; rfl, B.out⟩
      · go_wp2_with (go_at_call 33; (with_reducible refine (A1.out _).mono ?_); rintro e w1 ⟨rfl, rfl⟩)
        go_roundw
        case rel => exact ⟨1, by omega, rfl, ⟨fun _ => HO.out, fun h => by omega, fun h => by omega⟩, by first | rfl | trivial⟩
        case measure => simp [intOf]
    · obtain ⟨o, ho⟩ : ∃ o, okN t = o := ⟨_, rfl⟩
      have A1 := Lib.hid (A.out t)
      rw [ho] at A1
      have HO := Lib.hid ho
      clear ho A
      cases o
      · have hr2 : Hid (r = false) := by show _ = _; rw [← HR.out, HO.out]; simp
        clear HR A3
        go_wp2_with (go_at_call 33; (with_reducible refine (A1.out _).mono ?_); rintro e w1 ⟨rfl, rfl⟩)
        go_ret
        exact ⟨by rw [hr2.out]; rfl, B.out⟩
      · go_wp2_with (go_at_call 33; (with_reducible refine (A1.out _).mono ?_); rintro e w1 ⟨rfl, rfl⟩)
        go_roundw
        case rel => exact ⟨2, by omega, rfl, ⟨fun _ => HK.out.1 (by omega), fun _ => HO.out, fun h => by omega⟩, by first | rfl | trivial⟩
        case measure => simp [intOf]
    · obtain ⟨o, ho⟩ : ∃ o, okN s = o := ⟨_, rfl⟩
      have A1 := Lib.hid (A.out s)
      rw [ho] at A1
      have HO := Lib.hid ho
      clear ho A
      cases o
      · have hr2 : Hid (r = false) := by show _ = _; rw [← HR.out, HO.out]; simp
        clear HR A3
        go_wp2_with (go_at_call 33; (with_reducible refine (A1.out _).mono ?_); rintro e w1 ⟨rfl, rfl⟩)
        go_ret
        exact ⟨by rw [hr2.out]; rfl, B.out⟩
      · go_wp2_with (go_at_call 33; (with_reducible refine (A1.out _).mono ?_); rintro e w1 ⟨rfl, rfl⟩)
        go_roundw
        case rel => exact ⟨3, by omega, rfl, ⟨fun _ => HK.out.1 (by omega), fun _ => HK.out.2.1 (by omega), fun _ => HO.out⟩, by first | rfl | trivial⟩
        case measure => simp [intOf]
    · have hf := HK.out.1 (by omega)
      have ht := HK.out.2.1 (by omega)
      have hs := HK.out.2.2 (by omega)
      rw [hf, ht, hs] at HR
      clear hf ht hs HK A
      rcases k3 with _ | _ <;> rcases p with _ | _
      all_goals
        obtain rfl : r = _ := HR.out.symm
        have h7 : Hid (decide (e ≤ 7) = decide (e < 8)) := by show _ = _; rw [decide_eq_decide]; omega
        clear HR
        go_wp2_with (go_at_call 33; (with_reducible refine (A3.out _).mono ?_); rintro e w1 ⟨rfl, rfl⟩)
        go_ret
        exact ⟨by first | rfl | (rw [h7.out]; rfl), B.out⟩
end Go.Proofs.Ytomcpgdpjpjioaa
