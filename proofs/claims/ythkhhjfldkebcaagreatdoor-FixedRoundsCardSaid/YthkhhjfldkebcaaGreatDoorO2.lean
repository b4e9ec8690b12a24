/- Contracts: ordered, and the closures of FixedRounds. -/
import Derived.Test.YthkhhjfldkebcaaGreatDoorO1
import Derived.Deep.QuietTactic
namespace Go.Proofs.YthkhhjfldkebcaaGreatDoor
open Go.RowKit Go.Proofs Go.Shelf

set_option maxRecDepth 100000 in
set_option maxHeartbeats 2000000 in
theorem ordered_yes (c d u n : Int) (w : World) (h1 : d ≤ n) (h2 : n ≤ u) (h3 : u - d ≤ 1) (hs : (c = d ∧ 0 ≤ d) ∨ (c = u ∧ u ≤ 0)) (b1 : -70368744177664 ≤ d) (b2 : u ≤ 70368744177664) :
    Calls Tryz.prog 38 #[.agg #[.int .i64 c, .int .i64 d, .int .i64 u, .int .i64 n]] w fun e w' => e = .returned (.bool true) ∧ Below w.heap.size w w' := by
  have hs' : (c = d ∧ 0 ≤ d) ∨ (c = u ∧ u ≤ 0 ∧ ¬ c = d) ∨ (c = d ∧ d = u ∧ u < 0) := by
    rcases hs with h | h
    · exact .inl h
    · by_cases e : c = d
      · by_cases h0 : 0 ≤ d
        · exact .inl ⟨e, h0⟩
        · exact .inr (.inr ⟨e, by omega, by omega⟩)
      · exact .inr (.inl ⟨h.1, h.2, e⟩)
  clear hs
  have BX : Hid (Below w.heap.size w (w.alloc (.cells #[.int .i64 c, .int .i64 d, .int .i64 u, .int .i64 n] 53))) := (Below.refl _ _).alloc (Nat.le_refl _) _
  have hs2 : (c = d ∧ 0 ≤ d) ∨ (c = u ∧ u ≤ 0 ∧ (c == d) = false) ∨ (c = d ∧ d = u ∧ decide (0 ≤ u) = false ∧ u ≤ 0) := by
    rcases hs' with h | h | h
    · exact .inl h
    · exact .inr (.inl ⟨h.1, h.2.1, by simpa using h.2.2⟩)
    · exact .inr (.inr ⟨h.1, h.2.1, by simp; omega, by omega⟩)
  clear hs'
  rcases hs2 with ⟨rfl, h0⟩ | ⟨rfl, h0, h4⟩ | ⟨rfl, rfl, h0, h4⟩
  all_goals
    go_enter Tryz.func38, Tryz.ntmps38
    go_wp2_with fail
    go_quiet (fail)
    go_wp2_with fail
    go_ret
    exact ⟨rfl, below_drewN BX.out _⟩

/-- What a closure of a product comes to. -/
theorem cl31 (x b how : Int) (p : Nat) (w : World) (hp : w.cell? ⟨p, 0, none⟩ = some (.int .i64 b)) (hw : HowOk how → NW (sz x * sz b) 65536 (decide (x < 0) != decide (b < 0)) (119 + how.toNat)) :
    Calls Tryz.prog 31 #[.int .i64 x, .int .i64 how, .pointer (some ⟨p, 0, none⟩)] w fun e w' => e = .returned (.tuple #[.int .i64 (valE 0 (mulR x b how)), .int .i64 (errE (mulR x b how))]) ∧ Below w.heap.size w w' := by
  have H := Lib.hid (fun w => Mul_any x b how w hw)
  clear hw
  go_enter Tryz.func31, Tryz.ntmps31
  go_wp2_with (go_at_call 14; refine (H.out _).mono ?_; rintro e w1 ⟨rfl, hb⟩)
  go_ret2
  exact ⟨rfl, hb⟩
theorem cl32 (x b how : Int) (p : Nat) (w : World) (hp : w.cell? ⟨p, 0, none⟩ = some (.int .i64 b)) :
    Calls Tryz.prog 32 #[.int .i64 x, .int .i64 how, .pointer (some ⟨p, 0, none⟩)] w fun e w' => e = .returned (.tuple #[.int .i64 (valE 0 (divR x b how)), .int .i64 (errE (divR x b how))]) ∧ Below w.heap.size w w' := by
  have H := Lib.hid (fun w => Div_any x b how w)
  go_enter Tryz.func32, Tryz.ntmps32
  go_wp2_with (go_at_call 15; refine (H.out _).mono ?_; rintro e w1 ⟨rfl, hb⟩)
  go_ret2
  exact ⟨rfl, hb⟩
theorem cl33 (x num den how : Int) (p q : Nat) (w : World) (hp : w.cell? ⟨p, 0, none⟩ = some (.int .i64 num)) (hq : w.cell? ⟨q, 0, none⟩ = some (.int .i64 den))
    (hw : Val x ∧ HowOk how ∧ RateOk num ∧ RateOk den ∧ den ≠ 0 → NW (sz x * sz num) (sz den) (decide (x < 0) != (decide (num < 0) != decide (den < 0))) (119 + how.toNat)) :
    Calls Tryz.prog 33 #[.int .i64 x, .int .i64 how, .pointer (some ⟨p, 0, none⟩), .pointer (some ⟨q, 0, none⟩)] w fun e w' => e = .returned (.tuple #[.int .i64 (valE 0 (scaleR x num den how)), .int .i64 (errE (scaleR x num den how))]) ∧ Below w.heap.size w w' := by
  have H := Lib.hid (fun w => Scale_any x num den how w hw)
  clear hw
  go_enter Tryz.func33, Tryz.ntmps33
  go_wp2_with (go_at_call 34; refine (H.out _).mono ?_; rintro e w1 ⟨rfl, hb⟩)
  go_ret2
  exact ⟨rfl, hb⟩
theorem cl39 (a how : Int) (p : Nat) (w : World) (hp : w.cell? ⟨p, 0, none⟩ = some (.int .i64 a)) :
    Calls Tryz.prog 39 #[.int .i64 how, .pointer (some ⟨p, 0, none⟩)] w fun e w' => e = .returned (.tuple #[.int .i64 (valE 0 (rootR a how)), .int .i64 (errE (rootR a how))]) ∧ Below w.heap.size w w' := by
  have H := Lib.hid (fun w => Root_any a how w)
  go_enter Tryz.func39, Tryz.ntmps39
  go_wp2_with (go_at_call 16; refine (H.out _).mono ?_; rintro e w1 ⟨rfl, hb⟩)
  go_ret2
  exact ⟨rfl, hb⟩
/-- The closure that calls another one, at a number. -/
theorem cl36 (f : FuncId) (caps : Array Value) (a how v e : Int) (p q : Nat) (w : World) (hf : ∀ args w, (callFunc f args).run Tryz.prog w = .ok (.enter f args) w)
    (hp : w.cell? ⟨p, 0, none⟩ = some (.func (.func f) #[] caps)) (hq : w.cell? ⟨q, 0, none⟩ = some (.int .i64 a))
    (F : Calls Tryz.prog f (#[.int .i64 a, .int .i64 how] ++ caps) w fun e' w' => e' = .returned (.tuple #[.int .i64 v, .int .i64 e]) ∧ Below w.heap.size w w') :
    Calls Tryz.prog 36 #[.int .i64 how, .pointer (some ⟨p, 0, none⟩), .pointer (some ⟨q, 0, none⟩)] w fun e' w' => e' = .returned (.tuple #[.int .i64 v, .int .i64 e]) ∧ Below w.heap.size w w' := by
  have H := Lib.hid F
  clear F
  go_enter Tryz.func36, Tryz.ntmps36
  go_wp2_with fail
  refine H.out.mono ?_
  rintro e w1 ⟨rfl, hb⟩
  go_wp2_with fail
  go_ret2
  exact ⟨rfl, hb⟩
theorem cl37 (f : FuncId) (caps : Array Value) (a how v e : Int) (p q : Nat) (w : World) (hf : ∀ args w, (callFunc f args).run Tryz.prog w = .ok (.enter f args) w)
    (hp : w.cell? ⟨p, 0, none⟩ = some (.func (.func f) #[] caps)) (hq : w.cell? ⟨q, 0, none⟩ = some (.int .i64 a)) (a0 : -70368744177664 ≤ a) (a1 : a ≤ 70368744177664)
    (F : Calls Tryz.prog f (#[.int .i64 (-a), .int .i64 how] ++ caps) w fun e' w' => e' = .returned (.tuple #[.int .i64 v, .int .i64 e]) ∧ Below w.heap.size w w') :
    Calls Tryz.prog 37 #[.int .i64 how, .pointer (some ⟨p, 0, none⟩), .pointer (some ⟨q, 0, none⟩)] w fun e' w' => e' = .returned (.tuple #[.int .i64 v, .int .i64 e]) ∧ Below w.heap.size w w' := by
  have H := Lib.hid F
  clear F
  go_enter Tryz.func37, Tryz.ntmps37
  go_wp2_with fail
  refine H.out.mono ?_
  rintro e w1 ⟨rfl, hb⟩
  go_wp2_with fail
  go_ret2
  exact ⟨rfl, hb⟩
end Go.Proofs.YthkhhjfldkebcaaGreatDoor
