/- The walk of FixedExact. -/
import Derived.Test.YthkhhjfldkebcaaGreatDoorAl
namespace Go.Proofs.YthkhhjfldkebcaaGreatDoor
open Go.RowKit Go.Proofs Go.Shelf

theorem sz_mul (a b : Int) : a * b = sgn (sz a * sz b) (decide (a < 0) != decide (b < 0)) := by
  unfold sz sgn
  by_cases ha : a < 0 <;> by_cases hb : b < 0 <;> simp [ha, hb, Int.neg_mul, Int.mul_neg]
theorem mul_exact {a b : Int} (a1 : -1073741824 ≤ a) (a2 : a ≤ 1073741824) (b1 : -1073741824 ≤ b) (b2 : b ≤ 1073741824) :
    NW (sz a * sz b) 65536 (decide (a < 0) != decide (b < 0)) 120 ∧ ∃ p, mulR a b 1 = .ok p ∧ 0 ≤ a * b - p * 65536 ∧ a * b - p * 65536 < 65536 ∧ -70368744177664 ≤ p ∧ p ≤ 70368744177664 := by
  have sa := sz_nn a; have sb := sz_nn b
  have sa' : sz a ≤ 1073741824 := sz_le a1 a2
  have sb' : sz b ≤ 1073741824 := sz_le b1 b2
  have p0 := Int.mul_nonneg sa sb
  have p1 := Int.mul_le_mul sa' sb' sb (by omega)
  have e := sz_mul a b
  generalize hn : sz a * sz b = n at *
  generalize hg : (decide (a < 0) != decide (b < 0)) = neg at *
  have hb := b2i_le (bump 120 (n % 65536) 65536 neg)
  refine ⟨by unfold NW; omega, ?_⟩
  have hq : mulR a b 1 = fitR (n / 65536 + b2i (bump 120 (n % 65536) 65536 neg)) neg := by
    unfold mulR
    rw [if_pos (by decide)]
    unfold mulQ
    rw [if_pos ⟨⟨by omega, by omega⟩, by omega, by omega⟩, hn, hg]
    unfold quoR
    rw [if_neg (by omega)]
    rfl
  rw [hq]
  unfold fitR
  rw [if_pos (by omega)]
  refine ⟨_, rfl, ?_⟩
  rw [e]
  cases neg
  · have : bump 120 (n % 65536) 65536 false = false := by unfold bump rndB; simp
    rw [this]
    simp only [sgn, b2i, Bool.false_eq_true, if_false]
    omega
  · by_cases hr : n % 65536 = 0
    · have : bump 120 (n % 65536) 65536 true = false := by unfold bump; simp [hr]
      rw [this]
      simp only [sgn, b2i, Bool.false_eq_true, if_false, if_true]
      omega
    · have : bump 120 (n % 65536) 65536 true = true := by unfold bump rndB; simp; omega
      rw [this]
      simp only [sgn, b2i, if_true]
      omega
theorem div_near {a b : Int} (a1 : -1073741824 ≤ a) (a2 : a ≤ 1073741824) (b1 : -1073741824 ≤ b) (b2 : b ≤ 1073741824) (hz : b ≠ 0) :
    divR a b 3 = .error 4 ∨ ∃ q, divR a b 3 = .ok q ∧ -70368744177664 ≤ q ∧ q ≤ 70368744177664 ∧ 2 * (a * 65536 - q * b) ≤ sz b ∧ -(sz b) ≤ 2 * (a * 65536 - q * b) := by
  have sa := sz_nn a; have sb : 1 ≤ sz b := by unfold sz; split <;> omega
  have sa' : sz a ≤ 1073741824 := sz_le a1 a2
  have sb' : sz b ≤ 1073741824 := sz_le b1 b2
  have hd := Int.mul_ediv_add_emod (sz a * 65536) (sz b)
  have hm0 := Int.emod_nonneg (sz a * 65536) (show sz b ≠ 0 by omega)
  have hm1 := Int.emod_lt_of_pos (sz a * 65536) (show 0 < sz b by omega)
  have hle := Int.ediv_le_self (sz b) (show 0 ≤ sz a * 65536 by omega)
  have hq0 := Int.ediv_nonneg (show 0 ≤ sz a * 65536 by omega) (show 0 ≤ sz b by omega)
  have hdiv : divR a b 3 = fitR (sz a * 65536 / sz b + b2i (bump 122 (sz a * 65536 % sz b) (sz b) (decide (a < 0) != decide (b < 0)))) (decide (a < 0) != decide (b < 0)) := by
    unfold divR
    rw [if_pos ⟨⟨by omega, by omega⟩, by omega, by omega⟩, if_pos (by decide), if_neg hz]
    unfold quoR
    rw [if_neg (by omega)]
    rfl
  generalize hqq : sz a * 65536 / sz b = q0 at *
  generalize hrr : sz a * 65536 % sz b = r at *
  -- the size of the quotient
  obtain ⟨Q, hQ, hQ0, hQ1, hQ2⟩ : ∃ Q, q0 + b2i (bump 122 r (sz b) (decide (a < 0) != decide (b < 0))) = Q ∧ 0 ≤ Q ∧ 2 * (sz a * 65536 - sz b * Q) ≤ sz b ∧ -(sz b) ≤ 2 * (sz a * 65536 - sz b * Q) := by
    refine ⟨_, rfl, ?_⟩
    by_cases hb : 0 < r ∧ 0 ≤ cmpI (r + r) (sz b)
    · have : bump 122 r (sz b) (decide (a < 0) != decide (b < 0)) = true := by unfold bump rndB; simp [hb.1, hb.2]
      rw [this]
      simp only [b2i, if_true, Int.mul_add, Int.mul_one]
      have h2 : sz b ≤ r + r := by have := hb.2; unfold cmpI at this; split at this <;> omega
      omega
    · have : bump 122 r (sz b) (decide (a < 0) != decide (b < 0)) = false := by
        unfold bump rndB
        by_cases h0 : 0 < r
        · have h1 : ¬ 0 ≤ cmpI (r + r) (sz b) := fun h => hb ⟨h0, h⟩
          simp [h1]
        · simp [h0]
      rw [this]
      simp only [b2i, Bool.false_eq_true, if_false, Int.add_zero]
      have h2 : r = 0 ∨ r + r < sz b := by
        by_cases h0 : 0 < r
        · have h1 : ¬ 0 ≤ cmpI (r + r) (sz b) := fun h => hb ⟨h0, h⟩
          unfold cmpI at h1; split at h1
          · exact .inr (by assumption)
          · split at h1 <;> omega
        · exact .inl (by omega)
      omega
  rw [hdiv, hQ]
  unfold fitR
  by_cases hf : Q ≤ 70368744177664
  · rw [if_pos hf]
    refine .inr ⟨_, rfl, ?_, ?_, ?_⟩
    · unfold sgn; split <;> omega
    · unfold sgn; split <;> omega
    · -- the sign falls out
      have hsgn : a * 65536 - sgn Q (decide (a < 0) != decide (b < 0)) * b = if a < 0 then -(sz a * 65536 - sz b * Q) else sz a * 65536 - sz b * Q := by
        unfold sgn sz
        by_cases ha : a < 0 <;> by_cases hb : b < 0 <;> simp only [ha, hb, decide_true, decide_false, bne_self_eq_false, Bool.false_eq_true, if_true, if_false, Int.neg_mul, Int.mul_comm b Q, Bool.true_bne, Bool.false_bne, Bool.not_false] <;> omega
      rw [hsgn]
      split <;> omega
  · rw [if_neg hf]; exact .inl rfl

theorem half_le (x : Int) : (0 ≤ x → 0 ≤ x.tdiv 2 ∧ x.tdiv 2 + x.tdiv 2 ≤ x) ∧ (x < 0 → x.tdiv 2 ≤ 0 ∧ x ≤ x.tdiv 2 + x.tdiv 2) := by
  refine ⟨fun h => ?_, fun h => ?_⟩
  · rw [Int.tdiv_eq_ediv_of_nonneg h]; omega
  · have : x.tdiv 2 = -((-x) / 2) := by
      rw [← Int.tdiv_eq_ediv_of_nonneg (show 0 ≤ -x by omega), Int.neg_tdiv, Int.neg_neg]
    rw [this]; omega
set_option maxHeartbeats 2000000 in
theorem Exact_any (x y : Int) (w : World) (hM : Mem w) (x1 : -2147483648 ≤ x) (x2 : x ≤ 2147483647) (y1 : -2147483648 ≤ y) (y2 : y ≤ 2147483647) :
    Calls Tryz.prog 3 #[.int .i32 x, .int .i32 y] w fun e w' => e = .returned (.bool true) ∧ Below w.heap.size w w' := by
  have HM := Lib.hid hM
  clear hM
  obtain ⟨k1, k2⟩ := half_le x
  obtain ⟨k3, k4⟩ := half_le y
  obtain ⟨a, ha⟩ : ∃ a, x.tdiv 2 = a := ⟨_, rfl⟩
  obtain ⟨b, hb⟩ : ∃ b, y.tdiv 2 = b := ⟨_, rfl⟩
  rw [ha] at k1 k2
  rw [hb] at k3 k4
  have a1 : -1073741824 ≤ a := by omega
  have a2 : a ≤ 1073741824 := by omega
  have b1 : -1073741824 ≤ b := by omega
  have b2 : b ≤ 1073741824 := by omega
  clear k1 k2 k3 k4
  obtain ⟨hnw, p, hp, g0, g1, p1, p2⟩ := mul_exact a1 a2 b1 b2
  have HMul : Hid (∀ w, Calls Tryz.prog 14 #[.int .i64 a, .int .i64 b, .int .i64 1] w fun e w' => e = .returned (.tuple #[.int .i64 p, .int .i64 0]) ∧ Below w.heap.size w w') := fun w => by
    have := Mul_any a b 1 w (fun _ => hnw)
    rw [hp] at this
    exact this
  have ab1 : a * b ≤ 1152921504606846976 := by
    have := Int.mul_le_mul (sz_le a1 a2) (sz_le b1 b2) (sz_nn b) (by omega)
    have e := sz_mul a b
    have := Int.mul_nonneg (sz_nn a) (sz_nn b)
    rw [e]; unfold sgn; split <;> omega
  have ab2 : -1152921504606846976 ≤ a * b := by
    have := Int.mul_le_mul (sz_le a1 a2) (sz_le b1 b2) (sz_nn b) (by omega)
    have e := sz_mul a b
    have := Int.mul_nonneg (sz_nn a) (sz_nn b)
    rw [e]; unfold sgn; split <;> omega
  obtain ⟨g, hg⟩ : ∃ g, a * b - p * 65536 = g := ⟨_, rfl⟩
  rw [hg] at g0 g1
  clear hnw hp
  by_cases hz : b = 0
  · have HDiv : Hid (∀ w, Calls Tryz.prog 15 #[.int .i64 a, .int .i64 b, .int .i64 3] w fun e w' => e = .returned (.tuple #[.int .i64 0, .int .i64 10]) ∧ Below w.heap.size w w') := fun w => by
      have := Div_any a b 3 w
      rw [show divR a b 3 = .error 10 by unfold divR; rw [if_pos ⟨⟨by omega, by omega⟩, by omega, by omega⟩, if_pos (by decide), if_pos hz]] at this
      exact this
    have hz' : (b == 0) = true := by simp [hz]
    clear hz
    go_enter Tryz.func3, Tryz.ntmps3
    go_wp2_with (first
      | (go_at_call 13; refine (alive_any _ HM.out).mono ?_; rintro e w1 ⟨rfl, hb1⟩)
      | (go_at_call 14; refine (HMul.out _).mono ?_; rintro e w2 ⟨rfl, hb2⟩)
      | (go_at_call 15; refine (HDiv.out _).mono ?_; rintro e w3 ⟨rfl, hb3⟩))
    go_ret
    exact ⟨rfl, (hb1.trans (hb2.mono hb1.size)).trans (hb3.mono (Nat.le_trans hb1.size hb2.size))⟩
  · have hz' : (b == 0) = false := by simpa using hz
    rcases div_near a1 a2 b1 b2 hz with hq | ⟨q, hq, q1, q2, r1, r2⟩
    · have HDiv : Hid (∀ w, Calls Tryz.prog 15 #[.int .i64 a, .int .i64 b, .int .i64 3] w fun e w' => e = .returned (.tuple #[.int .i64 0, .int .i64 4]) ∧ Below w.heap.size w w') := fun w => by
        have := Div_any a b 3 w
        rw [hq] at this
        exact this
      clear hq hz
      go_enter Tryz.func3, Tryz.ntmps3
      go_wp2_with (first
        | (go_at_call 13; refine (alive_any _ HM.out).mono ?_; rintro e w1 ⟨rfl, hb1⟩)
        | (go_at_call 14; refine (HMul.out _).mono ?_; rintro e w2 ⟨rfl, hb2⟩)
        | (go_at_call 15; refine (HDiv.out _).mono ?_; rintro e w3 ⟨rfl, hb3⟩))
      go_ret
      exact ⟨rfl, (hb1.trans (hb2.mono hb1.size)).trans (hb3.mono (Nat.le_trans hb1.size hb2.size))⟩
    · have HDiv : Hid (∀ w, Calls Tryz.prog 15 #[.int .i64 a, .int .i64 b, .int .i64 3] w fun e w' => e = .returned (.tuple #[.int .i64 q, .int .i64 0]) ∧ Below w.heap.size w w') := fun w => by
        have := Div_any a b 3 w
        rw [hq] at this
        exact this
      have hsb : sz b ≤ 1073741824 := sz_le b1 b2
      obtain ⟨t, ht⟩ : ∃ t, q * b = t := ⟨_, rfl⟩
      obtain ⟨r, hr⟩ : ∃ r, a * 65536 - t = r := ⟨_, rfl⟩
      rw [ht, hr] at r1 r2
      have t1 : -9223372036854775808 ≤ t := by omega
      have t2 : t ≤ 9223372036854775807 := by omega
      clear hq hz
      by_cases hneg : b < 0
      · have hs : sz b = -b := by unfold sz; rw [if_pos hneg]
        rw [hs] at r1 r2 hsb
        have r2' : b ≤ 2 * r := by omega
        clear hs r2
        go_enter Tryz.func3, Tryz.ntmps3
        go_wp2_with (first
          | (go_at_call 13; refine (alive_any _ HM.out).mono ?_; rintro e w1 ⟨rfl, hb1⟩)
          | (go_at_call 14; refine (HMul.out _).mono ?_; rintro e w2 ⟨rfl, hb2⟩)
          | (go_at_call 15; refine (HDiv.out _).mono ?_; rintro e w3 ⟨rfl, hb3⟩))
        go_ret
        exact ⟨rfl, (hb1.trans (hb2.mono hb1.size)).trans (hb3.mono (Nat.le_trans hb1.size hb2.size))⟩
      · have hs : sz b = b := by unfold sz; rw [if_neg hneg]
        rw [hs] at r1 r2 hsb
        clear hs
        have hneg' : 0 ≤ b := by omega
        clear hneg
        go_enter Tryz.func3, Tryz.ntmps3
        go_wp2_with (first
          | (go_at_call 13; refine (alive_any _ HM.out).mono ?_; rintro e w1 ⟨rfl, hb1⟩)
          | (go_at_call 14; refine (HMul.out _).mono ?_; rintro e w2 ⟨rfl, hb2⟩)
          | (go_at_call 15; refine (HDiv.out _).mono ?_; rintro e w3 ⟨rfl, hb3⟩))
        go_ret
        exact ⟨rfl, (hb1.trans (hb2.mono hb1.size)).trans (hb3.mono (Nat.le_trans hb1.size hb2.size))⟩
end Go.Proofs.YthkhhjfldkebcaaGreatDoor
