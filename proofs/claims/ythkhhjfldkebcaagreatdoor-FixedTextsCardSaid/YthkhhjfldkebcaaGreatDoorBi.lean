/- Contracts of the document's layer: In, Valid, how1, size, fit, Check, Of, rounded, Int, Add, Sub. -/
import Derived.Test.YthkhhjfldkebcaaGreatDoorBh
import Derived.Test.YthkhhjfldkebcaaGreatDoorO3
namespace Go.Proofs.YthkhhjfldkebcaaGreatDoor
open Go.RowKit Go.Proofs Go.Shelf

theorem refIn (n a b : Int) (w : World) : Calls Tryz.prog 66 #[.int .i64 n, .int .i64 a, .int .i64 b] w fun e w' => e = .returned (.bool (decide (a ≤ n ∧ n ≤ b))) ∧ w = w' := by
  obtain ⟨r, hr⟩ : ∃ r, decide (a ≤ n ∧ n ≤ b) = r := ⟨_, rfl⟩
  have HR := Lib.hid hr
  rw [hr]
  clear hr
  by_cases h1 : a ≤ n
  · by_cases h2 : n ≤ b
    · go_enter Tryz.func66, Tryz.ntmps66
      go_wp2_with fail
      go_ret
      exact ⟨by rw [← HR.out, decide_eq_true ⟨h1, h2⟩]; rfl, rfl⟩
    · have h2' : decide (n ≤ b) = false := by simpa using h2
      go_enter Tryz.func66, Tryz.ntmps66
      go_wp2_with fail
      go_ret
      exact ⟨by rw [← HR.out, decide_eq_false (by omega)]; rfl, rfl⟩
  · have h1' : decide (a ≤ n) = false := by simpa using h1
    go_enter Tryz.func66, Tryz.ntmps66
    go_wp2_with fail
    go_ret
    exact ⟨by rw [← HR.out, decide_eq_false (by omega)]; rfl, rfl⟩
theorem refValid (a : Int) (w : World) : Calls Tryz.prog 69 #[.int .i64 a] w fun e w' => e = .returned (.bool (decide (Val a))) ∧ w = w' := by
  obtain ⟨r, hr⟩ : ∃ r, decide (Val a) = r := ⟨_, rfl⟩
  have HR := Lib.hid hr
  rw [hr]
  clear hr
  by_cases h1 : -70368744177664 ≤ a
  · by_cases h2 : a ≤ 70368744177664
    · go_enter Tryz.func69, Tryz.ntmps69
      go_wp2_with fail
      go_ret
      exact ⟨by rw [← HR.out, decide_eq_true ⟨h1, h2⟩]; rfl, rfl⟩
    · have h2' : decide (a ≤ 70368744177664) = false := by simpa using h2
      go_enter Tryz.func69, Tryz.ntmps69
      go_wp2_with fail
      go_ret
      exact ⟨by rw [← HR.out, decide_eq_false (by unfold Val; omega)]; rfl, rfl⟩
  · have h1' : decide (-70368744177664 ≤ a) = false := by simpa using h1
    go_enter Tryz.func69, Tryz.ntmps69
    go_wp2_with fail
    go_ret
    exact ⟨by rw [← HR.out, decide_eq_false (by unfold Val; omega)]; rfl, rfl⟩
theorem refHow (how : Int) (w : World) : Calls Tryz.prog 70 #[.int .i64 how] w fun e w' => e = .returned (.bool (decide (HowOk how))) ∧ w = w' := by
  have H := Lib.hid (fun w => refIn how 0 3 w)
  obtain ⟨r, hr⟩ : ∃ r, decide (HowOk how) = r := ⟨_, rfl⟩
  have hr' : decide (0 ≤ how ∧ how ≤ 3) = r := hr
  rw [hr'] at H
  rw [hr]
  clear hr hr'
  go_enter Tryz.func70, Tryz.ntmps70
  go_wp2_with (go_at_call 66; refine (H.out _).mono ?_; rintro e w' ⟨rfl, rfl⟩)
  go_ret
  exact ⟨rfl, rfl⟩
theorem refSize (a : Int) (w : World) (h : Val a) : Calls Tryz.prog 73 #[.int .i64 a] w fun e w' => e = .returned (.int .i64 (sz a)) ∧ w = w' := by
  obtain ⟨h1, h2⟩ := h
  by_cases hn : a < 0
  · go_enter Tryz.func73, Tryz.ntmps73
    go_wp2_with fail
    go_ret
    exact ⟨ret_i (by unfold sz; rw [if_pos hn]), rfl⟩
  · go_enter Tryz.func73, Tryz.ntmps73
    go_wp2_with fail
    go_ret
    exact ⟨ret_i (by unfold sz; rw [if_neg (by omega)]), rfl⟩
/-- What fit comes to. -/
def refFitR (n : Int) (b : Bool) : Except Int Int := if b = true ∧ Val n then .ok n else .error 4
theorem refFit (n : Int) (b : Bool) (w : World) : Calls Tryz.prog 76 #[.int .i64 n, .bool b] w fun e w' => e = .returned (.tuple #[.int .i64 (valE 0 (refFitR n b)), .int .i64 (errE (refFitR n b))]) ∧ w = w' := by
  cases b
  · have e : refFitR n false = .error 4 := by unfold refFitR; rw [if_neg (fun h => by cases h.1)]
    rw [e]
    go_enter Tryz.func76, Tryz.ntmps76
    go_wp2_with fail
    go_ret2
    exact ⟨rfl, rfl⟩
  · by_cases h1 : n < -70368744177664
    · have e : Hid (refFitR n true = .error 4) := by show _ = _; unfold refFitR; rw [if_neg (fun h => by have := h.2.1; omega)]
      rw [e.out]
      go_enter Tryz.func76, Tryz.ntmps76
      go_wp2_with fail
      go_ret2
      exact ⟨rfl, rfl⟩
    · have h1' : decide (n < -70368744177664) = false := by simpa using h1
      by_cases h2 : 70368744177664 < n
      · have e : Hid (refFitR n true = .error 4) := by show _ = _; unfold refFitR; rw [if_neg (fun h => by have := h.2.2; omega)]
        rw [e.out]
        go_enter Tryz.func76, Tryz.ntmps76
        go_wp2_with fail
        go_ret2
        exact ⟨rfl, rfl⟩
      · have h2' : decide (70368744177664 < n) = false := by simpa using h2
        have e : Hid (refFitR n true = .ok n) := by show _ = _; unfold refFitR; rw [if_pos ⟨rfl, by omega, by omega⟩]
        rw [e.out]
        go_enter Tryz.func76, Tryz.ntmps76
        go_wp2_with fail
        go_ret2
        exact ⟨rfl, rfl⟩
theorem refCheck (a : Int) (w : World) : Calls Tryz.prog 26 #[.int .i64 a] w fun e w' => e = .returned (.int .i64 (errE (checkR a))) ∧ w = w' := by
  by_cases hv : Val a
  · have H : Hid (∀ w, Calls Tryz.prog 69 #[.int .i64 a] w fun e w' => e = .returned (.bool true) ∧ w = w') := fun w => by have := refValid a w; rwa [decide_eq_true hv] at this
    rw [show errE (checkR a) = 0 by unfold checkR; rw [if_pos hv]; rfl]
    clear hv
    go_enter Tryz.func26, Tryz.ntmps26
    go_wp2_with (go_at_call 69; refine (H.out _).mono ?_; rintro e w' ⟨rfl, rfl⟩)
    go_ret
    exact ⟨rfl, rfl⟩
  · have H : Hid (∀ w, Calls Tryz.prog 69 #[.int .i64 a] w fun e w' => e = .returned (.bool false) ∧ w = w') := fun w => by have := refValid a w; rwa [decide_eq_false hv] at this
    rw [show errE (checkR a) = 2 by unfold checkR; rw [if_neg hv]; rfl]
    clear hv
    go_enter Tryz.func26, Tryz.ntmps26
    go_wp2_with (go_at_call 69; refine (H.out _).mono ?_; rintro e w' ⟨rfl, rfl⟩)
    go_ret
    exact ⟨rfl, rfl⟩
theorem refOf (n : Int) (w : World) : Calls Tryz.prog 18 #[.int .i64 n] w fun e w' => e = .returned (.tuple #[.int .i64 (valE 0 (ofR n)), .int .i64 (errE (ofR n))]) ∧ w = w' := by
  by_cases hv : -1073741824 ≤ n ∧ n ≤ 1073741824
  · have H : Hid (∀ w, Calls Tryz.prog 66 #[.int .i64 n, .int .i64 (-1073741824), .int .i64 1073741824] w fun e w' => e = .returned (.bool true) ∧ w = w') := fun w => by have := refIn n (-1073741824) 1073741824 w; rwa [decide_eq_true hv] at this
    have e : Hid (ofR n = .ok (n * 65536)) := by show _ = _; unfold ofR; rw [if_pos (by omega)]
    rw [e.out]
    obtain ⟨h1, h2⟩ := hv
    go_enter Tryz.func18, Tryz.ntmps18
    go_wp2_with (go_at_call 66; refine (H.out _).mono ?_; rintro e w' ⟨rfl, rfl⟩)
    go_ret2
    exact ⟨rfl, rfl⟩
  · have H : Hid (∀ w, Calls Tryz.prog 66 #[.int .i64 n, .int .i64 (-1073741824), .int .i64 1073741824] w fun e w' => e = .returned (.bool false) ∧ w = w') := fun w => by have := refIn n (-1073741824) 1073741824 w; rwa [decide_eq_false hv] at this
    have e : Hid (ofR n = .error 4) := by show _ = _; unfold ofR; rw [if_neg (by omega)]
    rw [e.out]
    clear hv
    go_enter Tryz.func18, Tryz.ntmps18
    go_wp2_with (go_at_call 66; refine (H.out _).mono ?_; rintro e w' ⟨rfl, rfl⟩)
    go_ret2
    exact ⟨rfl, rfl⟩

theorem ret2_ib {a b : Int} {s : Bool} (h : a = b) : Ending.returned (.tuple #[.int .i64 a, .bool s]) = .returned (.tuple #[.int .i64 b, .bool s]) := by rw [h]
theorem BigN.len0 {w : World} {A : Option Addr} {n cap : Nat} {N : Nat} (h : BigN w (.slice A n cap) N) : N = 0 ↔ n = 0 := by
  obtain ⟨l, ⟨A', cap', he, -⟩, hc, hv⟩ := h
  injection he with _ h2 _
  rw [← hv, hc.zero, h2]
  exact List.length_eq_zero_iff.symm

set_option maxHeartbeats 4000000 in
/-- A quotient of natural numbers, rounded. -/
theorem rounded_N (va vb : Value) (N D : Nat) (neg : Bool) (how : Int) (w : World) (ha : BigN w va N) (hb : BigN w vb D) (la : Lim N) (lb : Lim (32768 * D)) (hD : 0 < D) (hh : HowOk how) :
    Calls Tryz.prog 71 #[va, vb, .bool neg, .int .i64 how] w fun e w' =>
      e = .returned (.tuple #[.int .i64 (sgn ((if N / D < 1152921504606846976 then ((N / D : Nat) : Int) else 0) + b2i (bump (119 + how.toNat) ((N % D : Nat) : Int) (D : Int) neg)) neg), .bool (decide (N / D < 1152921504606846976))]) ∧ Below w.heap.size w w' := by
  have HA := Lib.hid ha
  have HB := Lib.hid hb
  obtain ⟨XA, na, capa, rfl⟩ := ha.form
  obtain ⟨XB, nb, capb, rfl⟩ := hb.form
  have hq0 : (0 : Int) ≤ (if N / D < 1152921504606846976 then ((N / D : Nat) : Int) else 0) ∧ (if N / D < 1152921504606846976 then ((N / D : Nat) : Int) else 0) < 1152921504606846976 := by generalize N / D = x; split <;> omega
  have HN : Hid (∀ v w, BigN w v (N / D) → Calls Tryz.prog 130 #[v] w fun e w' => e = .returned (.tuple #[.int .i64 (if N / D < 1152921504606846976 then ((N / D : Nat) : Int) else 0), .bool (decide (N / D < 1152921504606846976))]) ∧ w = w') := fun v w h =>
    number_N v _ w h (la.le (Nat.div_le_self _ _))
  obtain ⟨q, hq⟩ : ∃ q : Int, (if N / D < 1152921504606846976 then ((N / D : Nat) : Int) else 0) = q := ⟨_, rfl⟩
  obtain ⟨sm, hsm⟩ : ∃ sm : Bool, decide (N / D < 1152921504606846976) = sm := ⟨_, rfl⟩
  rw [hq, hsm] at HN
  rw [hq] at hq0
  rw [hq, hsm]
  obtain ⟨q1, q2⟩ := hq0
  obtain ⟨R, hR⟩ : ∃ R, N % D = R := ⟨_, rfl⟩
  have hRD : R < D := by rw [← hR]; exact Nat.mod_lt _ hD
  have HOV : Hid (∀ va vb w, BigN w va N → BigN w vb D → Calls Tryz.prog 129 #[va, vb] w (OverOut w (N / D) R)) := fun va vb w h1 h2 => by have := over_N va vb N D w h1 h2 la lb hD; rwa [hR] at this
  rw [hR]
  have LD : Lim D := lb.le (by omega)
  have LR : Hid (Lim R) := LD.le (by omega)
  have HPL : Hid (∀ v w, BigN w v R → Calls Tryz.prog 110 #[v, v] w (BigOut w (R + R))) := fun v w h => plus_N v v R R w h h LR.out LR.out
  have HOR : Hid (∀ va vb w, BigN w va (R + R) → BigN w vb D → Calls Tryz.prog 96 #[va, vb] w fun e w' => e = .returned (.int .i64 (cmpI ((R : Int) + (R : Int)) D)) ∧ Below w.heap.size w w') := fun va vb w h1 h2 => by
    have := order_N va vb (R + R) D w h1 h2 (lb.le (by omega)) LD
    rwa [Int.natCast_add] at this
  obtain ⟨c, hc⟩ : ∃ c, cmpI ((R : Int) + (R : Int)) D = c := ⟨_, rfl⟩
  rw [hc] at HOR
  have hc' : c = -1 ∨ 0 ≤ c := by rw [← hc]; unfold cmpI; split <;> (try split) <;> omega
  obtain ⟨res, hres⟩ : ∃ res, sgn (q + b2i (bump (119 + how.toNat) (R : Int) (D : Int) neg)) neg = res := ⟨_, rfl⟩
  have HRES := Lib.hid hres
  have HC := Lib.hid hc
  rw [hres]
  clear hres hc hq hsm hR ha hb la lb LD hRD
  have hh4 : how = 0 ∨ how = 1 ∨ how = 2 ∨ how = 3 := by unfold HowOk at hh; omega
  clear hh
  by_cases hR0 : R = 0
  · have HR0 := Lib.hid hR0
    clear hR0
    rcases hc' with rfl | hc0 <;> rcases hh4 with rfl | rfl | rfl | rfl <;> cases neg
    all_goals
      go_enter Tryz.func71, Tryz.ntmps71
      go_wp2_with (first
        | (go_at_call 129; refine (HOV.out _ _ _ HA.out HB.out).mono ?_; rintro e w1 ⟨v1, v2, rfl, h1, h2, hb1⟩; have G1 := Lib.hid h1; have G2 := Lib.hid h2; obtain ⟨X1, n1, cap1, rfl⟩ := h1.form; obtain ⟨X2, n2, cap2, rfl⟩ := h2.form; obtain rfl : n2 = 0 := (h2.len0).1 HR0.out; clear h1 h2)
        | (go_at_call 130; refine (HN.out _ _ G1.out).mono ?_; rintro e w' ⟨rfl, rfl⟩)
        | (go_at_call 110; refine (HPL.out _ _ G2.out).mono ?_; rintro e w2 ⟨v3, rfl, h3, hb2⟩; have G3 := Lib.hid h3; obtain ⟨X3, n3, cap3, rfl⟩ := h3.form; clear h3)
        | (go_at_call 96; refine (HOR.out _ _ _ G3.out ((HB.out.up hb1).up hb2)).mono ?_; rintro e w3 ⟨rfl, hb3⟩))
      go_ret2
      refine ⟨ret2_ib ?_, ?_⟩
      · rw [← HRES.out, HR0.out]; simp [sgn, bump, b2i]
      · first | exact hb1 | exact (hb1.trans (hb2.mono hb1.size)).trans (hb3.mono (Nat.le_trans hb1.size hb2.size))
  · have HR0 := Lib.hid hR0
    clear hR0
    rcases hc' with rfl | hc0 <;> rcases hh4 with rfl | rfl | rfl | rfl <;> cases neg
    all_goals
      go_enter Tryz.func71, Tryz.ntmps71
      go_wp2_with (first
        | (go_at_call 129; refine (HOV.out _ _ _ HA.out HB.out).mono ?_; rintro e w1 ⟨v1, v2, rfl, h1, h2, hb1⟩; have G1 := Lib.hid h1; have G2 := Lib.hid h2; obtain ⟨X1, n1, cap1, rfl⟩ := h1.form; obtain ⟨X2, n2, cap2, rfl⟩ := h2.form; have hn2 : (0 : Int) < (n2 : Int) := (by have h0 : ¬ n2 = 0 := fun h => HR0.out ((h2.len0).2 h); omega); clear h1 h2)
        | (go_at_call 130; refine (HN.out _ _ G1.out).mono ?_; rintro e w' ⟨rfl, rfl⟩)
        | (go_at_call 110; refine (HPL.out _ _ G2.out).mono ?_; rintro e w2 ⟨v3, rfl, h3, hb2⟩; have G3 := Lib.hid h3; obtain ⟨X3, n3, cap3, rfl⟩ := h3.form; clear h3)
        | (go_at_call 96; refine (HOR.out _ _ _ G3.out ((HB.out.up hb1).up hb2)).mono ?_; rintro e w3 ⟨rfl, hb3⟩))
      go_ret2
      refine ⟨ret2_ib ?_, ?_⟩
      · have hR1 : (0 : Int) < (R : Int) := by have := HR0.out; omega
        rw [← HRES.out]
        simp [sgn, bump, b2i, rndB, HC.out]
        first | done | omega
      · first | exact hb1 | exact (hb1.trans (hb2.mono hb1.size)).trans (hb3.mono (Nat.le_trans hb1.size hb2.size))
end Go.Proofs.YthkhhjfldkebcaaGreatDoor
