/- The contract of quotient: a quotient, rounded by a way, with a sign; or a misfit. -/
import Derived.Test.YthkhhjfldkebcaaGreatDoorD
import Derived.Test.YthkhhjfldkebcaaGreatDoorQ
namespace Go.Proofs.YthkhhjfldkebcaaGreatDoor
open Go.RowKit Go.Proofs

/-- Whether a quotient is rounded to the next size. -/
def bump (k : Nat) (r d : Int) (neg : Bool) : Bool := decide (0 < r) && rndB k (cmpI (r + r) d) neg
def b2i (b : Bool) : Int := if b then 1 else 0

theorem quot_big {h l : Int} (k : Nat) (d : Int) (neg : Bool) (w : World) (hh : d ≤ h) :
    Calls Tryz.prog 61 #[.agg #[.int .u64 h, .int .u64 l], .int .u64 d, .bool neg, .func (.func k) #[] #[]] w fun e w' => e = .panicked (Mis 4) ∧ Below w.heap.size w w' := by
  go_enter Tryz.func61, Tryz.ntmps61
  go_wp2_with (first
    | (go_at_call 123; refine (over_no _ _ hh).mono ?_; rintro e w1 ⟨rfl, hb⟩)
    | (go_at_call 60; refine (need_no _ _).mono ?_; rintro e w' ⟨rfl, rfl⟩))
  exact ⟨rfl, rfl, ((Below.refl _ _).alloc (Nat.le_refl _) _).trans (hb.mono (by simp))⟩

/-- What quotient comes to. -/
def QuotOut (w : World) (q : Int) (neg : Bool) (e : Ending) (w' : World) : Prop :=
  (if q ≤ 70368744177664 then e = .returned (.int .i64 (sgn q neg)) else e = .panicked (Mis 4)) ∧ Below w.heap.size w w'


set_option maxHeartbeats 1000000 in
/-- No rest: nothing is rounded. -/
theorem quot_even {h l q : Int} (k : Nat) (d : Int) (neg : Bool) (w : World)
    (OV : Hid (∀ w, Calls Tryz.prog 123 #[.agg #[.int .u64 h, .int .u64 l], .int .u64 d] w fun e w' => e = .returned (.tuple #[.int .u64 q, .int .u64 0, .bool true]) ∧ Below w.heap.size w w')) (hq0 : 0 ≤ q) :
    Calls Tryz.prog 61 #[.agg #[.int .u64 h, .int .u64 l], .int .u64 d, .bool neg, .func (.func k) #[] #[]] w (QuotOut w q neg) := by
  by_cases hs : q ≤ 70368744177664
  · have HS := Lib.hid hs
    go_enter Tryz.func61, Tryz.ntmps61
    go_wp2_with (first
        | (go_at_call 123; refine (OV.out _).mono ?_; rintro e w1 ⟨rfl, hb1⟩)
        | (go_at_call 60; refine (need_ok _ _).mono ?_; rintro e w' ⟨rfl, rfl⟩)
        | (go_at_call 85; refine (signed_ok _ _ _ (by omega) (by omega)).mono ?_; rintro e w' ⟨rfl, rfl⟩))
    go_ret
    exact ⟨by rw [if_pos HS.out]; rfl, ((Below.refl _ _).alloc (Nat.le_refl _) _).trans (hb1.mono (by simp))⟩
  · have HS : Hid (70368744177664 < q) := Int.not_le.mp hs
    have hs' : decide (q ≤ 70368744177664) = false := by simpa using hs
    clear hs
    go_enter Tryz.func61, Tryz.ntmps61
    go_wp2_with (first
        | (go_at_call 123; refine (OV.out _).mono ?_; rintro e w1 ⟨rfl, hb1⟩)
        | (go_at_call 60; refine (need_ok _ _).mono ?_; rintro e w' ⟨rfl, rfl⟩)
        | (go_at_call 85; refine (signed_no _ _ _ hs').mono ?_; rintro e w' ⟨rfl, rfl⟩))
    exact ⟨rfl, by rw [if_neg (Int.not_le.mpr HS.out)], ((Below.refl _ _).alloc (Nat.le_refl _) _).trans (hb1.mono (by simp))⟩

set_option maxHeartbeats 2000000 in
theorem quot_flat {h l q r : Int} (k : Nat) (d : Int) (neg : Bool) (w : World) (h2 : d ≤ 18446744073709551615)
    (OV : Hid (∀ w, Calls Tryz.prog 123 #[.agg #[.int .u64 h, .int .u64 l], .int .u64 d] w fun e w' => e = .returned (.tuple #[.int .u64 q, .int .u64 r, .bool true]) ∧ Below w.heap.size w w')) (hq0 : 0 ≤ q) (_hq1 : q ≤ 18446744073709551615)
    (hr0 : 0 ≤ r) (hr1 : r < d) (hr : 0 < r) (GB : Hid (rndB k (cmpI (r + r) d) neg = false)) (hk : k = 119 ∨ k = 120 ∨ k = 121 ∨ k = 122) :
    Calls Tryz.prog 61 #[.agg #[.int .u64 h, .int .u64 l], .int .u64 d, .bool neg, .func (.func k) #[] #[]] w (QuotOut w (q) neg) := by
  by_cases hs : q ≤ 70368744177664
  · have HS := Lib.hid hs
    rcases hk with rfl | rfl | rfl | rfl
    all_goals
      go_enter Tryz.func61, Tryz.ntmps61
      go_wp2_with (first
          | (go_at_call 123; refine (OV.out _).mono ?_; rintro e w1 ⟨rfl, hb1⟩)
          | (go_at_call 60; refine (need_ok _ _).mono ?_; rintro e w' ⟨rfl, rfl⟩)
          | (go_at_call 124; refine (plusW (InW.small hr0 (by omega)) (InW.small hr0 (by omega)) (by omega) _).mono ?_; rintro e w2 ⟨hh, ll, rfl, hW, hb2⟩)
          | (go_at_call 95; refine (compareW hW.out (InW.small (by omega) h2) _).mono ?_; rintro e w3 ⟨rfl, hb3⟩)
          | (go_at_call 119; refine (rnd119 _ _ _).mono ?_; rw [GB.out]; rintro e w' ⟨rfl, rfl⟩)
          | (go_at_call 120; refine (rnd120 _ _ _).mono ?_; rw [GB.out]; rintro e w' ⟨rfl, rfl⟩)
          | (go_at_call 121; refine (rnd121 _ _ _).mono ?_; rw [GB.out]; rintro e w' ⟨rfl, rfl⟩)
          | (go_at_call 122; refine (rnd122 _ _ _).mono ?_; rw [GB.out]; rintro e w' ⟨rfl, rfl⟩)
          | (go_at_call 85; refine (signed_ok _ _ _ (by omega) (by omega)).mono ?_; rintro e w' ⟨rfl, rfl⟩))
      go_ret
      exact ⟨by rw [if_pos HS.out]; rfl, ((Below.refl _ _).alloc (Nat.le_refl _) _).trans (((hb1.trans (hb2.mono hb1.size)).trans (hb3.mono (Nat.le_trans hb1.size hb2.size))).mono (by simp))⟩
  · have HS : Hid (70368744177664 < q) := Int.not_le.mp hs
    have hs' : decide (q ≤ 70368744177664) = false := by simpa using hs
    clear hs
    rcases hk with rfl | rfl | rfl | rfl
    all_goals
      go_enter Tryz.func61, Tryz.ntmps61
      go_wp2_with (first
          | (go_at_call 123; refine (OV.out _).mono ?_; rintro e w1 ⟨rfl, hb1⟩)
          | (go_at_call 60; refine (need_ok _ _).mono ?_; rintro e w' ⟨rfl, rfl⟩)
          | (go_at_call 124; refine (plusW (InW.small hr0 (by omega)) (InW.small hr0 (by omega)) (by omega) _).mono ?_; rintro e w2 ⟨hh, ll, rfl, hW, hb2⟩)
          | (go_at_call 95; refine (compareW hW.out (InW.small (by omega) h2) _).mono ?_; rintro e w3 ⟨rfl, hb3⟩)
          | (go_at_call 119; refine (rnd119 _ _ _).mono ?_; rw [GB.out]; rintro e w' ⟨rfl, rfl⟩)
          | (go_at_call 120; refine (rnd120 _ _ _).mono ?_; rw [GB.out]; rintro e w' ⟨rfl, rfl⟩)
          | (go_at_call 121; refine (rnd121 _ _ _).mono ?_; rw [GB.out]; rintro e w' ⟨rfl, rfl⟩)
          | (go_at_call 122; refine (rnd122 _ _ _).mono ?_; rw [GB.out]; rintro e w' ⟨rfl, rfl⟩)
          | (go_at_call 85; refine (signed_no _ _ _ hs').mono ?_; rintro e w' ⟨rfl, rfl⟩))
      exact ⟨rfl, by rw [if_neg (Int.not_le.mpr HS.out)], ((Below.refl _ _).alloc (Nat.le_refl _) _).trans (((hb1.trans (hb2.mono hb1.size)).trans (hb3.mono (Nat.le_trans hb1.size hb2.size))).mono (by simp))⟩

set_option maxHeartbeats 2000000 in
theorem quot_up {h l q r : Int} (k : Nat) (d : Int) (neg : Bool) (w : World) (h2 : d ≤ 18446744073709551615)
    (OV : Hid (∀ w, Calls Tryz.prog 123 #[.agg #[.int .u64 h, .int .u64 l], .int .u64 d] w fun e w' => e = .returned (.tuple #[.int .u64 q, .int .u64 r, .bool true]) ∧ Below w.heap.size w w')) (hq0 : 0 ≤ q) (hq1 : q + 1 ≤ 18446744073709551615)
    (hr0 : 0 ≤ r) (hr1 : r < d) (hr : 0 < r) (GB : Hid (rndB k (cmpI (r + r) d) neg = true)) (hk : k = 119 ∨ k = 120 ∨ k = 121 ∨ k = 122) :
    Calls Tryz.prog 61 #[.agg #[.int .u64 h, .int .u64 l], .int .u64 d, .bool neg, .func (.func k) #[] #[]] w (QuotOut w (q + 1) neg) := by
  by_cases hs : q + 1 ≤ 70368744177664
  · have HS := Lib.hid hs
    rcases hk with rfl | rfl | rfl | rfl
    all_goals
      go_enter Tryz.func61, Tryz.ntmps61
      go_wp2_with (first
          | (go_at_call 123; refine (OV.out _).mono ?_; rintro e w1 ⟨rfl, hb1⟩)
          | (go_at_call 60; refine (need_ok _ _).mono ?_; rintro e w' ⟨rfl, rfl⟩)
          | (go_at_call 124; refine (plusW (InW.small hr0 (by omega)) (InW.small hr0 (by omega)) (by omega) _).mono ?_; rintro e w2 ⟨hh, ll, rfl, hW, hb2⟩)
          | (go_at_call 95; refine (compareW hW.out (InW.small (by omega) h2) _).mono ?_; rintro e w3 ⟨rfl, hb3⟩)
          | (go_at_call 119; refine (rnd119 _ _ _).mono ?_; rw [GB.out]; rintro e w' ⟨rfl, rfl⟩)
          | (go_at_call 120; refine (rnd120 _ _ _).mono ?_; rw [GB.out]; rintro e w' ⟨rfl, rfl⟩)
          | (go_at_call 121; refine (rnd121 _ _ _).mono ?_; rw [GB.out]; rintro e w' ⟨rfl, rfl⟩)
          | (go_at_call 122; refine (rnd122 _ _ _).mono ?_; rw [GB.out]; rintro e w' ⟨rfl, rfl⟩)
          | (go_at_call 85; refine (signed_ok _ _ _ (by omega) (by omega)).mono ?_; rintro e w' ⟨rfl, rfl⟩))
      go_ret
      exact ⟨by rw [if_pos HS.out]; rfl, ((Below.refl _ _).alloc (Nat.le_refl _) _).trans (((hb1.trans (hb2.mono hb1.size)).trans (hb3.mono (Nat.le_trans hb1.size hb2.size))).mono (by simp))⟩
  · have HS : Hid (70368744177664 < q + 1) := Int.not_le.mp hs
    have hs' : decide (q + 1 ≤ 70368744177664) = false := by simpa using hs
    clear hs
    rcases hk with rfl | rfl | rfl | rfl
    all_goals
      go_enter Tryz.func61, Tryz.ntmps61
      go_wp2_with (first
          | (go_at_call 123; refine (OV.out _).mono ?_; rintro e w1 ⟨rfl, hb1⟩)
          | (go_at_call 60; refine (need_ok _ _).mono ?_; rintro e w' ⟨rfl, rfl⟩)
          | (go_at_call 124; refine (plusW (InW.small hr0 (by omega)) (InW.small hr0 (by omega)) (by omega) _).mono ?_; rintro e w2 ⟨hh, ll, rfl, hW, hb2⟩)
          | (go_at_call 95; refine (compareW hW.out (InW.small (by omega) h2) _).mono ?_; rintro e w3 ⟨rfl, hb3⟩)
          | (go_at_call 119; refine (rnd119 _ _ _).mono ?_; rw [GB.out]; rintro e w' ⟨rfl, rfl⟩)
          | (go_at_call 120; refine (rnd120 _ _ _).mono ?_; rw [GB.out]; rintro e w' ⟨rfl, rfl⟩)
          | (go_at_call 121; refine (rnd121 _ _ _).mono ?_; rw [GB.out]; rintro e w' ⟨rfl, rfl⟩)
          | (go_at_call 122; refine (rnd122 _ _ _).mono ?_; rw [GB.out]; rintro e w' ⟨rfl, rfl⟩)
          | (go_at_call 85; refine (signed_no _ _ _ hs').mono ?_; rintro e w' ⟨rfl, rfl⟩))
      exact ⟨rfl, by rw [if_neg (Int.not_le.mpr HS.out)], ((Below.refl _ _).alloc (Nat.le_refl _) _).trans (((hb1.trans (hb2.mono hb1.size)).trans (hb3.mono (Nat.le_trans hb1.size hb2.size))).mono (by simp))⟩

/-- **quotient**: the quotient of n by d, rounded by way k, with a sign; a misfit, if it is no number. -/
theorem quot_any {h l n : Int} (H : InW h l n) (k : Nat) (d : Int) (neg : Bool) (w : World) (h1 : 1 ≤ d) (h2 : d ≤ 18446744073709551615) (hh : h < d)
    (hk : k = 119 ∨ k = 120 ∨ k = 121 ∨ k = 122) (hq : n / d + b2i (bump k (n % d) d neg) ≤ 18446744073709551615) :
    Calls Tryz.prog 61 #[.agg #[.int .u64 h, .int .u64 l], .int .u64 d, .bool neg, .func (.func k) #[] #[]] w (QuotOut w (n / d + b2i (bump k (n % d) d neg)) neg) := by
  have hq0 : 0 ≤ n / d := Int.ediv_nonneg H.nn (by omega)
  have hr0 : 0 ≤ n % d := Int.emod_nonneg _ (by omega)
  have hr1 : n % d < d := Int.emod_lt_of_pos _ (by omega)
  have OV : Hid (∀ w, Calls Tryz.prog 123 #[.agg #[.int .u64 h, .int .u64 l], .int .u64 d] w fun e w' => e = .returned (.tuple #[.int .u64 (n / d), .int .u64 (n % d), .bool true]) ∧ Below w.heap.size w w') :=
    fun w => over_ok H d w h1 h2 hh
  by_cases hz : n % d = 0
  · have hb : bump k (n % d) d neg = false := by unfold bump; simp [hz]
    rw [hz] at OV
    rw [hb]
    have := quot_even k d neg w OV hq0
    simpa [b2i] using this
  · cases hb : rndB k (cmpI (n % d + n % d) d) neg
    · have hb' : bump k (n % d) d neg = false := by unfold bump; simp [hb]
      rw [hb'] at hq ⊢
      have := quot_flat k d neg w h2 OV hq0 (by simpa [b2i] using hq) hr0 hr1 (by omega) hb hk
      simpa [b2i] using this
    · have hb' : bump k (n % d) d neg = true := by unfold bump; simp [hb]; omega
      rw [hb'] at hq ⊢
      exact quot_up k d neg w h2 OV hq0 hq hr0 hr1 (by omega) hb hk
end Go.Proofs.YthkhhjfldkebcaaGreatDoor
