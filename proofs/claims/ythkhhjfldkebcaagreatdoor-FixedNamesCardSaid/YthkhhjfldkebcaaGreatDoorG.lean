/- Contracts of wide.up (by 2) and of root: a root, rounded by a way. -/
import Derived.Test.YthkhhjfldkebcaaGreatDoorF
import Derived.Test.YthkhhjfldkebcaaGreatDoorE
namespace Go.Proofs.YthkhhjfldkebcaaGreatDoor
open Go.RowKit Go.Proofs

theorem up2_num {h l A : Int} (H : InW h l A) (hA : A < 85070591730234615865843651857942052864) : bits .or .u64 (IntKind.u64.wrap (h * 4)) (l / 4611686018427387904) = hiU (4 * A) ∧ IntKind.u64.wrap (l * 4) = loU (4 * A) := by
  have := H.h0; have := H.l0; have := H.l1; have := H.e
  constructor
  · rw [IntWalk.u64_in _ (by omega), show h * 4 = h * 2 ^ 2 from rfl, or_add h _ 2 (by omega) (by omega) (by omega) (by omega)]
    unfold hiU; omega
  · rw [IntKind.wrap_u64]; unfold loU; omega

set_option maxHeartbeats 400000 in
theorem up2_any {h l A : Int} (H : InW h l A) (w : World) (hA : A < 85070591730234615865843651857942052864) :
    Calls Tryz.prog 127 #[.agg #[.int .u64 h, .int .u64 l], .int .u64 2] w fun e w' => e = .returned (.agg #[.int .u64 (hiU (4 * A)), .int .u64 (loU (4 * A))]) ∧ Below w.heap.size w w' := by
  obtain ⟨e1, e2⟩ := up2_num H hA
  clear H hA
  go_enter Tryz.func127, Tryz.ntmps127
  go_wp2
  refine bodyPost_ret (v := .agg #[.int .u64 (hiU (4 * A)), .int .u64 (loU (4 * A))]) (by simp [results, Tryz.results127, go_sem]) rfl ⟨rfl, ?_⟩
  exact ((Below.refl _ _).alloc (Nat.le_refl _) _).alloc (by simp) _

theorem QuotOut.ok {w w' : World} {p q : Int} {neg : Bool} (e : p = q) (h : q ≤ 70368744177664) (hb : Below w.heap.size w w') : QuotOut w p neg (.returned (.int .i64 (sgn q neg))) w' := by
  subst e; exact ⟨by rw [if_pos h], hb⟩
theorem QuotOut.no {w w' : World} {p q : Int} {neg : Bool} (e : p = q) (h : 70368744177664 < q) (hb : Below w.heap.size w w') : QuotOut w p neg (.panicked (Mis 4)) w' := by
  subst e; exact ⟨by rw [if_neg (Int.not_le.mpr h)], hb⟩

set_option maxHeartbeats 1000000 in
theorem root_exact {h l A n : Int} (H : InW h l A) (k : Nat) (w : World) (R : IsRoot A n) (hA : A < 85070591730234615865843651857942052864) (hn : n * n = A) :
    Calls Tryz.prog 65 #[.agg #[.int .u64 h, .int .u64 l], .func (.func k) #[] #[]] w (QuotOut w n false) := by
  have n0 := R.nn
  have n1 : n ≤ 9223372036854775807 := R.bound (by omega) (by omega)
  have hh := H.hi_eq; have hl := H.lo_eq
  have HH := Lib.hid H; have RR := Lib.hid R
  have HA := Lib.hid hA; have HN := Lib.hid hn
  have Hh := Lib.hid hh; have Hl := Lib.hid hl
  clear H R hA hn hh hl
  go_enter Tryz.func65, Tryz.ntmps65
  go_wp2_with (go_at_call 126; refine (wroot_any HH.out _ HA.out).mono ?_; rintro e w1 ⟨m, rfl, hm, hb1⟩; obtain rfl := IsRoot.unique RR.out hm.out; have hsz := hb1.size; have c0 := hb1.cell (p := ⟨w.heap.size, 0, none⟩) (by simp); have c1 := hb1.cell (p := ⟨w.heap.size, 1, none⟩) (by simp); simp [go_sem] at c0 c1 hsz)
  have X0 : ∀ X : BW w1, X.to.cell? ⟨w.heap.size, 0, none⟩ = some (.int .u64 h) := fun X => (X.cell _ _ (by omega)).trans c0
  have X1 : ∀ X : BW w1, X.to.cell? ⟨w.heap.size, 1, none⟩ = some (.int .u64 l) := fun X => (X.cell _ _ (by omega)).trans c1
  refine wp_region_quietB (by kernel_rfl) (by kernel_rfl) ?_
  go_big_quiet_step (fail)
  go_big_quiet_step (fail)
  go_big_quiet_step ((go_at_call 62; exact quietB (product_any _ _ _ n0 (by omega) n0 (by omega))))
  go_big_quiet_step (fail)
  rw [Hh.out, Hl.out, ← HN.out]
  go_big_quiet_step (fail)
  repeat (go_big_quiet_step (fail))
  refine wpQuiet_nil ?_
  rintro _ ⟨⟨wy, hby⟩, rfl⟩
  by_cases hs : n ≤ 70368744177664
  · have HS := Lib.hid hs
    go_wp2_with (go_at_call 85; refine (signed_ok _ _ _ (by omega) (by omega)).mono ?_; rintro e w' ⟨rfl, rfl⟩)
    go_ret
    exact ⟨by rw [if_pos HS.out]; rfl, (((Below.refl _ _).alloc (Nat.le_refl _) _).trans ((hb1.trans (hby.mono hb1.size)).mono (by simp)))⟩
  · have HS : Hid (70368744177664 < n) := Int.not_le.mp hs
    have hs' : decide (n ≤ 70368744177664) = false := by simpa using hs
    clear hs
    go_wp2_with (go_at_call 85; refine (signed_no _ _ _ hs').mono ?_; rintro e w' ⟨rfl, rfl⟩)
    exact ⟨rfl, by rw [if_neg (Int.not_le.mpr HS.out)], (((Below.refl _ _).alloc (Nat.le_refl _) _).trans ((hb1.trans (hby.mono hb1.size)).mono (by simp)))⟩
set_option maxHeartbeats 1000000 in
theorem root_near {h l A n : Int} (H : InW h l A) (k : Nat) (w : World) (R : IsRoot A n) (hA : A < 85070591730234615865843651857942052864) (hn : n * n ≠ A) (hk : k = 119 ∨ k = 120 ∨ k = 121 ∨ k = 122) :
    Calls Tryz.prog 65 #[.agg #[.int .u64 h, .int .u64 l], .func (.func k) #[] #[]] w (QuotOut w (n + b2i (rndB k (cmpI (4 * A) ((2 * n + 1) * (2 * n + 1))) false)) false) := by
  have n0 := R.nn
  have n1 : n ≤ 9223372036854775807 := R.bound (by omega) (by omega)
  have HH := Lib.hid H; have RR := Lib.hid R
  have HA := Lib.hid hA; have HN := Lib.hid hn
  have hne : ∀ {α : Type} (A B : α), (if hiU (n * n) = h then if loU (n * n) = l then A else B else B) = B := by
    intro α A B
    split
    · split
      · exfalso
        have e1 := H.e
        have e2 := (InW.mk' (n := n * n) (Int.mul_nonneg n0 n0) (by have := R.le; omega)).e
        apply hn; omega
      · rfl
    · rfl
  have hA0 := H.nn
  have hA1 := hA
  have hN0 : 0 ≤ (2 * n + 1) * (2 * n + 1) := Int.mul_nonneg (by omega) (by omega)
  have hN1 : (2 * n + 1) * (2 * n + 1) < 340282366920938463463374607431768211456 := by
    have := Int.mul_le_mul (show 2 * n + 1 ≤ 18446744073709551615 by omega) (show 2 * n + 1 ≤ 18446744073709551615 by omega) (by omega) (by omega)
    omega
  clear H R hA hn
  go_enter Tryz.func65, Tryz.ntmps65
  go_wp2_with (go_at_call 126; refine (wroot_any HH.out _ HA.out).mono ?_; rintro e w1 ⟨m, rfl, hm, hb1⟩; obtain rfl := IsRoot.unique RR.out hm.out; have hsz := hb1.size; have c0 := hb1.cell (p := ⟨w.heap.size, 0, none⟩) (by simp); have c1 := hb1.cell (p := ⟨w.heap.size, 1, none⟩) (by simp); simp [go_sem] at c0 c1 hsz)
  have X0 : ∀ X : BW w1, X.to.cell? ⟨w.heap.size, 0, none⟩ = some (.int .u64 h) := fun X => (X.cell _ _ (by omega)).trans c0
  have X1 : ∀ X : BW w1, X.to.cell? ⟨w.heap.size, 1, none⟩ = some (.int .u64 l) := fun X => (X.cell _ _ (by omega)).trans c1
  refine wp_region_quietB (by kernel_rfl) (by kernel_rfl) ?_
  go_big_quiet_step (fail)
  go_big_quiet_step (fail)
  go_big_quiet_step ((go_at_call 62; exact quietB (product_any _ _ _ n0 (by omega) n0 (by omega))))
  go_big_quiet_step (fail)
  go_big_quiet_step ((rw [hne]; exact ⟨rfl, rfl⟩))
  obtain ⟨b, hb⟩ : ∃ b, rndB k (cmpI (4 * A) ((2 * n + 1) * (2 * n + 1))) false = b := ⟨_, rfl⟩
  have HB := Lib.hid hb
  clear hb
  rcases hk with rfl | rfl | rfl | rfl
  all_goals
    repeat (go_big_quiet_step ((first
      | (go_at_call 127; exact quietB (up2_any HH.out _ HA.out))
      | (go_at_call 62; exact quietB (product_any _ _ _ (by omega) (by omega) (by omega) (by omega)))
      | (go_at_call 95; exact quietB (compareW (InW.mk' (by omega) (by omega)) (InW.mk' hN0 hN1) _))
      | (go_at_call 119; exact quietS (rnd119 _ _ _))
      | (go_at_call 120; exact quietS (rnd120 _ _ _))
      | (go_at_call 121; exact quietS (rnd121 _ _ _))
      | (go_at_call 122; exact quietS (rnd122 _ _ _)))))
    refine wpQuiet_nil ?_
    rintro _ ⟨⟨wy, hby⟩, rfl⟩
    rw [HB.out]
    cases b
    ·
      by_cases hs : n ≤ 70368744177664
      · have HS := Lib.hid hs
        go_wp2_with (go_at_call 85; refine (signed_ok _ _ _ (by omega) (by omega)).mono ?_; rintro e w' ⟨rfl, rfl⟩)
        go_ret
        exact QuotOut.ok (by rw [HB.out]; simp [b2i]) HS.out (((Below.refl _ _).alloc (Nat.le_refl _) _).trans ((hb1.trans (hby.mono hb1.size)).mono (by simp)))
      · have HS : Hid (70368744177664 < n) := Int.not_le.mp hs
        have hs' : decide (n ≤ 70368744177664) = false := by simpa using hs
        clear hs
        go_wp2_with (go_at_call 85; refine (signed_no _ _ _ hs').mono ?_; rintro e w' ⟨rfl, rfl⟩)
        exact ⟨rfl, QuotOut.no (by rw [HB.out]; simp [b2i]) HS.out (((Below.refl _ _).alloc (Nat.le_refl _) _).trans ((hb1.trans (hby.mono hb1.size)).mono (by simp)))⟩
    ·
      by_cases hs : n + 1 ≤ 70368744177664
      · have HS := Lib.hid hs
        go_wp2_with (go_at_call 85; refine (signed_ok _ _ _ (by omega) (by omega)).mono ?_; rintro e w' ⟨rfl, rfl⟩)
        go_ret
        exact QuotOut.ok (by rw [HB.out]; simp [b2i]) HS.out (((Below.refl _ _).alloc (Nat.le_refl _) _).trans ((hb1.trans (hby.mono hb1.size)).mono (by simp)))
      · have HS : Hid (70368744177664 < n + 1) := Int.not_le.mp hs
        have hs' : decide (n + 1 ≤ 70368744177664) = false := by simpa using hs
        clear hs
        go_wp2_with (go_at_call 85; refine (signed_no _ _ _ hs').mono ?_; rintro e w' ⟨rfl, rfl⟩)
        exact ⟨rfl, QuotOut.no (by rw [HB.out]; simp [b2i]) HS.out (((Below.refl _ _).alloc (Nat.le_refl _) _).trans ((hb1.trans (hby.mono hb1.size)).mono (by simp)))⟩

/-- Whether a root is rounded to the next number. -/
def rbump (k : Nat) (A n : Int) : Bool := decide (n * n ≠ A) && rndB k (cmpI (4 * A) ((2 * n + 1) * (2 * n + 1))) false

theorem root_any {h l A n : Int} (H : InW h l A) (k : Nat) (w : World) (R : IsRoot A n) (hA : A < 85070591730234615865843651857942052864) (hk : k = 119 ∨ k = 120 ∨ k = 121 ∨ k = 122) :
    Calls Tryz.prog 65 #[.agg #[.int .u64 h, .int .u64 l], .func (.func k) #[] #[]] w (QuotOut w (n + b2i (rbump k A n)) false) := by
  by_cases hn : n * n = A
  · have : rbump k A n = false := by unfold rbump; simp [hn]
    rw [this]
    simpa [b2i] using root_exact H k w R hA hn
  · have : rbump k A n = rndB k (cmpI (4 * A) ((2 * n + 1) * (2 * n + 1))) false := by unfold rbump; simp [hn]
    rw [this]
    exact root_near H k w R hA hn hk
end Go.Proofs.YthkhhjfldkebcaaGreatDoor
