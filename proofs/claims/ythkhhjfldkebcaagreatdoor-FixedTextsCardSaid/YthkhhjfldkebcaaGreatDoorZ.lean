/- Contracts: below, share. -/
import Derived.Test.YthkhhjfldkebcaaGreatDoorY
namespace Go.Proofs.YthkhhjfldkebcaaGreatDoor
open Go.RowKit Go.Proofs Go.Shelf

theorem digits3 (N : Int) : N = hiU (hiU N) * 340282366920938463463374607431768211456 + loU (hiU N) * 18446744073709551616 + loU N := by unfold hiU loU; omega
theorem below_digits {P : Int} (h0 : 0 ≤ P) (h1 : P ≤ 4951760157141521099596496896) :
    hiU P / 4294967296 = hiU (hiU (4294967296 * P)) ∧ bits .or .u64 (IntKind.u64.wrap (hiU P * 4294967296)) (loU P / 4294967296) = loU (hiU (4294967296 * P)) ∧ IntKind.u64.wrap (loU P * 4294967296) = loU (4294967296 * P) := by
  have a0 : 0 ≤ hiU P := hiU_nn h0
  have a1 : hiU P ≤ 268435456 := by unfold hiU; omega
  have b0 := loU_nn P; have b1 := loU_le P
  have e : P = hiU P * 18446744073709551616 + loU P := by unfold hiU loU; omega
  generalize hiU P = h at *
  generalize loU P = l at *
  subst e
  refine ⟨?_, ?_, ?_⟩
  · unfold hiU; omega
  · rw [IntWalk.u64_in _ (by omega), show h * 4294967296 = h * 2 ^ 32 from rfl, or_add h _ 32 (by omega) (by omega) (by omega) (by omega)]
    unfold hiU loU; omega
  · rw [IntKind.wrap_u64]; unfold loU; omega

theorem up2c {w : World} {b : Nat} (h : b < w.heap.size) (o o' : Obj) (k : Nat) : ((w.alloc o).alloc o').cell? ⟨b, k, none⟩ = w.cell? ⟨b, k, none⟩ :=
  (((Below.refl _ w).alloc (Nat.le_refl _) o).alloc (by simp) o').cell (p := ⟨b, k, none⟩) h
theorem below_drewN {B : Nat} {a w : World} (h : Below B a w) (n : Nat) : Below B a (w.drewN n) := ⟨h.os, h.tape, h.output, h.size, h.block⟩
set_option maxHeartbeats 2000000 in
theorem below_any (n s x : Int) (w : World) (hn : 0 ≤ n) (hn' : n ≤ 65536) (hs : 0 ≤ s) (hs' : s ≤ 9903520314283042199192993792) (hx : 0 ≤ x) (hx' : x ≤ 70368744177664) :
    Calls Tryz.prog 133 #[.int .u64 n, Wd s, .int .u64 x] w fun e w' => e = .returned (.bool (decide (n * n * s ≤ 4294967296 * (x * x)))) ∧ Below w.heap.size w w' := by
  have nn := Int.mul_nonneg hn hn
  have nn' : n * n ≤ 4294967296 := Int.mul_le_mul hn' hn' hn (by omega)
  have xx := Int.mul_nonneg hx hx
  have xx' : x * x ≤ 4951760157141521099596496896 := Int.mul_le_mul hx' hx' hx (by omega)
  have BB := bits3_any (n * n) s
  obtain ⟨e0, e1, e2⟩ := below_digits xx xx'
  have dM := digits3 (4294967296 * (x * x))
  have dN := digits3 (n * n * s)
  have NN : 0 ≤ n * n * s := Int.mul_nonneg nn hs
  have r0 := loU_nn (n * n * s); have r1 := loU_le (n * n * s); have r2 := loU_nn (hiU (n * n * s)); have r3 := loU_le (hiU (n * n * s))
  have q0 := loU_nn (4294967296 * (x * x)); have q1 := loU_le (4294967296 * (x * x)); have q2 := loU_nn (hiU (4294967296 * (x * x))); have q3 := loU_le (hiU (4294967296 * (x * x)))
  have BB : Hid (∀ w, Calls Tryz.prog 151 #[.int .u64 (n * n), Wd s] w fun e w' => e = .returned (.tuple #[.agg #[.int .u64 (hiU (hiU (n * n * s))), .int .u64 (loU (hiU (n * n * s)))], .int .u64 (loU (n * n * s))]) ∧ Below w.heap.size w w') :=
    fun w => bits3_any (n * n) s w nn (by omega) hs (by omega)
  have PP : Hid (∀ w, Calls Tryz.prog 62 #[.int .u64 x, .int .u64 x] w fun e w' => e = .returned (.agg #[.int .u64 (hiU (x * x)), .int .u64 (loU (x * x))]) ∧ Below w.heap.size w w') :=
    fun w => product2 x x w hx (by omega) hx (by omega)
  obtain ⟨b, hb⟩ : ∃ b, decide (n * n * s ≤ 4294967296 * (x * x)) = b := ⟨_, rfl⟩
  rw [hb]
  have H1 : ∀ {R0 R1 R2 Q0 Q1 Q2 : Int}, hiU (hiU (n * n * s)) = R0 → loU (hiU (n * n * s)) = R1 → loU (n * n * s) = R2 → hiU (hiU (4294967296 * (x * x))) = Q0 → loU (hiU (4294967296 * (x * x))) = Q1 → loU (4294967296 * (x * x)) = Q2 →
      ((R0 != Q0) = true ∧ decide (R0 < Q0) = b) ∨ (R0 = Q0 ∧ (R1 != Q1) = true ∧ decide (R1 < Q1) = b) ∨ (R0 = Q0 ∧ R1 = Q1 ∧ (R2 != Q2) = true ∧ decide (R2 < Q2) = b) ∨ (R0 = Q0 ∧ R1 = Q1 ∧ R2 = Q2 ∧ true = b) := by
    intro R0 R1 R2 Q0 Q1 Q2 x1 x2 x3 x4 x5 x6
    rw [x1, x2, x3] at dN
    rw [x4, x5, x6] at dM
    rw [x2] at r2 r3; rw [x3] at r0 r1; rw [x5] at q2 q3; rw [x6] at q0 q1
    rw [← hb]
    generalize n * n * s = N at *
    generalize 4294967296 * (x * x) = M at *
    by_cases c0 : R0 = Q0
    · by_cases c1 : R1 = Q1
      · by_cases c2 : R2 = Q2
        · refine .inr (.inr (.inr ⟨c0, c1, c2, ?_⟩)); symm; rw [decide_eq_true_eq]; omega
        · refine .inr (.inr (.inl ⟨c0, c1, by simpa using c2, ?_⟩)); rw [decide_eq_decide]; omega
      · refine .inr (.inl ⟨c0, by simpa using c1, ?_⟩); rw [decide_eq_decide]; omega
    · refine .inl ⟨by simpa using c0, ?_⟩; rw [decide_eq_decide]; omega
  rw [e0.symm, e1.symm, e2.symm] at H1
  obtain ⟨R0, x1⟩ : ∃ R, hiU (hiU (n * n * s)) = R := ⟨_, rfl⟩
  obtain ⟨R1, x2⟩ : ∃ R, loU (hiU (n * n * s)) = R := ⟨_, rfl⟩
  obtain ⟨R2, x3⟩ : ∃ R, loU (n * n * s) = R := ⟨_, rfl⟩
  obtain ⟨Q0, x4⟩ : ∃ R, hiU (x * x) / 4294967296 = R := ⟨_, rfl⟩
  obtain ⟨Q1, x5⟩ : ∃ R, bits .or .u64 (IntKind.u64.wrap (hiU (x * x) * 4294967296)) (loU (x * x) / 4294967296) = R := ⟨_, rfl⟩
  obtain ⟨Q2, x6⟩ : ∃ R, IntKind.u64.wrap (loU (x * x) * 4294967296) = R := ⟨_, rfl⟩
  have H2 := Lib.hid (H1 x1 x2 x3 x4 x5 x6)
  rw [x1, x2, x3] at BB
  have hxx0 := hiU_nn xx
  have hxx1 : hiU (x * x) ≤ 18446744073709551615 := by unfold hiU; omega
  have hxl0 := loU_nn (x * x); have hxl1 := loU_le (x * x)
  clear H1 hb dM dN NN r0 r1 r2 r3 q0 q1 q2 q3 e0 e1 e2 x1 x2 x3
  rcases H2.out with ⟨c, rfl⟩ | ⟨rfl, c, rfl⟩ | ⟨rfl, rfl, c, rfl⟩ | ⟨rfl, rfl, rfl, rfl⟩
  · clear H2
    go_enter Tryz.func133, Tryz.ntmps133
    go_wp2_with (first
      | (go_at_call 151; refine (BB.out _).mono ?_; rintro e w1 ⟨rfl, hb1⟩; have hs1 := hb1.size)
      | (go_at_call 62; refine (PP.out _).mono ?_; rintro e w2 ⟨rfl, hb2⟩; have hs2 := hb2.size; have d0 := hb2.cell (p := ⟨w1.heap.size, 0, none⟩) (by simp); have d1 := hb2.cell (p := ⟨w1.heap.size, 1, none⟩) (by simp); simp [go_sem] at d0 d1 hs1 hs2; have d2 := fun o o' => (up2c hs2 o o' 0).trans d0; have d3 := fun o o' => (up2c hs2 o o' 1).trans d1))
    have hbb : ∀ o1 o2 o3, Below w.heap.size w (((w2.alloc o1).alloc o2).alloc o3) := fun o1 o2 o3 =>
      (((((Below.refl _ _).alloc (Nat.le_refl _) _).trans (hb1.mono (by simp))).alloc (by omega) _).trans (hb2.mono (by simp; omega))).alloc (by omega) _ |>.alloc (by simp; omega) _ |>.alloc (by simp; omega) _
    refine wp_loop_rounds 1 ?_
    rw [rounds_succ]
    go_wp2_with fail
    go_quiet (fail)
    go_wp2_with fail
    go_quiet (fail)
    go_wp2_with fail
    go_ret
    exact ⟨rfl, by repeat (first | exact hbb _ _ _ | refine below_drewN ?_ _)⟩
  · clear H2
    go_enter Tryz.func133, Tryz.ntmps133
    go_wp2_with (first
      | (go_at_call 151; refine (BB.out _).mono ?_; rintro e w1 ⟨rfl, hb1⟩; have hs1 := hb1.size)
      | (go_at_call 62; refine (PP.out _).mono ?_; rintro e w2 ⟨rfl, hb2⟩; have hs2 := hb2.size; have d0 := hb2.cell (p := ⟨w1.heap.size, 0, none⟩) (by simp); have d1 := hb2.cell (p := ⟨w1.heap.size, 1, none⟩) (by simp); simp [go_sem] at d0 d1 hs1 hs2; have d2 := fun o o' => (up2c hs2 o o' 0).trans d0; have d3 := fun o o' => (up2c hs2 o o' 1).trans d1))
    have hbb : ∀ o1 o2 o3, Below w.heap.size w (((w2.alloc o1).alloc o2).alloc o3) := fun o1 o2 o3 =>
      (((((Below.refl _ _).alloc (Nat.le_refl _) _).trans (hb1.mono (by simp))).alloc (by omega) _).trans (hb2.mono (by simp; omega))).alloc (by omega) _ |>.alloc (by simp; omega) _ |>.alloc (by simp; omega) _
    refine wp_loop_rounds 2 ?_
    rw [rounds_succ]
    go_wp2_with fail
    go_quiet (fail)
    go_wp2_with fail
    rw [rounds_succ]
    go_wp2_with fail
    go_quiet (fail)
    go_wp2_with fail
    go_quiet (fail)
    go_wp2_with fail
    go_ret
    exact ⟨rfl, by repeat (first | exact hbb _ _ _ | refine below_drewN ?_ _)⟩
  · clear H2
    go_enter Tryz.func133, Tryz.ntmps133
    go_wp2_with (first
      | (go_at_call 151; refine (BB.out _).mono ?_; rintro e w1 ⟨rfl, hb1⟩; have hs1 := hb1.size)
      | (go_at_call 62; refine (PP.out _).mono ?_; rintro e w2 ⟨rfl, hb2⟩; have hs2 := hb2.size; have d0 := hb2.cell (p := ⟨w1.heap.size, 0, none⟩) (by simp); have d1 := hb2.cell (p := ⟨w1.heap.size, 1, none⟩) (by simp); simp [go_sem] at d0 d1 hs1 hs2; have d2 := fun o o' => (up2c hs2 o o' 0).trans d0; have d3 := fun o o' => (up2c hs2 o o' 1).trans d1))
    have hbb : ∀ o1 o2 o3, Below w.heap.size w (((w2.alloc o1).alloc o2).alloc o3) := fun o1 o2 o3 =>
      (((((Below.refl _ _).alloc (Nat.le_refl _) _).trans (hb1.mono (by simp))).alloc (by omega) _).trans (hb2.mono (by simp; omega))).alloc (by omega) _ |>.alloc (by simp; omega) _ |>.alloc (by simp; omega) _
    refine wp_loop_rounds 3 ?_
    rw [rounds_succ]
    go_wp2_with fail
    go_quiet (fail)
    go_wp2_with fail
    rw [rounds_succ]
    go_wp2_with fail
    go_quiet (fail)
    go_wp2_with fail
    rw [rounds_succ]
    go_wp2_with fail
    go_quiet (fail)
    go_wp2_with fail
    go_quiet (fail)
    go_wp2_with fail
    go_ret
    exact ⟨rfl, by repeat (first | exact hbb _ _ _ | refine below_drewN ?_ _)⟩
  · clear H2
    go_enter Tryz.func133, Tryz.ntmps133
    go_wp2_with (first
      | (go_at_call 151; refine (BB.out _).mono ?_; rintro e w1 ⟨rfl, hb1⟩; have hs1 := hb1.size)
      | (go_at_call 62; refine (PP.out _).mono ?_; rintro e w2 ⟨rfl, hb2⟩; have hs2 := hb2.size; have d0 := hb2.cell (p := ⟨w1.heap.size, 0, none⟩) (by simp); have d1 := hb2.cell (p := ⟨w1.heap.size, 1, none⟩) (by simp); simp [go_sem] at d0 d1 hs1 hs2; have d2 := fun o o' => (up2c hs2 o o' 0).trans d0; have d3 := fun o o' => (up2c hs2 o o' 1).trans d1))
    have hbb : ∀ o1 o2 o3, Below w.heap.size w (((w2.alloc o1).alloc o2).alloc o3) := fun o1 o2 o3 =>
      (((((Below.refl _ _).alloc (Nat.le_refl _) _).trans (hb1.mono (by simp))).alloc (by omega) _).trans (hb2.mono (by simp; omega))).alloc (by omega) _ |>.alloc (by simp; omega) _ |>.alloc (by simp; omega) _
    refine wp_loop_rounds 4 ?_
    rw [rounds_succ]
    go_wp2_with fail
    go_quiet (fail)
    go_wp2_with fail
    rw [rounds_succ]
    go_wp2_with fail
    go_quiet (fail)
    go_wp2_with fail
    rw [rounds_succ]
    go_wp2_with fail
    go_quiet (fail)
    go_wp2_with fail
    rw [rounds_succ]
    go_wp2_with fail
    go_ret
    exact ⟨rfl, by repeat (first | exact hbb _ _ _ | refine below_drewN ?_ _)⟩
end Go.Proofs.YthkhhjfldkebcaaGreatDoor
