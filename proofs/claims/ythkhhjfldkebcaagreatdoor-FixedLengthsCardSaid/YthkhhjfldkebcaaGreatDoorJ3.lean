/- Contract: Turn. -/
import Derived.Test.YthkhhjfldkebcaaGreatDoorJ2
import Derived.Deep.QuietTactic
namespace Go.Proofs.YthkhhjfldkebcaaGreatDoor
open Go.RowKit Go.Proofs Go.Shelf

/-- To which side: out of two products with their signs. -/
def turnV (p q : Int) (m n : Bool) : Int :=
  if m = n then (if m = true then -(cmpI p q) else cmpI p q) else if p = 0 ∧ q = 0 then 0 else if (if p = 0 then !n else m) = true then -1 else 1
theorem cmpI_bd (p q : Int) : -1 ≤ cmpI p q ∧ cmpI p q ≤ 1 := by unfold cmpI; split <;> (try split) <;> omega
theorem InW.zero {h l n : Int} (H : InW h l n) : n = 0 ↔ h = 0 ∧ l = 0 := by
  have := H.h0; have := H.l0; have := H.l1; have := H.e; omega

set_option maxRecDepth 100000 in
set_option maxHeartbeats 2000000 in
theorem cl97_parts (a b : Nat) (x1 y1 x2 y2 : Int) (m n : Bool) (w : World)
    (ha : w.cell? ⟨a, 0, none⟩ = some (.int .i64 x1)) (ha' : w.cell? ⟨a, 1, none⟩ = some (.int .i64 y1)) (hb : w.cell? ⟨b, 0, none⟩ = some (.int .i64 x2)) (hb' : w.cell? ⟨b, 1, none⟩ = some (.int .i64 y2))
    (hv : Val x1 ∧ Val y1 ∧ Val x2 ∧ Val y2)
    (hm : (decide (x1 < 0) != decide (y2 < 0)) = m) (hn : (decide (y1 < 0) != decide (x2 < 0)) = n) :
    Calls Tryz.prog 97 #[.pointer (some ⟨a, 0, none⟩), .pointer (some ⟨b, 0, none⟩)] w fun e w' => e = .returned (.int .i64 (turnV (sz x1 * sz y2) (sz y1 * sz x2) m n)) ∧ Below w.heap.size w w' := by
  have HV := Lib.hid hv
  have la := lt_cell ha; have lb := lt_cell hb
  have U1 := fun o => upa ha o
  have U2 := fun o => upa ha' o
  have U3 := fun o => upa hb o
  have U4 := fun o => upa hb' o
  have t1 := sz_nn x1; have t2 := sz_nn y1; have t3 := sz_nn x2; have t4 := sz_nn y2
  have t5 : sz x1 ≤ 70368744177664 := sz_le hv.1.1 hv.1.2
  have t6 : sz y1 ≤ 70368744177664 := sz_le hv.2.1.1 hv.2.1.2
  have t7 : sz x2 ≤ 70368744177664 := sz_le hv.2.2.1.1 hv.2.2.1.2
  have t8 : sz y2 ≤ 70368744177664 := sz_le hv.2.2.2.1 hv.2.2.2.2
  have WP : Hid (InW (hiU (sz x1 * sz y2)) (loU (sz x1 * sz y2)) (sz x1 * sz y2)) := InW.mk' (Int.mul_nonneg t1 t4) (by have := Int.mul_le_mul t5 t8 t4 (by omega); omega)
  have WQ : Hid (InW (hiU (sz y1 * sz x2)) (loU (sz y1 * sz x2)) (sz y1 * sz x2)) := InW.mk' (Int.mul_nonneg t2 t3) (by have := Int.mul_le_mul t6 t7 t3 (by omega); omega)
  obtain ⟨⟨a1, a2⟩, ⟨a3, a4⟩, ⟨a5, a6⟩, a7, a8⟩ := hv
  have HM := Lib.hid hm
  have HN := Lib.hid hn
  clear hm hn
  obtain ⟨r, hr⟩ : ∃ r, turnV (sz x1 * sz y2) (sz y1 * sz x2) m n = r := ⟨_, rfl⟩
  have HR := Lib.hid hr
  rw [hr]
  clear hr
  go_enter Tryz.func97, Tryz.ntmps97
  go_wp2_with (go_at_call 59; refine (right4_ok x1 y1 x2 y2 _ _ HV.out (by simp [go_sem]) (by simp [go_sem]) (by simp [go_sem]) (by simp [go_sem])).mono ?_; rintro e w' ⟨rfl, rfl⟩)
  refine wp_region_two_allocs 14 (.cells #[.int .u64 0, .int .u64 0] 86) (.cells #[.int .u64 0, .int .u64 0] 86) (by kernel_rfl) (by kernel_rfl) (by intro o ho ρ w; simp only [List.getElem?_cons_succ, List.getElem?_cons_zero, Option.some.injEq] at ho; subst ho; simp [go_sem]) (by intro o ho ρ w; simp only [List.getElem?_cons_succ, List.getElem?_cons_zero, Option.some.injEq] at ho; subst ho; simp [go_sem]) ?_
  apply Exists.intro
  refine ⟨?_, ?_⟩
  · intro W0 hW0
    have X1 : ∀ X : BW W0, X.to.cell? ⟨a, 0, none⟩ = _ := fun X => upc (upc (U1 _) hW0) X.same
    have X2 : ∀ X : BW W0, X.to.cell? ⟨a, 1, none⟩ = _ := fun X => upc (upc (U2 _) hW0) X.same
    have X3 : ∀ X : BW W0, X.to.cell? ⟨b, 0, none⟩ = _ := fun X => upc (upc (U3 _) hW0) X.same
    have X4 : ∀ X : BW W0, X.to.cell? ⟨b, 1, none⟩ = _ := fun X => upc (upc (U4 _) hW0) X.same
    simp only [List.take_succ_cons, List.take_zero]
    repeat (go_big_quiet_step ((first
      | (go_at_call 63; exact quietS (size_any _ _ (by omega) (by omega)))
      | (go_at_call 62; exact quietB (product2 _ _ _ (by omega) (by omega) (by omega) (by omega))))))
    exact wpQuiet_nil rfl
  · intro b1 b2 w2 hbw g1 g2 hne s1 s2 k1 k2
    have hsz := hbw.size
    simp only [World.size_alloc] at hsz g1 g2
    obtain ⟨c10, c11, f10, f11⟩ := zero_cells k1
    obtain ⟨c20, c21, f20, f21⟩ := zero_cells k2
    simp only [List.drop_succ_cons, List.drop_zero, List.getElem?_cons_succ, List.getElem?_cons_zero, Option.bind_some, Act.put, Wd]
    generalize sz x1 * sz y2 = P at *
    generalize sz y1 * sz x2 = Q at *
    generalize hiU P = Hp at *
    generalize loU P = Lp at *
    generalize hiU Q = Hq at *
    generalize loU Q = Lq at *
    go_wp2_with fail
    obtain ⟨y10, y11, y20, y21, hbW, hsW⟩ := stored4 c10 c11 c20 c21 hne (.int .u64 Hp) (.int .u64 Lp) (.int .u64 Hq) (.int .u64 Lq) (w.heap.size + 1) g1 g2
    generalize (((w2.setCell ⟨b1, 0, none⟩ (.int .u64 Hp)).setCell ⟨b1, 1, none⟩ (.int .u64 Lp)).setCell ⟨b2, 0, none⟩ (.int .u64 Hq)).setCell ⟨b2, 1, none⟩ (.int .u64 Lq) = W at *
    have hbb := hbw.trans (hbW.mono (by simp))
    clear c10 c11 c20 c21 f10 f11 f20 f21 k1 k2 hbW
    have V1 := upc (U1 _) hbb
    have V2 := upc (U2 _) hbb
    have V3 := upc (U3 _) hbb
    have V4 := upc (U4 _) hbb
    clear U1 U2 U3 U4 ha ha' hb hb'
    obtain ⟨c, hc⟩ : ∃ c, cmpI P Q = c := ⟨_, rfl⟩
    have cb := cmpI_bd P Q
    rw [hc] at cb
    obtain ⟨cb1, cb2⟩ := cb
    have HC := Lib.hid hc
    have PC : Hid (∀ w, Calls Tryz.prog 95 #[.agg #[.int .u64 Hp, .int .u64 Lp], .agg #[.int .u64 Hq, .int .u64 Lq]] w fun e w' => e = .returned (.int .i64 c) ∧ Below w.heap.size w w') := fun w => by
      have := compareW WP.out WQ.out w; rw [hc] at this; exact this
    clear hc
    go_quiet (fail)
    generalize hM2 : (!(decide (x1 < 0) == decide (y2 < 0))) = m2
    obtain rfl : m2 = m := hM2.symm.trans HM.out
    generalize hN2 : (!(decide (y1 < 0) == decide (x2 < 0))) = n2
    obtain rfl : n2 = n := hN2.symm.trans HN.out
    clear hM2 hN2
    have y10' : ∀ k, (W.drewN k).cell? ⟨b1, 0, none⟩ = some (.int .u64 Hp) := fun _ => y10
    have y11' : ∀ k, (W.drewN k).cell? ⟨b1, 1, none⟩ = some (.int .u64 Lp) := fun _ => y11
    have y20' : ∀ k, (W.drewN k).cell? ⟨b2, 0, none⟩ = some (.int .u64 Hq) := fun _ => y20
    have y21' : ∀ k, (W.drewN k).cell? ⟨b2, 1, none⟩ = some (.int .u64 Lq) := fun _ => y21
    go_upto_region 5 with (go_at_call 95; refine (PC.out _).mono ?_; rintro e w3 ⟨rfl, hb3⟩; have q0 := upc (y10' _) hb3; have q1 := upc (y11' _) hb3; have q2 := upc (y20' _) hb3; have q3 := upc (y21' _) hb3)
    have BF : Hid (Below w.heap.size w w3) := ((((Below.refl _ _).alloc (Nat.le_refl _) _).trans (hbb.mono (by simp))).trans (below_drewN (Below.refl _ _) _)).trans (hb3.mono (by have := hbb.size; simp at this ⊢; omega))
    have ZP := Lib.hid WP.out.zero
    have ZQ := Lib.hid WQ.out.zero
    clear y10 y11 y20 y21 y10' y11' y20' y21' V1 V2 V3 V4 hb3 hbb
    cases m2 <;> cases n2
    · go_wp2_with fail
      go_ret
      exact ⟨by rw [← HR.out, ← HC.out]; simp [turnV], BF.out⟩
    rotate_right
    · go_wp2_with fail
      go_ret
      exact ⟨by rw [← HR.out, ← HC.out]; simp [turnV], BF.out⟩
    all_goals
      by_cases hP : P = 0
      · have hH : Hp = 0 := (ZP.out.1 hP).1
        have hL : Lp = 0 := (ZP.out.1 hP).2
        have HP0 := Lib.hid hP
        subst hH hL
        clear hP
        by_cases hQ : Q = 0
        · have hH : Hq = 0 := (ZQ.out.1 hQ).1
          have hL : Lq = 0 := (ZQ.out.1 hQ).2
          have HQ0 := Lib.hid hQ
          subst hH hL
          clear hQ
          go_wp2_with fail
          go_ret
          exact ⟨by rw [← HR.out]; simp [turnV, HP0.out, HQ0.out], BF.out⟩
        · have HQ0 := Lib.hid hQ
          have HQ1 : Hid (¬ (Hq = 0 ∧ Lq = 0)) := fun h => hQ (ZQ.out.2 h)
          clear hQ
          by_cases h1 : Hq = 0
          · have h2 : ¬ Lq = 0 := fun h => HQ1.out ⟨h1, h⟩
            subst h1
            go_wp2_with fail
            go_ret
            exact ⟨by rw [← HR.out]; simp [turnV, HP0.out, HQ0.out], BF.out⟩
          · go_wp2_with fail
            go_ret
            exact ⟨by rw [← HR.out]; simp [turnV, HP0.out, HQ0.out], BF.out⟩
      · have HP0 := Lib.hid hP
        have HP1 : Hid (¬ (Hp = 0 ∧ Lp = 0)) := fun h => hP (ZP.out.2 h)
        clear hP
        by_cases h1 : Hp = 0
        · have h2 : ¬ Lp = 0 := fun h => HP1.out ⟨h1, h⟩
          subst h1
          go_wp2_with fail
          go_ret
          exact ⟨by rw [← HR.out]; simp [turnV, HP0.out], BF.out⟩
        · go_wp2_with fail
          go_ret
          exact ⟨by rw [← HR.out]; simp [turnV, HP0.out], BF.out⟩

theorem cl97_no (a b : Nat) (x1 y1 x2 y2 : Int) (w : World)
    (ha : w.cell? ⟨a, 0, none⟩ = some (.int .i64 x1)) (ha' : w.cell? ⟨a, 1, none⟩ = some (.int .i64 y1)) (hb : w.cell? ⟨b, 0, none⟩ = some (.int .i64 x2)) (hb' : w.cell? ⟨b, 1, none⟩ = some (.int .i64 y2))
    (hv : ¬ (Val x1 ∧ Val y1 ∧ Val x2 ∧ Val y2)) :
    Calls Tryz.prog 97 #[.pointer (some ⟨a, 0, none⟩), .pointer (some ⟨b, 0, none⟩)] w fun e w' => e = .panicked (Mis 2) ∧ Below w.heap.size w w' := by
  have HV := Lib.hid hv
  clear hv
  go_enter Tryz.func97, Tryz.ntmps97
  go_wp2_with (go_at_call 59; refine (right4_no x1 y1 x2 y2 _ _ HV.out (by simp [go_sem]) (by simp [go_sem]) (by simp [go_sem]) (by simp [go_sem])).mono ?_; rintro e w' ⟨rfl, rfl⟩)
  exact ⟨rfl, rfl, (Below.refl _ _).alloc (Nat.le_refl _) _⟩

/-- What Turn comes to. -/
def turnR (x1 y1 x2 y2 : Int) : Except Int Int :=
  if Val x1 ∧ Val y1 ∧ Val x2 ∧ Val y2 then .ok (turnV (sz x1 * sz y2) (sz y1 * sz x2) (decide (x1 < 0) != decide (y2 < 0)) (decide (y1 < 0) != decide (x2 < 0))) else .error 2

set_option maxHeartbeats 1000000 in
theorem Turn_any (x1 y1 x2 y2 : Int) (w : World) :
    Calls Tryz.prog 44 #[.agg #[.int .i64 x1, .int .i64 y1], .agg #[.int .i64 x2, .int .i64 y2]] w fun e w' => e = .returned (.tuple #[.int .i64 (valE 0 (turnR x1 y1 x2 y2)), .int .i64 (errE (turnR x1 y1 x2 y2))]) ∧ Below w.heap.size w w' := by
  have hmf : ∀ (fn : Fn) (first cap : Array Value) (w : World), (Instr.makeFunc fn first cap).run Tryz.prog w = .ok (.func fn first cap) w := fun _ _ _ _ => rfl
  have HC : Hid (∀ W, Below ((w.alloc (.cells #[.int .i64 x1, .int .i64 y1] 45)).alloc (.cells #[.int .i64 x2, .int .i64 y2] 45)).heap.size ((w.alloc (.cells #[.int .i64 x1, .int .i64 y1] 45)).alloc (.cells #[.int .i64 x2, .int .i64 y2] 45)) W →
      Calls Tryz.prog 97 #[.pointer (some ⟨w.heap.size, 0, none⟩), .pointer (some ⟨w.heap.size + 1, 0, none⟩)] W (Do W ((turnR x1 y1 x2 y2).map (.int .i64 ·)))) := by
    intro W hW
    unfold turnR
    by_cases hv : Val x1 ∧ Val y1 ∧ Val x2 ∧ Val y2
    · rw [if_pos hv]
      exact cl97_parts _ _ x1 y1 x2 y2 _ _ W (upc (by simp [go_sem]) hW) (upc (by simp [go_sem]) hW) (upc (by simp [go_sem]) hW) (upc (by simp [go_sem]) hW) hv rfl rfl
    · rw [if_neg hv]
      exact cl97_no _ _ x1 y1 x2 y2 W (upc (by simp [go_sem]) hW) (upc (by simp [go_sem]) hW) (upc (by simp [go_sem]) hW) (upc (by simp [go_sem]) hW) hv
  obtain ⟨r, hr⟩ : ∃ r, turnR x1 y1 x2 y2 = r := ⟨_, rfl⟩
  rw [hr] at HC ⊢
  clear hr
  go_enter Tryz.func44, Tryz.ntmps44
  go_wp2_with (go_at_call 67; refine (triedInt 97 _ _ _ (enters_of Tryz.func97 (by kernel_rfl) rfl) HC.out).mono ?_; rintro e w1 ⟨rfl, hb⟩)
  go_ret2
  exact ⟨rfl, (((Below.refl _ _).alloc (Nat.le_refl _) _).alloc (by simp) _).trans (hb.mono (by simp; omega))⟩
end Go.Proofs.YthkhhjfldkebcaaGreatDoor
