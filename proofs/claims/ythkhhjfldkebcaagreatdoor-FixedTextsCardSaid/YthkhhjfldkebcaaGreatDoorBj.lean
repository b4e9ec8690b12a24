/- Contracts of the document's Int, Add, Sub; the walk of FixedSums. -/
import Derived.Test.YthkhhjfldkebcaaGreatDoorBi
namespace Go.Proofs.YthkhhjfldkebcaaGreatDoor
open Go.RowKit Go.Proofs Go.Shelf

theorem ret2_ii {a b c d : Int} (h : a = b) (h' : c = d) : Ending.returned (.tuple #[.int .i64 a, .int .i64 c]) = .returned (.tuple #[.int .i64 b, .int .i64 d]) := by rw [h, h']
theorem intR_ok {a how : Int} (hv : Val a) (hh : HowOk how) :
    intR a how = .ok (sgn ((((sz a).toNat / 65536 : Nat) : Int) + b2i (bump (119 + how.toNat) (((sz a).toNat % 65536 : Nat) : Int) ((65536 : Nat) : Int) (decide (a < 0)))) (decide (a < 0))) := by
  have h0 := sz_nn a
  have h1 : sz a ≤ 70368744177664 := sz_le hv.1 hv.2
  obtain ⟨N, hN⟩ := Int.eq_ofNat_of_zero_le h0
  unfold intR
  rw [if_pos hv, if_pos hh, hN]
  have e1 : ((N : Int)).toNat = N := Int.toNat_natCast N
  rw [e1]
  have hb := b2i_le (bump (119 + how.toNat) ((N : Int) % 65536) 65536 (decide (a < 0)))
  have e2 : ((N / 65536 : Nat) : Int) = (N : Int) / 65536 := by omega
  have e3 : ((N % 65536 : Nat) : Int) = (N : Int) % 65536 := by omega
  have e4 : ((65536 : Nat) : Int) = 65536 := rfl
  rw [e2, e3, e4]
  exact quo_mk (by omega) (by omega)

set_option maxHeartbeats 1000000 in
theorem refInt (a how : Int) (w : World) : Calls Tryz.prog 20 #[.int .i64 a, .int .i64 how] w fun e w' => e = .returned (.tuple #[.int .i64 (valE 0 (intR a how)), .int .i64 (errE (intR a how))]) ∧ Below w.heap.size w w' := by
  by_cases hv : Val a
  · have H1 : Hid (∀ w, Calls Tryz.prog 69 #[.int .i64 a] w fun e w' => e = .returned (.bool true) ∧ w = w') := fun w => by have := refValid a w; rwa [decide_eq_true hv] at this
    by_cases hh : HowOk how
    · have H2 : Hid (∀ w, Calls Tryz.prog 70 #[.int .i64 how] w fun e w' => e = .returned (.bool true) ∧ w = w') := fun w => by have := refHow how w; rwa [decide_eq_true hh] at this
      have h0 := sz_nn a
      have h1 : sz a ≤ 70368744177664 := sz_le hv.1 hv.2
      have hq : Hid (intR a how = _) := intR_ok hv hh
      have HR : Hid (∀ va vb w, BigN w va (sz a).toNat → BigN w vb 65536 → Calls Tryz.prog 71 #[va, vb, .bool (decide (a < 0)), .int .i64 how] w fun e w' => ∃ b : Bool, e = .returned (.tuple #[.int .i64 (valE 0 (intR a how)), .bool b]) ∧ Below w.heap.size w w') := fun va vb w k1 k2 => by
        refine (rounded_N va vb (sz a).toNat 65536 (decide (a < 0)) how w k1 k2 (lim_of (k := 60) (by omega) (by decide)) (lim_of (k := 60) (by decide) (by decide)) (by decide) hh).mono ?_
        rintro e w' ⟨rfl, hb⟩
        refine ⟨_, ret2_ib ?_, hb⟩
        rw [hq.out, if_pos (by omega)]; rfl
      have HE : Hid (errE (intR a how) = 0) := by show _ = _; rw [hq.out]; rfl
      obtain ⟨x, hx⟩ : ∃ x, sz a = x := ⟨_, rfl⟩
      have HS : Hid (∀ w, Calls Tryz.prog 73 #[.int .i64 a] w fun e w' => e = .returned (.int .i64 x) ∧ w = w') := fun w => by rw [← hx]; exact refSize a w hv
      rw [hx] at HR h0 h1
      have HO : Hid (∀ w, Calls Tryz.prog 72 #[.int .i64 x] w (BigOut w x.toNat)) := fun w => of_any x w h0 (by omega)
      have HF : Hid (∀ w, Calls Tryz.prog 72 #[.int .i64 65536] w (BigOut w 65536)) := fun w => of_any 65536 w (by decide) (by decide)
      obtain ⟨r, hr⟩ : ∃ r, valE 0 (intR a how) = r := ⟨_, rfl⟩
      rw [hr] at HR ⊢
      rw [HE.out]
      clear hv hh hx hr hq HE
      go_enter Tryz.func20, Tryz.ntmps20
      go_wp2_with (first
        | (go_at_call 69; refine (H1.out _).mono ?_; rintro e w' ⟨rfl, rfl⟩)
        | (go_at_call 70; refine (H2.out _).mono ?_; rintro e w' ⟨rfl, rfl⟩)
        | (go_at_call 73; refine (HS.out _).mono ?_; rintro e w' ⟨rfl, rfl⟩)
        | (go_at_call 72; (with_reducible refine (HO.out _).mono ?_); rintro e w1 ⟨v1, rfl, h1, hb1⟩; have G1 := Lib.hid h1; obtain ⟨X1, n1, cap1, rfl⟩ := h1.form; clear h1)
        | (go_at_call 72; (with_reducible refine (HF.out _).mono ?_); rintro e w2 ⟨v2, rfl, h2, hb2⟩; have G2 := Lib.hid h2; obtain ⟨X2, n2, cap2, rfl⟩ := h2.form; clear h2)
        | (go_at_call 71; refine (HR.out _ _ _ (G1.out.up hb2) G2.out).mono ?_; rintro e w3 ⟨b, rfl, hb3⟩))
      go_ret2
      exact ⟨rfl, (hb1.trans (hb2.mono hb1.size)).trans (hb3.mono (Nat.le_trans hb1.size hb2.size))⟩
    · have H2 : Hid (∀ w, Calls Tryz.prog 70 #[.int .i64 how] w fun e w' => e = .returned (.bool false) ∧ w = w') := fun w => by have := refHow how w; rwa [decide_eq_false hh] at this
      rw [show intR a how = .error 2 by unfold intR; rw [if_pos hv, if_neg hh]]
      clear hv hh
      go_enter Tryz.func20, Tryz.ntmps20
      go_wp2_with (first
        | (go_at_call 69; refine (H1.out _).mono ?_; rintro e w' ⟨rfl, rfl⟩)
        | (go_at_call 70; refine (H2.out _).mono ?_; rintro e w' ⟨rfl, rfl⟩))
      go_ret2
      exact ⟨rfl, Below.refl _ _⟩
  · have H1 : Hid (∀ w, Calls Tryz.prog 69 #[.int .i64 a] w fun e w' => e = .returned (.bool false) ∧ w = w') := fun w => by have := refValid a w; rwa [decide_eq_false hv] at this
    have H2 : Hid (∀ w, Calls Tryz.prog 70 #[.int .i64 how] w fun e w' => e = .returned (.bool (decide (HowOk how))) ∧ w = w') := fun w => refHow how w
    rw [show intR a how = .error 2 by unfold intR; rw [if_neg hv]]
    clear hv
    go_enter Tryz.func20, Tryz.ntmps20
    go_wp2_with (first
      | (go_at_call 69; refine (H1.out _).mono ?_; rintro e w' ⟨rfl, rfl⟩)
      | (go_at_call 70; refine (H2.out _).mono ?_; rintro e w' ⟨rfl, rfl⟩))
    go_ret2
    exact ⟨rfl, Below.refl _ _⟩

theorem refFit_sum (s : Int) : refFitR s true = sumR s True := by
  unfold refFitR sumR Val; simp

set_option maxHeartbeats 1000000 in
theorem refAdd (a b : Int) (w : World) : Calls Tryz.prog 22 #[.int .i64 a, .int .i64 b] w fun e w' => e = .returned (.tuple #[.int .i64 (valE 0 (sumR (a + b) (Val a ∧ Val b))), .int .i64 (errE (sumR (a + b) (Val a ∧ Val b)))]) ∧ w = w' := by
  have H1 := Lib.hid (fun w => refValid a w)
  have H2 := Lib.hid (fun w => refValid b w)
  have HF : Hid (∀ w, Calls Tryz.prog 76 #[.int .i64 (a + b), .bool true] w fun e w' => e = .returned (.tuple #[.int .i64 (valE 0 (sumR (a + b) True)), .int .i64 (errE (sumR (a + b) True))]) ∧ w = w') := fun w => by have := refFit (a + b) true w; rwa [refFit_sum] at this
  by_cases hv : Val a
  · rw [decide_eq_true hv] at H1
    by_cases hu : Val b
    · rw [decide_eq_true hu] at H2
      have e : sumR (a + b) (Val a ∧ Val b) = sumR (a + b) True := by unfold sumR; rw [if_pos ⟨hv, hu⟩, if_pos trivial]
      rw [e]
      obtain ⟨h1, h2⟩ := hv
      obtain ⟨h3, h4⟩ := hu
      obtain ⟨x, hx⟩ : ∃ x, valE 0 (sumR (a + b) True) = x := ⟨_, rfl⟩
      obtain ⟨y, hy⟩ : ∃ y, errE (sumR (a + b) True) = y := ⟨_, rfl⟩
      rw [hx, hy] at HF ⊢
      clear hx hy e
      go_enter Tryz.func22, Tryz.ntmps22
      go_wp2_with (first
        | (go_at_call 69; first | ((with_reducible refine (H1.out _).mono ?_); rintro e w' ⟨rfl, rfl⟩) | ((with_reducible refine (H2.out _).mono ?_); rintro e w' ⟨rfl, rfl⟩))
        | (go_at_call 76; refine (HF.out _).mono ?_; rintro e w' ⟨rfl, rfl⟩))
      go_ret2
      exact ⟨rfl, rfl⟩
    · rw [decide_eq_false hu] at H2
      have e : sumR (a + b) (Val a ∧ Val b) = .error 2 := by unfold sumR; rw [if_neg (fun h => hu h.2)]
      rw [e]
      clear hv hu e HF
      go_enter Tryz.func22, Tryz.ntmps22
      go_wp2_with (go_at_call 69; first | ((with_reducible refine (H1.out _).mono ?_); rintro e w' ⟨rfl, rfl⟩) | ((with_reducible refine (H2.out _).mono ?_); rintro e w' ⟨rfl, rfl⟩))
      go_ret2
      exact ⟨rfl, rfl⟩
  · rw [decide_eq_false hv] at H1
    have e : sumR (a + b) (Val a ∧ Val b) = .error 2 := by unfold sumR; rw [if_neg (fun h => hv h.1)]
    rw [e]
    clear hv e HF
    go_enter Tryz.func22, Tryz.ntmps22
    go_wp2_with (go_at_call 69; first | ((with_reducible refine (H1.out _).mono ?_); rintro e w' ⟨rfl, rfl⟩) | ((with_reducible refine (H2.out _).mono ?_); rintro e w' ⟨rfl, rfl⟩))
    go_ret2
    exact ⟨rfl, rfl⟩
set_option maxHeartbeats 1000000 in
theorem refSub (a b : Int) (w : World) : Calls Tryz.prog 24 #[.int .i64 a, .int .i64 b] w fun e w' => e = .returned (.tuple #[.int .i64 (valE 0 (sumR (a - b) (Val a ∧ Val b))), .int .i64 (errE (sumR (a - b) (Val a ∧ Val b)))]) ∧ w = w' := by
  have H1 := Lib.hid (fun w => refValid a w)
  have H2 := Lib.hid (fun w => refValid b w)
  have HF : Hid (∀ w, Calls Tryz.prog 76 #[.int .i64 (a - b), .bool true] w fun e w' => e = .returned (.tuple #[.int .i64 (valE 0 (sumR (a - b) True)), .int .i64 (errE (sumR (a - b) True))]) ∧ w = w') := fun w => by have := refFit (a - b) true w; rwa [refFit_sum] at this
  by_cases hv : Val a
  · rw [decide_eq_true hv] at H1
    by_cases hu : Val b
    · rw [decide_eq_true hu] at H2
      have e : sumR (a - b) (Val a ∧ Val b) = sumR (a - b) True := by unfold sumR; rw [if_pos ⟨hv, hu⟩, if_pos trivial]
      rw [e]
      obtain ⟨h1, h2⟩ := hv
      obtain ⟨h3, h4⟩ := hu
      obtain ⟨x, hx⟩ : ∃ x, valE 0 (sumR (a - b) True) = x := ⟨_, rfl⟩
      obtain ⟨y, hy⟩ : ∃ y, errE (sumR (a - b) True) = y := ⟨_, rfl⟩
      rw [hx, hy] at HF ⊢
      clear hx hy e
      go_enter Tryz.func24, Tryz.ntmps24
      go_wp2_with (first
        | (go_at_call 69; first | ((with_reducible refine (H1.out _).mono ?_); rintro e w' ⟨rfl, rfl⟩) | ((with_reducible refine (H2.out _).mono ?_); rintro e w' ⟨rfl, rfl⟩))
        | (go_at_call 76; refine (HF.out _).mono ?_; rintro e w' ⟨rfl, rfl⟩))
      go_ret2
      exact ⟨rfl, rfl⟩
    · rw [decide_eq_false hu] at H2
      have e : sumR (a - b) (Val a ∧ Val b) = .error 2 := by unfold sumR; rw [if_neg (fun h => hu h.2)]
      rw [e]
      clear hv hu e HF
      go_enter Tryz.func24, Tryz.ntmps24
      go_wp2_with (go_at_call 69; first | ((with_reducible refine (H1.out _).mono ?_); rintro e w' ⟨rfl, rfl⟩) | ((with_reducible refine (H2.out _).mono ?_); rintro e w' ⟨rfl, rfl⟩))
      go_ret2
      exact ⟨rfl, rfl⟩
  · rw [decide_eq_false hv] at H1
    have e : sumR (a - b) (Val a ∧ Val b) = .error 2 := by unfold sumR; rw [if_neg (fun h => hv h.1)]
    rw [e]
    clear hv e HF
    go_enter Tryz.func24, Tryz.ntmps24
    go_wp2_with (go_at_call 69; first | ((with_reducible refine (H1.out _).mono ?_); rintro e w' ⟨rfl, rfl⟩) | ((with_reducible refine (H2.out _).mono ?_); rintro e w' ⟨rfl, rfl⟩))
    go_ret2
    exact ⟨rfl, rfl⟩

theorem same_eq (x e : Int) (w : World) : Calls Tryz.prog 27 #[.int .i64 x, .int .i64 e, .int .i64 x, .int .i64 e] w fun r w' => r = .returned (.bool true) ∧ w = w' := by
  go_enter Tryz.func27, Tryz.ntmps27
  go_wp2_with fail
  go_ret
  exact ⟨rfl, rfl⟩

set_option maxRecDepth 100000 in
set_option maxHeartbeats 2000000 in
theorem Sums_any (a b n how : Int) (w : World) (hM : Mem w) :
    Calls Tryz.prog 5 #[.int .i64 a, .int .i64 b, .int .i64 n, .int .i64 how] w fun e w' => e = .returned (.bool true) ∧ Below w.heap.size w w' := by
  have HM := Lib.hid hM
  have C1 := Lib.hid (fun w => Of_any n w)
  have C2 := Lib.hid (fun w => refOf n w)
  have C3 := Lib.hid (fun w => Int_any a how w)
  have C4 := Lib.hid (fun w => refInt a how w)
  have C5 := Lib.hid (fun w => Add_any a b w)
  have C6 := Lib.hid (fun w => refAdd a b w)
  have C7 := Lib.hid (fun w => Sub_any a b w)
  have C8 := Lib.hid (fun w => refSub a b w)
  have C9 := Lib.hid (fun w => Check_any a w)
  have C10 := Lib.hid (fun w => refCheck a w)
  obtain ⟨r1, hr1⟩ : ∃ r, ofR n = r := ⟨_, rfl⟩
  obtain ⟨r2, hr2⟩ : ∃ r, intR a how = r := ⟨_, rfl⟩
  obtain ⟨r3, hr3⟩ : ∃ r, sumR (a + b) (Val a ∧ Val b) = r := ⟨_, rfl⟩
  obtain ⟨r4, hr4⟩ : ∃ r, sumR (a - b) (Val a ∧ Val b) = r := ⟨_, rfl⟩
  obtain ⟨r5, hr5⟩ : ∃ r, checkR a = r := ⟨_, rfl⟩
  rw [hr1] at C1 C2
  rw [hr2] at C3 C4
  rw [hr3] at C5 C6
  rw [hr4] at C7 C8
  rw [hr5] at C9 C10
  clear hr1 hr2 hr3 hr4 hr5 hM
  go_enter Tryz.func5, Tryz.ntmps5
  go_wp2_with (first
    | (go_at_call 17; refine (C1.out _).mono ?_; rintro e w1 ⟨rfl, hb1⟩)
    | (go_at_call 18; refine (C2.out _).mono ?_; rintro e w' ⟨rfl, rfl⟩)
    | (go_at_call 19; refine (C3.out _).mono ?_; rintro e w2 ⟨rfl, hb2⟩)
    | (go_at_call 20; refine (C4.out _).mono ?_; rintro e w3 ⟨rfl, hb3⟩)
    | (go_at_call 21; refine (C5.out _).mono ?_; rintro e w4 ⟨rfl, hb4⟩)
    | (go_at_call 22; refine (C6.out _).mono ?_; rintro e w' ⟨rfl, rfl⟩)
    | (go_at_call 23; refine (C7.out _).mono ?_; rintro e w5 ⟨rfl, hb5⟩)
    | (go_at_call 24; refine (C8.out _).mono ?_; rintro e w' ⟨rfl, rfl⟩)
    | (go_at_call 25; refine (C9.out _).mono ?_; rintro e w6 ⟨rfl, hb6⟩; have b2 := hb1.trans (hb2.mono hb1.size); have b3 := b2.trans (hb3.mono b2.size); have b4 := b3.trans (hb4.mono b3.size); have b5 := b4.trans (hb5.mono b4.size); have b6 := b5.trans (hb6.mono b5.size); have B6 := Lib.hid b6; clear hb1 hb2 hb3 hb4 hb5 hb6 b2 b3 b4 b5 b6)
    | (go_at_call 26; refine (C10.out _).mono ?_; rintro e w' ⟨rfl, rfl⟩)
    | (go_at_call 27; refine (same_eq _ _ _).mono ?_; rintro e w' ⟨rfl, rfl⟩)
    | (go_at_call 13; refine (alive_any _ (HM.out.up B6.out)).mono ?_; rintro e w7 ⟨rfl, hb7⟩))
  go_ret
  exact ⟨rfl, B6.out.trans (hb7.mono B6.out.size)⟩
end Go.Proofs.YthkhhjfldkebcaaGreatDoor
