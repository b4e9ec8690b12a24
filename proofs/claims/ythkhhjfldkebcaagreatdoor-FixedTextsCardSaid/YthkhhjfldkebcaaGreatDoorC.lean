/- The contract of math/bits.Div64: the quotient and the rest of a number of 128 bits by one of 64 bits. -/
import Derived.Test.YthkhhjfldkebcaaGreatDoorB
import Derived.BigQuiet
import Derived.Deep.CutBlock
import Derived.Deep.DeepCutAuto
import Derived.Test.YthkhhjfldkebcaaGreatDoorM2
namespace Go.Proofs.YthkhhjfldkebcaaGreatDoor
open Go.RowKit Go.Proofs

theorem lz_any (x : Int) (w : World) (h0 : 0 ≤ x) (h1 : x ≤ 18446744073709551615) :
    Calls Tryz.prog 173 #[.int .u64 x] w fun e w' => e = .returned (.int .i64 (64 - (Lib.bitLen x.toNat : Int))) ∧ w = w' :=
  (Tryz.bits_LeadingZeros64 x w h0 h1).mono fun _ _ h => ⟨h.1, h.2.symm⟩

set_option maxRecDepth 100000 in
set_option maxHeartbeats 1000000 in
theorem div64_small (lo y : Int) (w : World) (hl0 : 0 ≤ lo) (hl : lo ≤ 18446744073709551615) (hy0 : 1 ≤ y) (hy : y ≤ 18446744073709551615) :
    Calls Tryz.prog 149 #[.int .u64 0, .int .u64 lo, .int .u64 y] w fun e w' => e = .returned (.tuple #[.int .u64 (lo / y), .int .u64 (lo % y)]) ∧ Below w.heap.size w w' := by
  have hq := Int.ediv_le_self y hl0
  have hq0 := Int.ediv_nonneg hl0 (by omega : 0 ≤ y)
  have hr := Int.emod_nonneg lo (by omega : y ≠ 0)
  have hr' := Int.emod_lt_of_pos lo (by omega : 0 < y)
  have hy' : (y == 0) = false := by simp; omega
  have hyl : decide (y ≤ 0) = false := by simp; omega
  have hyn : ¬ y = 0 := by omega
  go_enter Tryz.func149, Tryz.ntmps149
  go_wp2
  go_quiet (fail)
  go_wp2
  go_ret2
  exact ⟨rfl, below_drewN (Below.refl _ _) _⟩


/-- All that the walk is told of the numbers on the road. -/
structure Road (s U L Y Y1 Y0 L1 L0 : Int) : Prop where
  Y0n : 0 ≤ Y0
  Y0l : Y0 ≤ 4294967295
  Y1n : 2147483648 ≤ Y1
  Y1l : Y1 ≤ 4294967295
  U0 : 0 ≤ U
  UY : U < Y1 * 4294967296 + Y0
  L10 : 0 ≤ L1
  L11 : L1 ≤ 4294967295
  L00 : 0 ≤ L0
  L01 : L0 ≤ 4294967295
  eY : Y = Y1 * 4294967296 + Y0
  eL : L = L1 * 4294967296 + L0

set_option maxRecDepth 100000 in
set_option maxHeartbeats 1000000 in
theorem div64_big (hi lo y : Int) (w : World) (hl0 : 0 ≤ lo) (hl : lo ≤ 18446744073709551615) (hy0 : 1 ≤ y) (hy : y ≤ 18446744073709551615) (hh : 1 ≤ hi) (hhy : hi < y) :
    Calls Tryz.prog 149 #[.int .u64 hi, .int .u64 lo, .int .u64 y] w fun e w' => e = .returned (.tuple #[.int .u64 ((hi * 18446744073709551616 + lo) / y), .int .u64 ((hi * 18446744073709551616 + lo) % y)]) ∧ Below w.heap.size w w' := by
  obtain ⟨s, hs, hs0, hs1, hn0, hn1⟩ := norm_shift y hy0 hy
  have hS : s = (s.toNat : Int) := by omega
  obtain ⟨U, L, eU, eL, hU0, hUY, hL0, hL1, hsh⟩ := shifted hi lo y s.toNat (by omega) (by omega) hl0 hl hn1 hhy
  rw [show 64 - s.toNat = (64 - s).toNat from by omega] at eU
  obtain ⟨Y, hY⟩ : ∃ x, y * 2 ^ s.toNat = x := ⟨_, rfl⟩
  have e1 : IntKind.u64.wrap (y * 2 ^ s.toNat) = Y := by rw [IntWalk.u64_in _ (by omega)]; exact hY
  rw [hY] at hn0 hn1 hUY
  have e3 := and_mask32 Y (by omega) hn1
  obtain ⟨Y1, e2⟩ : ∃ x, Y / 4294967296 = x := ⟨_, rfl⟩
  obtain ⟨Y0, e4⟩ : ∃ x, Y % 4294967296 = x := ⟨_, rfl⟩
  rw [e4] at e3
  have e6 := and_mask32 L hL0 hL1
  obtain ⟨L1, e5⟩ : ∃ x, L / 4294967296 = x := ⟨_, rfl⟩
  obtain ⟨L0, e7⟩ : ∃ x, L % 4294967296 = x := ⟨_, rfl⟩
  rw [e7] at e6
  have RD : Hid (Road s U L Y Y1 Y0 L1 L0) := ⟨by omega, by omega, by omega, by omega, hU0, by omega, by omega, by omega, by omega, by omega, by omega, by omega⟩
  have HS := Lib.hid hs
  have HH := Lib.hid hsh
  have HY := Lib.hid hY
  clear hs hsh hY e4 e7 hS
  have DI : Hid (Dig U Y1 ((U * 4294967296 + L1) / (Y1 * 4294967296 + Y0)) (U / Y1) (U % Y1)) := by
    have r := RD.out
    exact Dig.start r.U0 r.UY r.Y1n r.Y1l r.Y0n r.Y0l r.L10 r.L11
  obtain ⟨QY, eQY, hQY, hQR⟩ : ∃ QY, IntKind.u64.wrap (U / Y1 * Y1) = QY ∧ QY ≤ U ∧ Hid (U - QY = U % Y1) := by
    have d := DI.out
    have := d.e; have := d.r0
    have := Int.mul_nonneg d.q0 (by have := RD.out.Y1n; omega : 0 ≤ Y1)
    refine ⟨U / Y1 * Y1, IntWalk.u64_in _ (by omega), by omega, ?_⟩
    show U - U / Y1 * Y1 = U % Y1
    omega
  have hQY0 : U - QY ≤ U := by
    have := hQR.out; have := DI.out.r0; have := DI.out.q0
    have := Int.mul_nonneg DI.out.q0 (by have := RD.out.Y1n; omega : 0 ≤ Y1)
    have := DI.out.e; omega
  have hYp : 0 < Y1 * 4294967296 + Y0 := by have := RD.out.Y1n; have := RD.out.Y0n; omega
  -- the first digit, and what is left
  obtain ⟨Q1, hQ1⟩ : ∃ x, (U * 4294967296 + L1) / (Y1 * 4294967296 + Y0) = x := ⟨_, rfl⟩
  have q10 : 0 ≤ Q1 := by rw [← hQ1]; exact Int.ediv_nonneg (by have := RD.out.L10; omega) (by omega)
  have q11 : Q1 ≤ 4294967295 := by have := dig_lt (d := L1) RD.out.UY hYp RD.out.L11; omega
  obtain ⟨T, hT, T0, T1⟩ : ∃ T, T = U * 4294967296 + L1 - Q1 * Y ∧ 0 ≤ T ∧ T < Y1 * 4294967296 + Y0 := by
    have := dig_rest (U := U) (d := L1) hYp
    rw [hQ1, ← RD.out.eY] at this
    have := RD.out.eY
    exact ⟨_, rfl, by omega, by omega⟩
  obtain ⟨A, eA, B, eB, C, eC, eT⟩ : ∃ A, IntKind.u64.wrap (U * 4294967296) = A ∧ ∃ B, IntKind.u64.wrap (A + L1) = B ∧ ∃ C, IntKind.u64.wrap (Q1 * Y) = C ∧ IntKind.u64.wrap (B - C) = T := by
    refine ⟨_, rfl, _, rfl, _, rfl, ?_⟩
    have := RD.out.eY; have := RD.out.Y1l; have := RD.out.Y0l
    simp only [IntKind.wrap_u64]
    omega
  -- the second digit
  obtain ⟨Q0, hQ0⟩ : ∃ x, (T * 4294967296 + L0) / (Y1 * 4294967296 + Y0) = x := ⟨_, rfl⟩
  have q00 : 0 ≤ Q0 := by rw [← hQ0]; exact Int.ediv_nonneg (by have := RD.out.L00; omega) (by omega)
  have q01 : Q0 ≤ 4294967295 := by have := dig_lt (d := L0) T1 hYp RD.out.L01; omega
  obtain ⟨R, hR, R0, R1⟩ : ∃ R, R = T * 4294967296 + L0 - Q0 * Y ∧ 0 ≤ R ∧ R < Y1 * 4294967296 + Y0 := by
    have := dig_rest (U := T) (d := L0) hYp
    rw [hQ0, ← RD.out.eY] at this
    have := RD.out.eY
    exact ⟨_, rfl, by omega, by omega⟩
  obtain ⟨A2, eA2, B2, eB2, C2, eC2, eR⟩ : ∃ A, IntKind.u64.wrap (T * 4294967296) = A ∧ ∃ B, IntKind.u64.wrap (A + L0) = B ∧ ∃ C, IntKind.u64.wrap (Q0 * Y) = C ∧ IntKind.u64.wrap (B - C) = R := by
    refine ⟨_, rfl, _, rfl, _, rfl, ?_⟩
    have := RD.out.eY; have := RD.out.Y1l; have := RD.out.Y0l
    simp only [IntKind.wrap_u64]
    omega
  have DI2 : Hid (Dig T Y1 ((T * 4294967296 + L0) / (Y1 * 4294967296 + Y0)) (T / Y1) (T % Y1)) := by
    have r := RD.out
    exact Dig.start T0 T1 r.Y1n r.Y1l r.Y0n r.Y0l r.L00 r.L01
  obtain ⟨QT, eQT, hQT, hQTR⟩ : ∃ QY, IntKind.u64.wrap (T / Y1 * Y1) = QY ∧ QY ≤ T ∧ Hid (T - QY = T % Y1) := by
    have d := DI2.out
    have := d.e; have := d.r0
    have := Int.mul_nonneg d.q0 (by have := RD.out.Y1n; omega : 0 ≤ Y1)
    have := RD.out.eY
    refine ⟨T / Y1 * Y1, IntWalk.u64_in _ (by omega), by omega, ?_⟩
    show T - T / Y1 * Y1 = T % Y1
    omega
  have hQT0 : T - QT ≤ T := by
    have := hQTR.out; have := DI2.out.r0; have := DI2.out.q0
    have := Int.mul_nonneg DI2.out.q0 (by have := RD.out.Y1n; omega : 0 ≤ Y1)
    have := DI2.out.e; omega
  have FIN : Hid ((hi * 18446744073709551616 + lo) / y = Q1 * 4294967296 + Q0 ∧ (hi * 18446744073709551616 + lo) % y = R / 2 ^ s.toNat) := by
    have := RD.out.eY
    refine dig_join (Int.pow_pos (by omega)) (U := U) (L1 := L1) (L0 := L0) (T := T) ?_ ?_ ?_ R0 ?_ (by omega)
    · rw [HH.out, RD.out.eL]
    · rw [HY.out]; exact hT
    · rw [HY.out]; exact hR
    · rw [HY.out]; omega
  have GQ1 := Lib.hid hQ1; have GQ0 := Lib.hid hQ0
  have T2 : T ≤ 18446744073709551615 := by have := RD.out.Y1l; have := RD.out.Y0l; omega
  have R2 : R ≤ 18446744073709551615 := by have := RD.out.Y1l; have := RD.out.Y0l; omega
  have HT1 := Lib.hid T1
  clear hQ1 hQ0 hT hR T1 R1 hYp
  have n1 : ¬ Y1 = 0 := by have := RD.out.Y1n; omega
  have n2 : 1 ≤ Y1 := by have := RD.out.Y1n; omega
  have n3 : U ≤ 18446744073709551615 := by omega
  have hy' : (y == 0) = false := by simp; omega
  have hyl : decide (y ≤ hi) = false := by simp; omega
  have hh0 : (hi == 0) = false := by simp; omega
  clear hUY
  have rd := RD.out
  have b1 := rd.Y1n; have b2 := rd.Y1l; have b3 := rd.L10; have b4 := rd.L11; have b5 := rd.Y0n; have b6 := rd.Y0l; have b7 := rd.L00; have b8 := rd.L01
  clear rd
  go_enter Tryz.func149, Tryz.ntmps149
  go_upto_block 0 with (go_at_call 173; refine (lz_any _ _ (by omega) (by omega)).mono ?_; rw [HS.out]; rintro e w' ⟨rfl, rfl⟩)
  go_cut [15] (fun q1 wc => q1 = .int .u64 Q1 ∧ wc = w)
  case first =>
    go_wp2_with fail
    clear eQY hQY hQY0 eA eB eC eT eA2 eB2 eC2 eR eQT hQT hQT0 T0 T2 R0 R2
    have hUY := RD.out.UY
    go_loop [15, 16] (fun a b => ∃ q r : Int, a = .int .u64 q ∧ b = .int .u64 r ∧ Dig U Y1 ((U * 4294967296 + L1) / (Y1 * 4294967296 + Y0)) q r) (fun a _ => (intOf a).toNat)
    case atStart => exact ⟨_, _, rfl, rfl, by rw [hQR.out]; exact DI.out⟩
    case round =>
      obtain ⟨q, r, rfl, rfl, hd⟩ := hrel
      have c1 := hd.q0; have c2 := hd.qb; have c3 := hd.r0; have c4 := hd.r1
      have HD := Lib.hid hd
      clear hd
      by_cases hq : 4294967296 ≤ q
      · have hm : Hid ((U * 4294967296 + L1) / (Y1 * 4294967296 + Y0) ≤ q - 1) := by have := GQ1.out; show _ ≤ _; omega
        by_cases hr : 4294967296 ≤ r + Y1
        · go_wp2_with fail
          go_meet
          case rel => exact ⟨by rw [HD.out.stop hm.out (GQ1.out ▸ q10) (by omega) (by omega) b5 b6 (by omega) hr, GQ1.out], rfl⟩
        · go_wp2_with fail
          go_round
          case rel => exact ⟨_, _, rfl, rfl, HD.out.next hm.out (GQ1.out ▸ q10) (by omega) (by omega)⟩
          case measure => simp [intOf]; omega
      · obtain ⟨M, eM, hMM⟩ : ∃ M, IntKind.u64.wrap (q * Y0) = M ∧ Hid (M = q * Y0) := by
          refine ⟨q * Y0, IntWalk.u64_in _ ?_, rfl⟩
          have x1 := Int.mul_nonneg c1 b5
          have x2 := Int.mul_le_mul (show q ≤ 4294967295 by omega) b6 b5 (by omega)
          omega
        by_cases hM : 4294967296 * r + L1 < M
        · have hm : Hid ((U * 4294967296 + L1) / (Y1 * 4294967296 + Y0) ≤ q - 1) := HD.out.more (by omega) (by rw [← hMM.out]; exact hM)
          have hq1 : 1 ≤ q := by have := hm.out; rw [GQ1.out] at this; omega
          by_cases hr : 4294967296 ≤ r + Y1
          · go_wp2_with fail
            go_meet
            case rel => exact ⟨by rw [HD.out.stop hm.out (GQ1.out ▸ q10) (by omega) (by omega) b5 b6 (by omega) hr, GQ1.out], rfl⟩
          · go_wp2_with fail
            go_round
            case rel => exact ⟨_, _, rfl, rfl, HD.out.next hm.out (GQ1.out ▸ q10) (by omega) (by omega)⟩
            case measure => simp [intOf]; omega
        · go_wp2_with fail
          go_meet
          case rel => exact ⟨by rw [HD.out.exit (by omega) (by rw [← hMM.out]; omega), GQ1.out], rfl⟩
  case rest =>
    obtain ⟨rfl, rfl⟩ := hcut
    clear eQY hQY hQY0
    go_upto_block 2 with fail
    go_cut [18] (fun q1 wx => q1 = .int .u64 Q0 ∧ wx = wc)
    case first =>
      go_wp2_with fail
      clear eA eB eC eT eA2 eB2 eC2 eR eQT hQT hQT0 R0 R2
      have hTY := HT1.out
      go_loop [18, 16] (fun a b => ∃ q r : Int, a = .int .u64 q ∧ b = .int .u64 r ∧ Dig T Y1 ((T * 4294967296 + L0) / (Y1 * 4294967296 + Y0)) q r) (fun a _ => (intOf a).toNat)
      case atStart => exact ⟨_, _, rfl, rfl, by rw [hQTR.out]; exact DI2.out⟩
      case round =>
        obtain ⟨q, r, rfl, rfl, hd⟩ := hrel
        have c1 := hd.q0; have c2 := hd.qb; have c3 := hd.r0; have c4 := hd.r1
        have HD := Lib.hid hd
        clear hd
        by_cases hq : 4294967296 ≤ q
        · have hm : Hid ((T * 4294967296 + L0) / (Y1 * 4294967296 + Y0) ≤ q - 1) := by have := GQ0.out; show _ ≤ _; omega
          by_cases hr : 4294967296 ≤ r + Y1
          · go_wp2_with fail
            go_meet
            case rel => exact ⟨by rw [HD.out.stop hm.out (GQ0.out ▸ q00) (by omega) (by omega) b5 b6 (by omega) hr, GQ0.out], rfl⟩
          · go_wp2_with fail
            go_round
            case rel => exact ⟨_, _, rfl, rfl, HD.out.next hm.out (GQ0.out ▸ q00) (by omega) (by omega)⟩
            case measure => simp [intOf]; omega
        · obtain ⟨M, eM, hMM⟩ : ∃ M, IntKind.u64.wrap (q * Y0) = M ∧ Hid (M = q * Y0) := by
            refine ⟨q * Y0, IntWalk.u64_in _ ?_, rfl⟩
            have x1 := Int.mul_nonneg c1 b5
            have x2 := Int.mul_le_mul (show q ≤ 4294967295 by omega) b6 b5 (by omega)
            omega
          by_cases hM : 4294967296 * r + L0 < M
          · have hm : Hid ((T * 4294967296 + L0) / (Y1 * 4294967296 + Y0) ≤ q - 1) := HD.out.more (by omega) (by rw [← hMM.out]; exact hM)
            have hq1 : 1 ≤ q := by have := hm.out; rw [GQ0.out] at this; omega
            by_cases hr : 4294967296 ≤ r + Y1
            · go_wp2_with fail
              go_meet
              case rel => exact ⟨by rw [HD.out.stop hm.out (GQ0.out ▸ q00) (by omega) (by omega) b5 b6 (by omega) hr, GQ0.out], rfl⟩
            · go_wp2_with fail
              go_round
              case rel => exact ⟨_, _, rfl, rfl, HD.out.next hm.out (GQ0.out ▸ q00) (by omega) (by omega)⟩
              case measure => simp [intOf]; omega
          · go_wp2_with fail
            go_meet
            case rel => exact ⟨by rw [HD.out.exit (by omega) (by rw [← hMM.out]; omega), GQ0.out], rfl⟩
    case rest =>
      obtain ⟨rfl, rfl⟩ := hcut
      clear eA eB eC eT eQT hQT hQT0
      go_wp2_with fail
      go_ret2
      exact ⟨by rw [FIN.out.1, FIN.out.2]; rfl, Below.refl _ _⟩
end Go.Proofs.YthkhhjfldkebcaaGreatDoor
