/- Contracts of right, and of the sums, products and squares that end the work by a misfit. -/
import Derived.Test.YthkhhjfldkebcaaGreatDoorG
namespace Go.Proofs.YthkhhjfldkebcaaGreatDoor
open Go.RowKit Go.Proofs

/-- A valid number. -/
def Val (a : Int) : Prop := -70368744177664 ≤ a ∧ a ≤ 70368744177664
instance (a : Int) : Decidable (Val a) := by unfold Val; infer_instance

set_option maxHeartbeats 1000000 in
theorem right_ok (zs : List Int) (b c : Nat) (w : World) (hl : zs.length ≤ 1000) (hc : ∀ i, i < zs.length → w.cell? ⟨b, i, none⟩ = some (.int .i64 (zs.getD i 0))) (hv : ∀ a ∈ zs, Val a) :
    Calls Tryz.prog 59 #[.slice (some ⟨b, 0, none⟩) zs.length c] w fun e w' => e = .returned (.tuple #[]) ∧ w = w' := by
  have HV := Lib.hid hv; have HC := Lib.hid hc
  clear hv hc
  go_enter Tryz.func59, Tryz.ntmps59
  go_wp2_with fail
  go_loop [6] (fun i => ∃ k : Nat, k ≤ zs.length ∧ i = .int .i64 k) (fun i => zs.length - (intOf i).toNat)
  case atStart => exact ⟨0, Nat.zero_le _, rfl⟩
  case round =>
    obtain ⟨k, hk, rfl⟩ := hrel
    by_cases hlt : k < zs.length
    · obtain ⟨z, hz⟩ : ∃ z, zs.getD k 0 = z := ⟨_, rfl⟩
      have hcell := HC.out k hlt
      rw [hz] at hcell
      have hvz : Val z := HV.out z (by rw [← hz, List.getD_eq_getElem?_getD, List.getElem?_eq_getElem hlt]; exact List.getElem_mem _)
      obtain ⟨v1, v2⟩ := hvz
      clear hz
      go_wp2_with (go_at_call 60; refine (need_ok _ _).mono ?_; rintro e w' ⟨rfl, rfl⟩)
      go_round
      case rel => exact ⟨k + 1, by omega, by go_num⟩
      case measure => simp [intOf]; omega
    · go_wp2_with fail
      go_end0
      exact ⟨rfl, rfl⟩
set_option maxHeartbeats 1000000 in
theorem right_no (zs : List Int) (b c : Nat) (w : World) (hl : zs.length ≤ 1000) (hc : ∀ i, i < zs.length → w.cell? ⟨b, i, none⟩ = some (.int .i64 (zs.getD i 0))) (hv : ¬ ∀ a ∈ zs, Val a) :
    Calls Tryz.prog 59 #[.slice (some ⟨b, 0, none⟩) zs.length c] w fun e w' => e = .panicked (Mis 2) ∧ w = w' := by
  have HV := Lib.hid hv; have HC := Lib.hid hc
  clear hv hc
  go_enter Tryz.func59, Tryz.ntmps59
  go_wp2_with fail
  go_loop [6] (fun i => ∃ k : Nat, k ≤ zs.length ∧ i = .int .i64 k ∧ ∀ j, j < k → Val (zs.getD j 0)) (fun i => zs.length - (intOf i).toNat)
  case atStart => exact ⟨0, Nat.zero_le _, rfl, fun j h => by omega⟩
  case round =>
    obtain ⟨k, hk, rfl, hall⟩ := hrel
    have HA := Lib.hid hall
    clear hall
    by_cases hlt : k < zs.length
    · obtain ⟨z, hz⟩ : ∃ z, zs.getD k 0 = z := ⟨_, rfl⟩
      have hcell := HC.out k hlt
      rw [hz] at hcell
      have HZ := Lib.hid hz
      clear hz
      by_cases hvz : Val z
      · have HVZ := Lib.hid hvz
        obtain ⟨v1, v2⟩ := hvz
        go_wp2_with (go_at_call 60; refine (need_ok _ _).mono ?_; rintro e w' ⟨rfl, rfl⟩)
        go_round
        case rel =>
          refine ⟨k + 1, by omega, by go_num, fun j hj => ?_⟩
          by_cases hjk : j = k
          · subst hjk; rw [HZ.out]; exact HVZ.out
          · exact HA.out j (by omega)
        case measure => simp [intOf]; omega
      · by_cases v1 : -70368744177664 ≤ z
        · have v2 : decide (z ≤ 70368744177664) = false := by unfold Val at hvz; simp; omega
          clear hvz
          go_wp2_with (go_at_call 60; refine (need_no _ _).mono ?_; rintro e w' ⟨rfl, rfl⟩)
          exact ⟨rfl, rfl, rfl⟩
        · have v2 : decide (-70368744177664 ≤ z) = false := by simp; omega
          clear hvz v1
          go_wp2_with (go_at_call 60; refine (need_no _ _).mono ?_; rintro e w' ⟨rfl, rfl⟩)
          exact ⟨rfl, rfl, rfl⟩
    · exfalso
      apply HV.out
      intro a ha
      obtain ⟨j, hj, rfl⟩ := List.getElem_of_mem ha
      have := HA.out j (by omega)
      rwa [List.getD_eq_getElem?_getD, List.getElem?_eq_getElem hj] at this
end Go.Proofs.YthkhhjfldkebcaaGreatDoor
