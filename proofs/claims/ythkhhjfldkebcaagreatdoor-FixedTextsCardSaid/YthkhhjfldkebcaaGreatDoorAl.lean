/- The contract of alive: the tool works. -/
import Derived.Test.YthkhhjfldkebcaaGreatDoorP5
namespace Go.Proofs.YthkhhjfldkebcaaGreatDoor
open Go.RowKit Go.Proofs Go.Shelf

theorem div_third : divR 65536 196608 2 = .ok 21846 := by kernel_rfl
theorem unit_345 : unitR 196608 262144 = .ok (39321, 52428) := by
  have hs : sq 196608 262144 = 107374182400 := by decide +kernel
  have h1 : shareN 107374182400 196608 = 39321 := IsShare.unique (shareN_spec _ _) ⟨by omega, by omega, by decide +kernel, fun k h h' => fun hk => absurd (Shr.anti (by omega) (by omega) (show 39322 ≤ k by omega) hk) (by decide +kernel)⟩
  have h2 : shareN 107374182400 262144 = 52428 := IsShare.unique (shareN_spec _ _) ⟨by omega, by omega, by decide +kernel, fun k h h' => fun hk => absurd (Shr.anti (by omega) (by omega) (show 52429 ≤ k by omega) hk) (by decide +kernel)⟩
  have z1 : sz 196608 = 196608 := by decide
  have z2 : sz 262144 = 262144 := by decide
  unfold unitR
  rw [if_pos (by decide), hs, if_neg (by decide)]
  unfold unitC
  rw [z1, z2, h1, h2]
  rfl
theorem read_tenth : readR [48, 46, 49] 3 = .ok 6554 := by kernel_rfl

set_option maxHeartbeats 1000000 in
theorem alive_any (w : World) (hM : Mem w) : Calls Tryz.prog 13 #[] w fun e w' => e = .returned (.bool true) ∧ Below w.heap.size w w' := by
  have H1 : Hid (∀ w, Calls Tryz.prog 15 #[.int .i64 65536, .int .i64 196608, .int .i64 2] w fun e w' => e = .returned (.tuple #[.int .i64 21846, .int .i64 0]) ∧ Below w.heap.size w w') := fun w => by
    have := Div_any 65536 196608 2 w; rw [div_third] at this; exact this
  have H2 : Hid (∀ w, Calls Tryz.prog 28 #[.agg #[.int .i64 196608, .int .i64 262144]] w fun e w' => e = .returned (.tuple #[.agg #[.int .i64 39321, .int .i64 52428], .int .i64 0]) ∧ Below w.heap.size w w') := fun w => by
    have := Unit_any 196608 262144 w; rw [unit_345] at this; exact this
  have H3 : Hid (∀ w, Mem w → Calls Tryz.prog 50 #[.string ⟨#[48, 46, 49]⟩, .int .i64 3] w fun e w' => e = .returned (.tuple #[.int .i64 6554, .int .i64 0]) ∧ Below w.heap.size w w') := fun w h => by
    have := Read_any ⟨#[48, 46, 49]⟩ 3 w (by decide) h; rw [show (ByteArray.mk #[48, 46, 49]).data.toList = [48, 46, 49] from rfl, read_tenth] at this; exact this
  have HM := Lib.hid hM
  clear hM
  go_enter Tryz.func13, Tryz.ntmps13
  go_wp2_with (first
    | (go_at_call 15; refine (H1.out _).mono ?_; rintro e w1 ⟨rfl, hb1⟩)
    | (go_at_call 28; refine (H2.out _).mono ?_; rintro e w2 ⟨rfl, hb2⟩)
    | (go_at_call 50; refine (H3.out _ (HM.out.up ((hb1.trans (hb2.mono hb1.size)).alloc (Nat.le_trans hb1.size hb2.size) _))).mono ?_; rintro e w3 ⟨rfl, hb3⟩; have d0 := hb3.cell (p := ⟨w2.heap.size, 0, none⟩) (by simp); have d1 := hb3.cell (p := ⟨w2.heap.size, 1, none⟩) (by simp); simp [go_sem] at d0 d1))
  go_ret
  have h12 := hb1.trans (hb2.mono hb1.size)
  exact ⟨rfl, (h12.alloc h12.size _).trans (hb3.mono (by simp; have := h12.size; omega))⟩
end Go.Proofs.YthkhhjfldkebcaaGreatDoor
