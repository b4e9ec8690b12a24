/- The contract of wide.root: the greatest number whose square is not above one below 2^126. -/
import Derived.Test.YthkhhjfldkebcaaGreatDoorM3
import Derived.Test.YthkhhjfldkebcaaGreatDoorD
import Derived.Test.YthkhhjfldkebcaaGreatDoorQ
namespace Go.Proofs.YthkhhjfldkebcaaGreatDoor
open Go.RowKit Go.Proofs

set_option maxHeartbeats 1000000 in
theorem wroot_any {h l A : Int} (H : InW h l A) (w : World) (hA : A < 85070591730234615865843651857942052864) :
    Calls Tryz.prog 126 #[.agg #[.int .u64 h, .int .u64 l]] w fun e w' => ∃ n : Int, e = .returned (.int .u64 n) ∧ Hid (IsRoot A n) ∧ Below w.heap.size w w' := by
  have hI := RootInv.start H.nn hA
  have HH := Lib.hid H
  clear H hA
  have HI := Lib.hid hI
  clear hI
  go_enter Tryz.func126, Tryz.ntmps126
  go_wp2
  go_loopw [3, 4] (fun n b wr => ∃ N B : Int, n = .int .u64 N ∧ b = .int .u64 B ∧ RootInv A N B ∧ Below (w.heap.size + 1) (w.alloc (.cells #[.int .u64 h, .int .u64 l] 86)) wr) (fun _ b _ => (intOf b).toNat)
  case atStart => exact ⟨_, _, rfl, rfl, HI.out, Below.refl _ _⟩
  case round =>
    obtain ⟨N, B, rfl, rfl, hi, hb⟩ := hrel
    have bd := hi.bounds
    obtain ⟨b1, b2, b3, b4, b5⟩ := bd
    have c0 : wr.cell? ⟨w.heap.size, 0, none⟩ = some (.int .u64 h) := by rw [hb.cell (p := ⟨_, _, none⟩) (by simp)]; simp [go_sem]
    have c1 : wr.cell? ⟨w.heap.size, 1, none⟩ = some (.int .u64 l) := by rw [hb.cell (p := ⟨_, _, none⟩) (by simp)]; simp [go_sem]
    have hsz : w.heap.size < wr.heap.size := by have := hb.size; simp at this; omega
    have GI := Lib.hid hi
    clear hi
    by_cases hB : 0 < B
    · have eor := GI.out.or hB
      obtain ⟨M, hM⟩ : ∃ M, N + B = M := ⟨_, rfl⟩
      rw [hM] at eor b5
      have hm0 : 0 ≤ M := by omega
      have GM := Lib.hid hM
      clear hM
      have X0 : ∀ X : BW wr, X.to.cell? ⟨w.heap.size, 0, none⟩ = some (.int .u64 h) := fun X => (X.cell _ _ hsz).trans c0
      have X1 : ∀ X : BW wr, X.to.cell? ⟨w.heap.size, 1, none⟩ = some (.int .u64 l) := fun X => (X.cell _ _ hsz).trans c1
      have hmm : M * M < 340282366920938463463374607431768211456 := by
        have := Int.mul_le_mul b5 b5 hm0 (by omega)
        omega
      by_cases hc : M * M ≤ A
      · have ec : Hid (decide (cmpI (M * M) A ≤ 0) = true) := by show _ = _; rw [decide_eq_true_eq]; unfold cmpI; split <;> (try split) <;> omega
        go_wp2_with fail
        refine wp_region_quietB (by kernel_rfl) (by kernel_rfl) ?_
        quiet_step (fail)
        quiet_step (fail)
        quiet_step ((go_at_call 62; exact quietB (product_any _ _ _ hm0 (by omega) hm0 (by omega))))
        quiet_step (fail)
        quiet_step ((go_at_call 95; exact quietB (compareW (InW.mk' (Int.mul_nonneg hm0 hm0) hmm) HH.out _)))
        quiet_step (fail)
        refine wpQuiet_nil ?_
        rintro _ ⟨⟨wy, hby⟩, rfl⟩
        rw [ec.out]
        go_wp2_with fail
        go_roundw
        case rel => exact ⟨_, _, rfl, rfl, by have := GI.out.yes hB (by rw [GM.out]; exact hc); rwa [GM.out] at this, hb.trans (hby.mono (by omega))⟩
        case measure => simp [intOf]; omega
      · have ec : Hid (decide (cmpI (M * M) A ≤ 0) = false) := by show _ = _; rw [decide_eq_false_iff_not]; unfold cmpI; split <;> (try split) <;> omega
        go_wp2_with fail
        refine wp_region_quietB (by kernel_rfl) (by kernel_rfl) ?_
        quiet_step (fail)
        quiet_step (fail)
        quiet_step ((go_at_call 62; exact quietB (product_any _ _ _ hm0 (by omega) hm0 (by omega))))
        quiet_step (fail)
        quiet_step ((go_at_call 95; exact quietB (compareW (InW.mk' (Int.mul_nonneg hm0 hm0) hmm) HH.out _)))
        quiet_step (fail)
        refine wpQuiet_nil ?_
        rintro _ ⟨⟨wy, hby⟩, rfl⟩
        rw [ec.out]
        go_wp2_with fail
        go_roundw
        case rel => exact ⟨_, _, rfl, rfl, by exact GI.out.no hB (by rw [GM.out]; omega), hb.trans (hby.mono (by omega))⟩
        case measure => simp [intOf]; omega
    · obtain rfl : B = 0 := by omega
      go_wp2_with fail
      go_ret
      exact ⟨N, rfl, GI.out.done, ((Below.refl _ _).alloc (Nat.le_refl _) _).trans (hb.mono (by omega))⟩
end Go.Proofs.YthkhhjfldkebcaaGreatDoor
