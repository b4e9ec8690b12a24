/- The contract of share: the search, bit by bit, for the greatest share. -/
import Derived.Test.YthkhhjfldkebcaaGreatDoorZ
namespace Go.Proofs.YthkhhjfldkebcaaGreatDoor
open Go.RowKit Go.Proofs Go.Shelf

/-- n times the root of s is at most One times x. -/
def Shr (s x n : Int) : Prop := n * n * s ≤ 4294967296 * (x * x)
instance (s x n : Int) : Decidable (Shr s x n) := by unfold Shr; infer_instance
theorem Shr.anti {s x n k : Int} (hs : 0 ≤ s) (h0 : 0 ≤ n) (h : n ≤ k) (hk : Shr s x k) : Shr s x n := by
  have h1 : n * n ≤ k * k := Int.mul_le_mul h h h0 (by omega)
  have h2 := Int.mul_le_mul_of_nonneg_right h1 hs
  unfold Shr at *
  omega
theorem Shr.zero (s x : Int) : Shr s x 0 := by
  unfold Shr
  have : 0 ≤ x * x := by
    rcases Int.le_total 0 x with h | h
    · exact Int.mul_nonneg h h
    · exact Int.mul_nonneg_of_nonpos_of_nonpos h h
  simp; omega
/-- The share: the greatest. -/
def IsShare (s x n : Int) : Prop := 0 ≤ n ∧ n ≤ 65536 ∧ Shr s x n ∧ ∀ k, n < k → k ≤ 65536 → ¬ Shr s x k
theorem IsShare.unique {s x n k : Int} (h : IsShare s x n) (h' : IsShare s x k) : n = k := by
  obtain ⟨a, b, c, d⟩ := h
  obtain ⟨a', b', c', d'⟩ := h'
  rcases Int.lt_trichotomy n k with h | h | h
  · exact absurd c' (d k h b')
  · exact h
  · exact absurd c (d' n h b)
def ShareInv (s x n B : Int) : Prop := ∃ j : Nat, ∃ m : Int, 0 ≤ m ∧ n = m * 2 ^ j ∧ (B = if j = 0 then 0 else 2 ^ (j - 1)) ∧ n ≤ 65536 ∧ j ≤ 17 ∧ Shr s x n ∧ ∀ k, n + 2 ^ j ≤ k → k ≤ 65536 → ¬ Shr s x k
theorem ShareInv.start (s x : Int) : ShareInv s x 0 65536 :=
  ⟨17, 0, by omega, by omega, by decide, by omega, by omega, Shr.zero s x, fun k h h' => by simp at h; omega⟩
theorem ShareInv.bounds {s x n B : Int} (h : ShareInv s x n B) : 0 ≤ n ∧ n ≤ 65536 ∧ 0 ≤ B ∧ B ≤ 65536 := by
  obtain ⟨j, m, hm, rfl, rfl, h2, hj, -, -⟩ := h
  have hp : (0 : Int) < 2 ^ j := Int.pow_pos (by omega)
  have hn := Int.mul_nonneg hm (Int.le_of_lt hp)
  refine ⟨hn, h2, ?_, ?_⟩
  · split
    · omega
    · exact Int.le_of_lt (Int.pow_pos (by omega))
  · split
    · omega
    · have : (2 : Int) ^ (j - 1) ≤ 2 ^ 16 := by exact_mod_cast Nat.pow_le_pow_right (by omega) (by omega)
      omega
theorem ShareInv.or {s x n B : Int} (h : ShareInv s x n B) (hB : 0 < B) : bits .or .u64 n B = n + B := by
  have hb := h.bounds
  obtain ⟨j, m, hm, rfl, rfl, h2, -, -⟩ := h
  by_cases hj : j = 0
  · simp [hj] at hB
  · obtain ⟨i, rfl⟩ := Nat.exists_eq_succ_of_ne_zero hj
    have hq : (0 : Int) < 2 ^ i := Int.pow_pos (by omega)
    rw [if_neg hj] at *
    refine or_add m _ _ hm (by omega) ?_ ?_
    · simp only [Nat.succ_eq_add_one, Int.pow_succ, Nat.add_sub_cancel] at *; omega
    · simp only [Nat.succ_eq_add_one, Int.pow_succ, Nat.add_sub_cancel] at *; omega
theorem ShareInv.step {s x n B : Int} (h : ShareInv s x n B) (hB : 0 < B) : ∃ j : Nat, B = 2 ^ j ∧ j ≤ 16 ∧ B / 2 = (if j = 0 then 0 else 2 ^ (j - 1)) ∧ ∃ m : Int, 0 ≤ m ∧ n = (m + m) * 2 ^ j ∧ n ≤ 65536 ∧ Shr s x n ∧ ∀ k, n + B + B ≤ k → k ≤ 65536 → ¬ Shr s x k := by
  obtain ⟨j, m, hm, hn, hB', h2, hj17, h3, h4⟩ := h
  by_cases hj : j = 0
  · simp [hj] at hB'; omega
  · obtain ⟨i, rfl⟩ := Nat.exists_eq_succ_of_ne_zero hj
    rw [if_neg hj] at hB'
    simp only [Nat.succ_eq_add_one, Nat.add_sub_cancel] at hB'
    simp only [Nat.succ_eq_add_one, Int.pow_succ] at *
    have e : n + 2 ^ i * 2 = n + B + B := by omega
    rw [e] at h4
    refine ⟨i, hB', by omega, ?_, m, hm, ?_, h2, h3, h4⟩
    · rw [hB']
      split
      · rename_i hi; subst hi; decide
      · rename_i hi
        obtain ⟨k, rfl⟩ := Nat.exists_eq_succ_of_ne_zero hi
        simp only [Nat.succ_eq_add_one, Int.pow_succ, Nat.add_sub_cancel]; omega
    · have : m * (2 ^ i * 2) = m * 2 ^ i * 2 := by rw [Int.mul_assoc]
      rw [hn, Int.add_mul]; omega
theorem ShareInv.yes {s x n B : Int} (h : ShareInv s x n B) (hB : 0 < B) (h1 : n + B ≤ 65536) (hc : Shr s x (n + B)) : ShareInv s x (n + B) (B / 2) := by
  obtain ⟨j, hj, hj16, hh, m, hm, hn, h2, h3, h4⟩ := h.step hB
  refine ⟨j, m + m + 1, by omega, ?_, hh, h1, by omega, hc, ?_⟩
  · rw [Int.add_mul, ← hn, ← hj]; omega
  · rw [← hj]; exact h4
theorem ShareInv.no {s x n B : Int} (h : ShareInv s x n B) (hs : 0 ≤ s) (hB : 0 < B) (hc : ¬ (n + B ≤ 65536 ∧ Shr s x (n + B))) : ShareInv s x n (B / 2) := by
  have hb := h.bounds
  obtain ⟨j, hj, hj16, hh, m, hm, hn, h2, h3, h4⟩ := h.step hB
  refine ⟨j, m + m, by omega, hn, hh, h2, by omega, h3, ?_⟩
  rw [← hj]
  intro k hk hk' hS
  exact hc ⟨by omega, Shr.anti hs (by omega) hk hS⟩
theorem ShareInv.done {s x n : Int} (h : ShareInv s x n 0) : IsShare s x n := by
  have hb := h.bounds
  obtain ⟨j, m, hm, hn, hB', h2, -, h3, h4⟩ := h
  by_cases hj : j = 0
  · subst hj
    refine ⟨hb.1, h2, h3, fun k hk hk' => h4 k (by simp; omega) hk'⟩
  · rw [if_neg hj] at hB'
    have : (0 : Int) < 2 ^ (j - 1) := Int.pow_pos (by omega)
    omega

set_option maxHeartbeats 1000000 in
theorem share_ex (x s : Int) (w : World) (hs : 0 ≤ s) (hs' : s ≤ 9903520314283042199192993792) (hx : 0 ≤ x) (hx' : x ≤ 70368744177664) :
    Calls Tryz.prog 86 #[.int .u64 x, Wd s] w fun e w' => ∃ n : Int, e = .returned (.int .u64 n) ∧ Hid (IsShare s x n) ∧ Below w.heap.size w w' := by
  have GB : Hid (∀ n w, 0 ≤ n → n ≤ 65536 → Calls Tryz.prog 133 #[.int .u64 n, .agg #[.int .u64 (hiU s), .int .u64 (loU s)], .int .u64 x] w fun e w' => e = .returned (.bool (decide (Shr s x n))) ∧ Below w.heap.size w w') :=
    fun n w h h' => below_any n s x w h h' hs hs' hx hx'
  have HI := Lib.hid (ShareInv.start s x)
  go_enter Tryz.func86, Tryz.ntmps86
  go_wp2
  go_loopw [5, 6] (fun n b wr => ∃ N B : Int, n = .int .u64 N ∧ b = .int .u64 B ∧ ShareInv s x N B ∧ Below (w.heap.size + 1) (w.alloc (.cells #[.int .u64 (hiU s), .int .u64 (loU s)] 86)) wr) (fun _ b _ => (intOf b).toNat)
  case atStart => exact ⟨_, _, rfl, rfl, HI.out, Below.refl _ _⟩
  case round =>
    obtain ⟨N, B, rfl, rfl, hi, hb⟩ := hrel
    obtain ⟨b1, b2, b3, b4⟩ := hi.bounds
    have c0 : wr.cell? ⟨w.heap.size, 0, none⟩ = some (.int .u64 (hiU s)) := by rw [hb.cell (p := ⟨_, _, none⟩) (by simp)]; simp [go_sem]
    have c1 : wr.cell? ⟨w.heap.size, 1, none⟩ = some (.int .u64 (loU s)) := by rw [hb.cell (p := ⟨_, _, none⟩) (by simp)]; simp [go_sem]
    have hsz : w.heap.size < wr.heap.size := by have := hb.size; simp at this; omega
    have GI := Lib.hid hi
    clear hi
    by_cases hB : 0 < B
    · have eor := GI.out.or hB
      by_cases hle : N + B ≤ 65536
      · obtain ⟨M, hM⟩ : ∃ M, N + B = M := ⟨_, rfl⟩
        rw [hM] at eor hle
        have hm0 : 0 ≤ M := by omega
        have GM := Lib.hid hM
        clear hM
        by_cases hc : Shr s x M
        · have HC := Lib.hid hc
          have ec : decide (Shr s x M) = true := by simp [hc]
          clear hc
          go_wp2_with (go_at_call 133; refine (GB.out _ _ hm0 hle).mono ?_; rintro e w2 ⟨rfl, hb2⟩; rw [ec])
          go_roundw
          case rel => exact ⟨_, _, rfl, rfl, by have := GI.out.yes hB (by rw [GM.out]; exact hle) (by rw [GM.out]; exact HC.out); rwa [GM.out] at this, hb.trans (hb2.mono (by omega))⟩
          case measure => simp [intOf]; omega
        · have HC := Lib.hid hc
          have ec : decide (Shr s x M) = false := by simp [hc]
          clear hc
          go_wp2_with (go_at_call 133; refine (GB.out _ _ hm0 hle).mono ?_; rintro e w2 ⟨rfl, hb2⟩; rw [ec])
          go_roundw
          case rel => exact ⟨_, _, rfl, rfl, GI.out.no hs hB (by rw [GM.out]; exact fun h => HC.out h.2), hb.trans (hb2.mono (by omega))⟩
          case measure => simp [intOf]; omega
      · obtain ⟨M, hM⟩ : ∃ M, N + B = M := ⟨_, rfl⟩
        rw [hM] at eor
        have GM := Lib.hid hM
        have hle' : decide (M ≤ 65536) = false := by simp; omega
        have HL := Lib.hid hle
        clear hM hle
        go_wp2_with fail
        go_roundw
        case rel => exact ⟨_, _, rfl, rfl, GI.out.no hs hB (fun h => HL.out h.1), hb⟩
        case measure => simp [intOf]; omega
    · obtain rfl : B = 0 := by omega
      go_wp2_with fail
      go_ret
      exact ⟨N, rfl, GI.out.done, ((Below.refl _ _).alloc (Nat.le_refl _) _).trans (hb.mono (by omega))⟩

theorem exists_share (s x : Int) : ∃ n, IsShare s x n := by
  have : ∀ m : Nat, m ≤ 65536 → ∃ n : Int, 0 ≤ n ∧ n ≤ m ∧ Shr s x n ∧ ∀ k, n < k → k ≤ m → ¬ Shr s x k := by
    intro m
    induction m with
    | zero => intro _; exact ⟨0, by omega, by omega, Shr.zero s x, fun k h h' => by omega⟩
    | succ m ih =>
      intro hm
      by_cases hx : Shr s x (m + 1 : Nat)
      · exact ⟨((m + 1 : Nat) : Int), by omega, by omega, hx, fun k h h' => by omega⟩
      · obtain ⟨n, h1, h2, h3, h4⟩ := ih (by omega)
        refine ⟨n, h1, by omega, h3, fun k hk hk' => ?_⟩
        by_cases hkm : k = ((m + 1 : Nat) : Int)
        · rw [hkm]; exact hx
        · exact h4 k hk (by omega)
  obtain ⟨n, h1, h2, h3, h4⟩ := this 65536 (by omega)
  exact ⟨n, h1, by omega, h3, fun k hk hk' => h4 k hk (by omega)⟩
/-- The share of a size in a length. -/
noncomputable def shareN (s x : Int) : Int := Classical.choose (exists_share s x)
theorem shareN_spec (s x : Int) : IsShare s x (shareN s x) := Classical.choose_spec (exists_share s x)
theorem share_any (x s : Int) (w : World) (hs : 0 ≤ s) (hs' : s ≤ 9903520314283042199192993792) (hx : 0 ≤ x) (hx' : x ≤ 70368744177664) :
    Calls Tryz.prog 86 #[.int .u64 x, Wd s] w fun e w' => e = .returned (.int .u64 (shareN s x)) ∧ Below w.heap.size w w' := by
  refine (share_ex x s w hs hs' hx hx').mono ?_
  rintro e w' ⟨n, rfl, hn, hb⟩
  rw [IsShare.unique hn.out (shareN_spec s x)]
  exact ⟨rfl, hb⟩

/-- One coordinate of a spot of length one. -/
noncomputable def unitC (s x : Int) : Int := sgn (shareN s (sz x)) (decide (x < 0))
set_option maxHeartbeats 1000000 in
theorem cl84 (x y s : Int) (b : Nat) (w : World) (hv : Val x) (hs : 0 ≤ s) (hs' : s ≤ 9903520314283042199192993792) (h0 : w.cell? ⟨b, 0, none⟩ = some (.int .u64 (hiU s))) (h1 : w.cell? ⟨b, 1, none⟩ = some (.int .u64 (loU s))) :
    Calls Tryz.prog 84 #[.int .i64 x, .int .i64 y, .pointer (some ⟨b, 0, none⟩)] w fun e w' => e = .returned (.int .i64 (unitC s x)) ∧ Below w.heap.size w w' := by
  have lb := lt_cell h0
  have X0 : ∀ X : BW w, X.to.cell? ⟨b, 0, none⟩ = some (.int .u64 (hiU s)) := fun X => (X.cell _ _ lb).trans h0
  have X1 : ∀ X : BW w, X.to.cell? ⟨b, 1, none⟩ = some (.int .u64 (loU s)) := fun X => (X.cell _ _ lb).trans h1
  have sx := sz_nn x
  have sx' : sz x ≤ 70368744177664 := sz_le hv.1 hv.2
  have v1 : -9223372036854775808 ≤ x := by have := hv.1; omega
  have v2 : x ≤ 9223372036854775807 := by have := hv.2; omega
  have GS : Hid (∀ w, Calls Tryz.prog 86 #[.int .u64 (sz x), .agg #[.int .u64 (hiU s), .int .u64 (loU s)]] w fun e w' => e = .returned (.int .u64 (shareN s (sz x))) ∧ Below w.heap.size w w') := fun w => share_any (sz x) s w hs hs' sx sx'
  have hN := shareN_spec s (sz x)
  obtain ⟨N, hNN⟩ : ∃ N, shareN s (sz x) = N := ⟨_, rfl⟩
  unfold unitC
  rw [hNN] at hN GS ⊢
  obtain ⟨n0, n1, -, -⟩ := hN
  clear hNN hv lb
  go_enter Tryz.func84, Tryz.ntmps84
  go_wp2_with fail
  refine wp_region_quietB (by kernel_rfl) (by kernel_rfl) ?_
  repeat (go_big_quiet_step ((first
    | (go_at_call 63; exact quietS (size_any _ _ (by omega) (by omega)))
    | (go_at_call 86; exact quietB (GS.out _))
    | (go_at_call 85; exact quietS (signed_ok _ _ _ (by omega) (by omega))))))
  refine wpQuiet_nil ?_
  rintro _ ⟨⟨wy, hby⟩, rfl⟩
  go_wp2_with fail
  go_ret
  exact ⟨rfl, hby⟩
end Go.Proofs.YthkhhjfldkebcaaGreatDoor
