/- Contracts of the document's root and rooted. -/
import Derived.Test.YthkhhjfldkebcaaGreatDoorBj
namespace Go.Proofs.YthkhhjfldkebcaaGreatDoor
open Go.RowKit Go.Proofs Go.Shelf

theorem ret2_b {a b : Int} {s t : Bool} (h : a = b) (h' : s = t) : Ending.returned (.tuple #[.int .i64 a, .bool s]) = .returned (.tuple #[.int .i64 b, .bool t]) := by rw [h, h']
/-- The first step of root, by the number of parts. -/
def stepOf : Nat → Nat
  | 0 => 2
  | 1 => 256
  | 2 => 65536
  | 3 => 8388608
  | 4 => 2147483648
  | 5 => 274877906944
  | 6 => 70368744177664
  | 7 => 9007199254740992
  | _ => 288230376151711744
/-- A round of the loop of root. -/
theorem root_step {r s j A : Nat} (hs : s = 2 ^ j / 2) (hs0 : 0 < s) (h2 : A < (r + 2 ^ j) * (r + 2 ^ j)) (h3 : r + 2 ^ j ≤ 1152921504606846976) :
    ∃ j', s / 2 = 2 ^ j' / 2 ∧ ((r + s) * (r + s) ≤ A → A < (r + s + 2 ^ j') * (r + s + 2 ^ j') ∧ r + s + 2 ^ j' ≤ 1152921504606846976) ∧ (A < (r + s) * (r + s) → A < (r + 2 ^ j') * (r + 2 ^ j') ∧ r + 2 ^ j' ≤ 1152921504606846976) ∧ r + s ≤ 1152921504606846976 := by
  rcases j with _ | j
  · simp at hs; omega
  · have e : 2 ^ (j + 1) / 2 = 2 ^ j := by rw [Nat.pow_succ]; omega
    rw [e] at hs
    subst hs
    rw [Nat.pow_succ] at h2 h3
    refine ⟨j, rfl, fun h => ?_, fun h => ?_, by omega⟩
    · rw [show r + 2 ^ j + 2 ^ j = r + 2 ^ j * 2 by omega]; exact ⟨h2, by omega⟩
    · exact ⟨h, by omega⟩
theorem root_end {s j : Nat} (hj : s = 2 ^ j / 2) (h0 : s = 0) : j = 0 := by
  rcases j with _ | j
  · rfl
  · rw [Nat.pow_succ, Nat.mul_div_cancel _ (by decide)] at hj
    have := Nat.pow_pos (n := j) (show 0 < 2 by decide)
    omega
theorem isq_nat {A r : Nat} (h1 : r * r ≤ A) (h2 : A < (r + 1) * (r + 1)) : isq (A : Int) = (r : Int) :=
  IsRoot.unique (isq_spec (by omega)) ⟨by omega, by rw [← Int.natCast_mul]; omega, by
    have : (((r + 1) * (r + 1) : Nat) : Int) = ((r : Int) + 1) * ((r : Int) + 1) := by rw [Int.natCast_mul]; rfl
    omega⟩
theorem cmp_eq0 (A B : Nat) : (cmpI (A : Int) (B : Int) == 0) = decide (A = B) := by
  unfold cmpI
  by_cases h : A = B
  · subst h; simp
  · rw [decide_eq_false h]; split
    · rfl
    · split
      · rfl
      · omega
theorem sq_lim {x : Nat} (h : x ≤ 1152921504606846976) : Lim (x * x) := by
  have := Nat.mul_le_mul h h
  exact lim_of (k := 130) (by omega) (by decide)

set_option maxRecDepth 100000 in
set_option maxHeartbeats 8000000 in
theorem root_N (v : Value) (A : Nat) (w : World) (ha : BigN w v A) (hA : A < 332306998946228968225951765070086144) :
    Calls Tryz.prog 134 #[v] w fun e w' => e = .returned (.tuple #[.int .i64 (isq A), .bool (decide (isq A * isq A = A))]) ∧ Below w.heap.size w w' := by
  have HA := Lib.hid ha
  have LA : Hid (Lim A) := lim_of (k := 118) (by omega) (by decide)
  obtain ⟨l, ⟨X, cap, rfl, -⟩, hc, hv⟩ := ha
  have hl : l.length ≤ 8 := hc.len_le (by
    have : (32768 : Nat) ^ 8 = 1329227995784915872903807060280344576 := by decide
    rw [hv]; omega)
  have hlt := bval_lt hc.1
  rw [hv] at hlt
  obtain ⟨n, hn⟩ : ∃ n, l.length = n := ⟨_, rfl⟩
  rw [hn] at hl hlt HA ⊢
  have ST : Hid (∀ j : Nat, (A < 2 ^ j * 2 ^ j) → 2 ^ j ≤ 1152921504606846976 → ∃ (r s j' : Nat), Value.int .i64 0 = .int .i64 r ∧ Value.int .i64 ((2 ^ j / 2 : Nat) : Int) = .int .i64 s ∧ Hid (s = 2 ^ j' / 2) ∧ s ≤ 1152921504606846976 ∧ r ≤ 1152921504606846976 ∧ Hid (r * r ≤ A) ∧ Hid (A < (r + 2 ^ j') * (r + 2 ^ j')) ∧ Hid (r + 2 ^ j' ≤ 1152921504606846976) ∧ Below w.heap.size w w) := fun j h1 h2 =>
    ⟨0, 2 ^ j / 2, j, rfl, rfl, rfl, by omega, by omega, by show _ ≤ _; omega, by show _ < _; simpa using h1, by show _ ≤ _; omega, Below.refl _ _⟩
  clear hv hc hn
  have hn9 : n = 0 ∨ n = 1 ∨ n = 2 ∨ n = 3 ∨ n = 4 ∨ n = 5 ∨ n = 6 ∨ n = 7 ∨ n = 8 := by omega
  have START : Hid (∃ j : Nat, A < 2 ^ j * 2 ^ j ∧ 2 ^ j ≤ 1152921504606846976 ∧ 2 ^ j / 2 = stepOf n) := by
    show ∃ j : Nat, _
    rcases hn9 with rfl | rfl | rfl | rfl | rfl | rfl | rfl | rfl | rfl
    · exact ⟨2, by omega, by omega, by decide⟩
    · exact ⟨9, by omega, by omega, by decide⟩
    · exact ⟨17, by omega, by omega, by decide⟩
    · exact ⟨24, by omega, by omega, by decide⟩
    · exact ⟨32, by omega, by omega, by decide⟩
    · exact ⟨39, by omega, by omega, by decide⟩
    · exact ⟨47, by omega, by omega, by decide⟩
    · exact ⟨54, by omega, by omega, by decide⟩
    · exact ⟨59, by omega, by omega, by decide⟩
  obtain ⟨j0, s1, s2, s3⟩ := START.out
  have START2 := Lib.hid (ST.out j0 s1 s2)
  have HS3 := Lib.hid s3
  clear hlt START s1 s2 s3 ST
  have RES : Hid (∀ r : Nat, r * r ≤ A → A < (r + 1) * (r + 1) → isq (A : Int) = (r : Int) ∧ decide (isq (A : Int) * isq (A : Int) = (A : Int)) = (cmpI ((r * r : Nat) : Int) (A : Int) == 0)) := fun r h1 h2 => by
    have e := isq_nat h1 h2
    refine ⟨e, ?_⟩
    rw [cmp_eq0, e]
    by_cases h : r * r = A
    · rw [decide_eq_true h, decide_eq_true (by rw [← Int.natCast_mul, h])]
    · rw [decide_eq_false h, decide_eq_false (by rw [← Int.natCast_mul]; omega)]
  obtain ⟨rs, hrs⟩ : ∃ rs, isq (A : Int) = rs := ⟨_, rfl⟩
  obtain ⟨rb, hrb⟩ : ∃ rb, decide (isq (A : Int) * isq (A : Int) = (A : Int)) = rb := ⟨_, rfl⟩
  rw [hrb] at RES ⊢
  rw [hrs] at RES ⊢
  clear hrs hrb hA
  have m1 : min (58 : Int) 1 = 1 := by decide
  have m2 : min (58 : Int) 8 = 8 := by decide
  have m3 : min (58 : Int) 16 = 16 := by decide
  have m4 : min (58 : Int) 23 = 23 := by decide
  have m5 : min (58 : Int) 31 = 31 := by decide
  have m6 : min (58 : Int) 38 = 38 := by decide
  have m7 : min (58 : Int) 46 = 46 := by decide
  have m8 : min (58 : Int) 53 = 53 := by decide
  have m9 : min (58 : Int) 61 = 58 := by decide
  rcases hn9 with rfl | rfl | rfl | rfl | rfl | rfl | rfl | rfl | rfl
  all_goals
    go_enter Tryz.func134, Tryz.ntmps134
    go_wp2_with fail
    go_loopw [4, 5] (fun nv sv wr => ∃ (r s j : Nat), nv = .int .i64 r ∧ sv = .int .i64 s ∧ Hid (s = 2 ^ j / 2) ∧ s ≤ 1152921504606846976 ∧ r ≤ 1152921504606846976 ∧ Hid (r * r ≤ A) ∧ Hid (A < (r + 2 ^ j) * (r + 2 ^ j)) ∧ Hid (r + 2 ^ j ≤ 1152921504606846976) ∧ Below w.heap.size w wr)
      (fun _ sv _ => (intOf sv).toNat)
    case atStart =>
      have h := START2.out
      rw [HS3.out] at h
      exact h
    case round =>
      obtain ⟨r, s, j, rfl, rfl, hj, hs, hr, h1, h2, h3, hbl⟩ := hrel
      have HB := Lib.hid hbl
      by_cases hs0 : 0 < s
      · obtain ⟨j', e1, e2, e3, e4⟩ := root_step hj.out hs0 h2.out h3.out
        have hs0' : (0 : Int) < (s : Int) := by omega
        have E1 := Lib.hid e1; have E2 := Lib.hid e2; have E3 := Lib.hid e3
        have OF : Hid (∀ w, Calls Tryz.prog 72 #[.int .i64 ((r : Int) + (s : Int))] w (BigOut w (r + s))) := fun w => by
          have := of_nat (r + s) w (by omega)
          rwa [Int.natCast_add] at this
        have LX : Hid (Lim (r + s)) := lim_of (k := 70) (by omega) (by decide)
        have LXX : Hid (Lim ((r + s) * (r + s))) := sq_lim e4
        clear e1 e2 e3 hbl
        by_cases hle : (r + s) * (r + s) ≤ A
        · obtain ⟨d, hd⟩ : ∃ d, cmpI (((r + s) * (r + s) : Nat)) (A : Nat) = d := ⟨_, rfl⟩
          have hd0 : d ≤ 0 := by rw [← hd]; exact cmp_le hle
          have HD := Lib.hid hd
          have HLE := Lib.hid hle
          clear hd hle
          go_wp2_with (first
            | (go_at_call 72; refine (OF.out _).mono ?_; rintro e w1 ⟨v1, rfl, k1, hb1⟩; have G1 := Lib.hid k1; obtain ⟨X1, n1, cap1, rfl⟩ := k1.form; clear k1)
            | (go_at_call 102; refine (times_N _ _ _ _ _ G1.out G1.out LX.out LX.out).mono ?_; rintro e w2 ⟨v2, rfl, k2, hb2⟩; have G2 := Lib.hid k2; obtain ⟨X2, n2, cap2, rfl⟩ := k2.form; clear k2)
            | (go_at_call 96; refine (order_N _ _ _ A _ G2.out (((HA.out.up (HB.out)).up hb1).up hb2) LXX.out LA.out).mono ?_; rintro e w3 ⟨rfl, hb3⟩; rw [HD.out]))
          have BB : Hid (Below w.heap.size w w3) := ((HB.out.trans (hb1.mono HB.out.size)).trans (hb2.mono (Nat.le_trans HB.out.size hb1.size))).trans (hb3.mono (Nat.le_trans HB.out.size (Nat.le_trans hb1.size hb2.size)))
          go_roundw
          case rel => exact ⟨r + s, s / 2, j', by go_num, by go_num, E1.out, by omega, e4, HLE.out, (E2.out HLE.out).1, (E2.out HLE.out).2, BB.out⟩
          case measure => simp [intOf]; omega
        · have hd1 : Hid (cmpI (((r + s) * (r + s) : Nat)) (A : Nat) = 1) := cmp_gt (by omega)
          have HLT : Hid (A < (r + s) * (r + s)) := by show _ < _; omega
          clear hle
          go_wp2_with (first
            | (go_at_call 72; refine (OF.out _).mono ?_; rintro e w1 ⟨v1, rfl, k1, hb1⟩; have G1 := Lib.hid k1; obtain ⟨X1, n1, cap1, rfl⟩ := k1.form; clear k1)
            | (go_at_call 102; refine (times_N _ _ _ _ _ G1.out G1.out LX.out LX.out).mono ?_; rintro e w2 ⟨v2, rfl, k2, hb2⟩; have G2 := Lib.hid k2; obtain ⟨X2, n2, cap2, rfl⟩ := k2.form; clear k2)
            | (go_at_call 96; refine (order_N _ _ _ A _ G2.out (((HA.out.up (HB.out)).up hb1).up hb2) LXX.out LA.out).mono ?_; rintro e w3 ⟨rfl, hb3⟩; rw [hd1.out]))
          have BB : Hid (Below w.heap.size w w3) := ((HB.out.trans (hb1.mono HB.out.size)).trans (hb2.mono (Nat.le_trans HB.out.size hb1.size))).trans (hb3.mono (Nat.le_trans HB.out.size (Nat.le_trans hb1.size hb2.size)))
          go_roundw
          case rel => exact ⟨r, s / 2, j', by go_num, by go_num, E1.out, by omega, hr, h1, (E3.out HLT.out).1, (E3.out HLT.out).2, BB.out⟩
          case measure => simp [intOf]; omega
      · obtain rfl : s = 0 := by omega
        have hj0 := root_end hj.out rfl
        subst hj0
        have h2' : A < (r + 1) * (r + 1) := by have := h2.out; simpa using this
        have HE := Lib.hid (RES.out r h1.out h2')
        have OF : Hid (∀ w, Calls Tryz.prog 72 #[.int .i64 (r : Int)] w (BigOut w r)) := fun w => of_nat r w (by omega)
        have LX : Hid (Lim r) := lim_of (k := 70) (by omega) (by decide)
        have LXX : Hid (Lim (r * r)) := sq_lim hr
        obtain ⟨d, hd⟩ : ∃ d, cmpI ((r * r : Nat)) (A : Nat) = d := ⟨_, rfl⟩
        rw [hd] at HE
        have HD := Lib.hid hd
        clear h2' hs0 hbl hd
        go_wp2_with (first
          | (go_at_call 72; refine (OF.out _).mono ?_; rintro e w1 ⟨v1, rfl, k1, hb1⟩; have G1 := Lib.hid k1; obtain ⟨X1, n1, cap1, rfl⟩ := k1.form; clear k1)
          | (go_at_call 102; refine (times_N _ _ _ _ _ G1.out G1.out LX.out LX.out).mono ?_; rintro e w2 ⟨v2, rfl, k2, hb2⟩; have G2 := Lib.hid k2; obtain ⟨X2, n2, cap2, rfl⟩ := k2.form; clear k2)
          | (go_at_call 96; refine (order_N _ _ _ A _ G2.out (((HA.out.up (HB.out)).up hb1).up hb2) LXX.out LA.out).mono ?_; rintro e w3 ⟨rfl, hb3⟩; rw [HD.out]))
        go_ret2
        exact ⟨ret2_b HE.out.1.symm HE.out.2.symm, ((HB.out.trans (hb1.mono HB.out.size)).trans (hb2.mono (Nat.le_trans HB.out.size hb1.size))).trans (hb3.mono (Nat.le_trans HB.out.size (Nat.le_trans hb1.size hb2.size)))⟩
end Go.Proofs.YthkhhjfldkebcaaGreatDoor
