/- The contracts of the document's numbers, by the numbers; up. -/
import Derived.Test.YthkhhjfldkebcaaGreatDoorBf
namespace Go.Proofs.YthkhhjfldkebcaaGreatDoor
open Go.RowKit Go.Proofs Go.Shelf

/-- Numbers that are looked at: at most 16 parts. -/
def Lim (N : Nat) : Prop := N < 32768 ^ 16
theorem Lim.le {N M : Nat} (h : Lim N) (hm : M ≤ N) : Lim M := Nat.lt_of_le_of_lt hm h
theorem lim_of {N k : Nat} (h : N < 2 ^ k) (hk : k ≤ 240) : Lim N := by
  have e : (32768 : Nat) ^ 16 = 2 ^ 240 := by rw [show (32768 : Nat) = 2 ^ 15 from rfl, ← Nat.pow_mul]
  unfold Lim
  rw [e]
  exact Nat.lt_of_lt_of_le h (Nat.pow_le_pow_right (by decide) hk)
theorem Can.lim {l : List Nat} (h : Can l) (hl : Lim (bval l)) : l.length ≤ 16 := h.len_le hl

theorem BigOut.mk {w w' : World} {N : Nat} {v : Value} (h : BigN w' v N) (hb : Below w.heap.size w w') : BigOut w N (.returned v) w' := ⟨v, rfl, h, hb⟩
theorem plus_N (va vb : Value) (A B : Nat) (w : World) (ha : BigN w va A) (hb : BigN w vb B) (la : Lim A) (lb : Lim B) : Calls Tryz.prog 110 #[va, vb] w (BigOut w (A + B)) := by
  obtain ⟨a, h1, h2, rfl⟩ := ha
  obtain ⟨b, h3, h4, rfl⟩ := hb
  have x := h2.lim la; have y := h4.lim lb
  exact plus_parts va vb a b w h1 h3 h2 h4 (by omega) (by omega)
theorem minus_N (va vb : Value) (A B : Nat) (w : World) (ha : BigN w va A) (hb : BigN w vb B) (la : Lim A) (hle : B ≤ A) : Calls Tryz.prog 137 #[va, vb] w (BigOut w (A - B)) := by
  obtain ⟨a, h1, h2, rfl⟩ := ha
  obtain ⟨b, h3, h4, rfl⟩ := hb
  have x := h2.lim la
  refine minus_parts va vb a b w h1 h3 h2.1 h4.1 (by omega) ?_ hle
  rcases Nat.lt_or_ge a.length b.length with h | h
  · have := Can.len_lt h2 h4 h; omega
  · exact h
theorem times_N (va vb : Value) (A B : Nat) (w : World) (ha : BigN w va A) (hb : BigN w vb B) (la : Lim A) (lb : Lim B) : Calls Tryz.prog 102 #[va, vb] w (BigOut w (A * B)) := by
  obtain ⟨a, h1, h2, rfl⟩ := ha
  obtain ⟨b, h3, h4, rfl⟩ := hb
  have x := h2.lim la; have y := h4.lim lb
  exact times_parts va vb a b w h1 h3 h2.1 h4.1 (by omega) (by omega)
theorem order_N (va vb : Value) (A B : Nat) (w : World) (ha : BigN w va A) (hb : BigN w vb B) (la : Lim A) (lb : Lim B) : Calls Tryz.prog 96 #[va, vb] w fun e w' => e = .returned (.int .i64 (cmpI A B)) ∧ Below w.heap.size w w' := by
  obtain ⟨a, h1, h2, rfl⟩ := ha
  obtain ⟨b, h3, h4, rfl⟩ := hb
  have x := h2.lim la; have y := h4.lim lb
  exact order_any va vb a b w h1 h3 h2 h4 (by omega) (by omega)
theorem number_N (v : Value) (N : Nat) (w : World) (h : BigN w v N) (hl : Lim N) :
    Calls Tryz.prog 130 #[v] w fun e w' => e = .returned (.tuple #[.int .i64 (if N < 1152921504606846976 then (N : Int) else 0), .bool (decide (N < 1152921504606846976))]) ∧ w = w' := by
  obtain ⟨l, h1, h2, rfl⟩ := h
  have x := h2.lim hl
  have e4 : (32768 : Nat) ^ 4 = 1152921504606846976 := by decide
  have hiff : 4 < l.length ↔ ¬ bval l < 1152921504606846976 := by
    constructor
    · intro h h'
      rw [← e4] at h'
      have := h2.len_le h'; omega
    · intro h
      rcases Nat.lt_or_ge 4 l.length with h' | h'
      · exact h'
      · exfalso
        have a := bval_lt h2.1
        have b : 32768 ^ l.length ≤ 32768 ^ 4 := Nat.pow_le_pow_right (by decide) h'
        omega
  refine (number_any v l w h1 h2.1 (by omega)).mono ?_
  rintro e w' ⟨rfl, rfl⟩
  refine ⟨?_, rfl⟩
  by_cases h : bval l < 1152921504606846976
  · rw [if_neg (fun h' => hiff.1 h' h), if_pos h, decide_eq_true h, decide_eq_true (by have := fun h' => hiff.1 h' h; omega)]
  · have := hiff.2 h
    rw [if_pos this, if_neg h, decide_eq_false h, decide_eq_false (by omega)]

set_option maxHeartbeats 1000000 in
theorem up_N (va : Value) (A k : Nat) (w : World) (ha : BigN w va A) (la : Lim A) (hk : k = 2 ∨ k = 16 ∨ k = 32) : Calls Tryz.prog 111 #[va, .int .i64 k] w (BigOut w (A * 2 ^ k)) := by
  have HA := Lib.hid ha
  have LA := Lib.hid la
  obtain ⟨l, ⟨X, cap, rfl, -⟩, -⟩ := ha
  clear la
  rcases hk with rfl | rfl | rfl
  · go_enter Tryz.func111, Tryz.ntmps111
    go_wp2_with (first
      | (go_at_call 72; refine (of_any 4 _ (by decide) (by decide)).mono ?_; rintro e w1 ⟨v, rfl, hN, hb⟩; have HN := Lib.hid hN; obtain ⟨l1, ⟨X1, cap1, rfl, -⟩, -⟩ := hN)
      | (go_at_call 102; refine (times_N _ _ A 4 _ (HA.out.up hb) HN.out LA.out (lim_of (k := 3) (by decide) (by decide))).mono ?_; rintro e w2 ⟨v2, rfl, hN2, hb2⟩))
    go_ret
    exact ⟨_, rfl, hN2, hb.trans (hb2.mono hb.size)⟩
  · go_enter Tryz.func111, Tryz.ntmps111
    go_wp2_with (first
      | (go_at_call 72; refine (of_any 65536 _ (by decide) (by decide)).mono ?_; rintro e w1 ⟨v, rfl, hN, hb⟩; have HN := Lib.hid hN; obtain ⟨l1, ⟨X1, cap1, rfl, -⟩, -⟩ := hN)
      | (go_at_call 102; refine (times_N _ _ A 65536 _ (HA.out.up hb) HN.out LA.out (lim_of (k := 17) (by decide) (by decide))).mono ?_; rintro e w2 ⟨v2, rfl, hN2, hb2⟩))
    go_ret
    exact ⟨_, rfl, hN2, hb.trans (hb2.mono hb.size)⟩
  · go_enter Tryz.func111, Tryz.ntmps111
    go_wp2_with (first
      | (go_at_call 72; refine (of_any 4294967296 _ (by decide) (by decide)).mono ?_; rintro e w1 ⟨v, rfl, hN, hb⟩; have HN := Lib.hid hN; obtain ⟨l1, ⟨X1, cap1, rfl, -⟩, -⟩ := hN)
      | (go_at_call 102; refine (times_N _ _ A 4294967296 _ (HA.out.up hb) HN.out LA.out (lim_of (k := 33) (by decide) (by decide))).mono ?_; rintro e w2 ⟨v2, rfl, hN2, hb2⟩))
    go_ret
    exact ⟨_, rfl, hN2, hb.trans (hb2.mono hb.size)⟩
end Go.Proofs.YthkhhjfldkebcaaGreatDoor
