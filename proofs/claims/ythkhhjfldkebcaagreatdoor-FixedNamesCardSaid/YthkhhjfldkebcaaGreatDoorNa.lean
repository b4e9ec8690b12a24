/- The examples of the chapter: what the functions come to there. -/
import Derived.Test.YthkhhjfldkebcaaGreatDoorFb
import Derived.Test.YthkhhjfldkebcaaGreatDoorO1
namespace Go.Proofs.YthkhhjfldkebcaaGreatDoor
open Go.RowKit Go.Proofs Go.Shelf

theorem nw_of {n d : Int} {neg : Bool} {k : Nat} (h : n / d < 18446744073709551615) : NW n d neg k := fun _ => by have := b2i_le (bump k (n % d) d neg); omega
def vInt (i : Int) : Int := if i = 0 then -1 else if i = 1 then -2 else if i = 2 then -1 else -2
def vTiny (i : Int) : Int := if i = 2 then 1 else 0
def vHalf (i : Int) : Int := if i = 0 then -2 else if i = 1 then -3 else if i = 2 then -2 else -3
theorem three_of (w : World) : Calls Tryz.prog 17 #[.int .i64 3] w fun e w' => e = .returned (.tuple #[.int .i64 196608, .int .i64 0]) ∧ Below w.heap.size w w' := Of_any 3 w
theorem kcases {k : Nat} (h : k < 4) : k = 0 ∨ k = 1 ∨ k = 2 ∨ k = 3 := by omega
theorem int_k (k : Nat) (h : k < 4) (w : World) : Calls Tryz.prog 19 #[.int .i64 (-98304), .int .i64 k] w fun e w' => e = .returned (.tuple #[.int .i64 (vInt k), .int .i64 0]) ∧ Below w.heap.size w w' := by
  have e : intR (-98304) k = .ok (vInt k) := by rcases kcases h with rfl | rfl | rfl | rfl <;> kernel_rfl
  have := Int_any (-98304) k w
  rw [e] at this
  exact this
theorem tiny_k (k : Nat) (h : k < 4) (w : World) : Calls Tryz.prog 14 #[.int .i64 1, .int .i64 1, .int .i64 k] w fun e w' => e = .returned (.tuple #[.int .i64 (vTiny k), .int .i64 0]) ∧ Below w.heap.size w w' := by
  have e : mulR 1 1 k = .ok (vTiny k) := by rcases kcases h with rfl | rfl | rfl | rfl <;> kernel_rfl
  have := Mul_any 1 1 k w (fun _ => nw_of (by decide +kernel))
  rw [e] at this
  exact this
theorem half_k (k : Nat) (h : k < 4) (w : World) : Calls Tryz.prog 34 #[.int .i64 5, .int .i64 (-1), .int .i64 2, .int .i64 k] w fun e w' => e = .returned (.tuple #[.int .i64 (vHalf k), .int .i64 0]) ∧ Below w.heap.size w w' := by
  have e : scaleR 5 (-1) 2 k = .ok (vHalf k) := by rcases kcases h with rfl | rfl | rfl | rfl <;> kernel_rfl
  have := Scale_any 5 (-1) 2 k w (fun _ => nw_of (by decide +kernel))
  rw [e] at this
  exact this
theorem isq_v {A n : Int} (h0 : 0 ≤ A) (h1 : 0 ≤ n) (h2 : n * n ≤ A) (h3 : A < (n + 1) * (n + 1)) : isq A = n := IsRoot.unique (isq_spec h0) ⟨h1, h2, h3⟩
theorem root_two (w : World) : Calls Tryz.prog 16 #[.int .i64 131072, .int .i64 1] w fun e w' => e = .returned (.tuple #[.int .i64 92681, .int .i64 0]) ∧ Below w.heap.size w w' := by
  have e : rootR 131072 1 = .ok 92681 := by
    unfold rootR rooR
    rw [show (131072 : Int) * 65536 = 8589934592 by decide, isq_v (A := 8589934592) (n := 92681) (by decide) (by decide) (by decide) (by decide)]
    kernel_rfl
  have := Root_any 131072 1 w
  rw [e] at this
  exact this
theorem root_less (w : World) : Calls Tryz.prog 16 #[.int .i64 (-1), .int .i64 1] w fun e w' => e = .returned (.tuple #[.int .i64 0, .int .i64 11]) ∧ Below w.heap.size w w' := by
  have e : rootR (-1) 1 = .error 11 := by unfold rootR; rw [if_pos (by decide), if_pos (by decide), if_pos (by decide)]
  have := Root_any (-1) 1 w
  rw [e] at this
  exact this
theorem length_five (w : World) : Calls Tryz.prog 30 #[.agg #[.int .i64 196608, .int .i64 262144], .int .i64 0] w fun e w' => e = .returned (.tuple #[.int .i64 327680, .int .i64 0]) ∧ Below w.heap.size w w' := by
  have e : lenR 196608 262144 0 = .ok 327680 := by
    unfold lenR rooR
    rw [show sq 196608 262144 = 107374182400 by decide +kernel, isq_v (A := 107374182400) (n := 327680) (by decide) (by decide) (by decide) (by decide)]
    kernel_rfl
  have := Length_any 196608 262144 0 w
  rw [e] at this
  exact this
theorem within_5 (w : World) : Calls Tryz.prog 46 #[.agg #[.int .i64 3, .int .i64 4], .int .i64 5] w fun e w' => e = .returned (.tuple #[.bool true, .int .i64 0]) ∧ Below w.heap.size w w' := by
  have e : inR 3 4 5 = .ok true := by kernel_rfl
  have := Within_any 3 4 5 w
  rw [e] at this
  exact this
theorem within_4 (w : World) : Calls Tryz.prog 46 #[.agg #[.int .i64 3, .int .i64 4], .int .i64 4] w fun e w' => e = .returned (.tuple #[.bool false, .int .i64 0]) ∧ Below w.heap.size w w' := by
  have e : inR 3 4 4 = .ok false := by kernel_rfl
  have := Within_any 3 4 4 w
  rw [e] at this
  exact this
theorem unit_zero (w : World) : Calls Tryz.prog 28 #[.agg #[.int .i64 0, .int .i64 0]] w fun e w' => e = .returned (.tuple #[.agg #[.int .i64 0, .int .i64 0], .int .i64 10]) ∧ Below w.heap.size w w' := by
  have e : unitR 0 0 = .error 10 := by unfold unitR; rw [if_pos (by decide), if_pos (by decide)]
  have := Unit_any 0 0 w
  rw [e] at this
  exact this
theorem mul_far (w : World) : Calls Tryz.prog 14 #[.int .i64 70368744177664, .int .i64 131072, .int .i64 0] w fun e w' => e = .returned (.tuple #[.int .i64 0, .int .i64 4]) ∧ Below w.heap.size w w' := by
  have e : mulR 70368744177664 131072 0 = .error 4 := by kernel_rfl
  have := Mul_any 70368744177664 131072 0 w (fun _ => nw_of (by decide +kernel))
  rw [e] at this
  exact this
theorem mul_way (w : World) : Calls Tryz.prog 14 #[.int .i64 1, .int .i64 1, .int .i64 4] w fun e w' => e = .returned (.tuple #[.int .i64 0, .int .i64 2]) ∧ Below w.heap.size w w' := by
  have e : mulR 1 1 4 = .error 2 := by unfold mulR; rw [if_neg (by decide)]
  have := Mul_any 1 1 4 w (fun h => absurd h (by decide))
  rw [e] at this
  exact this
theorem read_1 (w : World) (hM : Mem w) : Calls Tryz.prog 50 #[.string ⟨#[48, 46, 49]⟩, .int .i64 1] w fun e w' => e = .returned (.tuple #[.int .i64 6553, .int .i64 0]) ∧ Below w.heap.size w w' := by
  have e : readR [48, 46, 49] 1 = .ok 6553 := by kernel_rfl
  have := Read_any ⟨#[48, 46, 49]⟩ 1 w (by decide) hM
  rw [show (ByteArray.mk #[48, 46, 49]).data.toList = [48, 46, 49] from rfl, e] at this
  exact this
theorem read_2 (w : World) (hM : Mem w) : Calls Tryz.prog 50 #[.string ⟨#[45, 48]⟩, .int .i64 0] w fun e w' => e = .returned (.tuple #[.int .i64 0, .int .i64 0]) ∧ Below w.heap.size w w' := by
  have e : readR [45, 48] 0 = .ok 0 := by kernel_rfl
  have := Read_any ⟨#[45, 48]⟩ 0 w (by decide) hM
  rw [show (ByteArray.mk #[45, 48]).data.toList = [45, 48] from rfl, e] at this
  exact this
theorem read_3 (w : World) (hM : Mem w) : Calls Tryz.prog 50 #[.string ⟨#[46, 53]⟩, .int .i64 0] w fun e w' => e = .returned (.tuple #[.int .i64 0, .int .i64 5]) ∧ Below w.heap.size w w' := by
  have e : readR [46, 53] 0 = .error 5 := by kernel_rfl
  have := Read_any ⟨#[46, 53]⟩ 0 w (by decide) hM
  rw [show (ByteArray.mk #[46, 53]).data.toList = [46, 53] from rfl, e] at this
  exact this
theorem text_1 (w : World) (hT : Lib.TabIs Tryz.prog w "internal/strconv.uint64pow10" .u64 Lib.pow10Tab) : Calls Tryz.prog 52 #[.int .i64 (-98304)] w fun e w' => e = .returned (.string ⟨#[45, 49, 46, 53]⟩) ∧ Below w.heap.size w w' := by
  have e : textL (-98304) = [45, 49, 46, 53] := by
    unfold textL headL
    rw [show (sz (-98304)).toNat = 98304 by decide]
    rw [Lib.decDigits_one (show 98304 / 65536 < 10 by decide)]
    kernel_rfl
  have := Text_any (-98304) w hT (by decide)
  rw [e] at this
  exact this
theorem text_2 (w : World) (hT : Lib.TabIs Tryz.prog w "internal/strconv.uint64pow10" .u64 Lib.pow10Tab) : Calls Tryz.prog 52 #[.int .i64 1] w fun e w' => e = .returned (.string ⟨#[48, 46, 48, 48, 48, 48, 49, 53, 50, 53, 56, 55, 56, 57, 48, 54, 50, 53]⟩) ∧ Below w.heap.size w w' := by
  have e : textL 1 = [48, 46, 48, 48, 48, 48, 49, 53, 50, 53, 56, 55, 56, 57, 48, 54, 50, 53] := by
    unfold textL headL
    rw [show (sz 1).toNat = 1 by decide]
    rw [Lib.decDigits_one (show 1 / 65536 < 10 by decide)]
    kernel_rfl
  have := Text_any 1 w hT (by decide)
  rw [e] at this
  exact this
theorem text_3 (w : World) : Calls Tryz.prog 52 #[.int .i64 70368744177665] w fun e w' => e = .returned (.string ⟨#[]⟩) ∧ Below w.heap.size w w' := Text_no _ w (by decide)
end Go.Proofs.YthkhhjfldkebcaaGreatDoor
