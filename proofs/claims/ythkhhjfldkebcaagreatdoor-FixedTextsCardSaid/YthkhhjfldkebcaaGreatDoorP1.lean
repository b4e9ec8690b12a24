/- The contract of plain: whether all bytes are digits, and there is one. -/
import Derived.Test.YthkhhjfldkebcaaGreatDoorTrim
import Derived.Test.YthkhhjfldkebcaaGreatDoorZ3
namespace Go.Proofs.YthkhhjfldkebcaaGreatDoor
open Go.RowKit Go.Proofs Go.Shelf

/-- A digit. -/
def isDig (b : UInt8) : Bool := decide (48 ≤ b.toNat ∧ b.toNat ≤ 57)
/-- Digits, and at least one. -/
def plainB (l : List UInt8) : Bool := !l.isEmpty && l.all isDig

set_option maxRecDepth 100000 in
theorem isDig_contains (b : UInt8) : [48, 49, 50, 51, 52, 53, 54, 55, 56, 57].contains b = isDig b := by
  have h : ∀ n : Fin 256, [48, 49, 50, 51, 52, 53, 54, 55, 56, 57].contains (UInt8.ofNat n.val) = isDig (UInt8.ofNat n.val) := by decide
  have := h ⟨b.toNat, b.toNat_lt⟩
  simpa using this
theorem dropWhile_isEmpty {p : UInt8 → Bool} : ∀ l : List UInt8, (l.dropWhile p).isEmpty = l.all p
  | [] => rfl
  | b :: l => by
    simp only [List.dropWhile, List.all_cons]
    cases h : p b <;> simp [dropWhile_isEmpty l]
theorem trimS_isEmpty (l cs : List UInt8) : (Lib.trimS l cs).isEmpty = l.all (cs.contains ·) := by
  unfold Lib.trimS Lib.trimLeftS
  rw [dropWhile_isEmpty]
  unfold Lib.trimRightS
  rw [List.all_reverse]
  have h : ∀ (p : UInt8 → Bool) (l : List UInt8), (l.dropWhile p).all p = l.all p := by
    intro p l
    induction l with
    | nil => rfl
    | cons b l ih => simp only [List.dropWhile, List.all_cons]; cases h : p b <;> simp [h, ih]
  rw [h, List.all_reverse]
theorem trimS_digits (l : List UInt8) : (Lib.trimS l [48, 49, 50, 51, 52, 53, 54, 55, 56, 57]).isEmpty = l.all isDig := by
  rw [trimS_isEmpty]
  congr 1
  funext b
  exact isDig_contains b
set_option maxHeartbeats 1000000 in
theorem plain_any (s : ByteArray) (w : World) (hs : s.size ≤ 1000) :
    Calls Tryz.prog 106 #[.string s] w fun e w' => e = .returned (.bool (plainB s.data.toList)) ∧ Below w.heap.size w w' := by
  have e : s.toList = s.data.toList := by obtain ⟨⟨l⟩⟩ := s; simp
  by_cases h0 : s.toList = []
  · have hp : plainB s.data.toList = false := by rw [← e, h0]; rfl
    rw [hp]
    clear hp e
    go_enter Tryz.func106, Tryz.ntmps106
    go_wp2_with fail
    go_ret
    exact ⟨rfl, Below.refl _ _⟩
  · have hp : plainB s.data.toList = (!s.toList.isEmpty && (Lib.trimS s.data.toList [48, 49, 50, 51, 52, 53, 54, 55, 56, 57]).isEmpty) := by
      rw [e]; unfold plainB; rw [trimS_digits]
    rw [hp]
    clear hp e
    go_enter Tryz.func106, Tryz.ntmps106
    go_wp2_with (go_at_call 142; refine (Tryz.strings_Trim _ _ _ (by omega) (by decide) (ascii_of_all (by decide))).mono ?_; rintro e w1 ⟨rfl, hb⟩)
    go_ret
    exact ⟨rfl, hb⟩
end Go.Proofs.YthkhhjfldkebcaaGreatDoor
