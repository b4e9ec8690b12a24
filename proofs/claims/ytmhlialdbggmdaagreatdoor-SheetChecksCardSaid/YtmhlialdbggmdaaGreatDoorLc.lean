/- The walk of SheetChecks: it answers true. -/
import Derived.Test.YtmhlialdbggmdaaGreatDoorAw
namespace Go.Proofs.YtmhlialdbggmdaaGreatDoor
open Go.RowKit Go.Proofs Go.Shelf

theorem findR_form (t n : Int) (l : List St) : ∃ z e : Int, findR t n l = .tuple #[.int .i64 z, .int .i64 e] := by
  unfold findR; split <;> exact ⟨_, _, rfl⟩

set_option maxHeartbeats 1000000 in
theorem Checks_law (A : Option Addr) (len cap : Nat) (t n : Int) (w : World) (hE : ErrMem w) (hT : Tab w) (hl : len ≤ 281474976710656 → ∃ l : List St, l.length = len ∧ RowS w (.slice A len cap) l) :
    Calls Tryz.prog 6 #[.slice A len cap, .int .i64 t, .int .i64 n] w (Back (.bool true) w) := by
  have H12 : Hid (∀ W, Below w.heap.size w W → Calls Tryz.prog 12 #[] W (Back (.bool true) W)) := fun W hb => awake_any W (Lib.tabBelow_of_tabIs hT W hb) (hE.up hb)
  have B : Hid (Below w.heap.size w w) := Below.refl _ _
  clear hE hT
  by_cases h40 : 40 < len
  · have h40' : (40 : Int) < (len : Int) := by omega
    clear hl
    go_enter Tryz.func6, Tryz.ntmps6
    go_wp2_with (go_at_call 12; (with_reducible refine (H12.out _ B.out).mono ?_); rintro e w1 ⟨rfl, hb1⟩)
    go_ret
    exact ⟨rfl, hb1⟩
  · obtain ⟨l, rfl, hrow⟩ := hl (by omega)
    have h40' : ¬ (40 : Int) < (l.length : Int) := by omega
    obtain ⟨z, e, hz⟩ := findR_form t n l
    obtain ⟨i, hi⟩ : ∃ i, (pairF ovB l 0).1 = i := ⟨_, rfl⟩
    obtain ⟨k, hk⟩ : ∃ k, (pairF ovB l 0).2 = k := ⟨_, rfl⟩
    obtain ⟨b, hb⟩ : ∃ b, chkB l = b := ⟨_, rfl⟩
    have HR := Lib.hid hrow
    have H24 : Hid (∀ W, Below w.heap.size w W → Calls Tryz.prog 24 #[.slice A l.length cap] W (Back (.tuple #[.int .i64 i, .int .i64 k]) W)) := fun W hW => by rw [← hi, ← hk]; exact Overlap_any l _ W (HR.out.up hW)
    have H25 : Hid (∀ W, Below w.heap.size w W → Calls Tryz.prog 25 #[.slice A l.length cap] W (Back (.tuple #[.int .i64 i, .int .i64 k]) W)) := fun W hW => by rw [← hi, ← hk]; exact refOverlap l _ W (HR.out.up hW)
    have H26 : Hid (∀ W, Below w.heap.size w W → Calls Tryz.prog 26 #[.slice A l.length cap, .int .i64 t, .int .i64 n] W (Back (.tuple #[.int .i64 z, .int .i64 e]) W)) := fun W hW => by rw [← hz]; exact Find_any t n l _ W (HR.out.up hW)
    have H27 : Hid (∀ W, Below w.heap.size w W → Calls Tryz.prog 27 #[.slice A l.length cap, .int .i64 t, .int .i64 n] W (Back (.tuple #[.int .i64 z, .int .i64 e]) W)) := fun W hW => by rw [← hz]; exact refFind t n l _ W (HR.out.up hW)
    have H28 : Hid (∀ W, Below w.heap.size w W → Calls Tryz.prog 28 #[.slice A l.length cap] W (Back (.bool b) W)) := fun W hW => by rw [← hb]; exact Check_any l _ W (HR.out.up hW)
    have H29 : Hid (∀ W, Below w.heap.size w W → Calls Tryz.prog 29 #[.slice A l.length cap] W (Back (.bool b) W)) := fun W hW => by rw [← hb]; exact refCheck l _ W (HR.out.up hW)
    clear hl hrow hi hk hb hz h40
    go_enter Tryz.func6, Tryz.ntmps6
    go_wp2_with (first
      | (go_at_call 24; (with_reducible refine (H24.out _ B.out).mono ?_); rintro e w1 ⟨rfl, hb1⟩; replace B := Lib.hid (B.out.trans (hb1.mono B.out.size)); clear hb1)
      | (go_at_call 25; (with_reducible refine (H25.out _ B.out).mono ?_); rintro e w1 ⟨rfl, hb1⟩; replace B := Lib.hid (B.out.trans (hb1.mono B.out.size)); clear hb1)
      | (go_at_call 26; (with_reducible refine (H26.out _ B.out).mono ?_); rintro e w1 ⟨rfl, hb1⟩; replace B := Lib.hid (B.out.trans (hb1.mono B.out.size)); clear hb1)
      | (go_at_call 27; (with_reducible refine (H27.out _ B.out).mono ?_); rintro e w1 ⟨rfl, hb1⟩; replace B := Lib.hid (B.out.trans (hb1.mono B.out.size)); clear hb1)
      | (go_at_call 28; (with_reducible refine (H28.out _ B.out).mono ?_); rintro e w1 ⟨rfl, hb1⟩; replace B := Lib.hid (B.out.trans (hb1.mono B.out.size)); clear hb1)
      | (go_at_call 29; (with_reducible refine (H29.out _ B.out).mono ?_); rintro e w1 ⟨rfl, hb1⟩; replace B := Lib.hid (B.out.trans (hb1.mono B.out.size)); clear hb1)
      | (go_at_call 12; (with_reducible refine (H12.out _ B.out).mono ?_); rintro e w1 ⟨rfl, hb1⟩; replace B := Lib.hid (B.out.trans (hb1.mono B.out.size)); clear hb1))
    go_ret
    exact ⟨rfl, B.out⟩
end Go.Proofs.YtmhlialdbggmdaaGreatDoor
