/- The walk of FixedBack. -/
import Derived.Test.YthkhhjfldkebcaaGreatDoorBp
import Derived.Test.YthkhhjfldkebcaaGreatDoorFr
namespace Go.Proofs.YthkhhjfldkebcaaGreatDoor
open Go.ChangeShapes Go.WideShapes Go.ChangeAt Go.RowKit Go.Proofs Go.Shelf

theorem tab_of {W : World} (hL : laidMetH Tryz.prog laid7 W) : Lib.TabIs Tryz.prog W "internal/strconv.uint64pow10" .u64 Lib.pow10Tab := by
  rw [MakeChecks.laidMetH_plain _ _ _ (by kernel_rfl)] at hL
  exact Lib.tabIs_of_head (g := 5) (t := 203) (e := 29) (n := 20) (by kernel_rfl) (by kernel_rfl) Tryz.underlying203 Tryz.underlying29 (by kernel_rfl) (by kernel_rfl) hL.tail.tail

set_option maxHeartbeats 1000000 in
theorem Text_no (a : Int) (w : World) (hv : ¬ Val a) : Calls Tryz.prog 52 #[.int .i64 a] w fun e w' => e = .returned (.string ⟨#[]⟩) ∧ Below w.heap.size w w' := by
  have C1 : Hid (∀ w, Calls Tryz.prog 25 #[.int .i64 a] w fun e w' => e = .returned (.int .i64 2) ∧ Below w.heap.size w w') := fun w => by
    have := Check_any a w; unfold checkR at this; rw [if_neg hv] at this; exact this
  clear hv
  go_enter Tryz.func52, Tryz.ntmps52
  go_wp2_with (go_at_call 25; refine (C1.out _).mono ?_; rintro e w1 ⟨rfl, hb1⟩)
  go_ret
  exact ⟨rfl, hb1⟩

set_option maxRecDepth 100000 in
set_option maxHeartbeats 2000000 in
theorem Back_any (a how : Int) (w : World) (hM : Mem w) (hT : Lib.TabIs Tryz.prog w "internal/strconv.uint64pow10" .u64 Lib.pow10Tab) (h0 : 0 ≤ how) (h1 : how ≤ 255) :
    Calls Tryz.prog 11 #[.int .i64 a, .int .u8 how] w fun e w' => e = .returned (.bool true) ∧ Below w.heap.size w w' := by
  have HM := Lib.hid hM
  have HT := Lib.hid (Lib.tabBelow_of_tabIs hT)
  by_cases hv : Val a
  · obtain ⟨s, hs⟩ : ∃ s : ByteArray, (⟨(textL a).toArray⟩ : ByteArray) = s := ⟨_, rfl⟩
    obtain ⟨k, hk⟩ : ∃ k, how % 4 = k := ⟨_, rfl⟩
    have hw : IntKind.i64.wrap how = how := IntWalk.i64_in _ (by omega)
    have hh : HowOk k := by unfold HowOk; omega
    have hl := text_len hv
    have hsl : s.data.toList = textL a := by rw [← hs]
    have hsz : s.size = (textL a).length := by rw [← hs]; rfl
    have hsz2 : (s.size : Int) ≤ 60 := by omega
    have C1 : Hid (∀ w, Calls Tryz.prog 25 #[.int .i64 a] w fun e w' => e = .returned (.int .i64 0) ∧ Below w.heap.size w w') := fun w => by
      have := Check_any a w; unfold checkR at this; rw [if_pos hv] at this; exact this
    have C2 : Hid (∀ w', Below w.heap.size w w' → Calls Tryz.prog 52 #[.int .i64 a] w' fun e w'' => e = .returned (.string s) ∧ Below w'.heap.size w' w'') := fun w' hb => by
      rw [← hs]; exact Text_any a w' (HT.out _ hb) hv
    have C3 : Hid (∀ w, Mem w → Calls Tryz.prog 50 #[.string s, .int .i64 k] w fun e w' => e = .returned (.tuple #[.int .i64 a, .int .i64 0]) ∧ Below w.heap.size w w') := fun w hm => by
      have := Read_any s k w (by omega) hm; rw [hsl, read_back hv hh] at this; exact this
    clear hs hsl hsz hl hh hv hM hT
    go_enter Tryz.func11, Tryz.ntmps11
    go_wp2_with (first
      | (go_at_call 13; refine (alive_any _ HM.out).mono ?_; rintro e w1 ⟨rfl, hb1⟩)
      | (go_at_call 52; refine (C2.out _ hb1).mono ?_; rintro e w2 ⟨rfl, hb2⟩; have hB2 := hb1.trans (hb2.mono hb1.size))
      | (go_at_call 25; refine (C1.out _).mono ?_; rintro e w3 ⟨rfl, hb3⟩; have hB3 := hB2.trans (hb3.mono hB2.size))
      | (go_at_call 50; refine (C3.out _ (HM.out.up hB3)).mono ?_; rintro e w4 ⟨rfl, hb4⟩; have hB4 := hB3.trans (hb4.mono hB3.size)))
    go_ret
    exact ⟨rfl, hB4⟩
  · have C1 : Hid (∀ w, Calls Tryz.prog 25 #[.int .i64 a] w fun e w' => e = .returned (.int .i64 2) ∧ Below w.heap.size w w') := fun w => by
      have := Check_any a w; unfold checkR at this; rw [if_neg hv] at this; exact this
    have C2 : Hid (∀ w, Calls Tryz.prog 52 #[.int .i64 a] w fun e w' => e = .returned (.string ⟨#[]⟩) ∧ Below w.heap.size w w') := fun w => Text_no a w hv
    clear hv hM hT
    go_enter Tryz.func11, Tryz.ntmps11
    go_wp2_with (first
      | (go_at_call 13; refine (alive_any _ HM.out).mono ?_; rintro e w1 ⟨rfl, hb1⟩)
      | (go_at_call 52; refine (C2.out _).mono ?_; rintro e w2 ⟨rfl, hb2⟩; have hB2 := hb1.trans (hb2.mono hb1.size))
      | (go_at_call 25; refine (C1.out _).mono ?_; rintro e w3 ⟨rfl, hb3⟩; have hB3 := hB2.trans (hb3.mono hB2.size)))
    go_ret
    exact ⟨rfl, hB3⟩
end Go.Proofs.YthkhhjfldkebcaaGreatDoor
