/- The walk of SheetCounts: it answers true. -/
import Derived.Test.YtmhlialdbggmdaaGreatDoorCn
import Derived.Test.YtmhlialdbggmdaaGreatDoorRm
namespace Go.Proofs.YtmhlialdbggmdaaGreatDoor
open Go.RowKit Go.Proofs Go.Shelf

theorem count_ref (l : List St) (v : Value) (w : World) (hrow : RowS w v l) (hc : chkB l = true) : Calls Tryz.prog 30 #[v] w (Back (cntV (refT l)) w) := by
  refine (Count_any l v w hrow).mono ?_
  rintro e w' ⟨h, hb⟩
  rcases h with ⟨h, -⟩ | ⟨-, d, hd, he⟩
  · rw [hc] at h; cases h
  · rw [cnt_ref hd (fun i hi => ?_)] at he
    · exact ⟨he, hb⟩
    · have hm := hd.1.mem_iff.1 hi
      have hil := hIdx_lt hm
      have := ((chk_facts hc).2 i hil).1.1
      unfold teamAt; rw [List.getElem?_eq_getElem hil]
      simp only; omega
theorem OwnN.nil (b : Nat) (w : World) : OwnN b w (.slice none 0 0) [] := ⟨none, 0, rfl, Nat.le_refl _, Nat.zero_le _, fun _ => rfl, fun h => absurd rfl h⟩
theorem RowS.nil (w : World) : RowS w (.slice none 0 0) [] := ⟨none, 0, rfl, Nat.le_refl _, ⟨Nat.zero_le _, Nat.zero_le _⟩, fun h => absurd rfl h⟩

set_option maxRecDepth 100000 in
set_option maxHeartbeats 4000000 in
theorem Counts_law (A : Option Addr) (len cap : Nat) (w : World) (hE : ErrMem w) (hT : Tab w) (hl : len ≤ 281474976710656 → ∃ l : List St, l.length = len ∧ RowS w (.slice A len cap) l) :
    Calls Tryz.prog 8 #[.slice A len cap] w (Back (.bool true) w) := by
  have H12 : Hid (∀ W, Below w.heap.size w W → Calls Tryz.prog 12 #[] W (Back (.bool true) W)) := fun W hb => awake_any W (Lib.tabBelow_of_tabIs hT W hb) (hE.up hb)
  have B : Hid (Below w.heap.size w w) := Below.refl _ _
  clear hE hT
  by_cases h40 : 40 < len
  · have h40' : (40 : Int) < (len : Int) := by omega
    clear hl
    go_enter Tryz.func8, Tryz.ntmps8
    go_wp2_with (go_at_call 12; (with_reducible refine (H12.out _ B.out).mono ?_); rintro e w1 ⟨rfl, hb1⟩)
    go_ret
    exact ⟨rfl, hb1⟩
  · obtain ⟨l, rfl, hrow⟩ := hl (by omega)
    have h40' : ¬ (40 : Int) < (l.length : Int) := by omega
    have HR := Lib.hid hrow
    clear hl hrow h40
    cases hc : chkB l with
    | false =>
      have H35 : Hid (∀ W, Below w.heap.size w W → Calls Tryz.prog 35 #[.slice A l.length cap] W (Back (.tuple #[.slice none 0 0, .int .i64 2]) W)) := fun W hW => by
        refine (Nearest_any l _ W (HR.out.up hW)).mono ?_
        rintro e w' ⟨⟨-, he⟩ | ⟨h, -⟩, hb⟩
        · exact ⟨he, hb⟩
        · rw [hc] at h; cases h
      have H36 : Hid (∀ W, Below w.heap.size w W → Calls Tryz.prog 36 #[.slice A l.length cap] W (Back (.tuple #[.slice none 0 0, .int .i64 2]) W)) := fun W hW => by
        refine (refNearest l _ W (HR.out.up hW) [] (fun h => by rw [hc] at h; cases h)).mono ?_
        rintro e w' ⟨⟨-, he⟩ | ⟨h, -⟩, hb⟩
        · exact ⟨he, hb⟩
        · rw [hc] at h; cases h
      have H30 : Hid (∀ W, Below w.heap.size w W → Calls Tryz.prog 30 #[.slice A l.length cap] W (Back (.tuple #[.int .i64 0, .int .i64 0, .int .i64 2]) W)) := fun W hW => by
        refine (Count_any l _ W (HR.out.up hW)).mono ?_
        rintro e w' ⟨⟨-, he⟩ | ⟨h, -⟩, hb⟩
        · exact ⟨he, hb⟩
        · rw [hc] at h; cases h
      have H37 : Hid (∀ W, Below w.heap.size w W → Calls Tryz.prog 37 #[.slice A l.length cap] W (Back (.tuple #[.int .i64 0, .int .i64 0, .int .i64 2]) W)) := fun W hW => by
        refine (refCount l _ W (HR.out.up hW)).mono ?_
        rintro e w' ⟨⟨-, he⟩ | ⟨h, -⟩, hb⟩
        · exact ⟨he, hb⟩
        · rw [hc] at h; cases h
      have H31 : Hid (∀ W, Below w.heap.size w W → Calls Tryz.prog 31 #[.slice A l.length cap] W (Back (.tuple #[.slice none 0 0, .int .i64 2]) W)) := fun W hW => by
        refine (Mirror_any l _ W (HR.out.up hW)).mono ?_
        rintro e w' ⟨⟨-, he⟩ | ⟨h, -⟩, hb⟩
        · exact ⟨he, hb⟩
        · rw [hc] at h; cases h
      have H38 : Hid (∀ W, Below w.heap.size w W → Calls Tryz.prog 38 #[.slice A l.length cap] W (Back (.tuple #[.slice none 0 0, .int .i64 2]) W)) := fun W hW => by
        refine (refMirror l _ W (HR.out.up hW)).mono ?_
        rintro e w' ⟨⟨-, he⟩ | ⟨h, -⟩, hb⟩
        · exact ⟨he, hb⟩
        · rw [hc] at h; cases h
      have H39 : Hid (∀ W, Calls Tryz.prog 39 #[.slice none 0 0, .slice none 0 0] W (Back (.bool true) W)) := fun W => Ints_eq [] 0 0 _ _ W (OwnN.nil 0 W) (OwnN.nil 0 W) (by simp)
      have H17 : Hid (∀ W, Calls Tryz.prog 17 #[.slice none 0 0, .slice none 0 0] W (Back (.bool true) W)) := fun W => Same_eq [] _ _ W (RowS.nil W) (RowS.nil W)
      clear hc
      go_enter Tryz.func8, Tryz.ntmps8
      go_wp2_with (first
        | (go_at_call 35; (with_reducible refine (H35.out _ B.out).mono ?_); rintro e w1 ⟨rfl, hb1⟩; replace B := Lib.hid (B.out.trans (hb1.mono B.out.size)); clear hb1)
        | (go_at_call 36; (with_reducible refine (H36.out _ B.out).mono ?_); rintro e w1 ⟨rfl, hb1⟩; replace B := Lib.hid (B.out.trans (hb1.mono B.out.size)); clear hb1)
        | (go_at_call 30; (with_reducible refine (H30.out _ B.out).mono ?_); rintro e w1 ⟨rfl, hb1⟩; replace B := Lib.hid (B.out.trans (hb1.mono B.out.size)); clear hb1)
        | (go_at_call 37; (with_reducible refine (H37.out _ B.out).mono ?_); rintro e w1 ⟨rfl, hb1⟩; replace B := Lib.hid (B.out.trans (hb1.mono B.out.size)); clear hb1)
        | (go_at_call 31; (with_reducible refine (H31.out _ B.out).mono ?_); rintro e w1 ⟨rfl, hb1⟩; replace B := Lib.hid (B.out.trans (hb1.mono B.out.size)); clear hb1)
        | (go_at_call 38; (with_reducible refine (H38.out _ B.out).mono ?_); rintro e w1 ⟨rfl, hb1⟩; replace B := Lib.hid (B.out.trans (hb1.mono B.out.size)); clear hb1)
        | (go_at_call 39; (with_reducible refine (H39.out _).mono ?_); rintro e w1 ⟨rfl, hb1⟩; replace B := Lib.hid (B.out.trans (hb1.mono B.out.size)); clear hb1)
        | (go_at_call 17; (with_reducible refine (H17.out _).mono ?_); rintro e w1 ⟨rfl, hb1⟩; replace B := Lib.hid (B.out.trans (hb1.mono B.out.size)); clear hb1)
        | (go_at_call 12; (with_reducible refine (H12.out _ B.out).mono ?_); rintro e w1 ⟨rfl, hb1⟩; replace B := Lib.hid (B.out.trans (hb1.mono B.out.size)); clear hb1))
      go_ret
      exact ⟨rfl, B.out⟩
    | true =>
      obtain ⟨t, ht⟩ : ∃ t, (refT l).1 = t := ⟨_, rfl⟩
      obtain ⟨p, hp⟩ : ∃ p, (refT l).2 = p := ⟨_, rfl⟩
      have hl16 : l.length ≤ 16 := (chk_facts hc).1
      have H35 : Hid (∀ W, Below w.heap.size w W → Calls Tryz.prog 35 #[.slice A l.length cap] W fun e w' => (∃ A2 c2 d, e = .returned (.tuple #[.slice A2 d.length c2, .int .i64 0]) ∧ Hid (IsNear l d) ∧ Hid (OwnN W.heap.size w' (.slice A2 d.length c2) d)) ∧ Below W.heap.size W w') := fun W hW => by
        refine (Nearest_any l _ W (HR.out.up hW)).mono ?_
        rintro e w' ⟨⟨h, -⟩ | ⟨-, u, d, he, hn, ho⟩, hb⟩
        · rw [hc] at h; cases h
        · obtain ⟨A2, c2, rfl⟩ := ho.form
          exact ⟨⟨A2, c2, d, he, hn, ho⟩, hb⟩
      have H36 : Hid (∀ W d, Below w.heap.size w W → IsNear l d → Calls Tryz.prog 36 #[.slice A l.length cap] W fun e w' => (∃ A2 c2, e = .returned (.tuple #[.slice A2 d.length c2, .int .i64 0]) ∧ Hid (OwnN W.heap.size w' (.slice A2 d.length c2) d)) ∧ Below W.heap.size W w') := fun W d hW hn => by
        refine (refNearest l _ W (HR.out.up hW) d (fun _ => hn)).mono ?_
        rintro e w' ⟨⟨h, -⟩ | ⟨-, u, he, ho⟩, hb⟩
        · rw [hc] at h; cases h
        · obtain ⟨A2, c2, rfl⟩ := ho.form
          exact ⟨⟨A2, c2, he, ho⟩, hb⟩
      have H30 : Hid (∀ W, Below w.heap.size w W → Calls Tryz.prog 30 #[.slice A l.length cap] W (Back (.tuple #[.int .i64 t, .int .i64 p, .int .i64 0]) W)) := fun W hW => by rw [← ht, ← hp]; exact count_ref l _ W (HR.out.up hW) hc
      have H37 : Hid (∀ W, Below w.heap.size w W → Calls Tryz.prog 37 #[.slice A l.length cap] W (Back (.tuple #[.int .i64 t, .int .i64 p, .int .i64 0]) W)) := fun W hW => by
        rw [← ht, ← hp]
        refine (refCount l _ W (HR.out.up hW)).mono ?_
        rintro e w' ⟨⟨h, -⟩ | ⟨-, he⟩, hb⟩
        · rw [hc] at h; cases h
        · exact ⟨he, hb⟩
      have hml : (l.map mirS).length = l.length := by simp
      have H31 : Hid (∀ W, Below w.heap.size w W → Calls Tryz.prog 31 #[.slice A l.length cap] W fun e w' => (∃ A2 c2, e = .returned (.tuple #[.slice A2 l.length c2, .int .i64 0]) ∧ Hid (RowS w' (.slice A2 l.length c2) (l.map mirS))) ∧ Below W.heap.size W w') := fun W hW => by
        refine (Mirror_any l _ W (HR.out.up hW)).mono ?_
        rintro e w' ⟨⟨h, -⟩ | ⟨-, u, he, ho⟩, hb⟩
        · rw [hc] at h; cases h
        · have hR := RowS.of_own ho (by rw [hml]; omega)
          obtain ⟨A2, c2, hu⟩ := hR.form
          rw [hml] at hu
          subst hu
          exact ⟨⟨A2, c2, he, hR⟩, hb⟩
      have H38 : Hid (∀ W, Below w.heap.size w W → Calls Tryz.prog 38 #[.slice A l.length cap] W fun e w' => (∃ A2 c2, e = .returned (.tuple #[.slice A2 l.length c2, .int .i64 0]) ∧ Hid (RowS w' (.slice A2 l.length c2) (l.map mirS))) ∧ Below W.heap.size W w') := fun W hW => by
        refine (refMirror l _ W (HR.out.up hW)).mono ?_
        rintro e w' ⟨⟨h, -⟩ | ⟨-, u, he, ho⟩, hb⟩
        · rw [hc] at h; cases h
        · have hR := RowS.of_own ho (by rw [hml]; omega)
          obtain ⟨A2, c2, hu⟩ := hR.form
          rw [hml] at hu
          subst hu
          exact ⟨⟨A2, c2, he, hR⟩, hb⟩
      have hdl : Hid (∀ d, IsNear l d → d.length ≤ 1000) := fun d hd => by
        rw [hd.1.length_eq]; unfold hIdx; rw [List.length_map]
        have := hsK_len l l.length; omega
      clear hc ht hp hl16 hml
      go_enter Tryz.func8, Tryz.ntmps8
      go_wp2_with (first
        | (go_at_call 35; (with_reducible refine (H35.out _ B.out).mono ?_); rintro e w1 ⟨⟨A2, c2, d, rfl, hn, ho⟩, hb1⟩; have HN := hn; have HO := ho; clear hn ho; replace B := Lib.hid (B.out.trans (hb1.mono B.out.size)); clear hb1)
        | (go_at_call 36; (with_reducible refine (H36.out _ d B.out HN.out).mono ?_); rintro e w2 ⟨⟨A3, c3, rfl, ho⟩, hb1⟩; have HO2 := ho; clear ho; replace HO := Lib.hid (HO.out.up hb1); replace B := Lib.hid (B.out.trans (hb1.mono B.out.size)); clear hb1)
        | (go_at_call 30; (with_reducible refine (H30.out _ B.out).mono ?_); rintro e w3 ⟨rfl, hb1⟩; replace HO := Lib.hid (HO.out.up hb1); replace HO2 := Lib.hid (HO2.out.up hb1); replace B := Lib.hid (B.out.trans (hb1.mono B.out.size)); clear hb1)
        | (go_at_call 37; (with_reducible refine (H37.out _ B.out).mono ?_); rintro e w4 ⟨rfl, hb1⟩; replace HO := Lib.hid (HO.out.up hb1); replace HO2 := Lib.hid (HO2.out.up hb1); replace B := Lib.hid (B.out.trans (hb1.mono B.out.size)); clear hb1)
        | (go_at_call 31; (with_reducible refine (H31.out _ B.out).mono ?_); rintro e w5 ⟨⟨A4, c4, rfl, ho⟩, hb1⟩; have HM := ho; clear ho; replace HO := Lib.hid (HO.out.up hb1); replace HO2 := Lib.hid (HO2.out.up hb1); replace B := Lib.hid (B.out.trans (hb1.mono B.out.size)); clear hb1)
        | (go_at_call 38; (with_reducible refine (H38.out _ B.out).mono ?_); rintro e w6 ⟨⟨A5, c5, rfl, ho⟩, hb1⟩; have HM2 := ho; clear ho; replace HM := Lib.hid (HM.out.up hb1); replace HO := Lib.hid (HO.out.up hb1); replace HO2 := Lib.hid (HO2.out.up hb1); replace B := Lib.hid (B.out.trans (hb1.mono B.out.size)); clear hb1)
        | (go_at_call 39; (with_reducible refine (Ints_eq d _ _ _ _ _ HO.out HO2.out (hdl.out d HN.out)).mono ?_); rintro e w7 ⟨rfl, hb1⟩; replace HM := Lib.hid (HM.out.up hb1); replace HM2 := Lib.hid (HM2.out.up hb1); replace B := Lib.hid (B.out.trans (hb1.mono B.out.size)); clear hb1)
        | (go_at_call 17; (with_reducible refine (Same_eq (l.map mirS) _ _ _ HM.out HM2.out).mono ?_); rintro e w8 ⟨rfl, hb1⟩; replace B := Lib.hid (B.out.trans (hb1.mono B.out.size)); clear hb1)
        | (go_at_call 12; (with_reducible refine (H12.out _ B.out).mono ?_); rintro e w9 ⟨rfl, hb1⟩; replace B := Lib.hid (B.out.trans (hb1.mono B.out.size)); clear hb1))
      go_ret
      exact ⟨rfl, B.out⟩
end Go.Proofs.YtmhlialdbggmdaaGreatDoor
