/- Contracts of the document's small functions over lists: Ints, Same, has. -/
import Derived.Test.YtmhlialdbggmdaaGreatDoorAw
namespace Go.Proofs.YtmhlialdbggmdaaGreatDoor
open Go.RowKit Go.Proofs Go.Shelf

set_option maxHeartbeats 1000000 in
theorem Ints_eq (d : List Nat) (b1 b2 : Nat) (v u : Value) (w : World) (h1 : OwnN b1 w v d) (h2 : OwnN b2 w u d) (hd : d.length ≤ 1000) :
    Calls Tryz.prog 39 #[v, u] w fun e w' => e = .returned (.bool true) ∧ Below w.heap.size w w' := by
  obtain ⟨A1, c1, rfl, k1, m1, -, g1⟩ := h1
  obtain ⟨A2, c2, rfl, k2, m2, -, g2⟩ := h2
  have HG1 := Lib.hid g1
  have HG2 := Lib.hid g2
  clear g1 g2
  go_enter Tryz.func39, Tryz.ntmps39
  go_wp2_with fail
  go_loopw [5] (fun iv wr => ∃ k : Nat, k ≤ d.length ∧ iv = .int .i64 k ∧ Below w.heap.size w wr) (fun iv _ => d.length - (intOf iv).toNat)
  case atStart => exact ⟨0, by omega, rfl, Below.refl _ _⟩
  case round =>
    obtain ⟨k, hk, rfl, hb⟩ := hrel
    have HB := Lib.hid hb
    clear hb
    by_cases hlt : k < d.length
    · have hlt' : (k : Int) < (d.length : Int) := by omega
      obtain ⟨g, rfl, -, hc⟩ := HG1.out (by intro h; subst h; simp at hlt)
      obtain ⟨g', rfl, -, hc'⟩ := HG2.out (by intro h; subst h; simp at hlt)
      have a0 := ((hc.up HB.out) k hlt).1
      have a1 := ((hc'.up HB.out) k hlt).1
      obtain ⟨x, hx⟩ : ∃ x, d[k]'hlt = x := ⟨_, rfl⟩
      rw [hx] at a0 a1
      clear hx hc hc'
      go_wp2_with fail
      go_quiet (fail)
      go_wp2_with fail
      go_roundw
      case rel => exact ⟨k + 1, by omega, by go_num, below_drewN HB.out _⟩
      case measure => simp [intOf]; omega
    · obtain rfl : k = d.length := by omega
      go_wp2_with fail
      go_ret
      exact ⟨rfl, HB.out⟩

set_option maxHeartbeats 1000000 in
theorem has_any (d : List Nat) (i b1 : Nat) (v : Value) (w : World) (h1 : OwnN b1 w v d) (hd : d.length ≤ 1000) :
    Calls Tryz.prog 70 #[v, .int .i64 i] w fun e w' => e = .returned (.bool (decide (i ∈ d))) ∧ w = w' := by
  obtain ⟨A1, c1, rfl, k1, m1, -, g1⟩ := h1
  have HG1 := Lib.hid g1
  obtain ⟨r, hr⟩ : ∃ r, decide (i ∈ d) = r := ⟨_, rfl⟩
  have HR := Lib.hid hr
  rw [hr]
  clear g1 hr
  go_enter Tryz.func70, Tryz.ntmps70
  go_wp2_with fail
  go_loop [5] (fun iv => ∃ k : Nat, k ≤ d.length ∧ iv = .int .i64 k ∧ Hid (∀ j (hj : j < d.length), j < k → d[j]'hj ≠ i)) (fun iv => d.length - (intOf iv).toNat)
  case atStart => exact ⟨0, by omega, rfl, fun j hj h => by omega⟩
  case round =>
    obtain ⟨k, hk, rfl, hn⟩ := hrel
    have HN := Lib.hid hn.out
    clear hn
    by_cases hlt : k < d.length
    · have hlt' : (k : Int) < (d.length : Int) := by omega
      obtain ⟨g, rfl, -, hc⟩ := HG1.out (by intro h; subst h; simp at hlt)
      have a0 := (hc k hlt).1
      obtain ⟨x, hx⟩ : ∃ x, d[k]'hlt = x := ⟨_, rfl⟩
      rw [hx] at a0
      have HX := Lib.hid hx
      clear hx hc
      by_cases hxi : x = i
      · subst hxi
        obtain rfl : r = true := by rw [← HR.out]; exact decide_eq_true (by rw [← HX.out]; exact List.getElem_mem _)
        go_wp2_with fail
        go_ret
        exact ⟨rfl, rfl⟩
      · have hxe : ((x : Int) == (i : Int)) = false := by rw [beq_eq_false_iff_ne]; omega
        go_wp2_with fail
        go_round
        case rel =>
          refine ⟨k + 1, by omega, by go_num, fun j hj h => ?_⟩
          by_cases e : j = k
          · subst e; rw [HX.out]; exact hxi
          · exact HN.out j hj (by omega)
        case measure => simp [intOf]; omega
    · obtain rfl : k = d.length := by omega
      obtain rfl : r = false := by
        rw [← HR.out]; refine decide_eq_false fun hm => ?_
        obtain ⟨j, hj, he⟩ := List.getElem_of_mem hm
        exact HN.out j hj hj he
      go_wp2_with fail
      go_ret
      exact ⟨rfl, rfl⟩

set_option maxHeartbeats 1000000 in
theorem Same_eq (l : List St) (v u : Value) (w : World) (h1 : RowS w v l) (h2 : RowS w u l) :
    Calls Tryz.prog 17 #[v, u] w fun e w' => e = .returned (.bool true) ∧ Below w.heap.size w w' := by
  obtain ⟨A1, c1, rfl, k1, ⟨m1, -⟩, g1⟩ := h1
  obtain ⟨A2, c2, rfl, k2, -, g2⟩ := h2
  have HG1 := Lib.hid g1
  have HG2 := Lib.hid g2
  clear g1 g2
  go_enter Tryz.func17, Tryz.ntmps17
  go_wp2_with fail
  go_loopw [5] (fun iv wr => ∃ k : Nat, k ≤ l.length ∧ iv = .int .i64 k ∧ Below w.heap.size w wr) (fun iv _ => l.length - (intOf iv).toNat)
  case atStart => exact ⟨0, by omega, rfl, Below.refl _ _⟩
  case round =>
    obtain ⟨k, hk, rfl, hb⟩ := hrel
    have HB := Lib.hid hb
    clear hb
    by_cases hlt : k < l.length
    · have hlt' : (k : Int) < (l.length : Int) := by omega
      obtain ⟨b, o, rfl, hc⟩ := HG1.out (by intro h; subst h; simp at hlt)
      obtain ⟨b', o', rfl, hc'⟩ := HG2.out (by intro h; subst h; simp at hlt)
      have hA := (hc k hlt).up HB.out
      have hA' := (hc' k hlt).up HB.out
      obtain ⟨s, hs⟩ : ∃ s, l[k]'hlt = s := ⟨_, rfl⟩
      rw [hs] at hA hA'
      obtain ⟨a0, a1, a2, a3⟩ := hA
      obtain ⟨e0, e1, e2, e3⟩ := hA'
      obtain ⟨s1, s2, s3, s4⟩ := s
      clear hs hc hc'
      go_wp2_with fail
      go_quiet (fail)
      go_wp2_with fail
      go_roundw
      case rel => exact ⟨k + 1, by omega, by go_num, below_drewN HB.out _⟩
      case measure => simp [intOf]; omega
    · obtain rfl : k = l.length := by omega
      go_wp2_with fail
      go_ret
      exact ⟨rfl, HB.out⟩
end Go.Proofs.YtmhlialdbggmdaaGreatDoor
