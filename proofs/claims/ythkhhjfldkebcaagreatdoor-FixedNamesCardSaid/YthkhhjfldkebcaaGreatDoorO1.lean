/- Contract: four (a result by each way of rounding). -/
import Derived.Test.YthkhhjfldkebcaaGreatDoorJ1
namespace Go.Proofs.YthkhhjfldkebcaaGreatDoor
open Go.RowKit Go.Proofs Go.Shelf

/-- What is kept behind k calls. -/
def gV (V : Int → Int) (k j : Nat) : Int := if j < k then V j else 0
theorem gV_zero (V : Int → Int) (j : Nat) : gV V 0 j = 0 := by simp [gV]
/-- Four cells of a block that is not frozen. -/
def Four (w : World) (b : Nat) (V : Int → Int) (k : Nat) : Prop := ∀ j, j < 4 → w.cell? ⟨b, j, none⟩ = some (.int .i64 (gV V k j)) ∧ w.frozen? ⟨b, j, none⟩ = false
theorem Four.new (w : World) (V : Int → Int) (t : TypeId) : Four (w.alloc (.cells #[.int .i64 0, .int .i64 0, .int .i64 0, .int .i64 0] t)) w.heap.size V 0 := by
  intro j hj
  rw [gV_zero]
  have : j = 0 ∨ j = 1 ∨ j = 2 ∨ j = 3 := by omega
  rcases this with rfl | rfl | rfl | rfl <;> exact ⟨by simp [go_sem], by simp [go_sem]⟩
theorem Four.up {w w' : World} {b k : Nat} {V : Int → Int} (h : Four w b V k) (hb : Below w.heap.size w w') : Four w' b V k := fun j hj =>
  ⟨upc (h j hj).1 hb, by rw [hb.frozen (p := ⟨b, j, none⟩) (lt_cell (h j hj).1)]; exact (h j hj).2⟩
theorem Four.set {w : World} {b k : Nat} {V : Int → Int} (h : Four w b V k) (hk : k < 4) : Four (w.setCell ⟨b, k, none⟩ (.int .i64 (V k))) b V (k + 1) := by
  intro j hj
  refine ⟨?_, (World.frozen?_setCell _ _ _ _).trans (h j hj).2⟩
  by_cases hjk : j = k
  · subst hjk
    rw [World.cell?_setCell_same _ _ _ (h j hj).1]
    simp [gV]
  · rw [World.cell?_setCell_other _ _ _ _ (by first | (simp; done) | (simp; omega)), (h j hj).1]
    have : gV V k j = gV V (k + 1) j := by
      unfold gV
      by_cases h1 : j < k
      · rw [if_pos h1, if_pos (by omega)]
      · rw [if_neg h1, if_neg (by omega)]
    rw [this]
theorem Four.far {w : World} {b k : Nat} {V : Int → Int} (h : Four w b V k) (p : Addr) (hp : b ≠ p.block) (u : Value) : Four (w.setCell p u) b V k := fun j hj =>
  ⟨(World.cell?_setCell_other _ _ _ _ (by rintro rfl; exact hp rfl)).trans (h j hj).1, (World.frozen?_setCell _ _ _ _).trans (h j hj).2⟩
theorem set4 {w : World} {b : Nat} {x0 x1 x2 x3 : Value} (h0 : w.cell? ⟨b, 0, none⟩ = some x0) (h1 : w.cell? ⟨b, 1, none⟩ = some x1) (h2 : w.cell? ⟨b, 2, none⟩ = some x2) (h3 : w.cell? ⟨b, 3, none⟩ = some x3) (u0 u1 u2 u3 : Value) :
    ((((w.setCell ⟨b, 0, none⟩ u0).setCell ⟨b, 1, none⟩ u1).setCell ⟨b, 2, none⟩ u2).setCell ⟨b, 3, none⟩ u3).cell? ⟨b, 0, none⟩ = some u0 ∧
    ((((w.setCell ⟨b, 0, none⟩ u0).setCell ⟨b, 1, none⟩ u1).setCell ⟨b, 2, none⟩ u2).setCell ⟨b, 3, none⟩ u3).cell? ⟨b, 1, none⟩ = some u1 ∧
    ((((w.setCell ⟨b, 0, none⟩ u0).setCell ⟨b, 1, none⟩ u1).setCell ⟨b, 2, none⟩ u2).setCell ⟨b, 3, none⟩ u3).cell? ⟨b, 2, none⟩ = some u2 ∧
    ((((w.setCell ⟨b, 0, none⟩ u0).setCell ⟨b, 1, none⟩ u1).setCell ⟨b, 2, none⟩ u2).setCell ⟨b, 3, none⟩ u3).cell? ⟨b, 3, none⟩ = some u3 := by
  have o : ∀ (w : World) (i j : Nat) (v : Value), i ≠ j → (w.setCell ⟨b, j, none⟩ v).cell? ⟨b, i, none⟩ = w.cell? ⟨b, i, none⟩ := fun w i j v h => World.cell?_setCell_other _ _ _ _ (by first | (simp; done) | (simp; omega))
  refine ⟨?_, ?_, ?_, ?_⟩
  · rw [o _ _ _ _ (by decide), o _ _ _ _ (by decide), o _ _ _ _ (by decide)]; exact World.cell?_setCell_same _ _ _ h0
  · rw [o _ _ _ _ (by decide), o _ _ _ _ (by decide)]; exact World.cell?_setCell_same _ _ _ (by rw [o _ _ _ _ (by decide)]; exact h1)
  · rw [o _ _ _ _ (by decide)]; exact World.cell?_setCell_same _ _ _ (by rw [o _ _ _ _ (by decide), o _ _ _ _ (by decide)]; exact h2)
  · exact World.cell?_setCell_same _ _ _ (by rw [o _ _ _ _ (by decide), o _ _ _ _ (by decide), o _ _ _ _ (by decide)]; exact h3)

set_option maxRecDepth 100000 in
set_option maxHeartbeats 2000000 in
theorem four_gen (f : FuncId) (caps : Array Value) (V E : Int → Int) (N : Nat) (w : World) (hf : ∀ args w, (callFunc f args).run Tryz.prog w = .ok (.enter f args) w)
    (hcl : ∀ k : Nat, k < 4 → (∀ j : Nat, j < k → E j = 0) → ∀ W, Below w.heap.size w W → Calls Tryz.prog f (#[.int .i64 k] ++ caps) W fun e w' => e = .returned (.tuple #[.int .i64 (V k), .int .i64 (E k)]) ∧ Below W.heap.size W w')
    (hN : N ≤ 4) (hE : ∀ j : Nat, j < N → E j = 0) (hS : N < 4 → E N ≠ 0) :
    Calls Tryz.prog 35 #[.func (.func f) #[] caps] w fun e w' => e = .returned (.tuple #[.agg #[.int .i64 (gV V N 0), .int .i64 (gV V N 1), .int .i64 (gV V N 2), .int .i64 (gV V N 3)], .bool (decide (N = 4))]) ∧ Below w.heap.size w w' := by
  have HC := Lib.hid hcl
  have HE := Lib.hid hE
  have HS := Lib.hid hS
  have HN := Lib.hid hN
  clear hcl hE hS
  obtain ⟨V0, hV0⟩ : ∃ v, gV V N 0 = v := ⟨_, rfl⟩
  obtain ⟨V1, hV1⟩ : ∃ v, gV V N 1 = v := ⟨_, rfl⟩
  obtain ⟨V2, hV2⟩ : ∃ v, gV V N 2 = v := ⟨_, rfl⟩
  obtain ⟨V3, hV3⟩ : ∃ v, gV V N 3 = v := ⟨_, rfl⟩
  have H0 := Lib.hid hV0; have H1 := Lib.hid hV1; have H2 := Lib.hid hV2; have H3 := Lib.hid hV3
  rw [hV0, hV1, hV2, hV3]
  clear hV0 hV1 hV2 hV3
  go_enter Tryz.func35, Tryz.ntmps35
  go_wp2_with fail
  go_loopw [8] (fun i wr => ∃ k : Nat, k ≤ N ∧ i = .int .i64 k ∧ Four wr (w.heap.size + 1) V k ∧ Four wr w.heap.size V 0 ∧ Below w.heap.size w wr) (fun i _ => 4 - (intOf i).toNat)
  case atStart =>
    refine ⟨0, Nat.zero_le _, rfl, ?_, ?_, ((Below.refl _ _).alloc (Nat.le_refl _) _).alloc (by simp) _⟩
    · have := Four.new (w.alloc (.cells #[.int .i64 0, .int .i64 0, .int .i64 0, .int .i64 0] 53)) V 53
      simpa using this
    · exact (Four.new w V 53).up ((Below.refl _ _).alloc (Nat.le_refl _) _)
  case round =>
    obtain ⟨k, hk, rfl, hF, hG, hb⟩ := hrel
    have hN4 := HN.out
    have HF := Lib.hid hF
    have HG := Lib.hid hG
    have HB := Lib.hid hb
    clear hF hG
    by_cases hlt : k < N
    · have hk4 : (k : Int) < 4 := by omega
      have e0 : (E k != 0) = false := by simp [HE.out k hlt]
      go_wp2_with fail
      refine (HC.out k (by omega) (fun j hj => HE.out j (by omega)) _ HB.out).mono ?_
      rintro e w1 ⟨rfl, hb1⟩
      have HF1 := Lib.hid (HF.out.up hb1)
      have HG1 := Lib.hid (HG.out.up hb1)
      have HB1 := Lib.hid (HB.out.trans (hb1.mono HB.out.size))
      obtain ⟨ck, fk⟩ := HF1.out k (by omega)
      clear hb hb1
      go_wp2_with fail
      go_roundw
      case rel => exact ⟨k + 1, by omega, by go_num, HF1.out.set (by omega), HG1.out.far _ (by simp) _, HB1.out.setCell (p := ⟨w.heap.size + 1, k, none⟩) (by simp) _⟩
      case measure => simp [intOf]; omega
    · obtain rfl : k = N := by omega
      obtain ⟨c0, f0⟩ := HF.out 0 (by omega)
      obtain ⟨c1, f1⟩ := HF.out 1 (by omega)
      obtain ⟨c2, f2⟩ := HF.out 2 (by omega)
      obtain ⟨c3, f3⟩ := HF.out 3 (by omega)
      obtain ⟨z0, y0⟩ := HG.out 0 (by omega)
      obtain ⟨z1, y1⟩ := HG.out 1 (by omega)
      obtain ⟨z2, y2⟩ := HG.out 2 (by omega)
      obtain ⟨z3, y3⟩ := HG.out 3 (by omega)
      rw [gV_zero] at z0 z1 z2 z3
      rw [H0.out] at c0
      rw [H1.out] at c1
      rw [H2.out] at c2
      rw [H3.out] at c3
      by_cases h4 : k = 4
      · subst h4
        clear hlt hk hb
        go_wp2_with fail
        obtain ⟨t0, t1, t2, t3⟩ := set4 z0 z1 z2 z3 (.int .i64 V0) (.int .i64 V1) (.int .i64 V2) (.int .i64 V3)
        refine bodyPost_ret (v := .tuple #[.agg #[.int .i64 V0, .int .i64 V1, .int .i64 V2, .int .i64 V3], .bool true]) (by simp [results, Tryz.results35, go_sem, t0, t1, t2, t3]) rfl ⟨by simp, ?_⟩
        exact (((HB.out.setCell (p := ⟨w.heap.size, 0, none⟩) (Nat.le_refl _) _).setCell (p := ⟨w.heap.size, 1, none⟩) (Nat.le_refl _) _).setCell (p := ⟨w.heap.size, 2, none⟩) (Nat.le_refl _) _).setCell (p := ⟨w.heap.size, 3, none⟩) (Nat.le_refl _) _
      · have hk4 : (k : Int) < 4 := by omega
        have e0 : (E k != 0) = true := by simpa using HS.out (by omega)
        have hb4 : decide (k = 4) = false := by simpa using h4
        clear hlt hk h4
        go_wp2_with fail
        refine (HC.out k (by omega) (fun j hj => HE.out j (by omega)) _ HB.out).mono ?_
        rintro e w1 ⟨rfl, hb1⟩
        have HB1 := Lib.hid (HB.out.trans (hb1.mono HB.out.size))
        have fr : ∀ j, (w1.frozen? ⟨w.heap.size, j, none⟩ = wr.frozen? ⟨w.heap.size, j, none⟩) := fun j => hb1.frozen (p := ⟨w.heap.size, j, none⟩) (lt_cell z0)
        have c0' := upc c0 hb1; have c1' := upc c1 hb1; have c2' := upc c2 hb1; have c3' := upc c3 hb1
        have z0' := upc z0 hb1; have z1' := upc z1 hb1; have z2' := upc z2 hb1; have z3' := upc z3 hb1
        have y0' := (fr 0).trans y0; have y1' := (fr 1).trans y1; have y2' := (fr 2).trans y2; have y3' := (fr 3).trans y3
        clear fr c0 c1 c2 c3 z0 z1 z2 z3 y0 y1 y2 y3 f0 f1 f2 f3 hb hb1
        go_wp2_with fail
        obtain ⟨t0, t1, t2, t3⟩ := set4 z0' z1' z2' z3' (.int .i64 V0) (.int .i64 V1) (.int .i64 V2) (.int .i64 V3)
        refine bodyPost_ret (v := .tuple #[.agg #[.int .i64 V0, .int .i64 V1, .int .i64 V2, .int .i64 V3], .bool false]) (by simp [results, Tryz.results35, go_sem, t0, t1, t2, t3]) rfl ⟨by simp [hb4], ?_⟩
        exact (((HB1.out.setCell (p := ⟨w.heap.size, 0, none⟩) (Nat.le_refl _) _).setCell (p := ⟨w.heap.size, 1, none⟩) (Nat.le_refl _) _).setCell (p := ⟨w.heap.size, 2, none⟩) (Nat.le_refl _) _).setCell (p := ⟨w.heap.size, 3, none⟩) (Nat.le_refl _) _
end Go.Proofs.YthkhhjfldkebcaaGreatDoor
