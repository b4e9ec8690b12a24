/- The contract of tried at Spot. -/
import Derived.Test.YthkhhjfldkebcaaGreatDoorV
namespace Go.Proofs.YthkhhjfldkebcaaGreatDoor
open Go.RowKit Go.Proofs Go.Shelf

/-- Three stores: what they leave. -/
theorem three_cells {w : World} {b2 b3 : Nat} {x x' y : Value} (h2 : w.cell? ⟨b2, 0, none⟩ = some x) (h2' : w.cell? ⟨b2, 1, none⟩ = some x') (h3 : w.cell? ⟨b3, 0, none⟩ = some y) (hne : b2 ≠ b3) (u u' v : Value) :
    (((w.setCell ⟨b2, 0, none⟩ u).setCell ⟨b2, 1, none⟩ u').setCell ⟨b3, 0, none⟩ v).cell? ⟨b2, 0, none⟩ = some u ∧ (((w.setCell ⟨b2, 0, none⟩ u).setCell ⟨b2, 1, none⟩ u').setCell ⟨b3, 0, none⟩ v).cell? ⟨b2, 1, none⟩ = some u' ∧ (((w.setCell ⟨b2, 0, none⟩ u).setCell ⟨b2, 1, none⟩ u').setCell ⟨b3, 0, none⟩ v).cell? ⟨b3, 0, none⟩ = some v := by
  have k1 : (w.setCell ⟨b2, 0, none⟩ u).cell? ⟨b2, 0, none⟩ = some u := World.cell?_setCell_same _ _ _ h2
  have k1' : (w.setCell ⟨b2, 0, none⟩ u).cell? ⟨b2, 1, none⟩ = some x' := by rw [World.cell?_setCell_other _ _ _ _ (by simp)]; exact h2'
  have k1'' : (w.setCell ⟨b2, 0, none⟩ u).cell? ⟨b3, 0, none⟩ = some y := by rw [World.cell?_setCell_other _ _ _ _ (by first | (simp; done) | (simp; omega))]; exact h3
  have k2 : ((w.setCell ⟨b2, 0, none⟩ u).setCell ⟨b2, 1, none⟩ u').cell? ⟨b2, 0, none⟩ = some u := by rw [World.cell?_setCell_other _ _ _ _ (by simp)]; exact k1
  have k2' : ((w.setCell ⟨b2, 0, none⟩ u).setCell ⟨b2, 1, none⟩ u').cell? ⟨b2, 1, none⟩ = some u' := World.cell?_setCell_same _ _ _ k1'
  have k2'' : ((w.setCell ⟨b2, 0, none⟩ u).setCell ⟨b2, 1, none⟩ u').cell? ⟨b3, 0, none⟩ = some y := by rw [World.cell?_setCell_other _ _ _ _ (by first | (simp; done) | (simp; omega))]; exact k1''
  exact ⟨by rw [World.cell?_setCell_other _ _ _ _ (by first | (simp; done) | (simp; omega))]; exact k2, by rw [World.cell?_setCell_other _ _ _ _ (by first | (simp; done) | (simp; omega))]; exact k2', World.cell?_setCell_same _ _ _ k2''⟩

theorem three_cells_alloc {w : World} {b2 b3 : Nat} {x x' y : Value} (h2 : w.cell? ⟨b2, 0, none⟩ = some x) (h2' : w.cell? ⟨b2, 1, none⟩ = some x') (h3 : w.cell? ⟨b3, 0, none⟩ = some y) (hne : b2 ≠ b3) (hb2 : b2 < w.heap.size) (hb3 : b3 < w.heap.size) (u u' v : Value) (o o' : Obj) :
    (((((w.setCell ⟨b2, 0, none⟩ u).setCell ⟨b2, 1, none⟩ u').setCell ⟨b3, 0, none⟩ v).alloc o).alloc o').drew.cell? ⟨b2, 0, none⟩ = some u ∧ (((((w.setCell ⟨b2, 0, none⟩ u).setCell ⟨b2, 1, none⟩ u').setCell ⟨b3, 0, none⟩ v).alloc o).alloc o').drew.cell? ⟨b2, 1, none⟩ = some u' ∧ (((((w.setCell ⟨b2, 0, none⟩ u).setCell ⟨b2, 1, none⟩ u').setCell ⟨b3, 0, none⟩ v).alloc o).alloc o').drew.cell? ⟨b3, 0, none⟩ = some v := by
  obtain ⟨k1, k2, k3⟩ := three_cells h2 h2' h3 hne u u' v
  have hb := (((Below.refl _ (((w.setCell ⟨b2, 0, none⟩ u).setCell ⟨b2, 1, none⟩ u').setCell ⟨b3, 0, none⟩ v)).alloc (Nat.le_refl _) o).alloc (by simp) o').drew
  exact ⟨(hb.cell (p := ⟨b2, 0, none⟩) (by simpa [World.setCell] using hb2)).trans k1, (hb.cell (p := ⟨b2, 1, none⟩) (by simpa [World.setCell] using hb2)).trans k2, (hb.cell (p := ⟨b3, 0, none⟩) (by simpa [World.setCell] using hb3)).trans k3⟩

/-! ### tried at Spot -/
set_option maxRecDepth 100000 in
theorem catch_misSpot (b2 b3 : Nat) (c : Int) (x x' y : Value) (w : World) (h2 : w.cell? ⟨b2, 0, none⟩ = some x) (h2' : w.cell? ⟨b2, 1, none⟩ = some x') (h3 : w.cell? ⟨b3, 0, none⟩ = some y)
    (f2 : w.frozen? ⟨b2, 0, none⟩ = false) (f2' : w.frozen? ⟨b2, 1, none⟩ = false) (f3 : w.frozen? ⟨b3, 0, none⟩ = false)
    (hne : b2 ≠ b3) (B : Nat) (hB2 : B ≤ b2) (hB3 : B ≤ b3) (hb2 : b2 < w.heap.size) (hb3 : b3 < w.heap.size) :
    CallsD Tryz.prog 131 #[.pointer (some ⟨b2, 0, none⟩), .pointer (some ⟨b3, 0, none⟩)] (.panicking (Mis c)) w fun e u' w' =>
      e = .returned (.tuple #[]) ∧ u' = .panicking [{ v := .iface 145 (.agg #[.int .i64 c]), recovered := true }] ∧ Below B w w' ∧ w'.cell? ⟨b2, 0, none⟩ = some (.int .i64 0) ∧ w'.cell? ⟨b2, 1, none⟩ = some (.int .i64 0) ∧ w'.cell? ⟨b3, 0, none⟩ = some (.int .i64 c) := by
  have bo : ∀ o o', Below w.heap.size w ((w.alloc o).alloc o') := fun o o' => ((Below.refl _ w).alloc (Nat.le_refl _) o).alloc (by simp) o'
  have c2 : ∀ o o', ((w.alloc o).alloc o').cell? ⟨b2, 0, none⟩ = some x := fun o o' => by rw [← h2]; exact (bo o o').cell (p := ⟨b2, 0, none⟩) hb2
  have c2' : ∀ o o', ((w.alloc o).alloc o').cell? ⟨b2, 1, none⟩ = some x' := fun o o' => by rw [← h2']; exact (bo o o').cell (p := ⟨b2, 1, none⟩) hb2
  have c3 : ∀ o o', ((w.alloc o).alloc o').cell? ⟨b3, 0, none⟩ = some y := fun o o' => by rw [← h3]; exact (bo o o').cell (p := ⟨b3, 0, none⟩) hb3
  have d2 : ∀ o o', ((w.alloc o).alloc o').frozen? ⟨b2, 0, none⟩ = false := fun o o' => by rw [← f2]; exact (bo o o').frozen (p := ⟨b2, 0, none⟩) hb2
  have d2' : ∀ o o', ((w.alloc o).alloc o').frozen? ⟨b2, 1, none⟩ = false := fun o o' => by rw [← f2']; exact (bo o o').frozen (p := ⟨b2, 1, none⟩) hb2
  have d3 : ∀ o o', ((w.alloc o).alloc o').frozen? ⟨b3, 0, none⟩ = false := fun o o' => by rw [← f3]; exact (bo o o').frozen (p := ⟨b3, 0, none⟩) hb3
  have e0 : ∀ o t, ((w.alloc o).alloc (.cells #[.int .i64 0, .int .i64 0] t)).cell? ⟨w.heap.size + 1, 0, none⟩ = some (.int .i64 0) := by intros; simp [go_sem]
  have e1 : ∀ o t, ((w.alloc o).alloc (.cells #[.int .i64 0, .int .i64 0] t)).cell? ⟨w.heap.size + 1, 1, none⟩ = some (.int .i64 0) := by intros; simp [go_sem]
  have e2 : ∀ t o, ((w.alloc (.cells #[.int .i64 c] t)).alloc o).cell? ⟨w.heap.size, 0, none⟩ = some (.int .i64 c) := by intros; simp [go_sem]
  have ta := ta_yes (.agg #[.int .i64 c])
  refine callsD_of_wpS Tryz.func131 rfl fun c₀ cs hu => ?_
  apply wpS_seq
  apply wpS_region
  simp [wpOpsS, go_sem, recoverD, hu, Mis, Tryz.ntmps131, Exit.thenS]
  refine wpS_of_wp ?_
  simp only [Array.replicate_succ, Array.replicate_zero, List.push_toArray, List.append_toArray, List.nil_append, List.cons_append, List.setIfInBounds_toArray, List.set_cons_succ, List.set_cons_zero]
  go_wp2
  go_region
  go_wp2
  refine ⟨rfl, _, rfl, _, results_none rfl _ _ _, rfl, rfl, ?_, ?_⟩
  · exact (((((Below.refl _ _).setCell (p := ⟨b2, 0, none⟩) hB2 _).setCell (p := ⟨b2, 1, none⟩) hB2 _).setCell (p := ⟨b3, 0, none⟩) hB3 _).alloc (by simp [World.setCell]; omega) _).alloc (by simp [World.setCell]; omega) _ |>.drew
  · exact three_cells_alloc h2 h2' h3 hne hb2 hb3 _ _ _ _ _

set_option maxRecDepth 100000 in
theorem catch_idleSpot (b2 b3 : Nat) (w : World) (B : Nat) (hB : B ≤ w.heap.size) :
    CallsD Tryz.prog 131 #[.pointer (some ⟨b2, 0, none⟩), .pointer (some ⟨b3, 0, none⟩)] .returning w fun e u' w' =>
      e = .returned (.tuple #[]) ∧ u' = .returning ∧ Below B w w' ∧ (∀ b o, b < w.heap.size → w'.cell? ⟨b, o, none⟩ = w.cell? ⟨b, o, none⟩) := by
  have ta := ta_nil
  have nn := neq_nil
  refine callsD_of_wpS Tryz.func131 rfl fun c₀ cs hu => ?_
  apply wpS_seq
  apply wpS_region
  simp [wpOpsS, go_sem, recoverD, hu, Tryz.ntmps131, Exit.thenS]
  refine wpS_of_wp ?_
  simp only [Array.replicate_succ, Array.replicate_zero, List.push_toArray, List.append_toArray, List.nil_append, List.cons_append, List.setIfInBounds_toArray, List.set_cons_succ, List.set_cons_zero]
  go_wp2
  refine ⟨rfl, .returning, by cases c₀; simp_all, _, results_none rfl _ _ _, rfl, rfl, (Below.refl _ _).alloc hB _, ?_⟩
  intro b o h
  exact ((Below.refl _ w).alloc (Nat.le_refl _) _).cell (p := ⟨b, o, none⟩) h

/-- A spot. -/
abbrev Sp (v : Int × Int) : Value := .agg #[.int .i64 v.1, .int .i64 v.2]

set_option maxRecDepth 100000 in
set_option maxHeartbeats 1000000 in
theorem triedSpot (f : FuncId) (caps : Array Value) (r : Except Int (Int × Int)) (w : World) (hf : ∀ args w, (callFunc f args).run Tryz.prog w = .ok (.enter f args) w)
    (h : ∀ W, Below w.heap.size w W → Calls Tryz.prog f caps W (Do W (r.map Sp))) :
    Calls Tryz.prog 80 #[.func (.func f) #[] caps] w fun e w' => e = .returned (.tuple #[Sp (valE (0, 0) r), .int .i64 (errE r)]) ∧ Below w.heap.size w w' := by
  have hmf : ∀ (fn : Fn) (first cap : Array Value) (w : World), (Instr.makeFunc fn first cap).run Tryz.prog w = .ok (.func fn first cap) w := fun _ _ _ _ => rfl
  have H := Lib.hid h
  clear h
  cases r with
  | ok v =>
    obtain ⟨v, v'⟩ := v
    go_enter_defers Tryz.func80, Tryz.ntmps80
    go_wp2_with fail
    refine (H.out _ (((Below.refl _ _).alloc (Nat.le_refl _) _).alloc (by simp) _)).mono ?_
    rintro e w1 ⟨he, hb⟩
    simp only [Except.map, Sp] at he
    subst he
    have hc := bcell hb
    have hsz := hb.size
    simp only [World.size_alloc] at hc hsz
    have k2 : w1.cell? ⟨w.heap.size, 0, none⟩ = some (.int .i64 0) := by rw [hc.1 _ _ (by omega)]; simp [go_sem]
    have k2' : w1.cell? ⟨w.heap.size, 1, none⟩ = some (.int .i64 0) := by rw [hc.1 _ _ (by omega)]; simp [go_sem]
    have k3 : w1.cell? ⟨w.heap.size + 1, 0, none⟩ = some (.int .i64 0) := by rw [hc.1 _ _ (by omega)]; simp [go_sem]
    have g2 : w1.frozen? ⟨w.heap.size, 0, none⟩ = false := by rw [hc.2 _ _ (by omega)]; simp [go_sem]
    have g2' : w1.frozen? ⟨w.heap.size, 1, none⟩ = false := by rw [hc.2 _ _ (by omega)]; simp [go_sem]
    have g3 : w1.frozen? ⟨w.heap.size + 1, 0, none⟩ = false := by rw [hc.2 _ _ (by omega)]; simp [go_sem]
    clear hc
    go_wp2_with fail
    refine leaves_cons (f := 131) (args := #[.pointer (some ⟨w.heap.size, 0, none⟩), .pointer (some ⟨w.heap.size + 1, 0, none⟩)]) (by simp) (by simp [go_sem]) ?_
    obtain ⟨y2, y2', y3⟩ := three_cells k2 k2' k3 (by omega) (.int .i64 v) (.int .i64 v') (.int .i64 0)
    have bb : Below w.heap.size w (((w1.setCell ⟨w.heap.size, 0, none⟩ (.int .i64 v)).setCell ⟨w.heap.size, 1, none⟩ (.int .i64 v')).setCell ⟨w.heap.size + 1, 0, none⟩ (.int .i64 0)) :=
      (((((((Below.refl _ _).alloc (Nat.le_refl _) _).alloc (by simp) _).trans (hb.mono (by simp; omega))).setCell (p := ⟨w.heap.size, 0, none⟩) (Nat.le_refl _) _).setCell (p := ⟨w.heap.size, 1, none⟩) (Nat.le_refl _) _).setCell (p := ⟨w.heap.size + 1, 0, none⟩) (by simp) _)
    have sz : w.heap.size + 1 < (((w1.setCell ⟨w.heap.size, 0, none⟩ (.int .i64 v)).setCell ⟨w.heap.size, 1, none⟩ (.int .i64 v')).setCell ⟨w.heap.size + 1, 0, none⟩ (.int .i64 0)).heap.size := by simp [World.setCell]; omega
    generalize hW : ((w1.setCell ⟨w.heap.size, 0, none⟩ (.int .i64 v)).setCell ⟨w.heap.size, 1, none⟩ (.int .i64 v')).setCell ⟨w.heap.size + 1, 0, none⟩ (.int .i64 0) = W at *
    refine (catch_idleSpot _ _ _ w.heap.size (by omega)).mono ?_
    rintro e u' w2 ⟨rfl, rfl, hb2, hc2⟩
    have z2 := (hc2 w.heap.size 0 (by omega)).trans y2
    have z2' := (hc2 w.heap.size 1 (by omega)).trans y2'
    have z3 := (hc2 (w.heap.size + 1) 0 (by omega)).trans y3
    refine ⟨.tuple #[Sp (v, v'), .int .i64 0], ?_, rfl, bb.trans hb2⟩
    simp [results, Tryz.results80, go_sem, z2, z2', z3]
  | error c =>
    go_enter_defers Tryz.func80, Tryz.ntmps80
    go_wp2_with fail
    refine (H.out _ (((Below.refl _ _).alloc (Nat.le_refl _) _).alloc (by simp) _)).mono ?_
    rintro e w1 ⟨he, hb⟩
    simp only [Except.map] at he
    subst he
    have hc := bcell hb
    have hsz := hb.size
    simp only [World.size_alloc] at hc hsz
    have k2 : w1.cell? ⟨w.heap.size, 0, none⟩ = some (.int .i64 0) := by rw [hc.1 _ _ (by omega)]; simp [go_sem]
    have k2' : w1.cell? ⟨w.heap.size, 1, none⟩ = some (.int .i64 0) := by rw [hc.1 _ _ (by omega)]; simp [go_sem]
    have k3 : w1.cell? ⟨w.heap.size + 1, 0, none⟩ = some (.int .i64 0) := by rw [hc.1 _ _ (by omega)]; simp [go_sem]
    have g2 : w1.frozen? ⟨w.heap.size, 0, none⟩ = false := by rw [hc.2 _ _ (by omega)]; simp [go_sem]
    have g2' : w1.frozen? ⟨w.heap.size, 1, none⟩ = false := by rw [hc.2 _ _ (by omega)]; simp [go_sem]
    have g3 : w1.frozen? ⟨w.heap.size + 1, 0, none⟩ = false := by rw [hc.2 _ _ (by omega)]; simp [go_sem]
    clear hc
    refine leaves_cons (f := 131) (args := #[.pointer (some ⟨w.heap.size, 0, none⟩), .pointer (some ⟨w.heap.size + 1, 0, none⟩)]) (by simp) (by simp [go_sem]) ?_
    refine (catch_misSpot _ _ c _ _ _ _ k2 k2' k3 g2 g2' g3 (by omega) w.heap.size (Nat.le_refl _) (by omega) (by omega) (by omega)).mono ?_
    rintro e u' w2 ⟨rfl, rfl, hb2, z2, z2', z3⟩
    refine ⟨.tuple #[Sp (0, 0), .int .i64 c], ?_, rfl, (((Below.refl _ _).alloc (Nat.le_refl _) _).alloc (by simp) _).trans ((hb.mono (by simp; omega)).trans hb2)⟩
    simp [results, Tryz.results80, go_sem, z2, z2', z3]
end Go.Proofs.YthkhhjfldkebcaaGreatDoor
