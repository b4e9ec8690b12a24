/- The contract of tried, at each of its four types: what a function comes to, with its misfit as an error. -/
import Derived.Test.YthkhhjfldkebcaaGreatDoorH
import Derived.Recover
import Derived.Shelf.Abstract
namespace Go.Proofs.YthkhhjfldkebcaaGreatDoor
open Go.RowKit Go.Proofs

theorem two_fst {w : World} {b2 b3 : Nat} {x : Value} (h2 : w.cell? ⟨b2, 0, none⟩ = some x) (hne : b2 ≠ b3) (hb2 : b2 < w.heap.size) (u v : Value) (o : Obj) :
    (((w.setCell ⟨b2, 0, none⟩ u).setCell ⟨b3, 0, none⟩ v).alloc o).drew.cell? ⟨b2, 0, none⟩ = some u := by
  show (((w.setCell ⟨b2, 0, none⟩ u).setCell ⟨b3, 0, none⟩ v).alloc o).cell? ⟨b2, 0, none⟩ = some u
  rw [World.cell?_alloc_lt _ _ _ (by simpa [World.setCell] using hb2), World.cell?_setCell_other _ _ _ _ (by first | (simp; done) | (simp; omega)), World.cell?_setCell_same _ _ _ h2]
theorem two_snd {w : World} {b2 b3 : Nat} {y : Value} (h3 : w.cell? ⟨b3, 0, none⟩ = some y) (hne : b2 ≠ b3) (hb3 : b3 < w.heap.size) (u v : Value) (o : Obj) :
    (((w.setCell ⟨b2, 0, none⟩ u).setCell ⟨b3, 0, none⟩ v).alloc o).drew.cell? ⟨b3, 0, none⟩ = some v := by
  show (((w.setCell ⟨b2, 0, none⟩ u).setCell ⟨b3, 0, none⟩ v).alloc o).cell? ⟨b3, 0, none⟩ = some v
  have h : (w.setCell ⟨b2, 0, none⟩ u).cell? ⟨b3, 0, none⟩ = some y := by rw [World.cell?_setCell_other _ _ _ _ (by first | (simp; done) | (simp; omega))]; exact h3
  rw [World.cell?_alloc_lt _ _ _ (by simpa [World.setCell] using hb3), World.cell?_setCell_same _ _ _ h]
theorem ta_yes (v : Value) (w : World) : (Instr.typeAssert (.iface 145 v) 20 145 true).run Tryz.prog w = .ok (.tuple #[v, .bool true]) w := by kernel_rfl
theorem ta_nil (w : World) : (Instr.typeAssert .nilIface 20 145 true).run Tryz.prog w = .ok (.tuple #[.agg #[.int .i64 0], .bool false]) w := by kernel_rfl
theorem neq_nil (w : World) : (binOp .neq 20 .nilIface .nilIface).run Tryz.prog w = .ok (.bool false) w := by kernel_rfl

/-- What a function comes to: a value, or a misfit. -/
def Do (w : World) (r : Except Int Value) (e : Ending) (w' : World) : Prop :=
  (match r with | .ok v => e = .returned v | .error c => e = .panicked (Mis c)) ∧ Below w.heap.size w w'
/-- The error of it. -/
def errE {α : Type} : Except Int α → Int | .ok _ => 0 | .error c => c
def valE {α : Type} (d : α) : Except Int α → α | .ok v => v | .error _ => d

/-! ### tried at Fix -/
set_option maxRecDepth 100000 in
theorem catch_misFix (b2 b3 : Nat) (c : Int) (x y : Value) (w : World) (h2 : w.cell? ⟨b2, 0, none⟩ = some x) (h3 : w.cell? ⟨b3, 0, none⟩ = some y) (f2 : w.frozen? ⟨b2, 0, none⟩ = false) (f3 : w.frozen? ⟨b3, 0, none⟩ = false)
    (hne : b2 ≠ b3) (B : Nat) (hB2 : B ≤ b2) (hB3 : B ≤ b3) (hb2 : b2 < w.heap.size) (hb3 : b3 < w.heap.size) :
    CallsD Tryz.prog 118 #[.pointer (some ⟨b2, 0, none⟩), .pointer (some ⟨b3, 0, none⟩)] (.panicking (Mis c)) w fun e u' w' =>
      e = .returned (.tuple #[]) ∧ u' = .panicking [{ v := .iface 145 (.agg #[.int .i64 c]), recovered := true }] ∧ Below B w w' ∧ w'.cell? ⟨b2, 0, none⟩ = some (.int .i64 0) ∧ w'.cell? ⟨b3, 0, none⟩ = some (.int .i64 c) := by
  have c2 : ∀ o, (w.alloc o).cell? ⟨b2, 0, none⟩ = some x := fun o => by rw [← h2]; exact ((Below.refl _ w).alloc (Nat.le_refl _) o).cell (p := ⟨b2, 0, none⟩) hb2
  have c3 : ∀ o, (w.alloc o).cell? ⟨b3, 0, none⟩ = some y := fun o => by rw [← h3]; exact ((Below.refl _ w).alloc (Nat.le_refl _) o).cell (p := ⟨b3, 0, none⟩) hb3
  have d2 : ∀ o, (w.alloc o).frozen? ⟨b2, 0, none⟩ = false := fun o => by rw [← f2]; exact ((Below.refl _ w).alloc (Nat.le_refl _) o).frozen (p := ⟨b2, 0, none⟩) hb2
  have d3 : ∀ o, (w.alloc o).frozen? ⟨b3, 0, none⟩ = false := fun o => by rw [← f3]; exact ((Below.refl _ w).alloc (Nat.le_refl _) o).frozen (p := ⟨b3, 0, none⟩) hb3
  have ta := ta_yes (.agg #[.int .i64 c])
  refine callsD_of_wpS Tryz.func118 rfl fun c₀ cs hu => ?_
  apply wpS_seq
  apply wpS_region
  simp [wpOpsS, go_sem, recoverD, hu, Mis, Tryz.ntmps118, Exit.thenS]
  refine wpS_of_wp ?_
  simp only [Array.replicate_succ, Array.replicate_zero, List.push_toArray, List.append_toArray, List.nil_append, List.cons_append, List.setIfInBounds_toArray, List.set_cons_succ, List.set_cons_zero]
  go_wp2
  go_region
  go_wp2
  refine ⟨rfl, _, rfl, _, results_none rfl _ _ _, rfl, rfl, ?_, ?_, ?_⟩
  · exact (((Below.refl _ _).setCell (p := ⟨b2, 0, none⟩) hB2 _).setCell (p := ⟨b3, 0, none⟩) hB3 _).alloc (by simp [World.setCell]; omega) _ |>.drew
  · exact two_fst h2 hne hb2 _ _ _
  · exact two_snd h3 hne hb3 _ _ _

set_option maxRecDepth 100000 in
theorem catch_idleFix (b2 b3 : Nat) (w : World) (B : Nat) (hB : B ≤ w.heap.size) :
    CallsD Tryz.prog 118 #[.pointer (some ⟨b2, 0, none⟩), .pointer (some ⟨b3, 0, none⟩)] .returning w fun e u' w' =>
      e = .returned (.tuple #[]) ∧ u' = .returning ∧ Below B w w' ∧ (∀ b o, b < w.heap.size → w'.cell? ⟨b, o, none⟩ = w.cell? ⟨b, o, none⟩) := by
  have ta := ta_nil
  have nn := neq_nil
  refine callsD_of_wpS Tryz.func118 rfl fun c₀ cs hu => ?_
  apply wpS_seq
  apply wpS_region
  simp [wpOpsS, go_sem, recoverD, hu, Tryz.ntmps118, Exit.thenS]
  refine wpS_of_wp ?_
  simp only [Array.replicate_succ, Array.replicate_zero, List.push_toArray, List.append_toArray, List.nil_append, List.cons_append, List.setIfInBounds_toArray, List.set_cons_succ, List.set_cons_zero]
  go_wp2
  refine ⟨rfl, .returning, by cases c₀; simp_all, _, results_none rfl _ _ _, rfl, rfl, (Below.refl _ _).alloc hB _, ?_⟩
  intro b o h
  exact ((Below.refl _ w).alloc (Nat.le_refl _) _).cell (p := ⟨b, o, none⟩) h

set_option maxRecDepth 100000 in
set_option maxHeartbeats 1000000 in
theorem triedFix (f : FuncId) (caps : Array Value) (r : Except Int Int) (w : World) (hf : ∀ args w, (callFunc f args).run Tryz.prog w = .ok (.enter f args) w)
    (h : ∀ W, Below w.heap.size w W → Calls Tryz.prog f caps W (Do W (r.map (.int .i64 ·)))) :
    Calls Tryz.prog 54 #[.func (.func f) #[] caps] w fun e w' => e = .returned (.tuple #[.int .i64 (valE 0 r), .int .i64 (errE r)]) ∧ Below w.heap.size w w' := by
  have hmf : ∀ (fn : Fn) (first cap : Array Value) (w : World), (Instr.makeFunc fn first cap).run Tryz.prog w = .ok (.func fn first cap) w := fun _ _ _ _ => rfl
  have H := Lib.hid h
  clear h
  cases r with
  | ok v =>
    go_enter_defers Tryz.func54, Tryz.ntmps54
    go_wp2_with fail
    refine (H.out _ (((Below.refl _ _).alloc (Nat.le_refl _) _).alloc (by simp) _)).mono ?_
    rintro e w1 ⟨he, hb⟩
    simp only [Except.map] at he
    subst he
    have hc := bcell hb
    have hsz := hb.size
    simp only [World.size_alloc] at hc hsz
    have k2 : w1.cell? ⟨w.heap.size, 0, none⟩ = some (.int .i64 0) := by rw [hc.1 _ _ (by omega)]; simp [go_sem]
    have k3 : w1.cell? ⟨w.heap.size + 1, 0, none⟩ = some (.int .i64 0) := by rw [hc.1 _ _ (by omega)]; simp [go_sem]
    have g2 : w1.frozen? ⟨w.heap.size, 0, none⟩ = false := by rw [hc.2 _ _ (by omega)]; simp [go_sem]
    have g3 : w1.frozen? ⟨w.heap.size + 1, 0, none⟩ = false := by rw [hc.2 _ _ (by omega)]; simp [go_sem]
    clear hc
    go_wp2_with fail
    refine leaves_cons (f := 118) (args := #[.pointer (some ⟨w.heap.size, 0, none⟩), .pointer (some ⟨w.heap.size + 1, 0, none⟩)]) (by simp) (by simp [go_sem]) ?_
    have x2 := World.cell?_setCell_same w1 ⟨w.heap.size, 0, none⟩ (.int .i64 v) k2
    have x3 : (w1.setCell ⟨w.heap.size, 0, none⟩ (.int .i64 v)).cell? ⟨w.heap.size + 1, 0, none⟩ = some (.int .i64 0) := by rw [World.cell?_setCell_other _ _ _ _ (by simp)]; exact k3
    have y3 := World.cell?_setCell_same _ ⟨w.heap.size + 1, 0, none⟩ (.int .i64 0) x3
    have y2 : ((w1.setCell ⟨w.heap.size, 0, none⟩ (.int .i64 v)).setCell ⟨w.heap.size + 1, 0, none⟩ (.int .i64 0)).cell? ⟨w.heap.size, 0, none⟩ = some (.int .i64 v) := by rw [World.cell?_setCell_other _ _ _ _ (by simp)]; exact x2
    have bb : Below w.heap.size w ((w1.setCell ⟨w.heap.size, 0, none⟩ (.int .i64 v)).setCell ⟨w.heap.size + 1, 0, none⟩ (.int .i64 0)) :=
      ((((((Below.refl _ _).alloc (Nat.le_refl _) _).alloc (by simp) _).trans (hb.mono (by simp; omega))).setCell (p := ⟨w.heap.size, 0, none⟩) (Nat.le_refl _) _).setCell (p := ⟨w.heap.size + 1, 0, none⟩) (by simp) _)
    have sz : w.heap.size + 1 < ((w1.setCell ⟨w.heap.size, 0, none⟩ (.int .i64 v)).setCell ⟨w.heap.size + 1, 0, none⟩ (.int .i64 0)).heap.size := by simp [World.setCell]; omega
    generalize hW : (w1.setCell ⟨w.heap.size, 0, none⟩ (.int .i64 v)).setCell ⟨w.heap.size + 1, 0, none⟩ (.int .i64 0) = W at *
    refine (catch_idleFix _ _ _ w.heap.size (by omega)).mono ?_
    rintro e u' w2 ⟨rfl, rfl, hb2, hc2⟩
    have z2 := (hc2 w.heap.size 0 (by omega)).trans y2
    have z3 := (hc2 (w.heap.size + 1) 0 (by omega)).trans y3
    refine ⟨.tuple #[.int .i64 v, .int .i64 0], ?_, rfl, bb.trans hb2⟩
    simp [results, Tryz.results54, go_sem, z2, z3]
  | error c =>
    go_enter_defers Tryz.func54, Tryz.ntmps54
    go_wp2_with fail
    refine (H.out _ (((Below.refl _ _).alloc (Nat.le_refl _) _).alloc (by simp) _)).mono ?_
    rintro e w1 ⟨he, hb⟩
    simp only [Except.map] at he
    subst he
    have hc := bcell hb
    have hsz := hb.size
    simp only [World.size_alloc] at hc hsz
    have k2 : w1.cell? ⟨w.heap.size, 0, none⟩ = some (.int .i64 0) := by rw [hc.1 _ _ (by omega)]; simp [go_sem]
    have k3 : w1.cell? ⟨w.heap.size + 1, 0, none⟩ = some (.int .i64 0) := by rw [hc.1 _ _ (by omega)]; simp [go_sem]
    have g2 : w1.frozen? ⟨w.heap.size, 0, none⟩ = false := by rw [hc.2 _ _ (by omega)]; simp [go_sem]
    have g3 : w1.frozen? ⟨w.heap.size + 1, 0, none⟩ = false := by rw [hc.2 _ _ (by omega)]; simp [go_sem]
    clear hc
    refine leaves_cons (f := 118) (args := #[.pointer (some ⟨w.heap.size, 0, none⟩), .pointer (some ⟨w.heap.size + 1, 0, none⟩)]) (by simp) (by simp [go_sem]) ?_
    refine (catch_misFix _ _ c _ _ _ k2 k3 g2 g3 (by omega) w.heap.size (Nat.le_refl _) (by omega) (by omega) (by omega)).mono ?_
    rintro e u' w2 ⟨rfl, rfl, hb2, z2, z3⟩
    refine ⟨.tuple #[(.int .i64 0), .int .i64 c], ?_, rfl, (((Below.refl _ _).alloc (Nat.le_refl _) _).alloc (by simp) _).trans ((hb.mono (by simp; omega)).trans hb2)⟩
    simp [results, Tryz.results54, go_sem, z2, z3]

/-! ### tried at Int -/
set_option maxRecDepth 100000 in
theorem catch_misInt (b2 b3 : Nat) (c : Int) (x y : Value) (w : World) (h2 : w.cell? ⟨b2, 0, none⟩ = some x) (h3 : w.cell? ⟨b3, 0, none⟩ = some y) (f2 : w.frozen? ⟨b2, 0, none⟩ = false) (f3 : w.frozen? ⟨b3, 0, none⟩ = false)
    (hne : b2 ≠ b3) (B : Nat) (hB2 : B ≤ b2) (hB3 : B ≤ b3) (hb2 : b2 < w.heap.size) (hb3 : b3 < w.heap.size) :
    CallsD Tryz.prog 128 #[.pointer (some ⟨b2, 0, none⟩), .pointer (some ⟨b3, 0, none⟩)] (.panicking (Mis c)) w fun e u' w' =>
      e = .returned (.tuple #[]) ∧ u' = .panicking [{ v := .iface 145 (.agg #[.int .i64 c]), recovered := true }] ∧ Below B w w' ∧ w'.cell? ⟨b2, 0, none⟩ = some (.int .i64 0) ∧ w'.cell? ⟨b3, 0, none⟩ = some (.int .i64 c) := by
  have c2 : ∀ o, (w.alloc o).cell? ⟨b2, 0, none⟩ = some x := fun o => by rw [← h2]; exact ((Below.refl _ w).alloc (Nat.le_refl _) o).cell (p := ⟨b2, 0, none⟩) hb2
  have c3 : ∀ o, (w.alloc o).cell? ⟨b3, 0, none⟩ = some y := fun o => by rw [← h3]; exact ((Below.refl _ w).alloc (Nat.le_refl _) o).cell (p := ⟨b3, 0, none⟩) hb3
  have d2 : ∀ o, (w.alloc o).frozen? ⟨b2, 0, none⟩ = false := fun o => by rw [← f2]; exact ((Below.refl _ w).alloc (Nat.le_refl _) o).frozen (p := ⟨b2, 0, none⟩) hb2
  have d3 : ∀ o, (w.alloc o).frozen? ⟨b3, 0, none⟩ = false := fun o => by rw [← f3]; exact ((Below.refl _ w).alloc (Nat.le_refl _) o).frozen (p := ⟨b3, 0, none⟩) hb3
  have ta := ta_yes (.agg #[.int .i64 c])
  refine callsD_of_wpS Tryz.func128 rfl fun c₀ cs hu => ?_
  apply wpS_seq
  apply wpS_region
  simp [wpOpsS, go_sem, recoverD, hu, Mis, Tryz.ntmps128, Exit.thenS]
  refine wpS_of_wp ?_
  simp only [Array.replicate_succ, Array.replicate_zero, List.push_toArray, List.append_toArray, List.nil_append, List.cons_append, List.setIfInBounds_toArray, List.set_cons_succ, List.set_cons_zero]
  go_wp2
  go_region
  go_wp2
  refine ⟨rfl, _, rfl, _, results_none rfl _ _ _, rfl, rfl, ?_, ?_, ?_⟩
  · exact (((Below.refl _ _).setCell (p := ⟨b2, 0, none⟩) hB2 _).setCell (p := ⟨b3, 0, none⟩) hB3 _).alloc (by simp [World.setCell]; omega) _ |>.drew
  · exact two_fst h2 hne hb2 _ _ _
  · exact two_snd h3 hne hb3 _ _ _

set_option maxRecDepth 100000 in
theorem catch_idleInt (b2 b3 : Nat) (w : World) (B : Nat) (hB : B ≤ w.heap.size) :
    CallsD Tryz.prog 128 #[.pointer (some ⟨b2, 0, none⟩), .pointer (some ⟨b3, 0, none⟩)] .returning w fun e u' w' =>
      e = .returned (.tuple #[]) ∧ u' = .returning ∧ Below B w w' ∧ (∀ b o, b < w.heap.size → w'.cell? ⟨b, o, none⟩ = w.cell? ⟨b, o, none⟩) := by
  have ta := ta_nil
  have nn := neq_nil
  refine callsD_of_wpS Tryz.func128 rfl fun c₀ cs hu => ?_
  apply wpS_seq
  apply wpS_region
  simp [wpOpsS, go_sem, recoverD, hu, Tryz.ntmps128, Exit.thenS]
  refine wpS_of_wp ?_
  simp only [Array.replicate_succ, Array.replicate_zero, List.push_toArray, List.append_toArray, List.nil_append, List.cons_append, List.setIfInBounds_toArray, List.set_cons_succ, List.set_cons_zero]
  go_wp2
  refine ⟨rfl, .returning, by cases c₀; simp_all, _, results_none rfl _ _ _, rfl, rfl, (Below.refl _ _).alloc hB _, ?_⟩
  intro b o h
  exact ((Below.refl _ w).alloc (Nat.le_refl _) _).cell (p := ⟨b, o, none⟩) h

set_option maxRecDepth 100000 in
set_option maxHeartbeats 1000000 in
theorem triedInt (f : FuncId) (caps : Array Value) (r : Except Int Int) (w : World) (hf : ∀ args w, (callFunc f args).run Tryz.prog w = .ok (.enter f args) w)
    (h : ∀ W, Below w.heap.size w W → Calls Tryz.prog f caps W (Do W (r.map (.int .i64 ·)))) :
    Calls Tryz.prog 67 #[.func (.func f) #[] caps] w fun e w' => e = .returned (.tuple #[.int .i64 (valE 0 r), .int .i64 (errE r)]) ∧ Below w.heap.size w w' := by
  have hmf : ∀ (fn : Fn) (first cap : Array Value) (w : World), (Instr.makeFunc fn first cap).run Tryz.prog w = .ok (.func fn first cap) w := fun _ _ _ _ => rfl
  have H := Lib.hid h
  clear h
  cases r with
  | ok v =>
    go_enter_defers Tryz.func67, Tryz.ntmps67
    go_wp2_with fail
    refine (H.out _ (((Below.refl _ _).alloc (Nat.le_refl _) _).alloc (by simp) _)).mono ?_
    rintro e w1 ⟨he, hb⟩
    simp only [Except.map] at he
    subst he
    have hc := bcell hb
    have hsz := hb.size
    simp only [World.size_alloc] at hc hsz
    have k2 : w1.cell? ⟨w.heap.size, 0, none⟩ = some (.int .i64 0) := by rw [hc.1 _ _ (by omega)]; simp [go_sem]
    have k3 : w1.cell? ⟨w.heap.size + 1, 0, none⟩ = some (.int .i64 0) := by rw [hc.1 _ _ (by omega)]; simp [go_sem]
    have g2 : w1.frozen? ⟨w.heap.size, 0, none⟩ = false := by rw [hc.2 _ _ (by omega)]; simp [go_sem]
    have g3 : w1.frozen? ⟨w.heap.size + 1, 0, none⟩ = false := by rw [hc.2 _ _ (by omega)]; simp [go_sem]
    clear hc
    go_wp2_with fail
    refine leaves_cons (f := 128) (args := #[.pointer (some ⟨w.heap.size, 0, none⟩), .pointer (some ⟨w.heap.size + 1, 0, none⟩)]) (by simp) (by simp [go_sem]) ?_
    have x2 := World.cell?_setCell_same w1 ⟨w.heap.size, 0, none⟩ (.int .i64 v) k2
    have x3 : (w1.setCell ⟨w.heap.size, 0, none⟩ (.int .i64 v)).cell? ⟨w.heap.size + 1, 0, none⟩ = some (.int .i64 0) := by rw [World.cell?_setCell_other _ _ _ _ (by simp)]; exact k3
    have y3 := World.cell?_setCell_same _ ⟨w.heap.size + 1, 0, none⟩ (.int .i64 0) x3
    have y2 : ((w1.setCell ⟨w.heap.size, 0, none⟩ (.int .i64 v)).setCell ⟨w.heap.size + 1, 0, none⟩ (.int .i64 0)).cell? ⟨w.heap.size, 0, none⟩ = some (.int .i64 v) := by rw [World.cell?_setCell_other _ _ _ _ (by simp)]; exact x2
    have bb : Below w.heap.size w ((w1.setCell ⟨w.heap.size, 0, none⟩ (.int .i64 v)).setCell ⟨w.heap.size + 1, 0, none⟩ (.int .i64 0)) :=
      ((((((Below.refl _ _).alloc (Nat.le_refl _) _).alloc (by simp) _).trans (hb.mono (by simp; omega))).setCell (p := ⟨w.heap.size, 0, none⟩) (Nat.le_refl _) _).setCell (p := ⟨w.heap.size + 1, 0, none⟩) (by simp) _)
    have sz : w.heap.size + 1 < ((w1.setCell ⟨w.heap.size, 0, none⟩ (.int .i64 v)).setCell ⟨w.heap.size + 1, 0, none⟩ (.int .i64 0)).heap.size := by simp [World.setCell]; omega
    generalize hW : (w1.setCell ⟨w.heap.size, 0, none⟩ (.int .i64 v)).setCell ⟨w.heap.size + 1, 0, none⟩ (.int .i64 0) = W at *
    refine (catch_idleInt _ _ _ w.heap.size (by omega)).mono ?_
    rintro e u' w2 ⟨rfl, rfl, hb2, hc2⟩
    have z2 := (hc2 w.heap.size 0 (by omega)).trans y2
    have z3 := (hc2 (w.heap.size + 1) 0 (by omega)).trans y3
    refine ⟨.tuple #[.int .i64 v, .int .i64 0], ?_, rfl, bb.trans hb2⟩
    simp [results, Tryz.results67, go_sem, z2, z3]
  | error c =>
    go_enter_defers Tryz.func67, Tryz.ntmps67
    go_wp2_with fail
    refine (H.out _ (((Below.refl _ _).alloc (Nat.le_refl _) _).alloc (by simp) _)).mono ?_
    rintro e w1 ⟨he, hb⟩
    simp only [Except.map] at he
    subst he
    have hc := bcell hb
    have hsz := hb.size
    simp only [World.size_alloc] at hc hsz
    have k2 : w1.cell? ⟨w.heap.size, 0, none⟩ = some (.int .i64 0) := by rw [hc.1 _ _ (by omega)]; simp [go_sem]
    have k3 : w1.cell? ⟨w.heap.size + 1, 0, none⟩ = some (.int .i64 0) := by rw [hc.1 _ _ (by omega)]; simp [go_sem]
    have g2 : w1.frozen? ⟨w.heap.size, 0, none⟩ = false := by rw [hc.2 _ _ (by omega)]; simp [go_sem]
    have g3 : w1.frozen? ⟨w.heap.size + 1, 0, none⟩ = false := by rw [hc.2 _ _ (by omega)]; simp [go_sem]
    clear hc
    refine leaves_cons (f := 128) (args := #[.pointer (some ⟨w.heap.size, 0, none⟩), .pointer (some ⟨w.heap.size + 1, 0, none⟩)]) (by simp) (by simp [go_sem]) ?_
    refine (catch_misInt _ _ c _ _ _ k2 k3 g2 g3 (by omega) w.heap.size (Nat.le_refl _) (by omega) (by omega) (by omega)).mono ?_
    rintro e u' w2 ⟨rfl, rfl, hb2, z2, z3⟩
    refine ⟨.tuple #[(.int .i64 0), .int .i64 c], ?_, rfl, (((Below.refl _ _).alloc (Nat.le_refl _) _).alloc (by simp) _).trans ((hb.mono (by simp; omega)).trans hb2)⟩
    simp [results, Tryz.results67, go_sem, z2, z3]

/-! ### tried at Bool -/
set_option maxRecDepth 100000 in
theorem catch_misBool (b2 b3 : Nat) (c : Int) (x y : Value) (w : World) (h2 : w.cell? ⟨b2, 0, none⟩ = some x) (h3 : w.cell? ⟨b3, 0, none⟩ = some y) (f2 : w.frozen? ⟨b2, 0, none⟩ = false) (f3 : w.frozen? ⟨b3, 0, none⟩ = false)
    (hne : b2 ≠ b3) (B : Nat) (hB2 : B ≤ b2) (hB3 : B ≤ b3) (hb2 : b2 < w.heap.size) (hb3 : b3 < w.heap.size) :
    CallsD Tryz.prog 138 #[.pointer (some ⟨b2, 0, none⟩), .pointer (some ⟨b3, 0, none⟩)] (.panicking (Mis c)) w fun e u' w' =>
      e = .returned (.tuple #[]) ∧ u' = .panicking [{ v := .iface 145 (.agg #[.int .i64 c]), recovered := true }] ∧ Below B w w' ∧ w'.cell? ⟨b2, 0, none⟩ = some (.bool false) ∧ w'.cell? ⟨b3, 0, none⟩ = some (.int .i64 c) := by
  have c2 : ∀ o, (w.alloc o).cell? ⟨b2, 0, none⟩ = some x := fun o => by rw [← h2]; exact ((Below.refl _ w).alloc (Nat.le_refl _) o).cell (p := ⟨b2, 0, none⟩) hb2
  have c3 : ∀ o, (w.alloc o).cell? ⟨b3, 0, none⟩ = some y := fun o => by rw [← h3]; exact ((Below.refl _ w).alloc (Nat.le_refl _) o).cell (p := ⟨b3, 0, none⟩) hb3
  have d2 : ∀ o, (w.alloc o).frozen? ⟨b2, 0, none⟩ = false := fun o => by rw [← f2]; exact ((Below.refl _ w).alloc (Nat.le_refl _) o).frozen (p := ⟨b2, 0, none⟩) hb2
  have d3 : ∀ o, (w.alloc o).frozen? ⟨b3, 0, none⟩ = false := fun o => by rw [← f3]; exact ((Below.refl _ w).alloc (Nat.le_refl _) o).frozen (p := ⟨b3, 0, none⟩) hb3
  have ta := ta_yes (.agg #[.int .i64 c])
  refine callsD_of_wpS Tryz.func138 rfl fun c₀ cs hu => ?_
  apply wpS_seq
  apply wpS_region
  simp [wpOpsS, go_sem, recoverD, hu, Mis, Tryz.ntmps138, Exit.thenS]
  refine wpS_of_wp ?_
  simp only [Array.replicate_succ, Array.replicate_zero, List.push_toArray, List.append_toArray, List.nil_append, List.cons_append, List.setIfInBounds_toArray, List.set_cons_succ, List.set_cons_zero]
  go_wp2
  go_region
  go_wp2
  refine ⟨rfl, _, rfl, _, results_none rfl _ _ _, rfl, rfl, ?_, ?_, ?_⟩
  · exact (((Below.refl _ _).setCell (p := ⟨b2, 0, none⟩) hB2 _).setCell (p := ⟨b3, 0, none⟩) hB3 _).alloc (by simp [World.setCell]; omega) _ |>.drew
  · exact two_fst h2 hne hb2 _ _ _
  · exact two_snd h3 hne hb3 _ _ _

set_option maxRecDepth 100000 in
theorem catch_idleBool (b2 b3 : Nat) (w : World) (B : Nat) (hB : B ≤ w.heap.size) :
    CallsD Tryz.prog 138 #[.pointer (some ⟨b2, 0, none⟩), .pointer (some ⟨b3, 0, none⟩)] .returning w fun e u' w' =>
      e = .returned (.tuple #[]) ∧ u' = .returning ∧ Below B w w' ∧ (∀ b o, b < w.heap.size → w'.cell? ⟨b, o, none⟩ = w.cell? ⟨b, o, none⟩) := by
  have ta := ta_nil
  have nn := neq_nil
  refine callsD_of_wpS Tryz.func138 rfl fun c₀ cs hu => ?_
  apply wpS_seq
  apply wpS_region
  simp [wpOpsS, go_sem, recoverD, hu, Tryz.ntmps138, Exit.thenS]
  refine wpS_of_wp ?_
  simp only [Array.replicate_succ, Array.replicate_zero, List.push_toArray, List.append_toArray, List.nil_append, List.cons_append, List.setIfInBounds_toArray, List.set_cons_succ, List.set_cons_zero]
  go_wp2
  refine ⟨rfl, .returning, by cases c₀; simp_all, _, results_none rfl _ _ _, rfl, rfl, (Below.refl _ _).alloc hB _, ?_⟩
  intro b o h
  exact ((Below.refl _ w).alloc (Nat.le_refl _) _).cell (p := ⟨b, o, none⟩) h

set_option maxRecDepth 100000 in
set_option maxHeartbeats 1000000 in
theorem triedBool (f : FuncId) (caps : Array Value) (r : Except Int Bool) (w : World) (hf : ∀ args w, (callFunc f args).run Tryz.prog w = .ok (.enter f args) w)
    (h : ∀ W, Below w.heap.size w W → Calls Tryz.prog f caps W (Do W (r.map (.bool ·)))) :
    Calls Tryz.prog 100 #[.func (.func f) #[] caps] w fun e w' => e = .returned (.tuple #[.bool (valE false r), .int .i64 (errE r)]) ∧ Below w.heap.size w w' := by
  have hmf : ∀ (fn : Fn) (first cap : Array Value) (w : World), (Instr.makeFunc fn first cap).run Tryz.prog w = .ok (.func fn first cap) w := fun _ _ _ _ => rfl
  have H := Lib.hid h
  clear h
  cases r with
  | ok v =>
    go_enter_defers Tryz.func100, Tryz.ntmps100
    go_wp2_with fail
    refine (H.out _ (((Below.refl _ _).alloc (Nat.le_refl _) _).alloc (by simp) _)).mono ?_
    rintro e w1 ⟨he, hb⟩
    simp only [Except.map] at he
    subst he
    have hc := bcell hb
    have hsz := hb.size
    simp only [World.size_alloc] at hc hsz
    have k2 : w1.cell? ⟨w.heap.size, 0, none⟩ = some (.bool false) := by rw [hc.1 _ _ (by omega)]; simp [go_sem]
    have k3 : w1.cell? ⟨w.heap.size + 1, 0, none⟩ = some (.int .i64 0) := by rw [hc.1 _ _ (by omega)]; simp [go_sem]
    have g2 : w1.frozen? ⟨w.heap.size, 0, none⟩ = false := by rw [hc.2 _ _ (by omega)]; simp [go_sem]
    have g3 : w1.frozen? ⟨w.heap.size + 1, 0, none⟩ = false := by rw [hc.2 _ _ (by omega)]; simp [go_sem]
    clear hc
    go_wp2_with fail
    refine leaves_cons (f := 138) (args := #[.pointer (some ⟨w.heap.size, 0, none⟩), .pointer (some ⟨w.heap.size + 1, 0, none⟩)]) (by simp) (by simp [go_sem]) ?_
    have x2 := World.cell?_setCell_same w1 ⟨w.heap.size, 0, none⟩ (.bool v) k2
    have x3 : (w1.setCell ⟨w.heap.size, 0, none⟩ (.bool v)).cell? ⟨w.heap.size + 1, 0, none⟩ = some (.int .i64 0) := by rw [World.cell?_setCell_other _ _ _ _ (by simp)]; exact k3
    have y3 := World.cell?_setCell_same _ ⟨w.heap.size + 1, 0, none⟩ (.int .i64 0) x3
    have y2 : ((w1.setCell ⟨w.heap.size, 0, none⟩ (.bool v)).setCell ⟨w.heap.size + 1, 0, none⟩ (.int .i64 0)).cell? ⟨w.heap.size, 0, none⟩ = some (.bool v) := by rw [World.cell?_setCell_other _ _ _ _ (by simp)]; exact x2
    have bb : Below w.heap.size w ((w1.setCell ⟨w.heap.size, 0, none⟩ (.bool v)).setCell ⟨w.heap.size + 1, 0, none⟩ (.int .i64 0)) :=
      ((((((Below.refl _ _).alloc (Nat.le_refl _) _).alloc (by simp) _).trans (hb.mono (by simp; omega))).setCell (p := ⟨w.heap.size, 0, none⟩) (Nat.le_refl _) _).setCell (p := ⟨w.heap.size + 1, 0, none⟩) (by simp) _)
    have sz : w.heap.size + 1 < ((w1.setCell ⟨w.heap.size, 0, none⟩ (.bool v)).setCell ⟨w.heap.size + 1, 0, none⟩ (.int .i64 0)).heap.size := by simp [World.setCell]; omega
    generalize hW : (w1.setCell ⟨w.heap.size, 0, none⟩ (.bool v)).setCell ⟨w.heap.size + 1, 0, none⟩ (.int .i64 0) = W at *
    refine (catch_idleBool _ _ _ w.heap.size (by omega)).mono ?_
    rintro e u' w2 ⟨rfl, rfl, hb2, hc2⟩
    have z2 := (hc2 w.heap.size 0 (by omega)).trans y2
    have z3 := (hc2 (w.heap.size + 1) 0 (by omega)).trans y3
    refine ⟨.tuple #[.bool v, .int .i64 0], ?_, rfl, bb.trans hb2⟩
    simp [results, Tryz.results100, go_sem, z2, z3]
  | error c =>
    go_enter_defers Tryz.func100, Tryz.ntmps100
    go_wp2_with fail
    refine (H.out _ (((Below.refl _ _).alloc (Nat.le_refl _) _).alloc (by simp) _)).mono ?_
    rintro e w1 ⟨he, hb⟩
    simp only [Except.map] at he
    subst he
    have hc := bcell hb
    have hsz := hb.size
    simp only [World.size_alloc] at hc hsz
    have k2 : w1.cell? ⟨w.heap.size, 0, none⟩ = some (.bool false) := by rw [hc.1 _ _ (by omega)]; simp [go_sem]
    have k3 : w1.cell? ⟨w.heap.size + 1, 0, none⟩ = some (.int .i64 0) := by rw [hc.1 _ _ (by omega)]; simp [go_sem]
    have g2 : w1.frozen? ⟨w.heap.size, 0, none⟩ = false := by rw [hc.2 _ _ (by omega)]; simp [go_sem]
    have g3 : w1.frozen? ⟨w.heap.size + 1, 0, none⟩ = false := by rw [hc.2 _ _ (by omega)]; simp [go_sem]
    clear hc
    refine leaves_cons (f := 138) (args := #[.pointer (some ⟨w.heap.size, 0, none⟩), .pointer (some ⟨w.heap.size + 1, 0, none⟩)]) (by simp) (by simp [go_sem]) ?_
    refine (catch_misBool _ _ c _ _ _ k2 k3 g2 g3 (by omega) w.heap.size (Nat.le_refl _) (by omega) (by omega) (by omega)).mono ?_
    rintro e u' w2 ⟨rfl, rfl, hb2, z2, z3⟩
    refine ⟨.tuple #[(.bool false), .int .i64 c], ?_, rfl, (((Below.refl _ _).alloc (Nat.le_refl _) _).alloc (by simp) _).trans ((hb.mono (by simp; omega)).trans hb2)⟩
    simp [results, Tryz.results100, go_sem, z2, z3]
end Go.Proofs.YthkhhjfldkebcaaGreatDoor
