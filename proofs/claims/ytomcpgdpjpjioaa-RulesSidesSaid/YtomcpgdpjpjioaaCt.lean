/- Contract: CheckThrow. -/
import Derived.Test.YtomcpgdpjpjioaaSu
import Derived.Test.YtomcpgdpjpjioaaSe
namespace Go.Proofs.Ytomcpgdpjpjioaa
open Go.RowKit Go.Proofs Go.Shelf
attribute [local go_sem] Oper.semAt_some

/-- A throw's six cells. -/
def Th6 (w : World) (b : Nat) (x : Th) (u : Value) : Prop :=
  w.cell? ⟨b, 0, none⟩ = some (.int .i64 x.team) ∧ w.cell? ⟨b, 1, none⟩ = some (.int .i64 x.n) ∧ w.cell? ⟨b, 2, none⟩ = some (.bool x.late) ∧ w.cell? ⟨b, 3, none⟩ = some (.bool x.short) ∧ w.cell? ⟨b, 4, none⟩ = some (.int .i64 x.how) ∧ w.cell? ⟨b, 5, none⟩ = some u
theorem Th6.up {w w' : World} {b : Nat} {x : Th} {u : Value} (h : Th6 w b x u) (hb : Below w.heap.size w w') : Th6 w' b x u := by
  obtain ⟨h0, h1, h2, h3, h4, h5⟩ := h
  exact ⟨upc h0 hb, upc h1 hb, upc h2 hb, upc h3 hb, upc h4 hb, upc h5 hb⟩
theorem Th6.new (w : World) (x : Th) (u : Value) : Th6 (w.alloc (Tho x u)) w.heap.size x u := ⟨by simp [go_sem], by simp [go_sem], by simp [go_sem], by simp [go_sem], by simp [go_sem], by simp [go_sem]⟩
theorem Th6.kept {w w' : World} {b : Nat} {x : Th} {u : Value} {row : Option Nat} (h : Th6 w b x u) (hg : w.grownBy w' row) (hne : some b ≠ row) : Th6 w' b x u := by
  obtain ⟨h0, h1, h2, h3, h4, h5⟩ := h
  exact ⟨hg.cell h0 hne, hg.cell h1 hne, hg.cell h2 hne, hg.cell h3 hne, hg.cell h4 hne, hg.cell h5 hne⟩
/-- A throw's parts are valid. -/
def thrA (l m : List St) (x : Th) : Bool := chkB l && chkB m && decide (0 ≤ x.team ∧ x.team ≤ 1) && decide (0 ≤ x.n ∧ x.n ≤ 7) && decide (0 ≤ x.how ∧ x.how ≤ 4)
/-- A throw is valid. -/
def thrB (l m : List St) (x : Th) : Bool :=
  thrA l m x && !(lookT l x.team x.n).isSome && m.all (fun s => (lookT l s.t s.n).isSome || eqK s.t s.n x.team x.n) && (!x.short || eqL (srt l) (srt m))

set_option maxRecDepth 100000 in
set_option maxHeartbeats 4000000 in
/-- A throw with a part that is not valid. -/
theorem CheckThrow_no (l m : List St) (x : Th) (v u : Value) (w : World) (hv : RowS w v l) (hu : RowS w u m) (hno : thrA l m x = false) : Calls Try.prog 19 #[v, Thv x u] w (Back (.bool false) w) := by
  obtain ⟨A, c, rfl⟩ : ∃ A c, v = .slice A l.length c := hv.form
  obtain ⟨A2, c2, rfl⟩ : ∃ A c, u = .slice A m.length c := hu.form
  have B : Hid (Below w.heap.size w (w.alloc (Tho x (.slice A2 m.length c2)))) := (Below.refl _ _).alloc (Nat.le_refl _) _
  have K := Lib.hid (Th6.new w x (.slice A2 m.length c2))
  have H32 : Hid (∀ W, Below w.heap.size w W → Calls Try.prog 32 #[.slice A l.length c] W (Back (.bool (chkB l)) W)) := fun W hW => Check_any l _ W (hv.up hW)
  have H32b : Hid (∀ W, Below w.heap.size w W → Calls Try.prog 32 #[.slice A2 m.length c2] W (Back (.bool (chkB m)) W)) := fun W hW => Check_any m _ W (hu.up hW)
  have H33 : Hid (∀ w, Calls Try.prog 33 #[.int .i64 x.team, .int .i64 0, .int .i64 1] w fun e w' => e = .returned (.bool (decide (0 ≤ x.team ∧ x.team ≤ 1))) ∧ w = w') := fun w => rwithin _ _ _ w
  have H34 : Hid (∀ w, Calls Try.prog 33 #[.int .i64 x.n, .int .i64 0, .int .i64 7] w fun e w' => e = .returned (.bool (decide (0 ≤ x.n ∧ x.n ≤ 7))) ∧ w = w') := fun w => rwithin _ _ _ w
  have H35 : Hid (∀ w, Calls Try.prog 33 #[.int .i64 x.how, .int .i64 0, .int .i64 4] w fun e w' => e = .returned (.bool (decide (0 ≤ x.how ∧ x.how ≤ 4))) ∧ w = w') := fun w => rwithin _ _ _ w
  obtain ⟨k0, hk0⟩ : ∃ k, chkB l = k := ⟨_, rfl⟩
  obtain ⟨k1, hk1⟩ : ∃ k, chkB m = k := ⟨_, rfl⟩
  obtain ⟨k2, hk2⟩ : ∃ k, decide (0 ≤ x.team ∧ x.team ≤ 1) = k := ⟨_, rfl⟩
  obtain ⟨k3, hk3⟩ : ∃ k, decide (0 ≤ x.n ∧ x.n ≤ 7) = k := ⟨_, rfl⟩
  obtain ⟨k4, hk4⟩ : ∃ k, decide (0 ≤ x.how ∧ x.how ≤ 4) = k := ⟨_, rfl⟩
  have HN : (k0 && k1 && k2 && k3 && k4) = false := by rw [← hno, ← hk0, ← hk1, ← hk2, ← hk3, ← hk4]; rfl
  rw [hk0] at H32
  rw [hk1] at H32b
  rw [hk2] at H33
  rw [hk3] at H34
  rw [hk4] at H35
  clear hk0 hk1 hk2 hk3 hk4 hv hu hno
  obtain ⟨x1, x2, x3, x4, x5⟩ := x
  rcases k0 with _ | _ <;> rcases k1 with _ | _ <;> rcases k2 with _ | _ <;> rcases k3 with _ | _ <;> rcases k4 with _ | _
  case true.true.true.true.true => cases HN
  all_goals
    clear HN
    go_enter Try.func19, Try.ntmps19
    go_wp2_with (first
      | (go_at_call 32; (with_reducible refine (H32.out _ B.out).mono ?_); rintro e w1 ⟨rfl, hb1⟩; replace K := Lib.hid (K.out.up hb1); replace B := Lib.hid (B.out.trans (hb1.mono B.out.size)); clear hb1; obtain ⟨a0, a1, a2, a3, a4, a5⟩ := K.out)
      | (go_at_call 32; (with_reducible refine (H32b.out _ B.out).mono ?_); rintro e w1 ⟨rfl, hb1⟩; replace K := Lib.hid (K.out.up hb1); replace B := Lib.hid (B.out.trans (hb1.mono B.out.size)); clear hb1; obtain ⟨a0, a1, a2, a3, a4, a5⟩ := K.out)
      | (go_at_call 33; (with_reducible refine (H33.out _).mono ?_); rintro e w1 ⟨rfl, rfl⟩)
      | (go_at_call 33; (with_reducible refine (H34.out _).mono ?_); rintro e w1 ⟨rfl, rfl⟩)
      | (go_at_call 33; (with_reducible refine (H35.out _).mono ?_); rintro e w1 ⟨rfl, rfl⟩))
    exact bodyPost_ret (v := .bool false) (by simp [results, Try.results19, go_sem]) rfl ⟨rfl, B.out⟩
end Go.Proofs.Ytomcpgdpjpjioaa
