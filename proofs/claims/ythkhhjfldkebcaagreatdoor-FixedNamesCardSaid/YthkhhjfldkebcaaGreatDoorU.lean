/- Contracts of sums: add, sub, Add, Sub, Check, Of. -/
import Derived.Test.YthkhhjfldkebcaaGreatDoorT
namespace Go.Proofs.YthkhhjfldkebcaaGreatDoor
open Go.RowKit Go.Proofs Go.Shelf
theorem right1_ok (a : Int) (B : Nat) (w : World) (h : Val a) (c0 : w.cell? ⟨B, 0, none⟩ = some (.int .i64 a)) :
    Calls Tryz.prog 59 #[.slice (some ⟨B, 0, none⟩) 1 1] w fun e w' => e = .returned (.tuple #[]) ∧ w = w' :=
  right_ok [a] B 1 w (by simp) (fun i hi => by
    have : i = 0 := by simp at hi; omega
    rcases this with rfl
    · exact c0) (by simpa using h)
theorem right1_no (a : Int) (B : Nat) (w : World) (h : ¬ (Val a)) (c0 : w.cell? ⟨B, 0, none⟩ = some (.int .i64 a)) :
    Calls Tryz.prog 59 #[.slice (some ⟨B, 0, none⟩) 1 1] w fun e w' => e = .panicked (Mis 2) ∧ w = w' :=
  right_no [a] B 1 w (by simp) (fun i hi => by
    have : i = 0 := by simp at hi; omega
    rcases this with rfl
    · exact c0) (by simpa using h)
theorem right2_ok (a b : Int) (B : Nat) (w : World) (h : Val a ∧ Val b) (c0 : w.cell? ⟨B, 0, none⟩ = some (.int .i64 a)) (c1 : w.cell? ⟨B, 1, none⟩ = some (.int .i64 b)) :
    Calls Tryz.prog 59 #[.slice (some ⟨B, 0, none⟩) 2 2] w fun e w' => e = .returned (.tuple #[]) ∧ w = w' :=
  right_ok [a, b] B 2 w (by simp) (fun i hi => by
    have : i = 0 ∨ i = 1 := by simp at hi; omega
    rcases this with rfl | rfl
    · exact c0
    · exact c1) (by simpa using h)
theorem right2_no (a b : Int) (B : Nat) (w : World) (h : ¬ (Val a ∧ Val b)) (c0 : w.cell? ⟨B, 0, none⟩ = some (.int .i64 a)) (c1 : w.cell? ⟨B, 1, none⟩ = some (.int .i64 b)) :
    Calls Tryz.prog 59 #[.slice (some ⟨B, 0, none⟩) 2 2] w fun e w' => e = .panicked (Mis 2) ∧ w = w' :=
  right_no [a, b] B 2 w (by simp) (fun i hi => by
    have : i = 0 ∨ i = 1 := by simp at hi; omega
    rcases this with rfl | rfl
    · exact c0
    · exact c1) (by simpa using h)
theorem right3_ok (a b c : Int) (B : Nat) (w : World) (h : Val a ∧ Val b ∧ Val c) (c0 : w.cell? ⟨B, 0, none⟩ = some (.int .i64 a)) (c1 : w.cell? ⟨B, 1, none⟩ = some (.int .i64 b)) (c2 : w.cell? ⟨B, 2, none⟩ = some (.int .i64 c)) :
    Calls Tryz.prog 59 #[.slice (some ⟨B, 0, none⟩) 3 3] w fun e w' => e = .returned (.tuple #[]) ∧ w = w' :=
  right_ok [a, b, c] B 3 w (by simp) (fun i hi => by
    have : i = 0 ∨ i = 1 ∨ i = 2 := by simp at hi; omega
    rcases this with rfl | rfl | rfl
    · exact c0
    · exact c1
    · exact c2) (by simpa using h)
theorem right3_no (a b c : Int) (B : Nat) (w : World) (h : ¬ (Val a ∧ Val b ∧ Val c)) (c0 : w.cell? ⟨B, 0, none⟩ = some (.int .i64 a)) (c1 : w.cell? ⟨B, 1, none⟩ = some (.int .i64 b)) (c2 : w.cell? ⟨B, 2, none⟩ = some (.int .i64 c)) :
    Calls Tryz.prog 59 #[.slice (some ⟨B, 0, none⟩) 3 3] w fun e w' => e = .panicked (Mis 2) ∧ w = w' :=
  right_no [a, b, c] B 3 w (by simp) (fun i hi => by
    have : i = 0 ∨ i = 1 ∨ i = 2 := by simp at hi; omega
    rcases this with rfl | rfl | rfl
    · exact c0
    · exact c1
    · exact c2) (by simpa using h)
theorem right4_ok (a b c d : Int) (B : Nat) (w : World) (h : Val a ∧ Val b ∧ Val c ∧ Val d) (c0 : w.cell? ⟨B, 0, none⟩ = some (.int .i64 a)) (c1 : w.cell? ⟨B, 1, none⟩ = some (.int .i64 b)) (c2 : w.cell? ⟨B, 2, none⟩ = some (.int .i64 c)) (c3 : w.cell? ⟨B, 3, none⟩ = some (.int .i64 d)) :
    Calls Tryz.prog 59 #[.slice (some ⟨B, 0, none⟩) 4 4] w fun e w' => e = .returned (.tuple #[]) ∧ w = w' :=
  right_ok [a, b, c, d] B 4 w (by simp) (fun i hi => by
    have : i = 0 ∨ i = 1 ∨ i = 2 ∨ i = 3 := by simp at hi; omega
    rcases this with rfl | rfl | rfl | rfl
    · exact c0
    · exact c1
    · exact c2
    · exact c3) (by simpa using h)
theorem right4_no (a b c d : Int) (B : Nat) (w : World) (h : ¬ (Val a ∧ Val b ∧ Val c ∧ Val d)) (c0 : w.cell? ⟨B, 0, none⟩ = some (.int .i64 a)) (c1 : w.cell? ⟨B, 1, none⟩ = some (.int .i64 b)) (c2 : w.cell? ⟨B, 2, none⟩ = some (.int .i64 c)) (c3 : w.cell? ⟨B, 3, none⟩ = some (.int .i64 d)) :
    Calls Tryz.prog 59 #[.slice (some ⟨B, 0, none⟩) 4 4] w fun e w' => e = .panicked (Mis 2) ∧ w = w' :=
  right_no [a, b, c, d] B 4 w (by simp) (fun i hi => by
    have : i = 0 ∨ i = 1 ∨ i = 2 ∨ i = 3 := by simp at hi; omega
    rcases this with rfl | rfl | rfl | rfl
    · exact c0
    · exact c1
    · exact c2
    · exact c3) (by simpa using h)

/-- A size with a sign, if it is a number. -/
def fitR (q : Int) (neg : Bool) : Except Int Int := if q ≤ 70368744177664 then .ok (sgn q neg) else .error 4
theorem QuotOut.toDo {w w' : World} {q : Int} {neg : Bool} {e : Ending} (h : QuotOut w q neg e w') : Do w ((fitR q neg).map (.int .i64 ·)) e w' := by
  obtain ⟨h1, h2⟩ := h
  unfold fitR
  by_cases hq : q ≤ 70368744177664
  · rw [if_pos hq] at h1 ⊢; exact ⟨h1, h2⟩
  · rw [if_neg hq] at h1 ⊢; exact ⟨h1, h2⟩
theorem Do.ok {w w' : World} {v : Value} {r : Except Int Value} (hr : r = .ok v) (hb : Below w.heap.size w w') : Do w r (.returned v) w' := by subst hr; exact ⟨rfl, hb⟩
theorem Do.no {w w' : World} {c : Int} {r : Except Int Value} (hr : r = .error c) (hb : Below w.heap.size w w') : Do w r (.panicked (Mis c)) w' := by subst hr; exact ⟨rfl, hb⟩
theorem Do.at_ok {w w' : World} {v : Value} {e : Ending} (h : Do w (.ok v) e w') : e = .returned v ∧ Below w.heap.size w w' := h
theorem Do.at_no {w w' : World} {c : Int} {e : Ending} (h : Do w (.error c) e w') : e = .panicked (Mis c) ∧ Below w.heap.size w w' := h

/-- What add, sub come to. -/
def sumR (s : Int) (v : Prop) [Decidable v] : Except Int Int := if v then (if -70368744177664 ≤ s ∧ s ≤ 70368744177664 then .ok s else .error 4) else .error 2
theorem sgn_sz (s : Int) : sgn (sz s) (decide (s < 0)) = s := by unfold sgn sz; by_cases h : s < 0 <;> simp [h]
theorem sz_le_iff (s m : Int) : sz s ≤ m ↔ (-m ≤ s ∧ s ≤ m) := by unfold sz; split <;> omega

set_option maxHeartbeats 1000000 in
theorem add_any (a b : Int) (w : World) :
    Calls Tryz.prog 75 #[.int .i64 a, .int .i64 b] w (Do w ((sumR (a + b) (Val a ∧ Val b)).map (.int .i64 ·))) := by
  by_cases hv : Val a ∧ Val b
  · have HV := Lib.hid hv
    obtain ⟨⟨v1, v2⟩, v3, v4⟩ := hv
    obtain ⟨s, hs⟩ : ∃ s, a + b = s := ⟨_, rfl⟩
    have hs1 : -140737488355328 ≤ s := by omega
    have hs2 : s ≤ 140737488355328 := by omega
    obtain ⟨ng, hng⟩ : ∃ ng, decide (s < 0) = ng := ⟨_, rfl⟩
    have HN := Lib.hid hng
    have HS := Lib.hid hs
    have sz0 := sz_nn s
    by_cases hq : sz s ≤ 70368744177664
    · have HR : Hid (sumR (a + b) (Val a ∧ Val b) = .ok s) := by show _ = _; unfold sumR; rw [if_pos HV.out, HS.out, if_pos ((sz_le_iff _ _).1 hq)]
      go_enter Tryz.func75, Tryz.ntmps75
      go_wp2_with (first
        | (go_at_call 59; refine (right2_ok a b _ _ HV.out (by simp [go_sem]) (by simp [go_sem])).mono ?_; rintro e w' ⟨rfl, rfl⟩)
        | (go_at_call 63; refine (size_any _ _ (by omega) (by omega)).mono ?_; rintro e w' ⟨rfl, rfl⟩)
        | (go_at_call 85; refine (signed_ok _ _ _ sz0 hq).mono ?_; rintro e w' ⟨rfl, rfl⟩))
      go_ret
      have e : sgn (sz s) ng = s := by rw [← HN.out]; exact sgn_sz s
      exact Do.ok (by rw [HR.out]; exact congrArg (fun x => (Except.ok (Value.int .i64 x) : Except Int Value)) e.symm) ((Below.refl _ _).alloc (Nat.le_refl _) _)
    · have hq' : decide (sz s ≤ 70368744177664) = false := by simpa using hq
      have HR : Hid (sumR (a + b) (Val a ∧ Val b) = .error 4) := by show _ = _; unfold sumR; rw [if_pos HV.out, HS.out, if_neg (fun h => hq ((sz_le_iff _ _).2 h))]
      clear hq
      go_enter Tryz.func75, Tryz.ntmps75
      go_wp2_with (first
        | (go_at_call 59; refine (right2_ok a b _ _ HV.out (by simp [go_sem]) (by simp [go_sem])).mono ?_; rintro e w' ⟨rfl, rfl⟩)
        | (go_at_call 63; refine (size_any _ _ (by omega) (by omega)).mono ?_; rintro e w' ⟨rfl, rfl⟩)
        | (go_at_call 85; refine (signed_no _ _ _ hq').mono ?_; rintro e w' ⟨rfl, rfl⟩))
      exact ⟨rfl, Do.no (by rw [HR.out]; rfl) ((Below.refl _ _).alloc (Nat.le_refl _) _)⟩
  · have HV := Lib.hid hv
    have HR : Hid (sumR (a + b) (Val a ∧ Val b) = .error 2) := by show _ = _; unfold sumR; rw [if_neg hv]
    clear hv
    go_enter Tryz.func75, Tryz.ntmps75
    go_wp2_with (go_at_call 59; refine (right2_no a b _ _ HV.out (by simp [go_sem]) (by simp [go_sem])).mono ?_; rintro e w' ⟨rfl, rfl⟩)
    exact ⟨rfl, Do.no (by rw [HR.out]; rfl) ((Below.refl _ _).alloc (Nat.le_refl _) _)⟩

set_option maxHeartbeats 1000000 in
theorem sub_any (a b : Int) (w : World) :
    Calls Tryz.prog 78 #[.int .i64 a, .int .i64 b] w (Do w ((sumR (a - b) (Val a ∧ Val b)).map (.int .i64 ·))) := by
  by_cases hv : Val a ∧ Val b
  · have HV := Lib.hid hv
    obtain ⟨⟨v1, v2⟩, v3, v4⟩ := hv
    obtain ⟨s, hs⟩ : ∃ s, a - b = s := ⟨_, rfl⟩
    have hs1 : -140737488355328 ≤ s := by omega
    have hs2 : s ≤ 140737488355328 := by omega
    obtain ⟨ng, hng⟩ : ∃ ng, decide (s < 0) = ng := ⟨_, rfl⟩
    have HN := Lib.hid hng
    have HS := Lib.hid hs
    have sz0 := sz_nn s
    by_cases hq : sz s ≤ 70368744177664
    · have HR : Hid (sumR (a - b) (Val a ∧ Val b) = .ok s) := by show _ = _; unfold sumR; rw [if_pos HV.out, HS.out, if_pos ((sz_le_iff _ _).1 hq)]
      go_enter Tryz.func78, Tryz.ntmps78
      go_wp2_with (first
        | (go_at_call 59; refine (right2_ok a b _ _ HV.out (by simp [go_sem]) (by simp [go_sem])).mono ?_; rintro e w' ⟨rfl, rfl⟩)
        | (go_at_call 63; refine (size_any _ _ (by omega) (by omega)).mono ?_; rintro e w' ⟨rfl, rfl⟩)
        | (go_at_call 85; refine (signed_ok _ _ _ sz0 hq).mono ?_; rintro e w' ⟨rfl, rfl⟩))
      go_ret
      have e : sgn (sz s) ng = s := by rw [← HN.out]; exact sgn_sz s
      exact Do.ok (by rw [HR.out]; exact congrArg (fun x => (Except.ok (Value.int .i64 x) : Except Int Value)) e.symm) ((Below.refl _ _).alloc (Nat.le_refl _) _)
    · have hq' : decide (sz s ≤ 70368744177664) = false := by simpa using hq
      have HR : Hid (sumR (a - b) (Val a ∧ Val b) = .error 4) := by show _ = _; unfold sumR; rw [if_pos HV.out, HS.out, if_neg (fun h => hq ((sz_le_iff _ _).2 h))]
      clear hq
      go_enter Tryz.func78, Tryz.ntmps78
      go_wp2_with (first
        | (go_at_call 59; refine (right2_ok a b _ _ HV.out (by simp [go_sem]) (by simp [go_sem])).mono ?_; rintro e w' ⟨rfl, rfl⟩)
        | (go_at_call 63; refine (size_any _ _ (by omega) (by omega)).mono ?_; rintro e w' ⟨rfl, rfl⟩)
        | (go_at_call 85; refine (signed_no _ _ _ hq').mono ?_; rintro e w' ⟨rfl, rfl⟩))
      exact ⟨rfl, Do.no (by rw [HR.out]; rfl) ((Below.refl _ _).alloc (Nat.le_refl _) _)⟩
  · have HV := Lib.hid hv
    have HR : Hid (sumR (a - b) (Val a ∧ Val b) = .error 2) := by show _ = _; unfold sumR; rw [if_neg hv]
    clear hv
    go_enter Tryz.func78, Tryz.ntmps78
    go_wp2_with (go_at_call 59; refine (right2_no a b _ _ HV.out (by simp [go_sem]) (by simp [go_sem])).mono ?_; rintro e w' ⟨rfl, rfl⟩)
    exact ⟨rfl, Do.no (by rw [HR.out]; rfl) ((Below.refl _ _).alloc (Nat.le_refl _) _)⟩

theorem cl74 (p q : Nat) (a b : Int) (w : World) (hp : w.cell? ⟨p, 0, none⟩ = some (.int .i64 a)) (hq : w.cell? ⟨q, 0, none⟩ = some (.int .i64 b)) :
    Calls Tryz.prog 74 #[.pointer (some ⟨p, 0, none⟩), .pointer (some ⟨q, 0, none⟩)] w (Do w ((sumR (a + b) (Val a ∧ Val b)).map (.int .i64 ·))) := by
  obtain ⟨r, hr⟩ : ∃ r, sumR (a + b) (Val a ∧ Val b) = r := ⟨_, rfl⟩
  have HC : Hid (∀ w, Calls Tryz.prog 75 #[.int .i64 a, .int .i64 b] w (Do w (r.map (.int .i64 ·)))) := fun w => by rw [← hr]; exact add_any a b w
  rw [hr]
  clear hr
  cases r with
  | ok v =>
    go_enter Tryz.func74, Tryz.ntmps74
    go_wp2_with (go_at_call 75; refine (HC.out _).mono ?_; rintro e w1 h; obtain ⟨rfl, hb⟩ := Do.at_ok h)
    go_ret
    exact Do.ok rfl hb
  | error m =>
    go_enter Tryz.func74, Tryz.ntmps74
    go_wp2_with (go_at_call 75; refine (HC.out _).mono ?_; rintro e w1 h; obtain ⟨rfl, hb⟩ := Do.at_no h)
    exact ⟨rfl, Do.no rfl hb⟩

theorem cl77 (p q : Nat) (a b : Int) (w : World) (hp : w.cell? ⟨p, 0, none⟩ = some (.int .i64 a)) (hq : w.cell? ⟨q, 0, none⟩ = some (.int .i64 b)) :
    Calls Tryz.prog 77 #[.pointer (some ⟨p, 0, none⟩), .pointer (some ⟨q, 0, none⟩)] w (Do w ((sumR (a - b) (Val a ∧ Val b)).map (.int .i64 ·))) := by
  obtain ⟨r, hr⟩ : ∃ r, sumR (a - b) (Val a ∧ Val b) = r := ⟨_, rfl⟩
  have HC : Hid (∀ w, Calls Tryz.prog 78 #[.int .i64 a, .int .i64 b] w (Do w (r.map (.int .i64 ·)))) := fun w => by rw [← hr]; exact sub_any a b w
  rw [hr]
  clear hr
  cases r with
  | ok v =>
    go_enter Tryz.func77, Tryz.ntmps77
    go_wp2_with (go_at_call 78; refine (HC.out _).mono ?_; rintro e w1 h; obtain ⟨rfl, hb⟩ := Do.at_ok h)
    go_ret
    exact Do.ok rfl hb
  | error m =>
    go_enter Tryz.func77, Tryz.ntmps77
    go_wp2_with (go_at_call 78; refine (HC.out _).mono ?_; rintro e w1 h; obtain ⟨rfl, hb⟩ := Do.at_no h)
    exact ⟨rfl, Do.no rfl hb⟩

/-- What Check comes to. -/
def checkR (a : Int) : Except Int Int := if Val a then .ok 0 else .error 2
theorem cl79 (p : Nat) (a : Int) (w : World) (hp : w.cell? ⟨p, 0, none⟩ = some (.int .i64 a)) :
    Calls Tryz.prog 79 #[.pointer (some ⟨p, 0, none⟩)] w (Do w ((checkR a).map (.int .i64 ·))) := by
  unfold checkR
  by_cases hv : Val a
  · have HV := Lib.hid hv
    rw [if_pos hv]
    clear hv
    go_enter Tryz.func79, Tryz.ntmps79
    go_wp2_with (go_at_call 59; refine (right1_ok a _ _ HV.out (by simp [go_sem])).mono ?_; rintro e w' ⟨rfl, rfl⟩)
    go_ret
    exact Do.ok rfl ((Below.refl _ _).alloc (Nat.le_refl _) _)
  · have HV := Lib.hid hv
    rw [if_neg hv]
    clear hv
    go_enter Tryz.func79, Tryz.ntmps79
    go_wp2_with (go_at_call 59; refine (right1_no a _ _ HV.out (by simp [go_sem])).mono ?_; rintro e w' ⟨rfl, rfl⟩)
    exact ⟨rfl, Do.no rfl ((Below.refl _ _).alloc (Nat.le_refl _) _)⟩

set_option maxHeartbeats 1000000 in
theorem Add_any (a b : Int) (w : World) :
    Calls Tryz.prog 21 #[.int .i64 a, .int .i64 b] w fun e w' => e = .returned (.tuple #[.int .i64 (valE 0 (sumR (a + b) (Val a ∧ Val b))), .int .i64 (errE (sumR (a + b) (Val a ∧ Val b)))]) ∧ Below w.heap.size w w' := by
  have hmf : ∀ (fn : Fn) (first cap : Array Value) (w : World), (Instr.makeFunc fn first cap).run Tryz.prog w = .ok (.func fn first cap) w := fun _ _ _ _ => rfl
  have hcl : ∀ W, Below ((w.alloc (.cells #[.int .i64 a] 23)).alloc (.cells #[.int .i64 b] 23)).heap.size ((w.alloc (.cells #[.int .i64 a] 23)).alloc (.cells #[.int .i64 b] 23)) W → Calls Tryz.prog 74 #[.pointer (some ⟨w.heap.size, 0, none⟩), .pointer (some ⟨w.heap.size + 1, 0, none⟩)] W (Do W ((sumR (a + b) (Val a ∧ Val b)).map (.int .i64 ·))) := by
    intro W hW
    have hc := (bcell hW).1
    simp only [World.size_alloc] at hc
    have c0 : W.cell? ⟨w.heap.size, 0, none⟩ = some (.int .i64 a) := by rw [hc _ _ (by omega)]; simp [go_sem]
    have c1 : W.cell? ⟨w.heap.size + 1, 0, none⟩ = some (.int .i64 b) := by rw [hc _ _ (by omega)]; simp [go_sem]
    exact cl74 _ _ a b W c0 c1
  have HC := Lib.hid hcl
  clear hcl
  go_enter Tryz.func21, Tryz.ntmps21
  go_wp2_with (go_at_call 54; refine (triedFix 74 _ _ _ (enters_of Tryz.func74 (by kernel_rfl) rfl) HC.out).mono ?_; rintro e w1 ⟨rfl, hb⟩)
  go_ret2
  exact ⟨rfl, (((Below.refl _ _).alloc (Nat.le_refl _) _).alloc (by simp) _).trans (hb.mono (by simp; omega))⟩

set_option maxHeartbeats 1000000 in
theorem Sub_any (a b : Int) (w : World) :
    Calls Tryz.prog 23 #[.int .i64 a, .int .i64 b] w fun e w' => e = .returned (.tuple #[.int .i64 (valE 0 (sumR (a - b) (Val a ∧ Val b))), .int .i64 (errE (sumR (a - b) (Val a ∧ Val b)))]) ∧ Below w.heap.size w w' := by
  have hmf : ∀ (fn : Fn) (first cap : Array Value) (w : World), (Instr.makeFunc fn first cap).run Tryz.prog w = .ok (.func fn first cap) w := fun _ _ _ _ => rfl
  have hcl : ∀ W, Below ((w.alloc (.cells #[.int .i64 a] 23)).alloc (.cells #[.int .i64 b] 23)).heap.size ((w.alloc (.cells #[.int .i64 a] 23)).alloc (.cells #[.int .i64 b] 23)) W → Calls Tryz.prog 77 #[.pointer (some ⟨w.heap.size, 0, none⟩), .pointer (some ⟨w.heap.size + 1, 0, none⟩)] W (Do W ((sumR (a - b) (Val a ∧ Val b)).map (.int .i64 ·))) := by
    intro W hW
    have hc := (bcell hW).1
    simp only [World.size_alloc] at hc
    have c0 : W.cell? ⟨w.heap.size, 0, none⟩ = some (.int .i64 a) := by rw [hc _ _ (by omega)]; simp [go_sem]
    have c1 : W.cell? ⟨w.heap.size + 1, 0, none⟩ = some (.int .i64 b) := by rw [hc _ _ (by omega)]; simp [go_sem]
    exact cl77 _ _ a b W c0 c1
  have HC := Lib.hid hcl
  clear hcl
  go_enter Tryz.func23, Tryz.ntmps23
  go_wp2_with (go_at_call 54; refine (triedFix 77 _ _ _ (enters_of Tryz.func77 (by kernel_rfl) rfl) HC.out).mono ?_; rintro e w1 ⟨rfl, hb⟩)
  go_ret2
  exact ⟨rfl, (((Below.refl _ _).alloc (Nat.le_refl _) _).alloc (by simp) _).trans (hb.mono (by simp; omega))⟩

set_option maxHeartbeats 1000000 in
theorem Check_any (a : Int) (w : World) :
    Calls Tryz.prog 25 #[.int .i64 a] w fun e w' => e = .returned (.int .i64 (errE (checkR a))) ∧ Below w.heap.size w w' := by
  have hmf : ∀ (fn : Fn) (first cap : Array Value) (w : World), (Instr.makeFunc fn first cap).run Tryz.prog w = .ok (.func fn first cap) w := fun _ _ _ _ => rfl
  have hcl : ∀ W, Below (w.alloc (.cells #[.int .i64 a] 23)).heap.size (w.alloc (.cells #[.int .i64 a] 23)) W → Calls Tryz.prog 79 #[.pointer (some ⟨w.heap.size, 0, none⟩)] W (Do W ((checkR a).map (.int .i64 ·))) := by
    intro W hW
    have hc := (bcell hW).1
    simp only [World.size_alloc] at hc
    have c0 : W.cell? ⟨w.heap.size, 0, none⟩ = some (.int .i64 a) := by rw [hc _ _ (by omega)]; simp [go_sem]
    exact cl79 _ a W c0
  have HC := Lib.hid hcl
  clear hcl
  go_enter Tryz.func25, Tryz.ntmps25
  go_wp2_with (go_at_call 67; refine (triedInt 79 _ _ _ (enters_of Tryz.func79 (by kernel_rfl) rfl) HC.out).mono ?_; rintro e w1 ⟨rfl, hb⟩)
  go_ret
  exact ⟨rfl, ((Below.refl _ _).alloc (Nat.le_refl _) _).trans (hb.mono (by simp))⟩

/-- What Of comes to. -/
def ofR (n : Int) : Except Int Int := if -1073741824 ≤ n ∧ n ≤ 1073741824 then .ok (n * 65536) else .error 4
theorem Of_any (n : Int) (w : World) : Calls Tryz.prog 17 #[.int .i64 n] w fun e w' => e = .returned (.tuple #[.int .i64 (valE 0 (ofR n)), .int .i64 (errE (ofR n))]) ∧ Below w.heap.size w w' := by
  by_cases h1 : n < -1073741824
  · have HR : Hid (ofR n = .error 4) := by show _ = _; unfold ofR; rw [if_neg (by omega)]
    go_enter Tryz.func17, Tryz.ntmps17
    go_wp2
    go_ret2
    exact ⟨by rw [HR.out]; rfl, Below.refl _ _⟩
  · by_cases h2 : 1073741824 < n
    · have HR : Hid (ofR n = .error 4) := by show _ = _; unfold ofR; rw [if_neg (by omega)]
      go_enter Tryz.func17, Tryz.ntmps17
      go_wp2
      go_ret2
      exact ⟨by rw [HR.out]; rfl, Below.refl _ _⟩
    · have HR : Hid (ofR n = .ok (n * 65536)) := by show _ = _; unfold ofR; rw [if_pos (by omega)]
      have h3 : -1073741824 ≤ n := by omega
      have h4 : n ≤ 1073741824 := by omega
      clear h1 h2
      go_enter Tryz.func17, Tryz.ntmps17
      go_wp2
      go_ret2
      exact ⟨by rw [HR.out]; rfl, Below.refl _ _⟩
end Go.Proofs.YthkhhjfldkebcaaGreatDoor
