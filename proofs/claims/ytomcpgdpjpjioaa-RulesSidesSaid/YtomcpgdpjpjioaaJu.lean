/- Contract: Judge. -/
import Derived.Test.YtomcpgdpjpjioaaJg
import Derived.Test.YtomcpgdpjpjioaaDf
namespace Go.Proofs.Ytomcpgdpjpjioaa
open Go.RowKit Go.Proofs Go.Shelf
attribute [local go_sem] Oper.semAt_some

theorem results_r3e {fn : Func} {t t2 : Tmp} {b : Nat} {r ch : Int} {v : Value} (hf : fn.results = #[.cell t 40, .tmp t2]) (tmps : Array Value) (w : World) (ht : tmps.getD t undef = .pointer (some ⟨b, 0, none⟩)) (h : R3 w b r ch v) (hv : ∃ A n c, v = .slice A n c) :
    (results fn tmps).run Try.prog w = .ok (.tuple #[Rlv r ch v, tmps.getD t2 undef]) w := by
  obtain ⟨A, n, c, rfl⟩ := hv
  have hl : (loadCells ⟨b, 0, none⟩ 3).run Try.prog w = .ok (Rlv r ch (.slice A n c)).cells w :=
    run_loadCells_list (P := Try.prog) w ⟨b, 0, none⟩ (r3C r ch (.slice A n c)) (fun j v hv => by
      have hj : j < 3 := by
        have := (List.getElem?_eq_some_iff.1 hv).1
        simpa [r3C] using this
      rw [Addr.add_mid, Nat.zero_add, (h j hj).1]; exact hv)
  have hz : (loadVar 40 ⟨b, 0, none⟩).run Try.prog w = .ok (Rlv r ch (.slice A n c)) w := by
    have h1 : (isAgg 40).run Try.prog w = .ok true w := by kernel_rfl
    have h2 : (sizeOf 40).run Try.prog w = .ok 3 w := by kernel_rfl
    simp only [loadVar, Sem.run_bind, h1, h2, hl, Result.andThen_ok, Sem.run_pure, if_true]; rfl
  have hz' : (asAddr (tmps.getD t undef)).run Try.prog w = .ok ⟨b, 0, none⟩ w := by rw [ht]; rfl
  simp only [Array.getD_eq_getD_getElem?] at hz' ⊢
  simp [results, hf, hz', hz]
/-- Why Judge does not answer, and what it answers. -/
def juE (c : Cd) (n : Int) (x : Th) (l m : List St) : Int := if ccB c && thrB l m x then (if 0 ≤ n ∧ n ≤ 16 then 0 else 4) else 2
def juN (c : Cd) (n : Int) (x : Th) (l m : List St) : Nat := ruleN x (remB c n x.team m l) (movB c n x.team m l) (decide (n < c.s))
def juR (c : Cd) (n : Int) (x : Th) (l m : List St) : Int := if juE c n x l m = 0 then (juN c n x l m : Int) else 0
def juCh (c : Cd) (n : Int) (x : Th) (l m : List St) : Int := if juE c n x l m = 0 then judC (juN c n x l m) x else 0
def juP (c : Cd) (n : Int) (x : Th) (l m : List St) : List Pr := if juE c n x l m = 0 then judP (juN c n x l m) x l m else []
def JugC (c : Cd) (n : Int) (x : Th) (l m : List St) (w : World) (e : Ending) (w' : World) : Prop :=
  (∃ v, e = .returned (.tuple #[Rlv (juR c n x l m) (juCh c n x l m) v, .int .i64 (juE c n x l m)]) ∧ RulAt w' w.heap.size v (juP c n x l m)) ∧ Below w.heap.size w w'
theorem thrB_facts {l m : List St} {x : Th} (h : thrB l m x = true) : chkB l = true ∧ chkB m = true ∧ 0 ≤ x.team ∧ x.team ≤ 1 := by
  unfold thrB at h
  simp only [Bool.and_eq_true] at h
  obtain ⟨q1, q2, q3, q4, q5⟩ := thrA_facts h.1.1.1
  exact ⟨q1, q2, q3⟩

set_option maxRecDepth 100000 in
set_option maxHeartbeats 4000000 in
theorem Judge_any (c : Cd) (n : Int) (x : Th) (l m : List St) (v u : Value) (w : World) (hv : RowS w v l) (hu : RowS w u m) : Calls Try.prog 17 #[Cdv c, .int .i64 n, v, Thv x u] w (JugC c n x l m w) := by
  have HV := Lib.hid hv
  have HU := Lib.hid hu
  have H13 := Lib.hid (fun w => CheckCode_any c w)
  have H19 : Hid (∀ W, Below w.heap.size w W → Calls Try.prog 19 #[v, Thv x u] W (Back (.bool (thrB l m x)) W)) := fun W hW => CheckThrow_any l m x v u W (hv.up hW) (hu.up hW)
  have H33 : Hid (∀ w, Calls Try.prog 33 #[.int .i64 n, .int .i64 0, .int .i64 16] w fun e w' => e = .returned (.bool (decide (0 ≤ n ∧ n ≤ 16))) ∧ w = w') := fun w => rwithin _ _ _ w
  have H40 : Hid (thrB l m x = true → ∀ W, Below w.heap.size w W → Calls Try.prog 40 #[Tnv c n x.team, v, Thv x u] W (JudC (juN c n x l m) x l m W)) := fun h W hW => by
    obtain ⟨q1, q2, q3⟩ := thrB_facts h
    exact judge40 c n x.team x l m v u W (hv.up hW) (hu.up hW) q1 q2 q3
  obtain ⟨A, cap, rfl⟩ := hv.form
  obtain ⟨A2, cap2, rfl⟩ := hu.form
  obtain ⟨k0, hk0⟩ : ∃ k, ccB c = k := ⟨_, rfl⟩
  obtain ⟨k1, hk1⟩ : ∃ k, thrB l m x = k := ⟨_, rfl⟩
  obtain ⟨k3, hk3⟩ : ∃ k, decide (0 ≤ n ∧ n ≤ 16) = k := ⟨_, rfl⟩
  have HE : Hid (juE c n x l m = if k0 && k1 then (if k3 = true then 0 else 4) else 2) := by
    show _ = _
    unfold juE
    rw [hk0, hk1, ← hk3]
    simp
  rw [hk0] at H13
  rw [hk1] at H19 H40
  rw [hk3] at H33
  have HFIN : Hid (∀ (k r ch : Int) (v : Value) (W : World), juE c n x l m = k → (k ≠ 0 → r = 0 ∧ ch = 0 ∧ RulAt W w.heap.size v []) → (k = 0 → r = juN c n x l m ∧ ch = judC (juN c n x l m) x ∧ RulAt W w.heap.size v (judP (juN c n x l m) x l m)) → Below w.heap.size w W → JugC c n x l m w (.returned (.tuple #[Rlv r ch v, .int .i64 k])) W) := by
    intro k r ch v W hk h1 h2 hb
    unfold JugC juR juCh juP
    rw [hk]
    by_cases e : k = 0
    · obtain ⟨e1, e2, e3⟩ := h2 e
      rw [if_pos e, if_pos e, if_pos e, ← e1, ← e2]
      exact ⟨⟨_, rfl, e3⟩, hb⟩
    · obtain ⟨e1, e2, e3⟩ := h1 e
      rw [if_neg e, if_neg e, if_neg e, e1, e2]
      exact ⟨⟨_, rfl, e3⟩, hb⟩
  clear hv hu hk0 hk1 hk3
  have K0 : Hid (∀ W, W = (((w.alloc (.cells #[.int .i64 c.f, .int .i64 c.t, .int .i64 c.s, .int .i64 c.e, .bool c.p] 23)).alloc (Tho x (.slice A2 m.length cap2))).alloc (.cells #[.int .i64 0, .int .i64 0, .slice none 0 0] 40)) → Below w.heap.size w W ∧ Th6 W (w.heap.size + 1) x (.slice A2 m.length cap2) ∧ R3 W (w.heap.size + 1 + 1) 0 0 (.slice none 0 0) ∧ Cd5 W w.heap.size c ∧ W.heap.size = w.heap.size + 3) := by
    rintro W rfl
    have b0 : Below w.heap.size w (w.alloc (.cells #[.int .i64 c.f, .int .i64 c.t, .int .i64 c.s, .int .i64 c.e, .bool c.p] 23)) := (Below.refl _ _).alloc (Nat.le_refl _) _
    have k0 := Cd5.new w c
    have k1 := Th6.new (w.alloc (.cells #[.int .i64 c.f, .int .i64 c.t, .int .i64 c.s, .int .i64 c.e, .bool c.p] 23)) x (.slice A2 m.length cap2)
    have k2 := R3.new ((w.alloc (.cells #[.int .i64 c.f, .int .i64 c.t, .int .i64 c.s, .int .i64 c.e, .bool c.p] 23)).alloc (Tho x (.slice A2 m.length cap2))) 0 0 (.slice none 0 0)
    simp only [World.size_alloc] at k1 k2
    exact ⟨(b0.alloc (by simp) _).alloc (by simp; omega) _, k1.kept (World.grownBy_alloc _ _ none) (by simp), k2, (k0.up ((Below.refl _ _).alloc (Nat.le_refl _) _)).up ((Below.refl _ _).alloc (Nat.le_refl _) _), by simp⟩
  obtain ⟨x1, x2, x3, x4, x5⟩ := x
  obtain ⟨f, t, s, e, p⟩ := c
  have H40' : Hid (k1 = true → ∀ W, Below w.heap.size w W → Calls Try.prog 40 #[Tnv ⟨f, t, s, e, p⟩ n x1, .slice A l.length cap, Thv ⟨x1, x2, x3, x4, x5⟩ (.slice A2 m.length cap2)] W (JudC (juN ⟨f, t, s, e, p⟩ n ⟨x1, x2, x3, x4, x5⟩ l m) ⟨x1, x2, x3, x4, x5⟩ l m W)) := H40.out
  clear H40
  go_enter Try.func17, Try.ntmps17
  go_upto_region 1 with fail
  generalize hwx : World.alloc (World.alloc (World.alloc w _) _) _ = wx
  obtain ⟨k1', k2', k3', k4', k5'⟩ := K0.out wx hwx.symm
  have B := Lib.hid k1'
  have T6 := Lib.hid k2'
  have K3 := Lib.hid k3'
  have C5 := Lib.hid k4'
  have KZ : Hid (wx.heap.size = w.heap.size + 3) := k5'
  clear hwx K0 k1' k2' k3' k4' k5'
  obtain ⟨a0, a1, a2, a3, a4⟩ := C5.out
  obtain ⟨c0, c1, c2, c3, c4, c5⟩ := T6.out
  obtain ⟨⟨z0, z1, z2⟩, i0, i1, i2⟩ := K3.out.cells
  simp only at a0 a1 a2 a3 a4 c0 c1 c2 c3 c4
  rcases k0 with _ | _ <;> rcases k1 with _ | _ <;> rcases k3 with _ | _
  case true.true.true =>
    go_wp2_with (first
      | (go_at_call 13; (with_reducible refine (H13.out _).mono ?_); rintro e1 w1 ⟨rfl, hb1⟩; replace B := Lib.hid (B.out.trans (hb1.mono B.out.size)); replace T6 := Lib.hid (T6.out.up hb1); replace K3 := Lib.hid (K3.out.up hb1); replace C5 := Lib.hid (C5.out.up hb1); clear hb1 a0 a1 a2 a3 a4 c0 c1 c2 c3 c4 c5 z0 z1 z2 i0 i1 i2; obtain ⟨a0, a1, a2, a3, a4⟩ := C5.out; obtain ⟨c0, c1, c2, c3, c4, c5⟩ := T6.out; obtain ⟨⟨z0, z1, z2⟩, i0, i1, i2⟩ := K3.out.cells; simp only at a0 a1 a2 a3 a4 c0 c1 c2 c3 c4)
      | (go_at_call 19; (with_reducible refine (H19.out _ B.out).mono ?_); rintro e1 w2 ⟨rfl, hb1⟩; replace B := Lib.hid (B.out.trans (hb1.mono B.out.size)); replace T6 := Lib.hid (T6.out.up hb1); replace K3 := Lib.hid (K3.out.up hb1); replace C5 := Lib.hid (C5.out.up hb1); clear hb1 a0 a1 a2 a3 a4 c0 c1 c2 c3 c4 c5 z0 z1 z2 i0 i1 i2; obtain ⟨a0, a1, a2, a3, a4⟩ := C5.out; obtain ⟨c0, c1, c2, c3, c4, c5⟩ := T6.out; obtain ⟨⟨z0, z1, z2⟩, i0, i1, i2⟩ := K3.out.cells; simp only at a0 a1 a2 a3 a4 c0 c1 c2 c3 c4)
      | (go_at_call 33; (with_reducible refine (H33.out _).mono ?_); rintro e1 w3 ⟨rfl, rfl⟩)
      | (go_at_call 40; (with_reducible refine (H40'.out (by trivial) _ B.out).mono ?_); rintro e1 w4 ⟨⟨v4, rfl, hr4⟩, hb4⟩; have hsz := B.out.size; have hz4 := K3.out.lt; have R4 := Lib.hid hr4; replace B := Lib.hid (B.out.trans (hb4.mono B.out.size)); replace K3 := Lib.hid (K3.out.up hb4); obtain ⟨A4, n4, c4', hv4⟩ : ∃ A n c, v4 = .slice A n c := (by obtain ⟨A, c, h⟩ := hr4.form; exact ⟨A, _, c, h⟩); subst hv4; clear hr4 hb4 a0 a1 a2 a3 a4 c0 c1 c2 c3 c4 c5 z0 z1 z2 i0 i1 i2; obtain ⟨⟨z0, z1, z2⟩, i0, i1, i2⟩ := K3.out.cells))
    refine bodyPost_ret (results_r3e (r := juN ⟨f, t, s, e, p⟩ n ⟨x1, x2, x3, x4, x5⟩ l m) (ch := judC (juN ⟨f, t, s, e, p⟩ n ⟨x1, x2, x3, x4, x5⟩ l m) ⟨x1, x2, x3, x4, x5⟩) (v := .slice A4 n4 c4') rfl _ _ rfl (set3 K3.out _ _ _) ⟨_, _, _, rfl⟩) rfl ?_
    have hz := KZ.out
    refine HFIN.out 0 _ _ _ _ HE.out (fun h => absurd rfl h) (fun _ => ⟨rfl, rfl, ?_⟩) ?_
    · exact (((R4.out.kept (grown_set _ ⟨w.heap.size + 1 + 1, 0, none⟩ _) (by show _ < _; omega)).kept (grown_set _ ⟨w.heap.size + 1 + 1, 1, none⟩ _) (by show _ < _; omega)).kept (grown_set _ ⟨w.heap.size + 1 + 1, 2, none⟩ _) (by show _ < _; omega)).le hsz
    · exact ((B.out.setCell (p := ⟨w.heap.size + 1 + 1, 0, none⟩) (by simp; omega) _).setCell (p := ⟨w.heap.size + 1 + 1, 1, none⟩) (by simp; omega) _).setCell (p := ⟨w.heap.size + 1 + 1, 2, none⟩) (by simp; omega) _
  all_goals
    go_wp2_with (first
      | (go_at_call 13; (with_reducible refine (H13.out _).mono ?_); rintro e1 w1 ⟨rfl, hb1⟩; replace B := Lib.hid (B.out.trans (hb1.mono B.out.size)); replace T6 := Lib.hid (T6.out.up hb1); replace K3 := Lib.hid (K3.out.up hb1); replace C5 := Lib.hid (C5.out.up hb1); clear hb1 a0 a1 a2 a3 a4 c0 c1 c2 c3 c4 c5 z0 z1 z2 i0 i1 i2; obtain ⟨a0, a1, a2, a3, a4⟩ := C5.out; obtain ⟨c0, c1, c2, c3, c4, c5⟩ := T6.out; obtain ⟨⟨z0, z1, z2⟩, i0, i1, i2⟩ := K3.out.cells; simp only at a0 a1 a2 a3 a4 c0 c1 c2 c3 c4)
      | (go_at_call 19; (with_reducible refine (H19.out _ B.out).mono ?_); rintro e1 w2 ⟨rfl, hb1⟩; replace B := Lib.hid (B.out.trans (hb1.mono B.out.size)); replace T6 := Lib.hid (T6.out.up hb1); replace K3 := Lib.hid (K3.out.up hb1); replace C5 := Lib.hid (C5.out.up hb1); clear hb1 a0 a1 a2 a3 a4 c0 c1 c2 c3 c4 c5 z0 z1 z2 i0 i1 i2; obtain ⟨a0, a1, a2, a3, a4⟩ := C5.out; obtain ⟨c0, c1, c2, c3, c4, c5⟩ := T6.out; obtain ⟨⟨z0, z1, z2⟩, i0, i1, i2⟩ := K3.out.cells; simp only at a0 a1 a2 a3 a4 c0 c1 c2 c3 c4)
      | (go_at_call 33; (with_reducible refine (H33.out _).mono ?_); rintro e1 w3 ⟨rfl, rfl⟩))
    refine bodyPost_ret (results_r3e (r := 0) (ch := 0) (v := .slice none 0 0) rfl _ _ rfl (set3 K3.out _ _ _) ⟨_, _, _, rfl⟩) rfl ?_
    refine HFIN.out _ _ _ _ _ HE.out (fun _ => ⟨rfl, rfl, RulAt.nil _ _⟩) (fun h => absurd h (by decide)) ?_
    exact ((B.out.setCell (p := ⟨w.heap.size + 1 + 1, 0, none⟩) (by simp; omega) _).setCell (p := ⟨w.heap.size + 1 + 1, 1, none⟩) (by simp; omega) _).setCell (p := ⟨w.heap.size + 1 + 1, 2, none⟩) (by simp; omega) _
end Go.Proofs.Ytomcpgdpjpjioaa
