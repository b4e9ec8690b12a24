/- Contracts: Protected and the document's. -/
import Derived.Test.YtomcpgdpjpjioaaWh
namespace Go.Proofs.Ytomcpgdpjpjioaa
open Go.RowKit Go.Proofs Go.Shelf
attribute [local go_sem] Oper.semAt_some

section
variable {P : Program} {ops : Array Oper} {Q : Exit → Act → World → Prop} {md : Region.Mode} {S : Nat → World → Prop}
theorem wp_region_P {id : Nat} {a : Act} {w : World} (S : Nat → World → Prop) (hm : P.follows .mixedOrders = true)
    (h : wpAnyP P .any ops Q S ops.size (Array.replicate ops.size false) a w.drew) : (Code.region id ops true).wp P Q a w :=
  wp_region_any hm (wpAny_of_P _ _ _ _ h)
/-- An operation that calls. -/
theorem wpOp_call {i : Nat} {o : Oper} {a : Act} {w : World} {f : FuncId} {args : Array Value} {K : Act → World → Prop} (hi : ops[i]? = some o) (hg : o.guard = none)
    (hrun : (execOp a.eval o).run P w = .ok (.enter f args) w) (h : Calls P f args w fun e w' => ∃ v, e = .returned v ∧ K (a.put o.dst v) w') : wpOp P ops Q i K a w := by
  unfold wpOp
  have hw : Region.wanted o (yielded ops a.tmps) = true := by simp [Region.wanted, hg]
  simp only [hi, hw, if_true, Oper.wp, hrun, Oper.upon]
  exact .inl (h.mono fun e w' ⟨v, he, hk⟩ => by subst he; exact hk)
/-- Two of them may come up. -/
theorem wpAnyP_two {i j : Nat} {fuel : Nat} {listed : Array Bool} {a : Act} {w : World} (hr : Region.ready md ops listed = [i, j])
    (h1 : wpOp P ops Q i (fun a' w' => (∀ k, frB md ops i k = true → S k w → S k w') ∧ wpAnyP P md ops Q S fuel (listed.setIfInBounds i true) a' w') a w)
    (h2 : wpOp P ops Q j (fun a' w' => (∀ k, frB md ops j k = true → S k w → S k w') ∧ wpAnyP P md ops Q S fuel (listed.setIfInBounds j true) a' w') a w) : wpAnyP P md ops Q S (fuel + 1) listed a w :=
  ⟨fun h0 => by (rw [hr] at h0; cases h0), fun k hk => by
    rw [hr] at hk
    simp only [List.mem_cons, List.not_mem_nil, or_false] at hk
    rcases hk with rfl | rfl
    · exact h1
    · exact h2⟩
end

/-- Why Protected does not answer. -/
def prE (c : Cd) (n team : Int) (l : List St) : Int := if ccB c && chkB l && decide (0 ≤ team ∧ team ≤ 1) then (if 0 ≤ n ∧ n ≤ 16 then 0 else 4) else 2
def prK (c : Cd) (n team : Int) (l : List St) : List Nat := if prE c n team l = 0 then wK (kpB c n team) l l.length else []
def prF (c : Cd) (n team : Int) (l : List St) : List Nat := if prE c n team l = 0 then wK (fxB c n team) l l.length else []
/-- The contract of Protected. -/
def PrC (c : Cd) (n team : Int) (l : List St) (w : World) (e : Ending) (w' : World) : Prop :=
  (∃ A1 n1 c1 A2 n2 c2, e = .returned (.tuple #[.slice A1 n1 c1, .slice A2 n2 c2, .int .i64 (prE c n team l)]) ∧ OwnN w.heap.size w' (.slice A1 n1 c1) (prK c n team l) ∧ OwnN w.heap.size w' (.slice A2 n2 c2) (prF c n team l)) ∧ Below w.heap.size w w'
theorem ownN_nil (b : Nat) (w : World) : OwnN b w (.slice none 0 0) [] := ⟨none, 0, rfl, Nat.le_refl _, Nat.zero_le _, fun _ => rfl, fun h => absurd rfl h⟩
theorem PrC.no {c : Cd} {n team : Int} {l : List St} {w w' : World} {k : Int} (h : prE c n team l = k) (hk : k ≠ 0) (hb : Below w.heap.size w w') : PrC c n team l w (.returned (.tuple #[.slice none 0 0, .slice none 0 0, .int .i64 k])) w' := by
  refine ⟨⟨_, _, _, _, _, _, by rw [h], ?_, ?_⟩, hb⟩
  · unfold prK; rw [if_neg (by rw [h]; exact hk)]; exact ownN_nil _ _
  · unfold prF; rw [if_neg (by rw [h]; exact hk)]; exact ownN_nil _ _
def Tn7 (w : World) (b : Nat) (c : Cd) (n team : Int) : Prop :=
  w.cell? ⟨b, 0, none⟩ = some (.int .i64 c.f) ∧ w.cell? ⟨b, 1, none⟩ = some (.int .i64 c.t) ∧ w.cell? ⟨b, 2, none⟩ = some (.int .i64 c.s) ∧ w.cell? ⟨b, 3, none⟩ = some (.int .i64 c.e) ∧ w.cell? ⟨b, 4, none⟩ = some (.bool c.p) ∧ w.cell? ⟨b, 5, none⟩ = some (.int .i64 n) ∧ w.cell? ⟨b, 6, none⟩ = some (.int .i64 team)
theorem Tn7.up {w w' : World} {b : Nat} {c : Cd} {n team : Int} (h : Tn7 w b c n team) (hb : Below w.heap.size w w') : Tn7 w' b c n team := by
  obtain ⟨h0, h1, h2, h3, h4, h5, h6⟩ := h
  exact ⟨upc h0 hb, upc h1 hb, upc h2 hb, upc h3 hb, upc h4 hb, upc h5 hb, upc h6 hb⟩
theorem Tn7.new (w : World) (c : Cd) (n team : Int) : Tn7 (w.alloc (Tno c n team)) w.heap.size c n team := ⟨by simp [go_sem], by simp [go_sem], by simp [go_sem], by simp [go_sem], by simp [go_sem], by simp [go_sem], by simp [go_sem]⟩
def Cd5 (w : World) (b : Nat) (c : Cd) : Prop :=
  w.cell? ⟨b, 0, none⟩ = some (.int .i64 c.f) ∧ w.cell? ⟨b, 1, none⟩ = some (.int .i64 c.t) ∧ w.cell? ⟨b, 2, none⟩ = some (.int .i64 c.s) ∧ w.cell? ⟨b, 3, none⟩ = some (.int .i64 c.e) ∧ w.cell? ⟨b, 4, none⟩ = some (.bool c.p)
theorem Cd5.up {w w' : World} {b : Nat} {c : Cd} (h : Cd5 w b c) (hb : Below w.heap.size w w') : Cd5 w' b c := by
  obtain ⟨h0, h1, h2, h3, h4⟩ := h
  exact ⟨upc h0 hb, upc h1 hb, upc h2 hb, upc h3 hb, upc h4 hb⟩
theorem Cd5.new (w : World) (c : Cd) : Cd5 (w.alloc (.cells #[.int .i64 c.f, .int .i64 c.t, .int .i64 c.s, .int .i64 c.e, .bool c.p] 23)) w.heap.size c := ⟨by simp [go_sem], by simp [go_sem], by simp [go_sem], by simp [go_sem], by simp [go_sem]⟩

set_option maxRecDepth 100000 in
set_option maxHeartbeats 4000000 in
theorem Protected_any (c : Cd) (n team : Int) (l : List St) (v : Value) (w : World) (hrow : RowS w v l) : Calls Try.prog 11 #[Cdv c, .int .i64 n, .int .i64 team, v] w (PrC c n team l w) := by
  have HR := Lib.hid hrow
  obtain ⟨A, cap, rfl, -⟩ := hrow
  have B : Hid (Below w.heap.size w (w.alloc (.cells #[.int .i64 c.f, .int .i64 c.t, .int .i64 c.s, .int .i64 c.e, .bool c.p] 23))) := (Below.refl _ _).alloc (Nat.le_refl _) _
  have K := Lib.hid (Cd5.new w c)
  have H13 := Lib.hid (fun w => CheckCode_any c w)
  have H32 : Hid (∀ W, Below w.heap.size w W → Calls Try.prog 32 #[.slice A l.length cap] W (Back (.bool (chkB l)) W)) := fun W hW => Check_any l _ W (HR.out.up hW)
  have H33 : Hid (∀ w, Calls Try.prog 33 #[.int .i64 team, .int .i64 0, .int .i64 1] w fun e w' => e = .returned (.bool (decide (0 ≤ team ∧ team ≤ 1))) ∧ w = w') := fun w => rwithin _ _ _ w
  have H34 : Hid (∀ w, Calls Try.prog 33 #[.int .i64 n, .int .i64 0, .int .i64 16] w fun e w' => e = .returned (.bool (decide (0 ≤ n ∧ n ≤ 16))) ∧ w = w') := fun w => rwithin _ _ _ w
  obtain ⟨k0, hk0⟩ : ∃ k, ccB c = k := ⟨_, rfl⟩
  obtain ⟨k1, hk1⟩ : ∃ k, chkB l = k := ⟨_, rfl⟩
  obtain ⟨k2, hk2⟩ : ∃ k, decide (0 ≤ team ∧ team ≤ 1) = k := ⟨_, rfl⟩
  obtain ⟨k3, hk3⟩ : ∃ k, decide (0 ≤ n ∧ n ≤ 16) = k := ⟨_, rfl⟩
  have HE : Hid (prE c n team l = if k0 && k1 && k2 then (if k3 = true then 0 else 4) else 2) := by
    show _ = _
    unfold prE
    rw [hk0, hk1, hk2, ← hk3]
    simp
  rw [hk0] at H13
  rw [hk1] at H32
  rw [hk2] at H33
  rw [hk3] at H34
  have H16 : Hid (k1 = true → l.length ≤ 16) := fun h => by rw [h] at hk1; exact (chk_facts hk1).1
  clear hk0 hk1 hk2 hk3
  obtain ⟨f, t, s, e, p⟩ := c
  rcases k0 with _ | _ <;> rcases k1 with _ | _ <;> rcases k2 with _ | _ <;> rcases k3 with _ | _
  case true.true.true.true =>
    have h16 := H16.out rfl
    have HEE : Hid (prE ⟨f, t, s, e, p⟩ n team l = 0) := HE.out
    clear HE H16
    go_enter Try.func11, Try.ntmps11
    go_upto_region 6 with (first
      | (go_at_call 13; (with_reducible refine (H13.out _).mono ?_); rintro e w1 ⟨rfl, hb1⟩; replace K := Lib.hid (K.out.up hb1); replace B := Lib.hid (B.out.trans (hb1.mono B.out.size)); clear hb1; obtain ⟨a0, a1, a2, a3, a4⟩ := K.out)
      | (go_at_call 32; (with_reducible refine (H32.out _ B.out).mono ?_); rintro e w1 ⟨rfl, hb1⟩; replace K := Lib.hid (K.out.up hb1); replace B := Lib.hid (B.out.trans (hb1.mono B.out.size)); clear hb1 a0 a1 a2 a3 a4; obtain ⟨a0, a1, a2, a3, a4⟩ := K.out)
      | (go_at_call 33; (with_reducible refine (H33.out _).mono ?_); rintro e w1 ⟨rfl, rfl⟩)
      | (go_at_call 33; (with_reducible refine (H34.out _).mono ?_); rintro e w1 ⟨rfl, rfl⟩))
    have hz := B.out.size
    generalize hwt : World.alloc w1 _ = wt
    have KT : Tn7 wt w1.heap.size ⟨f, t, s, e, p⟩ n team := by rw [← hwt]; exact Tn7.new w1 ⟨f, t, s, e, p⟩ n team
    have BT : Below w.heap.size w wt := by rw [← hwt]; exact B.out.alloc hz _
    have hf35 : ∀ args w, (callFunc 35 args).run Try.prog w = .ok (.enter 35 args) w := enters_of Try.func35 (by kernel_rfl) rfl
    have hf36 : ∀ args w, (callFunc 36 args).run Try.prog w = .ok (.enter 36 args) w := enters_of Try.func36 (by kernel_rfl) rfl
    clear hwt a0 a1 a2 a3 a4 H13 H32 H33 H34 K B
    refine wp_region_P (fun i w' => (i = 1 ∨ i = 5) → Tn7 w' w1.heap.size ⟨f, t, s, e, p⟩ n team) (by kernel_rfl) ?_
    refine wpAnyP_take (i := 0) (v := .slice A l.length cap) rfl (by kernel_rfl) (by kernel_rfl) (by kernel_rfl) (fun _ _ _ h => h) (yieldsIf_run rfl (fun w hS => ?_)) (fun h => by omega) ?_
    · go_simp
    refine wpAnyP_take (i := 1) (v := Tnv ⟨f, t, s, e, p⟩ n team) rfl (by kernel_rfl) (by kernel_rfl) (by kernel_rfl) (fun _ _ _ h => h) (yieldsIf_run rfl (fun w hS => ?_)) (fun _ => KT) ?_
    · obtain ⟨c0, c1, c2, c3, c4, c5, c6⟩ := hS (.inl rfl)
      go_simp
    refine wpAnyP_take (i := 2) (v := .func (.func 35) #[Tnv ⟨f, t, s, e, p⟩ n team] #[]) rfl (by kernel_rfl) (by kernel_rfl) (by kernel_rfl) (fun _ _ _ h => h) (yieldsIf_run rfl (fun w hS => ?_)) (fun h => by omega) ?_
    · go_simp
    refine wpAnyP_take (i := 4) (v := .slice A l.length cap) rfl (by kernel_rfl) (by kernel_rfl) (by kernel_rfl) (fun _ _ _ h => h) (yieldsIf_run rfl (fun w hS => ?_)) (fun h => by omega) ?_
    · go_simp
    refine wpAnyP_take (i := 5) (v := Tnv ⟨f, t, s, e, p⟩ n team) rfl (by kernel_rfl) (by kernel_rfl) (by kernel_rfl) (fun _ _ _ h => h) (yieldsIf_run rfl (fun w hS => ?_)) (fun _ => KT) ?_
    · obtain ⟨c0, c1, c2, c3, c4, c5, c6⟩ := hS (.inr rfl)
      go_simp
    refine wpAnyP_take (i := 6) (v := .func (.func 36) #[Tnv ⟨f, t, s, e, p⟩ n team] #[]) rfl (by kernel_rfl) (by kernel_rfl) (by kernel_rfl) (fun _ _ _ h => h) (yieldsIf_run rfl (fun w hS => ?_)) (fun h => by omega) ?_
    · go_simp
    have BD : Below w.heap.size w wt.drew := BT.drew
    refine wpAnyP_one (i := 3) (by kernel_rfl) (wpOp_call (f := 34) (args := #[.slice A l.length cap, .func (.func 35) #[Tnv ⟨f, t, s, e, p⟩ n team] #[]]) rfl rfl (by kernel_rfl) ?_)
    refine (where_any 35 (Tnv ⟨f, t, s, e, p⟩ n team) (kpB ⟨f, t, s, e, p⟩ n team) l _ _ hf35 (HR.out.up BD) (by omega) (fun s W hW => keeps_any _ _ _ s W)).mono ?_
    rintro e' w2 ⟨⟨A1, n1, c1, rfl, ho1⟩, hb2⟩
    refine ⟨_, rfl, fun k _ hS h => (hS h).up hb2, ?_⟩
    have B2 := BD.trans (hb2.mono BD.size)
    refine wpAnyP_one (i := 7) (by kernel_rfl) (wpOp_call (f := 34) (args := #[.slice A l.length cap, .func (.func 36) #[Tnv ⟨f, t, s, e, p⟩ n team] #[]]) rfl rfl (by kernel_rfl) ?_)
    refine (where_any 36 (Tnv ⟨f, t, s, e, p⟩ n team) (fxB ⟨f, t, s, e, p⟩ n team) l _ _ hf36 (HR.out.up B2) (by omega) (fun s W hW => fixes_any _ _ _ s W)).mono ?_
    rintro e' w3 ⟨⟨A2, n2, c2, rfl, ho2⟩, hb3⟩
    refine ⟨_, rfl, fun k _ hS h => (hS h).up hb3, ?_⟩
    have B3 := B2.trans (hb3.mono B2.size)
    refine wpAnyP_one (i := 8) (by kernel_rfl) (wpOp_run (v := .slice A1 n1 c1) (w' := w3) rfl rfl (by go_simp) ⟨fun _ _ h => h, ?_⟩)
    refine wpAnyP_one (i := 9) (by kernel_rfl) (wpOp_run (v := .slice A2 n2 c2) (w' := w3) rfl rfl (by go_simp) ⟨fun _ _ h => h, ?_⟩)
    refine wpAnyP_one (i := 10) (by kernel_rfl) (wpOp_run (v := .int .i64 0) (w' := w3) rfl rfl (by go_simp) ⟨fun _ _ h => h, ?_⟩)
    refine wpAnyP_done (by kernel_rfl) ?_ _
    have hfin : PrC ⟨f, t, s, e, p⟩ n team l w (.returned (.tuple #[.slice A1 n1 c1, .slice A2 n2 c2, .int .i64 0])) w3 := by
      refine ⟨⟨A1, n1, c1, A2, n2, c2, by rw [HEE.out], ?_, ?_⟩, B3⟩
      · unfold prK
        rw [if_pos HEE.out]
        obtain ⟨A', cap', h1, h2, h3, h4, h5⟩ := ho1.up hb3
        exact ⟨A', cap', h1, h2, h3, h4, fun h => by obtain ⟨g, h6, h7, h8⟩ := h5 h; exact ⟨g, h6, Nat.le_trans BD.size h7, h8⟩⟩
      · unfold prF
        rw [if_pos HEE.out]
        obtain ⟨A', cap', h1, h2, h3, h4, h5⟩ := ho2
        exact ⟨A', cap', h1, h2, h3, h4, fun h => by obtain ⟨g, h6, h7, h8⟩ := h5 h; exact ⟨g, h6, Nat.le_trans B2.size h7, h8⟩⟩
    have HFIN := Lib.hid hfin
    clear hfin ho1 ho2 hb2 hb3 KT BT BD B2 B3 HEE HR
    go_wp2_with fail
    exact bodyPost_ret (v := .tuple #[.slice A1 n1 c1, .slice A2 n2 c2, .int .i64 0]) (by kernel_rfl) (by kernel_rfl) HFIN.out
  all_goals
    have HEE := HE.out
    simp only [Bool.and_self, Bool.and_true, Bool.and_false, if_true, if_false, Bool.false_eq_true] at HEE
    have HE2 := Lib.hid HEE
    clear HE HEE H16
    go_enter Try.func11, Try.ntmps11
    go_wp2_with (first
      | (go_at_call 13; (with_reducible refine (H13.out _).mono ?_); rintro e w1 ⟨rfl, hb1⟩; replace K := Lib.hid (K.out.up hb1); replace B := Lib.hid (B.out.trans (hb1.mono B.out.size)); clear hb1; obtain ⟨a0, a1, a2, a3, a4⟩ := K.out)
      | (go_at_call 32; (with_reducible refine (H32.out _ B.out).mono ?_); rintro e w1 ⟨rfl, hb1⟩; replace K := Lib.hid (K.out.up hb1); replace B := Lib.hid (B.out.trans (hb1.mono B.out.size)); clear hb1)
      | (go_at_call 33; (with_reducible refine (H33.out _).mono ?_); rintro e w1 ⟨rfl, rfl⟩)
      | (go_at_call 33; (with_reducible refine (H34.out _).mono ?_); rintro e w1 ⟨rfl, rfl⟩))
    first
      | exact bodyPost_ret (v := .tuple #[.slice none 0 0, .slice none 0 0, .int .i64 2]) (by simp [results, Try.results11, go_sem]) rfl (PrC.no HE2.out (by decide) B.out)
      | exact bodyPost_ret (v := .tuple #[.slice none 0 0, .slice none 0 0, .int .i64 4]) (by simp [results, Try.results11, go_sem]) rfl (PrC.no HE2.out (by decide) B.out)
end Go.Proofs.Ytomcpgdpjpjioaa
