/- Contract: CheckThrow, of valid parts. -/
import Derived.Test.YtomcpgdpjpjioaaCt
import Derived.Test.YtomcpgdpjpjioaaPt
namespace Go.Proofs.Ytomcpgdpjpjioaa
open Go.RowKit Go.Proofs Go.Shelf
attribute [local go_sem] Oper.semAt_some

section
variable {P : Program} {ops : Array Oper} {Q : Exit → Act → World → Prop} {md : Region.Mode} {S : Nat → World → Prop}
theorem wpOp_callG {i : Nat} {o : Oper} {a : Act} {w : World} {f : FuncId} {args : Array Value} {K : Act → World → Prop} (hi : ops[i]? = some o) (hw : Region.wanted o (yielded ops a.tmps) = true)
    (hrun : (execOp a.eval o).run P w = .ok (.enter f args) w) (h : Calls P f args w fun e w' => ∃ v, e = .returned v ∧ K (a.put o.dst v) w') : wpOp P ops Q i K a w := by
  unfold wpOp
  simp only [hi, hw, if_true, Oper.wp, hrun, Oper.upon]
  exact .inl (h.mono fun e w' ⟨v, he, hk⟩ => by subst he; exact hk)
theorem wpOp_runG {i : Nat} {o : Oper} {a : Act} {w w' : World} {v : Value} {K : Act → World → Prop} (hi : ops[i]? = some o) (hw : Region.wanted o (yielded ops a.tmps) = true)
    (hrun : (execOp a.eval o).run P w = .ok (.value v) w') (h : K (a.put o.dst v) w') : wpOp P ops Q i K a w := by
  unfold wpOp
  simp only [hi, hw, if_true, Oper.wp, hrun, Oper.upon]
  exact .inl h
theorem yieldsIf_runG {S : World → Prop} {o : Oper} {v : Value} {a : Act} (hw : Region.wanted o (yielded ops a.tmps) = true) (h : ∀ w, S w → (execOp a.eval o).run P w = .ok (.value v) w) : YieldsIf P ops S o v a :=
  .inl ⟨hw, h⟩
end
theorem thrA_facts {l m : List St} {x : Th} (h : thrA l m x = true) : chkB l = true ∧ chkB m = true ∧ (0 ≤ x.team ∧ x.team ≤ 1) ∧ (0 ≤ x.n ∧ x.n ≤ 7) ∧ (0 ≤ x.how ∧ x.how ≤ 4) := by
  unfold thrA at h
  simp only [Bool.and_eq_true, decide_eq_true_eq] at h
  exact ⟨h.1.1.1.1, h.1.1.1.2, h.1.1.2, h.1.2, h.2⟩
/-- What stands behind CheckThrow's first lines: the name, the table, the throw. -/
def CtS (w w' : World) (b p q : Nat) (l : List St) (x : Th) (u : Value) : Prop :=
  w'.cell? ⟨p, 0, none⟩ = some (.int .i64 x.team) ∧ w'.cell? ⟨p, 1, none⟩ = some (.int .i64 x.n) ∧ MapA 75 rdSt w' b l.length (tblM l) ∧ Th6 w' q x u ∧ Below w.heap.size w w'
theorem CtS.up {w w1 w' : World} {b p q : Nat} {l : List St} {x : Th} {u : Value} (h : CtS w w1 b p q l x u) (hb : Below w1.heap.size w1 w') : CtS w w' b p q l x u := by
  obtain ⟨h1, h2, h3, h4, h5⟩ := h
  exact ⟨upc h1 hb, upc h2 hb, h3.up hb, h4.up hb, h5.trans (hb.mono h5.size)⟩

attribute [local irreducible] Go.wpOp Go.Region.wanted Go.yielded
set_option maxRecDepth 100000 in
set_option maxHeartbeats 4000000 in
theorem CheckThrow_yes (l m : List St) (x : Th) (v u : Value) (w : World) (hv : RowS w v l) (hu : RowS w u m) (hyes : thrA l m x = true) :
    Calls Try.prog 19 #[v, Thv x u] w (Back (.bool (!(lookT l x.team x.n).isSome && m.all (fun s => (lookT l s.t s.n).isSome || eqK s.t s.n x.team x.n) && (!x.short || eqL (srt l) (srt m)))) w) := by
  obtain ⟨q1, q2, q3, q4, q5⟩ := thrA_facts hyes
  have HV := Lib.hid hv
  have HU := Lib.hid hu
  obtain ⟨A, c, rfl⟩ : ∃ A c, v = .slice A l.length c := hv.form
  obtain ⟨A2, c2, rfl⟩ : ∃ A c, u = .slice A m.length c := hu.form
  have B : Hid (Below w.heap.size w (w.alloc (Tho x (.slice A2 m.length c2)))) := (Below.refl _ _).alloc (Nat.le_refl _) _
  have K := Lib.hid (Th6.new w x (.slice A2 m.length c2))
  have H32 : Hid (∀ W, Below w.heap.size w W → Calls Try.prog 32 #[.slice A l.length c] W (Back (.bool true) W)) := fun W hW => by rw [← q1]; exact Check_any l _ W (hv.up hW)
  have H32b : Hid (∀ W, Below w.heap.size w W → Calls Try.prog 32 #[.slice A2 m.length c2] W (Back (.bool true) W)) := fun W hW => by rw [← q2]; exact Check_any m _ W (hu.up hW)
  have H33 : Hid (∀ w, Calls Try.prog 33 #[.int .i64 x.team, .int .i64 0, .int .i64 1] w fun e w' => e = .returned (.bool true) ∧ w = w') := fun w => by rw [← decide_eq_true q3]; exact rwithin _ _ _ w
  have H34 : Hid (∀ w, Calls Try.prog 33 #[.int .i64 x.n, .int .i64 0, .int .i64 7] w fun e w' => e = .returned (.bool true) ∧ w = w') := fun w => by rw [← decide_eq_true q4]; exact rwithin _ _ _ w
  have H35 : Hid (∀ w, Calls Try.prog 33 #[.int .i64 x.how, .int .i64 0, .int .i64 4] w fun e w' => e = .returned (.bool true) ∧ w = w') := fun w => by rw [← decide_eq_true q5]; exact rwithin _ _ _ w
  have hokl : ∀ s ∈ l, W64 s.t ∧ W64 s.n := fun s hs => by obtain ⟨j, hj, rfl⟩ := List.getElem_of_mem hs; exact ok64 ((chk_facts q1).2 j hj)
  have hokm : ∀ s ∈ m, W64 s.t ∧ W64 s.n := fun s hs => by obtain ⟨j, hj, rfl⟩ := List.getElem_of_mem hs; exact ok64 ((chk_facts q2).2 j hj)
  have hll := (chk_facts q1).1
  have hlm := (chk_facts q2).1
  have hnm : W64 x.team ∧ W64 x.n := by unfold W64; omega
  have H45 : Hid (∀ W, Below w.heap.size w W → Calls Try.prog 45 #[.slice A l.length c] W (TabC l W)) := fun W hW => table_any l _ W (hv.up hW) (by omega) (fun j h => hokl _ (List.getElem_mem h))
  have Q1 := Lib.hid q1
  have Q2 := Lib.hid q2
  have HOL := Lib.hid hokl
  have HOM := Lib.hid hokm
  have HNM := Lib.hid hnm
  clear q1 q2 q3 q4 q5 hv hu hyes hokl hokm hnm
  obtain ⟨x1, x2, x3, x4, x5⟩ := x
  go_enter Try.func19, Try.ntmps19
  go_upto_region 3 with (first
      | (go_at_call 32; (with_reducible refine (H32.out _ B.out).mono ?_); rintro e w1 ⟨rfl, hb1⟩; replace K := Lib.hid (K.out.up hb1); replace B := Lib.hid (B.out.trans (hb1.mono B.out.size)); clear hb1; obtain ⟨a0, a1, a2, a3, a4, a5⟩ := K.out)
      | (go_at_call 32; (with_reducible refine (H32b.out _ B.out).mono ?_); rintro e w1 ⟨rfl, hb1⟩; replace K := Lib.hid (K.out.up hb1); replace B := Lib.hid (B.out.trans (hb1.mono B.out.size)); clear hb1; obtain ⟨a0, a1, a2, a3, a4, a5⟩ := K.out)
      | (go_at_call 33; (with_reducible refine (H33.out _).mono ?_); rintro e w1 ⟨rfl, rfl⟩)
      | (go_at_call 33; (with_reducible refine (H34.out _).mono ?_); rintro e w1 ⟨rfl, rfl⟩)
      | (go_at_call 33; (with_reducible refine (H35.out _).mono ?_); rintro e w1 ⟨rfl, rfl⟩))
  have KT : Th6 w1 w.heap.size ⟨x1, x2, x3, x4, x5⟩ (.slice A2 m.length c2) := K.out
  have BT : Below w.heap.size w w1 := B.out
  clear a0 a1 a2 a3 a4 a5 H32 H32b H33 H34 H35 K B
  refine wp_region_P (fun i w' => (i = 1 ∨ i = 3) → Th6 w' w.heap.size ⟨x1, x2, x3, x4, x5⟩ (.slice A2 m.length c2)) (by kernel_rfl) ?_
  refine wpAnyP_take (i := 0) (v := .pointer (some ⟨w.heap.size, 0, none⟩)) rfl (by kernel_rfl) (by kernel_rfl) (by kernel_rfl) (fun _ _ _ h => h) (yieldsIf_run rfl (fun w hS => ?_)) (fun h => by omega) ?_
  · go_simp
  refine wpAnyP_take (i := 1) (v := .int .i64 x1) rfl (by kernel_rfl) (by kernel_rfl) (by kernel_rfl) (fun _ _ _ h => h) (yieldsIf_run rfl (fun w hS => ?_)) (fun _ => KT) ?_
  · obtain ⟨c0, c1, c2, c3, c4, c5⟩ := hS (.inl rfl)
    go_simp
  refine wpAnyP_take (i := 2) (v := .pointer (some ⟨w.heap.size, 1, none⟩)) rfl (by kernel_rfl) (by kernel_rfl) (by kernel_rfl) (fun _ _ _ h => h) (yieldsIf_run rfl (fun w hS => ?_)) (fun h => by omega) ?_
  · go_simp
  refine wpAnyP_take (i := 3) (v := .int .i64 x2) rfl (by kernel_rfl) (by kernel_rfl) (by kernel_rfl) (fun _ _ _ h => h) (yieldsIf_run rfl (fun w hS => ?_)) (fun _ => KT) ?_
  · obtain ⟨c0, c1, c2, c3, c4, c5⟩ := hS (.inr rfl)
    go_simp
  refine wpAnyP_take (i := 4) (v := Ky x1 x2) rfl (by kernel_rfl) (by kernel_rfl) (by kernel_rfl) (fun _ _ _ h => h) (yieldsIf_run rfl (fun w hS => ?_)) (fun h => by omega) ?_
  · go_simp
  refine wpAnyP_take (i := 5) (v := .slice A l.length c) rfl (by kernel_rfl) (by kernel_rfl) (by kernel_rfl) (fun _ _ _ h => h) (yieldsIf_run rfl (fun w hS => ?_)) (fun h => by omega) ?_
  · go_simp
  have KD : Th6 w1.drew w.heap.size ⟨x1, x2, x3, x4, x5⟩ (.slice A2 m.length c2) := KT
  have BD : Below w.heap.size w w1.drew := BT.drew
  have hlt0 : w.heap.size < w1.drew.heap.size := lt_cell KD.1
  generalize hwd : w1.drew = wd
  rw [hwd] at KD BD hlt0
  clear hwd KT BT
  refine wpAnyP_two (i := 6) (j := 7) (by kernel_rfl) (wpOp_call (f := 45) (args := #[.slice A l.length c]) rfl rfl (by kernel_rfl) ?br1) (wpOp_run (v := .pointer (some ⟨wd.heap.size, 0, none⟩)) (w' := wd.alloc (.cells #[.int .i64 0, .int .i64 0] 75)) rfl rfl (by kernel_rfl) ⟨?kp, ?br2⟩)
  case kp => exact fun k _ hS h => (hS h).kept (World.grownBy_alloc _ _ none) (by simp)
  case' br1 =>
    refine (H45.out _ BD).mono ?_
    rintro e w2 ⟨⟨b, rfl, hbb, hM⟩, hb2⟩
    refine ⟨_, rfl, fun k _ hS h => (hS h).up hb2, ?_⟩
    refine wpAnyP_one (i := 7) (by kernel_rfl) (wpOp_run (v := .pointer (some ⟨w2.heap.size, 0, none⟩)) (w' := w2.alloc (.cells #[.int .i64 0, .int .i64 0] 75)) rfl rfl (by kernel_rfl) ⟨fun k _ hS h => (hS h).kept (World.grownBy_alloc _ _ none) (by simp), ?_⟩)
    refine wpAnyP_one (i := 8) (by kernel_rfl) (wpOp_skip (w' := ((w2.alloc (.cells #[.int .i64 0, .int .i64 0] 75)).setCell ⟨w2.heap.size, 0, none⟩ (.int .i64 x1)).setCell ⟨w2.heap.size, 1, none⟩ (.int .i64 x2)) rfl rfl ?_ ⟨?_, ?_⟩)
    · unfold execOp
      go_simp
    · have hz := hb2.size
      exact fun k _ hS h => ((hS h).kept (grown_set _ ⟨w2.heap.size, 0, none⟩ _) (by simp; omega)).kept (grown_set _ ⟨w2.heap.size, 1, none⟩ _) (by simp; omega)
    refine wpAnyP_one (i := 9) (by kernel_rfl) (wpOp_run (v := .map (some b)) (w' := ((w2.alloc (.cells #[.int .i64 0, .int .i64 0] 75)).setCell ⟨w2.heap.size, 0, none⟩ (.int .i64 x1)).setCell ⟨w2.heap.size, 1, none⟩ (.int .i64 x2)) rfl rfl (by go_simp) ⟨fun _ _ h => h, ?_⟩)
    refine wpAnyP_done (by kernel_rfl) ?_ _
    obtain ⟨p, hp⟩ : ∃ p, p = w2.heap.size := ⟨_, rfl⟩
    obtain ⟨w3, hw3⟩ : ∃ w3, ((w2.alloc (.cells #[.int .i64 0, .int .i64 0] 75)).setCell ⟨w2.heap.size, 0, none⟩ (.int .i64 x1)).setCell ⟨w2.heap.size, 1, none⟩ (.int .i64 x2) = w3 := ⟨_, rfl⟩
    have CS : CtS w w3 b p w.heap.size l ⟨x1, x2, x3, x4, x5⟩ (.slice A2 m.length c2) := by
      have hz := hb2.size
      have hz0 := BD.size
      have hbl := hM.lt
      have ga : w2.grownBy (w2.alloc (.cells #[.int .i64 0, .int .i64 0] 75)) none := World.grownBy_alloc _ _ _
      rw [← hw3, hp]
      refine ⟨by simp [go_sem], by simp [go_sem], ((hM.kept ga (by simp)).kept (grown_set _ ⟨w2.heap.size, 0, none⟩ _) (by simp; omega)).kept (grown_set _ ⟨w2.heap.size, 1, none⟩ _) (by simp; omega),
        (((KD.up hb2).kept ga (by simp)).kept (grown_set _ ⟨w2.heap.size, 0, none⟩ _) (by simp; omega)).kept (grown_set _ ⟨w2.heap.size, 1, none⟩ _) (by simp; omega), ?_⟩
      exact (((BD.trans (hb2.mono BD.size)).alloc (by omega) _).setCell (p := ⟨w2.heap.size, 0, none⟩) (by simp; omega) _).setCell (p := ⟨w2.heap.size, 1, none⟩) (by simp; omega) _
    rw [hw3, ← hp]
    have CSH := Lib.hid CS
    clear CS hw3 hp KD BD hb2 hM hbb hlt0 H45
  case' br2 =>
    refine wpAnyP_one (i := 6) (by kernel_rfl) (wpOp_call (f := 45) (args := #[.slice A l.length c]) rfl rfl (by kernel_rfl) ?_)
    refine (H45.out _ (BD.alloc BD.size _)).mono ?_
    rintro e w2 ⟨⟨b, rfl, hbb, hM⟩, hb2⟩
    refine ⟨_, rfl, fun k _ hS h => (hS h).up hb2, ?_⟩
    have c0 : w2.cell? ⟨wd.heap.size, 0, none⟩ = some (.int .i64 0) := upc (by simp [go_sem]) hb2
    have c1 : w2.cell? ⟨wd.heap.size, 1, none⟩ = some (.int .i64 0) := upc (by simp [go_sem]) hb2
    have f0 : w2.frozen? ⟨wd.heap.size, 0, none⟩ = false := (hb2.frozen (by simp)).trans (by simp [go_sem])
    have f1 : w2.frozen? ⟨wd.heap.size, 1, none⟩ = false := (hb2.frozen (by simp)).trans (by simp [go_sem])
    have hz := hb2.size
    have hz0 := BD.size
    have hbl := hM.lt
    have hza : (wd.alloc (.cells #[.int .i64 0, .int .i64 0] 75)).heap.size = wd.heap.size + 1 := by simp
    rw [hza] at hz hbb
    refine wpAnyP_one (i := 8) (by kernel_rfl) (wpOp_skip (w' := (w2.setCell ⟨wd.heap.size, 0, none⟩ (.int .i64 x1)).setCell ⟨wd.heap.size, 1, none⟩ (.int .i64 x2)) rfl rfl ?_ ⟨?_, ?_⟩)
    · unfold execOp
      go_simp
    · exact fun k _ hS h => ((hS h).kept (grown_set _ ⟨wd.heap.size, 0, none⟩ _) (by simp; omega)).kept (grown_set _ ⟨wd.heap.size, 1, none⟩ _) (by simp; omega)
    refine wpAnyP_one (i := 9) (by kernel_rfl) (wpOp_run (v := .map (some b)) (w' := (w2.setCell ⟨wd.heap.size, 0, none⟩ (.int .i64 x1)).setCell ⟨wd.heap.size, 1, none⟩ (.int .i64 x2)) rfl rfl (by go_simp) ⟨fun _ _ h => h, ?_⟩)
    refine wpAnyP_done (by kernel_rfl) ?_ _
    obtain ⟨p, hp⟩ : ∃ p, p = wd.heap.size := ⟨_, rfl⟩
    obtain ⟨w3, hw3⟩ : ∃ w3, (w2.setCell ⟨wd.heap.size, 0, none⟩ (.int .i64 x1)).setCell ⟨wd.heap.size, 1, none⟩ (.int .i64 x2) = w3 := ⟨_, rfl⟩
    have CS : CtS w w3 b p w.heap.size l ⟨x1, x2, x3, x4, x5⟩ (.slice A2 m.length c2) := by
      rw [← hw3, hp]
      refine ⟨by simp [go_sem, c0], by simp [go_sem, c1], (hM.kept (grown_set _ ⟨wd.heap.size, 0, none⟩ _) (by simp; omega)).kept (grown_set _ ⟨wd.heap.size, 1, none⟩ _) (by simp; omega),
        ((((KD.kept (World.grownBy_alloc _ _ none) (by simp)).up hb2)).kept (grown_set _ ⟨wd.heap.size, 0, none⟩ _) (by simp; omega)).kept (grown_set _ ⟨wd.heap.size, 1, none⟩ _) (by simp; omega), ?_⟩
      exact (((BD.alloc (by omega) _).trans (hb2.mono (by simp; omega))).setCell (p := ⟨wd.heap.size, 0, none⟩) (by simp; omega) _).setCell (p := ⟨wd.heap.size, 1, none⟩) (by simp; omega) _
    rw [hw3, ← hp]
    have CSH := Lib.hid CS
    clear CS hw3 hp KD BD hb2 hM hbb hlt0 H45 c0 c1 f0 f1 hz hz0 hbl hza
  all_goals
    have hlk := look_tbl CSH.out.2.2.1 HOL.out HNM.out.1 HNM.out.2
    obtain ⟨n0, n1, -, ⟨a0, a1, a2, a3, a4, a5⟩, -⟩ := CSH.out
    simp only at n0 n1 a0 a1 a2 a3 a4
    obtain ⟨z, hz⟩ : ∃ z, (lookT l x1 x2).getD ⟨0, 0, 0, 0⟩ = z := ⟨_, rfl⟩
    obtain ⟨q, hq⟩ : ∃ q, (lookT l x1 x2).isSome = q := ⟨_, rfl⟩
    rw [hz, hq] at hlk
    have HQ := Lib.hid hq
    obtain ⟨z1, z2, z3, z4⟩ := z
    clear hz hq
    go_upto_region 5 with fail
    generalize hwx : World.alloc w3 _ = wx
    have CX : Hid (CtS w wx b p w.heap.size l ⟨x1, x2, x3, x4, x5⟩ (.slice A2 m.length c2)) := by show CtS _ _ _ _ _ _ _ _; rw [← hwx]; exact CSH.out.up ((Below.refl _ _).alloc (Nat.le_refl _) _)
    clear hwx hlk n0 n1 a0 a1 a2 a3 a4 a5 CSH
    obtain ⟨n0, n1, -, ⟨a0, a1, a2, a3, a4, a5⟩, -⟩ := CX.out
    simp only at n0 n1 a0 a1 a2 a3 a4
    cases q
    · go_wp2_with fail
      clear n0 n1 a0 a1 a2 a3 a4 a5
      go_loopw [57] (fun iv wr => ∃ k : Nat, k ≤ m.length ∧ iv = .int .i64 k ∧ Hid (∀ j (h : j < m.length), j < k → ((lookT l (m[j]'h).t (m[j]'h).n).isSome || eqK (m[j]'h).t (m[j]'h).n x1 x2) = true) ∧ Hid (CtS w wr b p w.heap.size l ⟨x1, x2, x3, x4, x5⟩ (.slice A2 m.length c2))) (fun iv _ => m.length - (intOf iv).toNat)
      case atStart => exact ⟨0, by omega, rfl, fun _ _ h => by omega, CX⟩
      case round =>
        obtain ⟨k, hk, rfl, hno, hcs⟩ := hrel
        have HN := Lib.hid hno.out
        have HC := Lib.hid hcs.out
        clear hno hcs CX
        by_cases hlt : k < m.length
        · have hlt' : (k : Int) < (m.length : Int) := by omega
          obtain ⟨A', cap', he, -, -, hc0⟩ := HU.out
          injection he with e1 e2 e3
          subst e1 e3
          obtain ⟨b', o', rfl, hcc⟩ := hc0 (by intro h; subst h; simp at hlt)
          obtain ⟨a0, a1, a2, a3⟩ := (hcc k hlt).up HC.out.2.2.2.2
          have hw := HOM.out _ (List.getElem_mem hlt)
          obtain ⟨y, hy⟩ : ∃ y, m[k]'hlt = y := ⟨_, rfl⟩
          rw [hy] at a0 a1 a2 a3 hw
          obtain ⟨y1, y2, y3, y4⟩ := y
          simp only at a0 a1 a2 a3 hw
          have HLK : Hid (∀ W, CtS w W b p w.heap.size l ⟨x1, x2, x3, x4, x5⟩ (.slice (some ⟨b', o', none⟩) m.length c2) → (Instr.lookup 76 (.map (some b)) (Ky y1 y2) true).run Try.prog W = .ok (.tuple #[Stv ((lookT l y1 y2).getD ⟨0, 0, 0, 0⟩), .bool (lookT l y1 y2).isSome]) W) :=
            fun W hW => look_tbl hW.2.2.1 HOL.out hw.1 hw.2
          obtain ⟨z, hz⟩ : ∃ z, (lookT l y1 y2).getD ⟨0, 0, 0, 0⟩ = z := ⟨_, rfl⟩
          obtain ⟨q, hq⟩ : ∃ q, (lookT l y1 y2).isSome = q := ⟨_, rfl⟩
          obtain ⟨r, hr⟩ : ∃ r, eqK y1 y2 x1 x2 = r := ⟨_, rfl⟩
          rw [hz, hq] at HLK
          have HQK := Lib.hid hq
          have HRK := Lib.hid hr
          have HY := Lib.hid hy
          obtain ⟨g1, g2, g3, g4⟩ := z
          have hne : ∀ w, (binOp .neq 75 (Ky y1 y2) (Ky x1 x2)).run Try.prog w = .ok (.bool (!r)) w := fun w => by rw [← hr]; exact neq75 y1 y2 x1 x2 w
          clear hz hq hr hy hcc hc0 hw
          go_upto_region 10 with fail
          generalize hwy : World.alloc wr _ = wy
          have KY : Hid (At4 wy wr.heap.size 0 ⟨y1, y2, y3, y4⟩) := by show At4 _ _ _ _; rw [← hwy]; exact At4.new wr ⟨y1, y2, y3, y4⟩
          have CY : Hid (CtS w wy b p w.heap.size l ⟨x1, x2, x3, x4, x5⟩ (.slice (some ⟨b', o', none⟩) m.length c2)) := by show CtS _ _ _ _ _ _ _ _; rw [← hwy]; exact HC.out.up ((Below.refl _ _).alloc (Nat.le_refl _) _)
          clear hwy a0 a1 a2 a3 HC
          obtain ⟨d0, d1, d2, d3⟩ := KY.out
          simp only [Nat.zero_add] at d0 d1 d2 d3
          go_upto_region 11 with (go_at_call 46; (with_reducible refine (of_any ⟨y1, y2, y3, y4⟩ _).mono ?_); rintro e9 w4 ⟨rfl, hb4⟩; replace KY := Lib.hid (KY.out.up hb4); replace CY := Lib.hid (CY.out.up hb4); have hlk := HLK.out w4 CY.out; clear hb4 d0 d1 d2 d3 HLK)
          generalize hwz : World.alloc w4 _ = wz
          have KZ : Hid (At4 wz wr.heap.size 0 ⟨y1, y2, y3, y4⟩) := by show At4 _ _ _ _; rw [← hwz]; exact KY.out.alloc _
          have CZ : Hid (CtS w wz b p w.heap.size l ⟨x1, x2, x3, x4, x5⟩ (.slice (some ⟨b', o', none⟩) m.length c2)) := by show CtS _ _ _ _ _ _ _ _; rw [← hwz]; exact CY.out.up ((Below.refl _ _).alloc (Nat.le_refl _) _)
          clear hwz hlk KY CY
          obtain ⟨d0, d1, d2, d3⟩ := KZ.out
          obtain ⟨n0, n1, -⟩ := CZ.out
          simp only [Nat.zero_add] at d0 d1 d2 d3 n0 n1
          have E0 : ∀ X : BW wz, X.to.cell? ⟨wr.heap.size, 0, none⟩ = some (.int .i64 y1) := fun X => upc d0 X.same
          have E1 : ∀ X : BW wz, X.to.cell? ⟨wr.heap.size, 1, none⟩ = some (.int .i64 y2) := fun X => upc d1 X.same
          have E2 : ∀ X : BW wz, X.to.cell? ⟨wr.heap.size, 2, none⟩ = some (.int .i64 y3) := fun X => upc d2 X.same
          have E3 : ∀ X : BW wz, X.to.cell? ⟨wr.heap.size, 3, none⟩ = some (.int .i64 y4) := fun X => upc d3 X.same
          have E4 : ∀ X : BW wz, X.to.cell? ⟨p, 0, none⟩ = some (.int .i64 x1) := fun X => upc n0 X.same
          have E5 : ∀ X : BW wz, X.to.cell? ⟨p, 1, none⟩ = some (.int .i64 x2) := fun X => upc n1 X.same
          have H46 := Lib.hid (fun w => of_any ⟨y1, y2, y3, y4⟩ w)
          clear d0 d1 d2 d3 n0 n1
          rcases q with _ | _ <;> rcases r with _ | _
          case false.false =>
            refine wp_region_quietB (by kernel_rfl) (by kernel_rfl) ?_
            repeat (go_big_quiet_step ((go_at_call 46; exact quietB (H46.out _))))
            refine wpQuiet_nil ?_
            rintro _ ⟨⟨wu, hbu⟩, rfl⟩
            clear E0 E1 E2 E3 E4 E5 hne
            have hall : (m.all (fun s => (lookT l s.t s.n).isSome || eqK s.t s.n x1 x2)) = false := by
              rw [List.all_eq_false]
              exact ⟨m[k]'hlt, List.getElem_mem hlt, by rw [HY.out, HQK.out, HRK.out]; simp⟩
            have HALL := Lib.hid hall
            have CU := Lib.hid (CZ.out.up hbu)
            clear hall hbu
            go_wp2_with fail
            exact bodyPost_ret (v := .bool false) (by simp [results, Try.results19, go_sem]) rfl ⟨by rw [HALL.out]; simp, CU.out.2.2.2.2⟩
          all_goals
            refine wp_region_quietB (by kernel_rfl) (by kernel_rfl) ?_
            repeat (go_big_quiet_step ((go_at_call 46; exact quietB (H46.out _))))
            refine wpQuiet_nil ?_
            rintro _ ⟨⟨wu, hbu⟩, rfl⟩
            clear E0 E1 E2 E3 E4 E5 hne
            have CU := Lib.hid (CZ.out.up hbu)
            clear hbu
            go_wp2_with fail
            go_roundw
            case rel =>
              refine ⟨k + 1, by omega, by go_num, fun j h hj => ?_, CU⟩
              by_cases e : j = k
              · subst e; rw [HY.out, HQK.out, HRK.out]; rfl
              · exact HN.out j h (by omega)
            case measure => simp [intOf]; omega
        · obtain rfl : k = m.length := by omega
          have hall : (m.all (fun s => (lookT l s.t s.n).isSome || eqK s.t s.n x1 x2)) = true := by
            rw [List.all_eq_true]
            intro s hs
            obtain ⟨j, hj, rfl⟩ := List.getElem_of_mem hs
            exact HN.out j hj hj
          have HALL := Lib.hid hall
          obtain ⟨-, -, -, ⟨a0, a1, a2, a3, a4, a5⟩, -⟩ := HC.out
          simp only at a0 a1 a2 a3 a4
          clear hall HN
          cases x4
          · go_upto_region 14 with fail
            have E3 : ∀ X : BW wr, X.to.cell? ⟨w.heap.size, 3, none⟩ = some (.bool false) := fun X => upc a3 X.same
            clear a0 a1 a2 a3 a4 a5
            refine wp_region_quietB (by kernel_rfl) (by kernel_rfl) ?_
            repeat (go_big_quiet_step (fail))
            refine wpQuiet_nil ?_
            rintro _ ⟨⟨wu, hbu⟩, rfl⟩
            have CU := Lib.hid (HC.out.up hbu)
            clear E3 hbu
            go_wp2_with fail
            exact bodyPost_ret (v := .bool true) (by simp [results, Try.results19, go_sem]) rfl ⟨by rw [HALL.out, HQ.out]; simp, CU.out.2.2.2.2⟩
          · go_upto_region 14 with fail
            have KT : Th6 wr w.heap.size ⟨x1, x2, x3, true, x5⟩ (.slice A2 m.length c2) := HC.out.2.2.2.1
            have BD : Below w.heap.size w wr.drew := HC.out.2.2.2.2.drew
            have HV2 := HV.out
            have HU2 := HU.out
            clear a0 a1 a2 a3 a4 a5
            refine wp_region_P (fun i w' => (i = 1 ∨ i = 7) → Th6 w' w.heap.size ⟨x1, x2, x3, true, x5⟩ (.slice A2 m.length c2)) (by kernel_rfl) ?_
            refine wpAnyP_take (i := 0) (v := .pointer (some ⟨w.heap.size, 3, none⟩)) rfl (by kernel_rfl) (by kernel_rfl) (by kernel_rfl) (fun _ _ _ h => h) (yieldsIf_run rfl (fun w hS => ?_)) (fun h => by omega) ?_
            · go_simp
            refine wpAnyP_take (i := 1) (v := .bool true) rfl (by kernel_rfl) (by kernel_rfl) (by kernel_rfl) (fun _ _ _ h => h) (yieldsIf_run rfl (fun w hS => ?_)) (fun _ => KT) ?_
            · obtain ⟨c0, c1, c2, c3, c4, c5⟩ := hS (.inl rfl)
              go_simp
            refine wpAnyP_take (i := 2) (v := .bool false) rfl (by kernel_rfl) (by kernel_rfl) (by kernel_rfl) (fun _ _ _ h => h) (yieldsIf_run rfl (fun w hS => ?_)) (fun h => by omega) ?_
            · go_simp
            refine wpAnyP_take (i := 3) (v := .bool false) rfl (by kernel_rfl) (by kernel_rfl) (by kernel_rfl) (fun _ _ _ h => h) (yieldsIf_run rfl (fun w hS => ?_)) (fun h => by omega) ?_
            · go_simp
            refine wpAnyP_take (i := 4) (v := .slice A l.length c) rfl (by kernel_rfl) (by kernel_rfl) (by kernel_rfl) (fun _ _ _ h => h) (yieldsIf_runG (by kernel_rfl) (fun w hS => ?_)) (fun h => by omega) ?_
            · go_simp
            refine wpAnyP_take (i := 6) (v := .pointer (some ⟨w.heap.size, 5, none⟩)) rfl (by kernel_rfl) (by kernel_rfl) (by kernel_rfl) (fun _ _ _ h => h) (yieldsIf_runG (by kernel_rfl) (fun w hS => ?_)) (fun h => by omega) ?_
            · go_simp
            refine wpAnyP_take (i := 7) (v := .slice A2 m.length c2) rfl (by kernel_rfl) (by kernel_rfl) (by kernel_rfl) (fun _ _ _ h => h) (yieldsIf_runG (by kernel_rfl) (fun w hS => ?_)) (fun _ => KT) ?_
            · obtain ⟨c0, c1, c2, c3, c4, c5⟩ := hS (.inr rfl)
              go_simp
            refine wpAnyP_one (i := 5) (by kernel_rfl) (wpOp_callG (f := 48) (args := #[.slice A l.length c]) rfl (by kernel_rfl) (by kernel_rfl) ?_)
            refine (sorted_any l _ _ (HV2.up BD) (by omega) (chk_bnd Q1.out)).mono ?_
            rintro e w4 ⟨⟨s4, s5, l4, rfl, hg4, hr4, hp4, hs4⟩, hb4⟩
            refine ⟨_, rfl, fun k _ hS h => (hS h).up hb4, ?_⟩
            have B4 := BD.trans (hb4.mono BD.size)
            obtain rfl := srt_uniq (chk_bnd Q1.out) (chk_dis Q1.out) hp4 hs4
            refine wpAnyP_one (i := 8) (by kernel_rfl) (wpOp_callG (f := 48) (args := #[.slice A2 m.length c2]) rfl (by kernel_rfl) (by kernel_rfl) ?_)
            refine (sorted_any m _ _ (HU2.up B4) (by omega) (chk_bnd Q2.out)).mono ?_
            rintro e w5 ⟨⟨t4, t5, m4, rfl, hg5, hr5, hp5, hs5⟩, hb5⟩
            refine ⟨_, rfl, fun k _ hS h => (hS h).up hb5, ?_⟩
            have B5 := B4.trans (hb5.mono B4.size)
            obtain rfl := srt_uniq (chk_bnd Q2.out) (chk_dis Q2.out) hp5 hs5
            refine wpAnyP_one (i := 9) (by kernel_rfl) (wpOp_callG (f := 47) (args := #[.slice (some ⟨s4, 0, none⟩) l.length s5, .slice (some ⟨t4, 0, none⟩) m.length t5]) rfl (by kernel_rfl) (by kernel_rfl) ?_)
            refine (Equal_any (srt l) (srt m) _ _ _ (hr4.up hb5) hr5).mono ?_
            rintro e w6 ⟨rfl, hb6⟩
            refine ⟨_, rfl, fun k _ hS h => (hS h).up hb6, ?_⟩
            have B6 := B5.trans (hb6.mono B5.size)
            obtain ⟨ee, hee⟩ : ∃ ee, eqL (srt l) (srt m) = ee := ⟨_, rfl⟩
            rw [hee]
            refine wpAnyP_one (i := 10) (by kernel_rfl) (wpOp_run (v := .bool ee) (w' := w6) rfl rfl (by go_simp) ⟨fun _ _ h => h, ?_⟩)
            refine wpAnyP_one (i := 11) (by kernel_rfl) (wpOp_run (v := .bool ee) (w' := w6) rfl rfl (by go_simp) ⟨fun _ _ h => h, ?_⟩)
            refine wpAnyP_done (by kernel_rfl) ?_ _
            have HB6 := Lib.hid B6
            have HEE := Lib.hid hee
            clear B6 B5 B4 BD KT hb4 hb5 hb6 hr4 hr5 hp4 hp5 hs4 hs5 hg4 hg5 hee
            go_wp2_with fail
            exact bodyPost_ret (v := .bool ee) (by simp [results, Try.results19, go_sem]) rfl ⟨by rw [HALL.out, HQ.out, HEE.out]; simp, HB6.out⟩
    · go_wp2_with fail
      exact bodyPost_ret (v := .bool false) (by simp [results, Try.results19, go_sem]) rfl ⟨by rw [HQ.out]; rfl, CX.out.2.2.2.2⟩
end Go.Proofs.Ytomcpgdpjpjioaa
