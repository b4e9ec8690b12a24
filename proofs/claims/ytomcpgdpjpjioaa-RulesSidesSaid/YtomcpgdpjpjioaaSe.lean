/- Contract: seen. -/
import Derived.Test.YtomcpgdpjpjioaaLk
import Derived.Test.YtomcpgdpjpjioaaSr
import Derived.Test.YtomcpgdpjpjioaaNm
namespace Go.Proofs.Ytomcpgdpjpjioaa
open Go.RowKit Go.Proofs Go.Shelf
attribute [local go_sem] Oper.semAt_some

/-- A throw, but where the stones came to rest. -/
structure Th where
  team : Int
  n : Int
  late : Bool
  short : Bool
  how : Int
abbrev Thv (x : Th) (u : Value) : Value := .agg #[.int .i64 x.team, .int .i64 x.n, .bool x.late, .bool x.short, .int .i64 x.how, u]
abbrev Tho (x : Th) (u : Value) : Obj := .cells #[.int .i64 x.team, .int .i64 x.n, .bool x.late, .bool x.short, .int .i64 x.how, u] 36
abbrev Evv (x : Th) (u : Value) (r m s : Bool) : Value := .agg #[.int .i64 x.team, .int .i64 x.n, .bool x.late, .bool x.short, .int .i64 x.how, u, .bool r, .bool m, .bool s]
def evC (x : Th) (u : Value) (r m s : Bool) : List Value := [.int .i64 x.team, .int .i64 x.n, .bool x.late, .bool x.short, .int .i64 x.how, u, .bool r, .bool m, .bool s]
/-- What happened, in nine cells that may be written. -/
def Ev9 (w : World) (b : Nat) (x : Th) (u : Value) (r m s : Bool) : Prop :=
  ∀ j, j < 9 → w.cell? ⟨b, j, none⟩ = (evC x u r m s)[j]? ∧ w.frozen? ⟨b, j, none⟩ = false
theorem Ev9.kept {w w' : World} {b : Nat} {x : Th} {u : Value} {r m s : Bool} {row : Option Nat} (h : Ev9 w b x u r m s) (hg : w.grownBy w' row) (hne : some b ≠ row) : Ev9 w' b x u r m s := by
  have h0 : w.cell? ⟨b, 0, none⟩ = some (.int .i64 x.team) := (h 0 (by omega)).1
  have hk := hg.block b (lt_cell h0) hne
  exact fun j hj => ⟨(cell_heap hk).trans (h j hj).1, (frozen_heap hk).trans (h j hj).2⟩
theorem Ev9.new (w : World) (x : Th) (u : Value) (r m s : Bool) : Ev9 (w.alloc (.cells #[.int .i64 x.team, .int .i64 x.n, .bool x.late, .bool x.short, .int .i64 x.how, u, .bool r, .bool m, .bool s] 90)) w.heap.size x u r m s := by
  intro j hj
  rcases j with _ | _ | _ | _ | _ | _ | _ | _ | _ | j
  all_goals first
    | (exfalso; omega)
    | exact ⟨by simp [go_sem]; rfl, by simp [go_sem]⟩
theorem Ev9.set6 {w : World} {b : Nat} {x : Th} {u : Value} {r m s : Bool} (h : Ev9 w b x u r m s) (q : Bool) : Ev9 (w.setCell ⟨b, 6, none⟩ (.bool q)) b x u q m s := by
  intro j hj
  have h6 := h 6 (by omega)
  have hj' := h j hj
  rcases j with _ | _ | _ | _ | _ | _ | _ | _ | _ | j
  all_goals first
    | (exfalso; omega)
    | (refine ⟨?_, ?_⟩ <;> simp_all [go_sem, evC])
theorem Ev9.set7 {w : World} {b : Nat} {x : Th} {u : Value} {r m s : Bool} (h : Ev9 w b x u r m s) (q : Bool) : Ev9 (w.setCell ⟨b, 7, none⟩ (.bool q)) b x u r q s := by
  intro j hj
  have h6 := h 7 (by omega)
  have hj' := h j hj
  rcases j with _ | _ | _ | _ | _ | _ | _ | _ | _ | j
  all_goals first
    | (exfalso; omega)
    | (refine ⟨?_, ?_⟩ <;> simp_all [go_sem, evC])
theorem set9 {w : World} {b : Nat} {x0 : Th} {u0 : Value} {r0 m0 s0 : Bool} (h : Ev9 w b x0 u0 r0 m0 s0) (x : Th) (u : Value) (r m s : Bool) :
    Ev9 (((((((((w.setCell ⟨b, 0, none⟩ (.int .i64 x.team)).setCell ⟨b, 1, none⟩ (.int .i64 x.n)).setCell ⟨b, 2, none⟩ (.bool x.late)).setCell ⟨b, 3, none⟩ (.bool x.short)).setCell ⟨b, 4, none⟩ (.int .i64 x.how)).setCell ⟨b, 5, none⟩ u).setCell ⟨b, 6, none⟩ (.bool r)).setCell ⟨b, 7, none⟩ (.bool m)).setCell ⟨b, 8, none⟩ (.bool s)) b x u r m s := by
  have h0 := h 0 (by omega)
  have h1 := h 1 (by omega)
  have h2 := h 2 (by omega)
  have h3 := h 3 (by omega)
  have h4 := h 4 (by omega)
  have h5 := h 5 (by omega)
  have h6 := h 6 (by omega)
  have h7 := h 7 (by omega)
  have h8 := h 8 (by omega)
  clear h
  intro j hj
  rcases j with _ | _ | _ | _ | _ | _ | _ | _ | _ | j
  all_goals first
    | (exfalso; omega)
    | (refine ⟨?_, ?_⟩ <;> simp_all [go_sem, evC])
theorem grown_set (w : World) (a : Addr) (u : Value) : w.grownBy (w.setCell a u) (some a.block) :=
  ⟨rfl, rfl, rfl, by simp, fun k _ hne => Below.heap_setCell w a u k (fun e => hne (by rw [e]))⟩
theorem grown_of {w w' : World} (h : Below w.heap.size w w') (row : Option Nat) : w.grownBy w' row := ⟨h.os, h.tape, h.output, h.size, fun i hi _ => h.block i hi⟩
theorem MapA.kept {kt : TypeId} {R : Rd} {w w' : World} {b n : Nat} {m : Lit → Option (DataW Unit)} {row : Option Nat} (h : MapA kt R w b n m) (hg : w.grownBy w' row) (hne : some b ≠ row) : MapA kt R w' b n m := by
  have hlt := h.lt
  obtain ⟨D, ⟨es, clock, h1, h2⟩, h3⟩ := h
  exact ⟨D, ⟨es, clock, (hg.block b hlt hne).trans h1, h2⟩, h3⟩
theorem Tn7.kept {w w' : World} {b : Nat} {c : Cd} {n team : Int} {row : Option Nat} (h : Tn7 w b c n team) (hg : w.grownBy w' row) (hne : some b ≠ row) : Tn7 w' b c n team := by
  obtain ⟨a0, a1, a2, a3, a4, a5, a6⟩ := h
  have hk := hg.block b (lt_cell a0) hne
  exact ⟨(cell_heap hk).trans a0, (cell_heap hk).trans a1, (cell_heap hk).trans a2, (cell_heap hk).trans a3, (cell_heap hk).trans a4, (cell_heap hk).trans a5, (cell_heap hk).trans a6⟩
theorem At4.kept {w w' : World} {b o : Nat} {s : St} {row : Option Nat} (h : At4 w b o s) (hg : w.grownBy w' row) (hne : some b ≠ row) : At4 w' b o s := by
  obtain ⟨a0, a1, a2, a3⟩ := h
  exact ⟨hg.cell a0 hne, hg.cell a1 hne, hg.cell a2 hne, hg.cell a3 hne⟩
theorem results_c9 {fn : Func} {t : Tmp} {b : Nat} {x : Th} {u : Value} {r m s : Bool} (hf : fn.results = #[.cell t 90]) (tmps : Array Value) (w : World) (ht : tmps.getD t undef = .pointer (some ⟨b, 0, none⟩)) (h : Ev9 w b x u r m s) (hu : ∃ A n c, u = .slice A n c) :
    (results fn tmps).run Try.prog w = .ok (Evv x u r m s) w := by
  obtain ⟨A, n, c, rfl⟩ := hu
  have hl : (loadCells ⟨b, 0, none⟩ 9).run Try.prog w = .ok (Evv x (.slice A n c) r m s).cells w :=
    run_loadCells_list (P := Try.prog) w ⟨b, 0, none⟩ (evC x (.slice A n c) r m s) (fun j v hv => by
      have hj : j < 9 := by
        have := (List.getElem?_eq_some_iff.1 hv).1
        simpa [evC] using this
      rw [Addr.add_mid, Nat.zero_add, (h j hj).1]; exact hv)
  have hz : (loadVar 90 ⟨b, 0, none⟩).run Try.prog w = .ok (Evv x (.slice A n c) r m s) w := by
    have h1 : (isAgg 90).run Try.prog w = .ok true w := by kernel_rfl
    have h2 : (sizeOf 90).run Try.prog w = .ok 9 w := by kernel_rfl
    simp only [loadVar, Sem.run_bind, h1, h2, hl, Result.andThen_ok, Sem.run_pure, if_true]; rfl
  have hz' : (asAddr (tmps.getD t undef)).run Try.prog w = .ok ⟨b, 0, none⟩ w := by rw [ht]; rfl
  simp only [Array.getD_eq_getD_getElem?] at hz' ⊢
  simp [results, hf, hz', hz]
/-- A protected stone is gone. -/
def remB (c : Cd) (n team : Int) (m l : List St) : Bool := l.any (fun s => !(lookT m s.t s.n).isSome && kpB c n team s)
/-- A fixed stone has left the centre line. -/
def movB (c : Cd) (n team : Int) (m l : List St) : Bool := l.any (fun s => (lookT m s.t s.n).isSome && fxB c n team s && !cen ((lookT m s.t s.n).getD ⟨0, 0, 0, 0⟩))
theorem any_snoc (f : St → Bool) (l : List St) (s : St) : (l ++ [s]).any f = (l.any f || f s) := by simp

theorem seen_start (w : World) (c : Cd) (n team : Int) (x : Th) (u : Value) (q : Bool) :
    ∀ W, W = ((((w.alloc (Tno c n team)).alloc (Tho x u)).alloc (.cells #[.int .i64 0, .int .i64 0, .bool false, .bool false, .int .i64 0, .slice none 0 0, .bool false, .bool false, .bool false] 90)).alloc (.cells #[.int .i64 x.team, .int .i64 x.n, .bool x.late, .bool x.short, .int .i64 x.how, u, .bool false, .bool false, .bool q] 90)) →
    Tn7 W w.heap.size c n team ∧ Ev9 W (w.heap.size + 1 + 1) ⟨0, 0, false, false, 0⟩ (.slice none 0 0) false false false ∧ Ev9 W (w.heap.size + 1 + 1 + 1) x u false false q ∧ Below w.heap.size w W ∧ W.heap.size = w.heap.size + 4 := by
  rintro W rfl
  obtain ⟨w0, h0⟩ : ∃ w0, w.alloc (Tno c n team) = w0 := ⟨_, rfl⟩
  have k0 : Tn7 w0 w.heap.size c n team := by rw [← h0]; exact Tn7.new w c n team
  have s0 : w0.heap.size = w.heap.size + 1 := by rw [← h0]; simp
  have b0 : Below w.heap.size w w0 := by rw [← h0]; exact (Below.refl _ _).alloc (Nat.le_refl _) _
  rw [h0]
  obtain ⟨w1, h1⟩ : ∃ w1, w0.alloc (Tho x u) = w1 := ⟨_, rfl⟩
  have g1 : w0.grownBy w1 none := by rw [← h1]; exact World.grownBy_alloc _ _ _
  have s1 : w1.heap.size = w.heap.size + 1 + 1 := by rw [← h1]; simp [s0]
  rw [h1]
  obtain ⟨w2, h2⟩ : ∃ w2, w1.alloc (.cells #[.int .i64 0, .int .i64 0, .bool false, .bool false, .int .i64 0, .slice none 0 0, .bool false, .bool false, .bool false] 90) = w2 := ⟨_, rfl⟩
  have g2 : w1.grownBy w2 none := by rw [← h2]; exact World.grownBy_alloc _ _ _
  have s2 : w2.heap.size = w.heap.size + 1 + 1 + 1 := by rw [← h2]; simp [s1]
  have e2 : Ev9 w2 (w.heap.size + 1 + 1) ⟨0, 0, false, false, 0⟩ (.slice none 0 0) false false false := by rw [← h2, ← s1]; exact Ev9.new w1 ⟨0, 0, false, false, 0⟩ _ _ _ _
  rw [h2]
  have e3 := Ev9.new w2 x u false false q
  rw [s2] at e3
  refine ⟨((k0.kept g1 (by simp)).kept g2 (by simp)).kept (World.grownBy_alloc _ _ none) (by simp), e2.kept (World.grownBy_alloc _ _ none) (by simp), e3, ?_, by simp [s2]⟩
  exact ((b0.grown g1 (by omega) (by simp)).grown g2 (by omega) (by simp)).alloc (by omega) _

theorem remB_step (c : Cd) (n team : Int) (m : List St) {l : List St} {k : Nat} (h : k < l.length) : remB c n team m (l.take (k + 1)) = (remB c n team m (l.take k) || (!(lookT m (l[k]'h).t (l[k]'h).n).isSome && kpB c n team (l[k]'h))) := by
  unfold remB; rw [List.take_succ_eq_append_getElem h, any_snoc]
theorem movB_step (c : Cd) (n team : Int) (m : List St) {l : List St} {k : Nat} (h : k < l.length) : movB c n team m (l.take (k + 1)) = (movB c n team m (l.take k) || ((lookT m (l[k]'h).t (l[k]'h).n).isSome && fxB c n team (l[k]'h) && !cen ((lookT m (l[k]'h).t (l[k]'h).n).getD ⟨0, 0, 0, 0⟩))) := by
  unfold movB; rw [List.take_succ_eq_append_getElem h, any_snoc]
/-- What holds within a round. -/
def SeR (w1 W : World) (B p p' : Nat) (x : Th) (u : Value) (r m q : Bool) (s a : St) : Prop :=
  w1.grownBy W (some B) ∧ Ev9 W B x u r m q ∧ At4 W p 0 s ∧ At4 W p' 0 a ∧ p ≠ B ∧ p' ≠ B
theorem SeR.back {w1 W W' : World} {B p p' : Nat} {x : Th} {u : Value} {r m q : Bool} {s a : St} (h : SeR w1 W B p p' x u r m q s a) (hb : Below W.heap.size W W') : SeR w1 W' B p p' x u r m q s a := by
  obtain ⟨h1, h2, h3, h4, h5, h6⟩ := h
  exact ⟨h1.trans (grown_of hb _), h2.kept (grown_of hb none) (by simp), h3.up hb, h4.up hb, h5, h6⟩
theorem SeR.set6 {w1 W : World} {B p p' : Nat} {x : Th} {u : Value} {r m q : Bool} {s a : St} (h : SeR w1 W B p p' x u r m q s a) (r' : Bool) : SeR w1 (W.setCell ⟨B, 6, none⟩ (.bool r')) B p p' x u r' m q s a := by
  obtain ⟨h1, h2, h3, h4, h5, h6⟩ := h
  have hg := grown_set W ⟨B, 6, none⟩ (.bool r')
  exact ⟨h1.trans hg, h2.set6 r', h3.kept hg (by simpa using h5), h4.kept hg (by simpa using h6), h5, h6⟩
theorem SeR.set7 {w1 W : World} {B p p' : Nat} {x : Th} {u : Value} {r m q : Bool} {s a : St} (h : SeR w1 W B p p' x u r m q s a) (m' : Bool) : SeR w1 (W.setCell ⟨B, 7, none⟩ (.bool m')) B p p' x u r m' q s a := by
  obtain ⟨h1, h2, h3, h4, h5, h6⟩ := h
  have hg := grown_set W ⟨B, 7, none⟩ (.bool m')
  exact ⟨h1.trans hg, h2.set7 m', h3.kept hg (by simpa using h5), h4.kept hg (by simpa using h6), h5, h6⟩

set_option maxRecDepth 100000 in
set_option maxHeartbeats 4000000 in
theorem seen_any (c : Cd) (n team : Int) (x : Th) (l m : List St) (v u : Value) (w : World) (hv : RowS w v l) (hu : RowS w u m) (hm : m.length ≤ 900) (hl : ∀ s ∈ l, W64 s.t ∧ W64 s.n) (hmk : ∀ s ∈ m, W64 s.t ∧ W64 s.n) :
    Calls Try.prog 63 #[Tnv c n team, v, Thv x u] w (Back (Evv x u (remB c n team m l) (movB c n team m l) (decide (n < c.s))) w) := by
  have HV := Lib.hid hv
  have HU := Lib.hid hu
  have HK := Lib.hid hl
  have HMK := Lib.hid hmk
  have HST := Lib.hid (seen_start w c n team x u (decide (n < c.s)))
  have H45 : Hid (∀ W, Below w.heap.size w W → Calls Try.prog 45 #[u] W (TabC m W)) := fun W hW => table_any m u W (hu.up hW) hm (fun j h => hmk _ (List.getElem_mem h))
  obtain ⟨A, cap, rfl⟩ := hv.form
  obtain ⟨A2, cap2, rfl⟩ := hu.form
  clear hv hu hl hmk
  obtain ⟨x1, x2, x3, x4, x5⟩ := x
  obtain ⟨f, t, s, e, p⟩ := c
  go_enter Try.func63, Try.ntmps63
  go_wp2_with (go_at_call 45; (with_reducible refine (H45.out _ (HST.out _ rfl).2.2.2.1).mono ?_); rintro e1 w1 ⟨⟨b, rfl, hb1, hM⟩, hB⟩; obtain ⟨k0, k1, k2, k3, k4⟩ := HST.out _ rfl; rw [k4] at hb1; have K0 := Lib.hid (k0.up hB); have K1 := Lib.hid (k1.kept (grown_of hB none) (by simp)); have K2 := Lib.hid (k2.kept (grown_of hB none) (by simp)); have K3 := Lib.hid (k3.trans (hB.mono k3.size)); have HM := Lib.hid hM; clear k0 k1 k2 k3 k4 hM hB HST H45)
  go_loopw [26] (fun iv wr => ∃ k : Nat, k ≤ l.length ∧ iv = .int .i64 k ∧ Hid (w1.grownBy wr (some (w.heap.size + 1 + 1 + 1))) ∧ Hid (Ev9 wr (w.heap.size + 1 + 1 + 1) ⟨x1, x2, x3, x4, x5⟩ (.slice A2 m.length cap2) (remB ⟨f, t, s, e, p⟩ n team m (l.take k)) (movB ⟨f, t, s, e, p⟩ n team m (l.take k)) (decide (n < s)))) (fun iv _ => l.length - (intOf iv).toNat)
  case atStart => exact ⟨0, by omega, rfl, ⟨rfl, rfl, rfl, Nat.le_refl _, fun _ _ _ => rfl⟩, K2⟩
  case round =>
    obtain ⟨k, hk, rfl, hg, he⟩ := hrel
    have HG := Lib.hid hg.out
    have HE := Lib.hid he.out
    clear hg he K2
    by_cases hlt : k < l.length
    · have hlt' : (k : Int) < (l.length : Int) := by omega
      have HB : Hid (Below w.heap.size w wr) := K3.out.grown HG.out K3.out.size (fun j e => by cases e; omega)
      obtain ⟨A', cap', he, -, ⟨hl48, -⟩, hc⟩ := HV.out
      injection he with e1 e2 e3
      subst e1 e3
      obtain ⟨b', o', rfl, hcc⟩ := hc (by intro h; subst h; simp at hlt)
      obtain ⟨a0, a1, a2, a3⟩ := (hcc k hlt).up HB.out
      have hw := HK.out _ (List.getElem_mem hlt)
      have hrs := remB_step ⟨f, t, s, e, p⟩ n team m hlt
      have hms := movB_step ⟨f, t, s, e, p⟩ n team m hlt
      obtain ⟨y, hy⟩ : ∃ y, l[k]'hlt = y := ⟨_, rfl⟩
      rw [hy] at a0 a1 a2 a3 hw hrs hms
      obtain ⟨y1, y2, y3, y4⟩ := y
      simp only at a0 a1 a2 a3 hw hrs hms
      have HLK : Hid (∀ W, w1.grownBy W (some (w.heap.size + 1 + 1 + 1)) → (Instr.lookup 76 (.map (some b)) (Ky y1 y2) true).run Try.prog W = .ok (.tuple #[Stv ((lookT m y1 y2).getD ⟨0, 0, 0, 0⟩), .bool (lookT m y1 y2).isSome]) W) :=
        fun W hW => look_tbl (HM.out.kept hW (by simp; omega)) HMK.out hw.1 hw.2
      obtain ⟨z, hz⟩ : ∃ z, (lookT m y1 y2).getD ⟨0, 0, 0, 0⟩ = z := ⟨_, rfl⟩
      obtain ⟨q, hq⟩ : ∃ q, (lookT m y1 y2).isSome = q := ⟨_, rfl⟩
      obtain ⟨fx, hfx⟩ : ∃ q, fxB ⟨f, t, s, e, p⟩ n team ⟨y1, y2, y3, y4⟩ = q := ⟨_, rfl⟩
      obtain ⟨kp, hkp⟩ : ∃ q, kpB ⟨f, t, s, e, p⟩ n team ⟨y1, y2, y3, y4⟩ = q := ⟨_, rfl⟩
      obtain ⟨ce, hce⟩ : ∃ q, cen z = q := ⟨_, rfl⟩
      have H35 : Hid (∀ W, Calls Try.prog 35 #[Tnv ⟨f, t, s, e, p⟩ n team, Stv ⟨y1, y2, y3, y4⟩] W (Back (.bool kp) W)) := fun W => by rw [← hkp]; exact keeps_any _ _ _ _ W
      have H36 : Hid (∀ W, Calls Try.prog 36 #[Tnv ⟨f, t, s, e, p⟩ n team, Stv ⟨y1, y2, y3, y4⟩] W (Back (.bool fx) W)) := fun W => by rw [← hfx]; exact fixes_any _ _ _ _ W
      have H60 : Hid (∀ W, Calls Try.prog 60 #[Stv z] W (Back (.bool ce) W)) := fun W => by rw [← hce]; exact central_any _ W
      rw [hz, hq] at HLK
      rw [hq, hkp] at hrs
      rw [hq, hfx, hz, hce] at hms
      have HRS := Lib.hid hrs
      have HMS := Lib.hid hms
      have he6 := (HE.out 6 (by omega))
      obtain ⟨rr, hrr⟩ : ∃ q, remB ⟨f, t, s, e, p⟩ n team m (l.take k) = q := ⟨_, rfl⟩
      obtain ⟨mm, hmm⟩ : ∃ q, movB ⟨f, t, s, e, p⟩ n team m (l.take k) = q := ⟨_, rfl⟩
      have HRS : Hid (remB ⟨f, t, s, e, p⟩ n team m (l.take (k + 1)) = (rr || (!q && kp))) := by show _ = _; rw [← hrr]; exact HRS.out
      have HMS : Hid (movB ⟨f, t, s, e, p⟩ n team m (l.take (k + 1)) = (mm || (q && fx && !ce))) := by show _ = _; rw [← hmm]; exact HMS.out
      rw [hrr, hmm] at HE
      obtain ⟨z1, z2, z3, z4⟩ := z
      clear hrs hms he6 hw hy hc hcc hz hq hfx hkp hce hrr hmm
      go_upto_region 6 with fail
      generalize hwx : World.alloc wr _ = wx
      have KX : At4 wx wr.heap.size 0 ⟨y1, y2, y3, y4⟩ := by rw [← hwx]; exact At4.new wr ⟨y1, y2, y3, y4⟩
      have GX : Hid (w1.grownBy wx (some (w.heap.size + 1 + 1 + 1))) := by show World.grownBy _ _ _; rw [← hwx]; exact HG.out.trans (World.grownBy_alloc _ _ _)
      have EX : Hid (Ev9 wx (w.heap.size + 1 + 1 + 1) ⟨x1, x2, x3, x4, x5⟩ (.slice A2 m.length cap2) rr mm (decide (n < s))) := by show Ev9 _ _ _ _ _ _ _; rw [← hwx]; exact HE.out.kept (World.grownBy_alloc _ _ none) (by simp)
      have hp1 : w.heap.size + 1 + 1 + 1 < wr.heap.size := lt_cell (HE.out 0 (by omega)).1
      clear hwx a0 a1 a2 a3 HG HE
      have KX2 := Lib.hid KX
      obtain ⟨c0, c1, c2, c3⟩ := KX
      simp only [Nat.zero_add] at c0 c1 c2 c3
      go_upto_region 7 with (go_at_call 46; (with_reducible refine (of_any ⟨y1, y2, y3, y4⟩ _).mono ?_); rintro e9 w2 ⟨rfl, hb2⟩; have K2 := Lib.hid (KX2.out.up hb2); have E2 := Lib.hid (EX.out.kept (grown_of hb2 none) (by simp)); have G2 := Lib.hid (GX.out.trans (grown_of hb2 (some (w.heap.size + 1 + 1 + 1)))); have hlk := HLK.out w2 G2.out; have hsz2 := hb2.size; clear hb2 c0 c1 c2 c3 KX2 EX GX HLK)
      generalize hwy : World.alloc w2 _ = wy
      have hp2 : w.heap.size + 1 + 1 + 1 < w2.heap.size := lt_cell (E2.out 0 (by omega)).1
      have SR : Hid (SeR w1 wy (w.heap.size + 1 + 1 + 1) wr.heap.size w2.heap.size ⟨x1, x2, x3, x4, x5⟩ (.slice A2 m.length cap2) rr mm (decide (n < s)) ⟨y1, y2, y3, y4⟩ ⟨z1, z2, z3, z4⟩) := by
        show SeR _ _ _ _ _ _ _ _ _ _ _ _
        rw [← hwy]
        exact ⟨G2.out.trans (World.grownBy_alloc _ _ _), E2.out.kept (World.grownBy_alloc _ _ none) (by simp), K2.out.kept (World.grownBy_alloc _ _ none) (by simp), At4.new w2 ⟨z1, z2, z3, z4⟩, by omega, by omega⟩
      clear hwy hlk K2 E2 G2
      rcases rr with _ | _ <;> rcases q with _ | _ <;> rcases mm with _ | _ <;> rcases fx with _ | _
      all_goals
        obtain ⟨hG, hE, ⟨c0, c1, c2, c3⟩, -, -, -⟩ := SR.out
        obtain ⟨t0, t1, t2, t3, t4, t5, t6⟩ := K0.out.kept hG (by simp; omega)
        have e6 := (hE 6 (by omega)).1
        have f6 := (hE 6 (by omega)).2
        simp only [Nat.zero_add, evC, List.getElem?_cons_succ, List.getElem?_cons_zero] at c0 c1 c2 c3 t0 t1 t2 t3 t4 t5 t6 e6
        clear hG hE
        go_upto_region 8 with (go_at_call 35; (with_reducible refine (H35.out _).mono ?_); rintro e9 w3 ⟨rfl, hb3⟩; replace SR := Lib.hid (SR.out.back hb3); clear hb3 c0 c1 c2 c3 t0 t1 t2 t3 t4 t5 t6 e6 f6; have e6 := (SR.out.2.1 6 (by omega)).1; have f6 := (SR.out.2.1 6 (by omega)).2; simp only [evC, List.getElem?_cons_succ, List.getElem?_cons_zero] at e6)
        generalize hwz : World.setCell _ _ _ = wz
        obtain ⟨r', hr', hsz⟩ : ∃ r', remB ⟨f, t, s, e, p⟩ n team m (l.take (k + 1)) = r' ∧ SeR w1 wz (w.heap.size + 1 + 1 + 1) wr.heap.size w2.heap.size ⟨x1, x2, x3, x4, x5⟩ (.slice A2 m.length cap2) r' _ (decide (n < s)) ⟨y1, y2, y3, y4⟩ ⟨z1, z2, z3, z4⟩ := ⟨_, HRS.out, by rw [← hwz]; exact SR.out.set6 _⟩
        have HR2 := Lib.hid hr'
        have SZ := Lib.hid hsz
        first | clear hwz hr' hsz HRS SR c0 c1 c2 c3 t0 t1 t2 t3 t4 t5 t6 e6 f6 | clear hwz hr' hsz HRS SR e6 f6
        obtain ⟨hG, hE, ⟨c0, c1, c2, c3⟩, ⟨d0, d1, d2, d3⟩, -, -⟩ := SZ.out
        obtain ⟨t0, t1, t2, t3, t4, t5, t6⟩ := K0.out.kept hG (by simp; omega)
        have e7 := (hE 7 (by omega)).1
        have f7 := (hE 7 (by omega)).2
        simp only [Nat.zero_add, evC, List.getElem?_cons_succ, List.getElem?_cons_zero] at c0 c1 c2 c3 d0 d1 d2 d3 t0 t1 t2 t3 t4 t5 t6 e7
        clear hG hE
        go_upto_region 9 with (first
          | (go_at_call 36; (with_reducible refine (H36.out _).mono ?_); rintro e9 w4 ⟨rfl, hb4⟩; replace SZ := Lib.hid (SZ.out.back hb4); clear hb4 c0 c1 c2 c3 d0 d1 d2 d3 t0 t1 t2 t3 t4 t5 t6 e7 f7; have e7 := (SZ.out.2.1 7 (by omega)).1; have f7 := (SZ.out.2.1 7 (by omega)).2; obtain ⟨-, -, -, ⟨d0, d1, d2, d3⟩, -, -⟩ := SZ.out; simp only [Nat.zero_add, evC, List.getElem?_cons_succ, List.getElem?_cons_zero] at d0 d1 d2 d3 e7)
          | (go_at_call 60; (with_reducible refine (H60.out _).mono ?_); rintro e9 w5 ⟨rfl, hb5⟩; replace SZ := Lib.hid (SZ.out.back hb5); clear hb5 d0 d1 d2 d3 e7 f7; have e7 := (SZ.out.2.1 7 (by omega)).1; have f7 := (SZ.out.2.1 7 (by omega)).2; simp only [evC, List.getElem?_cons_succ, List.getElem?_cons_zero] at e7))
        generalize hwu : World.setCell _ _ _ = wu
        obtain ⟨m', hm', hsu⟩ : ∃ m', movB ⟨f, t, s, e, p⟩ n team m (l.take (k + 1)) = m' ∧ SeR w1 wu (w.heap.size + 1 + 1 + 1) wr.heap.size w2.heap.size ⟨x1, x2, x3, x4, x5⟩ (.slice A2 m.length cap2) r' m' (decide (n < s)) ⟨y1, y2, y3, y4⟩ ⟨z1, z2, z3, z4⟩ := ⟨_, HMS.out, by rw [← hwu]; exact SZ.out.set7 _⟩
        have HM2 := Lib.hid hm'
        have SU := Lib.hid hsu
        first | clear hwu hm' hsu HMS SZ c0 c1 c2 c3 d0 d1 d2 d3 t0 t1 t2 t3 t4 t5 t6 e7 f7 | clear hwu hm' hsu HMS SZ d0 d1 d2 d3 e7 f7 | clear hwu hm' hsu HMS SZ e7 f7
        go_wp2_with fail
        go_roundw
        case rel => exact ⟨k + 1, by omega, by go_num, SU.out.1, by rw [HR2.out, HM2.out]; exact SU.out.2.1⟩
        case measure => simp [intOf]; omega
    · obtain rfl : k = l.length := by omega
      have hE := HE.out
      rw [List.take_length] at hE
      have HF := Lib.hid hE
      have hz := K1.out.kept HG.out (by simp)
      clear hE HE
      have HZ := Lib.hid hz
      obtain ⟨g0, g1, g2, g3, g4, g5, g6, g7, g8⟩ : _ ∧ _ ∧ _ ∧ _ ∧ _ ∧ _ ∧ _ ∧ _ ∧ _ := ⟨HF.out 0 (by omega), HF.out 1 (by omega), HF.out 2 (by omega), HF.out 3 (by omega), HF.out 4 (by omega), HF.out 5 (by omega), HF.out 6 (by omega), HF.out 7 (by omega), HF.out 8 (by omega)⟩
      obtain ⟨h0, h1, h2, h3, h4, h5, h6, h7, h8⟩ : _ ∧ _ ∧ _ ∧ _ ∧ _ ∧ _ ∧ _ ∧ _ ∧ _ := ⟨hz 0 (by omega), hz 1 (by omega), hz 2 (by omega), hz 3 (by omega), hz 4 (by omega), hz 5 (by omega), hz 6 (by omega), hz 7 (by omega), hz 8 (by omega)⟩
      simp only [evC, List.getElem?_cons_succ, List.getElem?_cons_zero] at g0 g1 g2 g3 g4 g5 g6 g7 g8 h0 h1 h2 h3 h4 h5 h6 h7 h8
      obtain ⟨g0, -⟩ := g0
      obtain ⟨g1, -⟩ := g1
      obtain ⟨g2, -⟩ := g2
      obtain ⟨g3, -⟩ := g3
      obtain ⟨g4, -⟩ := g4
      obtain ⟨g5, -⟩ := g5
      obtain ⟨g6, -⟩ := g6
      obtain ⟨g7, -⟩ := g7
      obtain ⟨g8, -⟩ := g8
      obtain ⟨h0, i0⟩ := h0
      obtain ⟨h1, i1⟩ := h1
      obtain ⟨h2, i2⟩ := h2
      obtain ⟨h3, i3⟩ := h3
      obtain ⟨h4, i4⟩ := h4
      obtain ⟨h5, i5⟩ := h5
      obtain ⟨h6, i6⟩ := h6
      obtain ⟨h7, i7⟩ := h7
      obtain ⟨h8, i8⟩ := h8
      obtain ⟨rr, hrr⟩ : ∃ q, remB ⟨f, t, s, e, p⟩ n team m l = q := ⟨_, rfl⟩
      obtain ⟨mm, hmm⟩ : ∃ q, movB ⟨f, t, s, e, p⟩ n team m l = q := ⟨_, rfl⟩
      rw [hrr] at g6
      rw [hmm] at g7
      have HB : Hid (Below w.heap.size w wr) := K3.out.grown HG.out K3.out.size (fun j e => by cases e; omega)
      have HX := Lib.hid (set9 HZ.out ⟨x1, x2, x3, x4, x5⟩ (.slice A2 m.length cap2) rr mm (decide (n < s)))
      have HRR := Lib.hid hrr
      have HMM := Lib.hid hmm
      clear hz HZ hrr hmm
      go_wp2_with fail
      refine bodyPost_ret (results_c9 rfl _ _ rfl HX.out ⟨_, _, _, rfl⟩) rfl ⟨by rw [HRR.out, HMM.out], ?_⟩
      exact ((((((((HB.out.setCell (p := ⟨w.heap.size + 1 + 1, 0, none⟩) (by simp; omega) _).setCell (p := ⟨w.heap.size + 1 + 1, 1, none⟩) (by simp; omega) _).setCell (p := ⟨w.heap.size + 1 + 1, 2, none⟩) (by simp; omega) _).setCell (p := ⟨w.heap.size + 1 + 1, 3, none⟩) (by simp; omega) _).setCell (p := ⟨w.heap.size + 1 + 1, 4, none⟩) (by simp; omega) _).setCell (p := ⟨w.heap.size + 1 + 1, 5, none⟩) (by simp; omega) _).setCell (p := ⟨w.heap.size + 1 + 1, 6, none⟩) (by simp; omega) _).setCell (p := ⟨w.heap.size + 1 + 1, 7, none⟩) (by simp; omega) _).setCell (p := ⟨w.heap.size + 1 + 1, 8, none⟩) (by simp; omega) _
end Go.Proofs.Ytomcpgdpjpjioaa
