/- Contract: Parse. -/
import Derived.Test.YtmhlialdbggmdaaGreatDoorSq
import Derived.Test.YtmhlialdbggmdaaGreatDoorDr
import Derived.Test.YtmhlialdbggmdaaGreatDoorLn
import Derived.Sort.CutIn
namespace Go.Proofs.YtmhlialdbggmdaaGreatDoor
open Go.RowKit Go.Proofs Go.Shelf
attribute [local go_sem] Oper.semAt_some

theorem h92 : Idx92 := Tryz.strings_Index_one
theorem SplitAfterSeq_any (s : ByteArray) (w : World) :
    Calls Tryz.prog 49 #[.string s, .string ⟨#[10]⟩] w fun e w' => e = .returned (.func (.func 90) #[] #[.pointer (some ⟨w.heap.size + 1, 0, none⟩), .pointer (some ⟨w.heap.size, 0, none⟩), .pointer (some ⟨w.heap.size + 2, 0, none⟩)]) ∧
      Cap3 w.heap.size (w.heap.size + 1) (w.heap.size + 2) s w' ∧ Below w.heap.size w w' ∧ w'.heap.size = w.heap.size + 3 := by
  have hmf : ∀ (fn : Fn) (first cap : Array Value) (w : World), (Instr.makeFunc fn first cap).run Tryz.prog w = .ok (.func fn first cap) w := fun _ _ _ _ => rfl
  have H75 : Calls Tryz.prog 75 #[.string s, .string ⟨#[10]⟩, .int .i64 1] w fun e w' => e = .returned (.func (.func 90) #[] #[.pointer (some ⟨w.heap.size + 1, 0, none⟩), .pointer (some ⟨w.heap.size, 0, none⟩), .pointer (some ⟨w.heap.size + 2, 0, none⟩)]) ∧
      Cap3 w.heap.size (w.heap.size + 1) (w.heap.size + 2) s w' ∧ Below w.heap.size w w' ∧ w'.heap.size = w.heap.size + 3 := by
    go_enter Tryz.func75, Tryz.ntmps75
    go_wp2_with fail
    go_ret
    refine ⟨rfl, ?_, ((((Below.refl _ _).alloc (Nat.le_refl _) _).alloc (by simp) _).alloc (by simp; omega) _), by simp⟩
    refine ⟨?_, ?_, ?_⟩
    · rw [Below.heap_alloc _ _ _ (by simp; omega), Below.heap_alloc _ _ _ (by simp), World.alloc_heap_new]
    · rw [Below.heap_alloc _ _ _ (by simp)]; have := World.alloc_heap_new (w.alloc (.cells #[.string s] 9)) (.cells #[.string ⟨#[10]⟩] 9); rwa [World.size_alloc] at this
    · have := World.alloc_heap_new ((w.alloc (.cells #[.string s] 9)).alloc (.cells #[.string ⟨#[10]⟩] 9)) (.cells #[.int .i64 1] 3); rwa [World.size_alloc, World.size_alloc] at this
  have H := Lib.hid H75
  clear H75
  go_enter Tryz.func49, Tryz.ntmps49
  go_wp2_with (go_at_call 75; refine H.out.mono ?_; rintro e w' ⟨rfl, hc, hb, hz⟩)
  go_ret
  exact ⟨rfl, hc, hb, hz⟩

def stC (s : St) : List Value := [.int .i64 s.t, .int .i64 s.n, .int .i64 s.x, .int .i64 s.y]
abbrev OwnS (base : Nat) (W : World) (v : Value) (L : List St) : Prop := W.ownsRow base 53 4 v L.length (L.flatMap stC)
theorem Tryz.info53 : (Tryz.prog.info? 53).map (fun i => (i.zero, i.size, i.bytes)) = some (some (.agg #[.int .i64 0, .int .i64 0, .int .i64 0, .int .i64 0]), 4, 32) := by kernel_rfl
theorem ownsRow_kq {n0 cs base : Nat} {e : TypeId} {size n : Nat} {v : Value} {xs : List Value} {W W' : World} (h : W.ownsRow base e size v n xs) (hk : Kq n0 cs W W') (hc : cs < base) : W'.ownsRow base e size v n xs := by
  obtain ⟨h1, h2⟩ := h
  refine ⟨h1, h2.imp_right ?_⟩
  rintro ⟨g, cap, cur, h3, h4, h5, h6⟩
  exact ⟨g, cap, cur, h3, h4, hk.2 _ _ _ _ h5 (by omega), h6⟩
/-- What stands between two rounds. -/
def PaI (w : World) (s : ByteArray) (r : ByteArray) (W : World) : Prop :=
  ∃ L v, s.data.toList = printL L ++ r.data.toList ∧ (∀ t ∈ L, okT t) ∧ L.length ≤ 16 ∧ Boxed W w.heap.size 30 v ∧ OwnS (w.heap.size + 6) W v L ∧
    Boxed W (w.heap.size + 1) 3 (.int .i64 ((printL L).length : Nat)) ∧ Boxed W (w.heap.size + 2) 25 (.int .i64 0) ∧ Below w.heap.size w W
/-- Where the rounds end. -/
def PaX (w : World) (s : ByteArray) (c : Code) (W : World) : Prop :=
  (c = .exit 0 ∧ ∃ L v, s.data.toList = printL L ∧ (∀ t ∈ L, okT t) ∧ L.length ≤ 16 ∧ Boxed W w.heap.size 30 v ∧ OwnS (w.heap.size + 6) W v L ∧
    Boxed W (w.heap.size + 1) 3 (.int .i64 ((printL L).length : Nat)) ∧ Boxed W (w.heap.size + 2) 25 (.int .i64 0) ∧ Below w.heap.size w W) ∨
  (c = .ret ∧ ∃ k : Nat, ParC 16 s.data.toList (.bad k) ∧ Boxed W w.heap.size 30 (.slice none 0 0) ∧ Boxed W (w.heap.size + 1) 3 (.int .i64 k) ∧ Boxed W (w.heap.size + 2) 25 (.int .i64 5) ∧ Below w.heap.size w W)
theorem PaI.up {w : World} {s r : ByteArray} {W W' : World} (h : PaI w s r W) (hk : Kq (w.heap.size + 3) (w.heap.size + 3) W W') : PaI w s r W' := by
  obtain ⟨L, v, h1, h2, h3, h4, h5, h6, h7, h8⟩ := h
  exact ⟨L, v, h1, h2, h3, hk.2 _ _ _ _ h4 (by omega), ownsRow_kq h5 hk (by omega), hk.2 _ _ _ _ h6 (by omega), hk.2 _ _ _ _ h7 (by omega), h8.trans (hk.1.mono (by omega))⟩
theorem PaX.up {w : World} {s : ByteArray} {c : Code} {W W' : World} (h : PaX w s c W) (hk : Kq (w.heap.size + 3) (w.heap.size + 3) W W') : PaX w s c W' := by
  rcases h with ⟨hc, L, v, h1, h2, h3, h4, h5, h6, h7, h8⟩ | ⟨hc, k, h1, h2, h3, h4, h5⟩
  · exact .inl ⟨hc, L, v, h1, h2, h3, hk.2 _ _ _ _ h4 (by omega), ownsRow_kq h5 hk (by omega), hk.2 _ _ _ _ h6 (by omega), hk.2 _ _ _ _ h7 (by omega), h8.trans (hk.1.mono (by omega))⟩
  · exact .inr ⟨hc, k, h1, hk.2 _ _ _ _ h2 (by omega), hk.2 _ _ _ _ h3 (by omega), hk.2 _ _ _ _ h4 (by omega), h5.trans (hk.1.mono (by omega))⟩
theorem boxed_up {W W' : World} {B : Nat} {t : TypeId} {v : Value} (h : Boxed W B t v) (hb : Below W.heap.size W W') : Boxed W' B t v := (hb.block B h.lt).trans h
theorem boxed_cells_up {W W' : World} {g : Nat} {o : Obj} (h : W.heap[g]? = some o) (hb : Below W.heap.size W W') : W'.heap[g]? = some o := (hb.block g (Array.getElem?_eq_some_iff.1 h).1).trans h
theorem others_below {W W' : World} (h : Below W.heap.size W W') : KeepsOthers W W' := ⟨h.size, fun k _ hk _ => (h.block k (Array.getElem?_eq_some_iff.1 hk).1).trans hk⟩
/-- The world behind a return with an error of form. -/
def badW (w : World) (k : Nat) (W : World) : World := ((W.drew.setCell ⟨w.heap.size, 0, none⟩ (.slice none 0 0)).setCell ⟨w.heap.size + 1, 0, none⟩ (.int .i64 k)).setCell ⟨w.heap.size + 1 + 1, 0, none⟩ (.int .i64 5)
theorem badW_end {w W w2 : World} {s : ByteArray} {v : Value} {k : Nat} {o : Obj} (HB : ParC 16 s.data.toList (.bad k)) (h4 : Boxed W w.heap.size 30 v) (h6 : Boxed W (w.heap.size + 1) 3 (.int .i64 k)) (h7 : Boxed W (w.heap.size + 2) 25 (.int .i64 0))
    (h8 : Below w.heap.size w W) (hb2 : Below W.heap.size W w2) : KeepsOthers W (badW w k (w2.alloc o)) ∧ PaX w s .ret (badW w k (w2.alloc o)) := by
  have k0 : Boxed (w2.alloc o).drew w.heap.size 30 v := (boxed_up h4 hb2).alloc o
  have k1 : Boxed (w2.alloc o).drew (w.heap.size + 1) 3 (.int .i64 k) := (boxed_up h6 hb2).alloc o
  have k2 : Boxed (w2.alloc o).drew (w.heap.size + 1 + 1) 25 (.int .i64 0) := (boxed_up h7 hb2).alloc o
  refine ⟨?_, .inr ⟨rfl, k, HB, ?_, ?_, ?_, ?_⟩⟩
  · exact ((((others_below hb2).trans (KeepsOthers.alloc w2 o)).trans (KeepsOthers.drew _)).trans ((KeepsOthers.setCell _ _ _).trans ((KeepsOthers.setCell _ _ _).trans (KeepsOthers.setCell _ _ _))))
  · exact ((k0.set _).other (by omega) _).other (by omega) _
  · exact ((k1.other (by omega) _).set _).other (by omega) _
  · exact ((k2.other (by omega) _).other (by omega) _).set _
  · have hz := Nat.le_trans h8.size hb2.size
    exact ((((((h8.trans (hb2.mono h8.size)).alloc hz o).drew.setCell (p := ⟨w.heap.size, 0, none⟩) (by simp) _).setCell (p := ⟨w.heap.size + 1, 0, none⟩) (by simp) _)).setCell (p := ⟨w.heap.size + 1 + 1, 0, none⟩) (by simp; omega) _)
theorem ownBlock_ge {base : Nat} {e : TypeId} {size n : Nat} {v : Value} {xs : List Value} {W : World} (h : W.ownsRow base e size v n xs) {j : Nat} (hj : v.ownBlock = some j) : base ≤ j ∧ ∃ o, W.heap[j]? = some o ∧ o.isCells = true := by
  rcases h.2 with ⟨rfl, _⟩ | ⟨g, cap, cur, rfl, hb, hg, _⟩
  · simp [Value.ownBlock] at hj
  · obtain rfl : g = j := by simpa [Value.ownBlock] using hj
    exact ⟨hb, _, hg, rfl⟩
/-- The worlds of a round that goes on: behind the call of stone (w2), the variable x and the block of what is appended; behind the append (w5). -/
theorem good_boxes {w W w2 w5 : World} {L : List St} {t : St} {v : Value} {B : Nat} {ty : TypeId} {u : Value} (hty : ty ≠ 53)
    (h5 : OwnS (w.heap.size + 6) W v L) (hb2 : Below W.heap.size W w2) (hg : (((w2.alloc (Sto t)).drew).alloc (.cells (stC t).toArray 53)).grownBy w5 v.ownBlock) (hu : Boxed W B ty u) : Boxed w5 B ty u := by
  have h1 : Boxed (((w2.alloc (Sto t)).drew).alloc (.cells (stC t).toArray 53)) B ty u := (show Boxed (w2.alloc (Sto t)).drew B ty u from (boxed_up hu hb2).alloc _).alloc _
  exact h1.kept hg (hu.not_row hty h5)
theorem own_up {base : Nat} {v : Value} {L : List St} {W w2 : World} (h : OwnS base W v L) (hb : Below W.heap.size W w2) : OwnS base w2 v L := by
  obtain ⟨q1, q2⟩ := h
  refine ⟨q1, q2.imp_right ?_⟩
  rintro ⟨g, cap, cur, q3, q4, q5, q6⟩
  exact ⟨g, cap, cur, q3, q4, boxed_cells_up q5 hb, q6⟩
theorem news_stC (W : World) (t : St) : ∀ j u, (stC t)[j]? = some u → (W.alloc (.cells (stC t).toArray 53)).cell? ((⟨W.heap.size, 0, none⟩ : Addr).add j) = some u := by
  intro j u hu
  have h := World.alloc_heap_new W (.cells (stC t).toArray 53)
  rw [Addr.add_mid]
  unfold World.cell?
  rw [h]
  rcases j with _ | _ | _ | _ | j <;> simp [stC] at hu <;> subst hu <;> rfl
theorem run_append_op {P : Program} {o : Oper} {a : Act} {W W' : World} {s x : Operand} {t : TypeId} {v u v' : Value} (ho : o.op = .call { callee := .builtin .append, args := #[s, x], argTypes := #[t, t] }) (hs : a.eval s = v) (hx : a.eval x = u)
    (hrun : (Builtin.append_ #[t, t] o.type #[v, u]).run P W = .ok v' W') : (execOp a.eval o).run P W = .ok (.value v') W' := by
  unfold execOp
  simp only [ho, resolve, invoke, builtin, Sem.run_bind, Sem.run_pure, Result.andThen_ok, List.map_toArray, List.map_cons, List.map_nil, hs, hx, hrun]
theorem good_end {w W w2 w5 : World} {s r r2 x : ByteArray} {ln : List UInt8} {L : List St} {t : St} {v v' : Value} {k : Nat} (H1 : s.data.toList = printL L ++ r.data.toList) (HRL : r.data.toList = ln ++ 10 :: r2.data.toList) (hx : x.data.toList = ln ++ [10])
    (hk : (printL L).length = k) (h2 : ∀ t ∈ L, okT t) (ht : lineOk ln t) (hl : L.length < 16) (h4 : Boxed W w.heap.size 30 v) (h5 : OwnS (w.heap.size + 6) W v L) (h6 : Boxed W (w.heap.size + 1) 3 (.int .i64 k)) (h7 : Boxed W (w.heap.size + 2) 25 (.int .i64 0)) (h8 : Below w.heap.size w W)
    (hcp : Cap3 (w.heap.size + 3) (w.heap.size + 3 + 1) (w.heap.size + 3 + 2) r W) (hb2 : Below W.heap.size W w2)
    (hown : OwnS (w.heap.size + 6) w5 v' (L ++ [t])) (hg : (((w2.alloc (Sto t)).drew).alloc (.cells (stC t).toArray 53)).grownBy w5 v.ownBlock) :
    KeepsOthers W ((w5.setCell ⟨w.heap.size, 0, none⟩ v').setCell ⟨w.heap.size + 1, 0, none⟩ (.int .i64 ((k : Int) + x.size))) ∧
      Cap3 (w.heap.size + 3) (w.heap.size + 3 + 1) (w.heap.size + 3 + 2) r ((w5.setCell ⟨w.heap.size, 0, none⟩ v').setCell ⟨w.heap.size + 1, 0, none⟩ (.int .i64 ((k : Int) + x.size))) ∧
      PaI w s r2 ((w5.setCell ⟨w.heap.size, 0, none⟩ v').setCell ⟨w.heap.size + 1, 0, none⟩ (.int .i64 ((k : Int) + x.size))) := by
  have k0 := good_boxes (by decide) h5 hb2 hg h4
  have k1 := good_boxes (by decide) h5 hb2 hg h6
  have k2 := good_boxes (by decide) h5 hb2 hg h7
  have c0 := good_boxes (by decide) h5 hb2 hg hcp.1
  have c1 := good_boxes (by decide) h5 hb2 hg hcp.2.1
  have c2 := good_boxes (by decide) h5 hb2 hg hcp.2.2
  have ho2 : OwnS (w.heap.size + 6) (((w2.alloc (Sto t)).drew).alloc (.cells (stC t).toArray 53)) v L := by
    exact (((own_up h5 hb2).alloc (Sto t)).drew).alloc _
  have hz := Nat.le_trans h8.size hb2.size
  refine ⟨?_, ⟨?_, ?_, ?_⟩, L ++ [t], v', ?_, ?_, ?_, ?_, ?_, ?_, ?_, ?_⟩
  · exact (((((others_below hb2).trans (KeepsOthers.alloc w2 _)).trans (KeepsOthers.drew _)).trans (KeepsOthers.alloc _ _)).trans
      (KeepsOthers.of_grownBy hg fun j o ej hj => by
        obtain ⟨-, o', ho', hc⟩ := ownBlock_ge ho2 ej
        rw [hj] at ho'; cases ho'; exact hc)).trans ((KeepsOthers.setCell _ _ _).trans (KeepsOthers.setCell _ _ _))
  · exact (Boxed.other c0 (by omega) _).other (by omega) _
  · exact (Boxed.other c1 (by omega) _).other (by omega) _
  · exact (Boxed.other c2 (by omega) _).other (by omega) _
  · rw [H1, HRL, ht.2]
    unfold printL
    rw [List.flatMap_append, List.flatMap_cons, List.flatMap_nil, lineL_eq]
    simp
  · intro t' ht'
    rcases List.mem_append.1 ht' with h | h
    · exact h2 t' h
    · rw [List.mem_singleton] at h; subst h; exact ht.1
  · simp; omega
  · exact (k0.set v').other (by omega) _
  · refine (hown.kept (grownBy_setCell' w5 w.heap.size v') (.inr (k0.not_row (by decide) hown).symm)).kept (grownBy_setCell' _ (w.heap.size + 1) _) (.inr ?_)
    exact (k1.not_row (by decide) hown).symm
  · have e : ((printL (L ++ [t])).length : Int) = (k : Int) + x.size := by
      have : (printL (L ++ [t])).length = k + x.size := by
        rw [Lib.size_eq, hx, ← hk, ht.2]
        unfold printL
        rw [List.flatMap_append, List.flatMap_cons, List.flatMap_nil, lineL_eq]
        simp
      rw [this]; omega
    rw [e]
    exact (k1.other (by omega) _).set _
  · exact (k2.other (by omega) _).other (by omega) _
  · refine ((((((h8.trans (hb2.mono h8.size)).alloc hz _).drew.alloc ?_ _).grown hg ?_ ?_).setCell (p := ⟨w.heap.size, 0, none⟩) (by simp) _)).setCell (p := ⟨w.heap.size + 1, 0, none⟩) (by simp) _
    · simp; omega
    · simp; omega
    · intro j hj
      have := (ownBlock_ge ho2 hj).1
      omega
theorem stC_get : ∀ {L : List St} {j : Nat} (h : j < L.length) (i : Nat) (_ : i < 4), (L.flatMap stC)[j * 4 + i]? = (stC (L[j]'h))[i]?
  | [], _, h, _, _ => by simp at h
  | a :: L, 0, _, i, hi => by
    rw [List.flatMap_cons, List.getElem?_append_left (by simp [stC]; omega)]; simp
  | a :: L, j + 1, h, i, hi => by
    rw [List.flatMap_cons, List.getElem?_append_right (by simp [stC]; omega)]
    have e : (j + 1) * 4 + i - (stC a).length = j * 4 + i := by simp [stC]; omega
    rw [e, stC_get (by simpa using h) i hi]; rfl
theorem RowS.of_own {W : World} {base : Nat} {v : Value} {L : List St} (h : OwnS base W v L) (hl : L.length ≤ 281474976710656) : RowS W v L := by
  have hc := h
  rcases h.2 with ⟨rfl, h0⟩ | ⟨g, cap, cur, rfl, h2, h3, h4, h5, -⟩
  · exact ⟨none, 0, by rw [h0], by omega, ⟨by omega, by unfold maxLen; omega⟩, fun hl => absurd (List.length_eq_zero_iff.1 h0) hl⟩
  · refine ⟨_, _, rfl, h4, ⟨hl, h5⟩, fun _ => ⟨g, 0, rfl, fun j hj => ?_⟩⟩
    have one : ∀ i, i < 4 → W.cell? ⟨g, j * 4 + i, none⟩ = (stC (L[j]'hj))[i]? := fun i hi => by
      rw [← stC_get hj i hi]; exact hc.cellAt _ (by omega)
    refine ⟨?_, ?_, ?_, ?_⟩
    · rw [Nat.zero_add]; exact (one 0 (by omega)).trans rfl
    · rw [Nat.zero_add]; exact (one 1 (by omega)).trans rfl
    · rw [Nat.zero_add]; exact (one 2 (by omega)).trans rfl
    · rw [Nat.zero_add]; exact (one 3 (by omega)).trans rfl

/-- Leaving Parse: its three results are read out of their boxes. -/
theorem leave15 {w W : World} {D : Nat} {A : Option Addr} {n cap : Nat} {i1 i2 : Int} (hK : W.heap[D]? = some (.deferred (some []))) (hDw : w.heap.size ≤ D) (hb : Below w.heap.size w W)
    (b0 : Boxed W w.heap.size 30 (.slice A n cap)) (b1 : Boxed W (w.heap.size + 1) 3 (.int .i64 i1)) (b2 : Boxed W (w.heap.size + 1 + 1) 25 (.int .i64 i2)) :
    ∃ W', W.putObj D (.deferred none) = W' ∧ Below w.heap.size w W' ∧ (∀ {B : Nat} {c : Array Value} {ty : TypeId} {fz : Nat × Nat}, W.heap[B]? = some (.cells c ty fz) → W'.heap[B]? = some (.cells c ty fz)) ∧
      W'.cell? ⟨w.heap.size, 0, none⟩ = some (.slice A n cap) ∧ W'.cell? ⟨w.heap.size + 1, 0, none⟩ = some (.int .i64 i1) ∧ W'.cell? ⟨w.heap.size + 1 + 1, 0, none⟩ = some (.int .i64 i2) := by
  have up : ∀ {B : Nat} {c : Array Value} {ty : TypeId} {fz : Nat × Nat}, W.heap[B]? = some (.cells c ty fz) → (W.putObj D (.deferred none)).heap[B]? = some (.cells c ty fz) := fun {B c ty fz} h => by
    have hne : D ≠ B := fun e => by subst e; rw [h] at hK; cases hK
    exact (World.putObj_heap_other (fun h => hne h.symm)).trans h
  refine ⟨_, rfl, ?_, up, ?_, ?_, ?_⟩
  · exact hb.trans ((Below.refl w.heap.size W).grown (grownBy_putObj' W D _) hb.size (fun k e => by cases e; omega))
  · exact Boxed.cell (up b0)
  · exact Boxed.cell (up b1)
  · exact Boxed.cell (up b2)

set_option maxRecDepth 100000 in
set_option maxHeartbeats 4000000 in
theorem Parse_mid (s : ByteArray) (hs : s.size ≤ 2000) (w : World) (hT : Tab w) (hE : ErrMem w) :
    Calls Tryz.prog 15 #[.string s] w fun e w' => ((∃ k : Nat, ParC 16 s.data.toList (.bad k) ∧ e = .returned (.tuple #[.slice none 0 0, .int .i64 k, .int .i64 5])) ∨
      ∃ L, ParC 16 s.data.toList (.ok L) ∧ ((chkB L = false ∧ e = .returned (.tuple #[.slice none 0 0, .int .i64 s.size, .int .i64 2])) ∨ (chkB L = true ∧ ∃ v, e = .returned (.tuple #[v, .int .i64 0, .int .i64 0]) ∧ OwnS w.heap.size w' v L))) ∧ Below w.heap.size w w' := by
  obtain ⟨i0, hi, hz0, hz1, hz2⟩ := info_parts Tryz.info53
  have HT : Hid (∀ W', Below w.heap.size w W' → Tab W') := fun W' hb => Lib.tabBelow_of_tabIs hT W' hb
  have HE : Hid (∀ W', Below w.heap.size w W' → ErrMem W') := fun W' hb => hE.up hb
  clear hT hE
  refine (callsIn_wide (n := 8)).1 ?_
  refine callsIn_of_wp_marks Tryz.func15 rfl trivial ?_ rfl
  simp only [Tryz.ntmps15, List.size_toArray, List.length_cons, List.length_nil, Nat.reduceAdd, Nat.reduceSub, Array.replicate_succ, Array.replicate_zero, List.push_toArray, List.append_toArray, List.nil_append, List.cons_append]
  have hs' : (s.size : Int) ≤ 2000 := by omega
  obtain ⟨w3, hw3⟩ : ∃ w3, ((w.alloc (.cells #[.slice none 0 0] 30)).alloc (.cells #[.int .i64 0] 3)).alloc (.cells #[.int .i64 0] 25) = w3 := ⟨_, rfl⟩
  gi_wp2_with (refine ⟨trivial, ?_⟩; gi_at_call 49; refine (callsIn_wide.2 (SplitAfterSeq_any s _)).mono ?_; rintro e w' ⟨rfl, hc, hb, hz⟩)
  have h3z : w3.heap.size = w.heap.size + 3 := by rw [← hw3]; simp
  have b3l : Boxed w3 w.heap.size 30 (.slice none 0 0) := by
    rw [← hw3]; unfold Boxed
    rw [Below.heap_alloc _ _ _ (by simp; omega), Below.heap_alloc _ _ _ (by simp), World.alloc_heap_new]
  have b3a : Boxed w3 (w.heap.size + 1) 3 (.int .i64 0) := by
    rw [← hw3]; unfold Boxed
    rw [Below.heap_alloc _ _ _ (by simp)]
    have := World.alloc_heap_new (w.alloc (.cells #[.slice none 0 0] 30)) (.cells #[.int .i64 0] 3)
    rwa [World.size_alloc] at this
  have b3e : Boxed w3 (w.heap.size + 2) 25 (.int .i64 0) := by
    rw [← hw3]; unfold Boxed
    have := World.alloc_heap_new ((w.alloc (.cells #[.slice none 0 0] 30)).alloc (.cells #[.int .i64 0] 3)) (.cells #[.int .i64 0] 25)
    rwa [World.size_alloc, World.size_alloc] at this
  have hb3 : Below w.heap.size w w3 := by rw [← hw3]; exact (((Below.refl _ _).alloc (Nat.le_refl _) _).alloc (by simp) _).alloc (by simp; omega) _
  have up3 : ∀ {k : Nat} {o : Obj}, w3.heap[k]? = some o → w'.heap[k]? = some o := fun {k o} hk => (hb.block _ (Array.getElem?_eq_some_iff.1 hk).1).trans hk
  rw [h3z] at hc hz hb ⊢
  have hI0 : PaI w s s w' := ⟨[], .slice none 0 0, rfl, by simp, by simp, up3 b3l, World.ownsRow_nil _ _ _ _, up3 b3a, up3 b3e, hb3.trans (hb.mono (by omega))⟩
  refine range_seq h92 (n := 8) (n0 := w.heap.size + 3) (cs := w.heap.size + 3) (by decide) rfl rfl s (by omega) (by omega) (by omega) hc (PaI w s) (PaX w s) (fun r W W' h hk => h.up hk) (fun c W W' h hk => h.up hk) hI0 ?_ ?_
  · apply Exists.intro
    refine ⟨?_, ?_, ?_⟩
    · intro l' x W K hK
      gi_wp2
      exact hK
    · intro l' r i W hI hcp hr hix
      obtain ⟨hi1, hi2⟩ := Lib.indexByte_some hix
      obtain ⟨hil, hie⟩ := List.getElem?_eq_some_iff.1 hi1
      have hisz : i < r.size := by rw [Lib.size_eq]; exact hil
      obtain ⟨x, hx⟩ : ∃ x, r.extract 0 (i + 1) = x := ⟨_, rfl⟩
      obtain ⟨r2, hr2⟩ : ∃ r2, r.extract (i + 1) r.size = r2 := ⟨_, rfl⟩
      obtain ⟨ln, hln⟩ : ∃ ln : List UInt8, r.data.toList.take i = ln := ⟨_, rfl⟩
      have hno : (10 : UInt8) ∉ ln := fun hm => by
        rw [← hln] at hm
        obtain ⟨j, hj, he⟩ := List.getElem_of_mem hm
        rw [List.length_take] at hj
        rw [List.getElem_take] at he
        exact hi2 j (by omega) (by rw [List.getElem?_eq_getElem (by omega), he])
      have hxl : x.data.toList = ln ++ [10] := by
        rw [← hx, Lib.extract_from_zero, List.take_succ_eq_append_getElem hil, hie, hln]
      have hr2l : r2.data.toList = r.data.toList.drop (i + 1) := by
        rw [← hr2, Lib.extract_data, List.take_of_length_le (by rw [List.length_drop, ← Lib.size_eq]; omega)]
      have hrl : r.data.toList = ln ++ 10 :: r2.data.toList := by
        rw [hr2l, ← hln, ← hie]
        conv => lhs; rw [← List.take_append_drop i r.data.toList, List.drop_eq_getElem_cons hil]
      rw [hx, hr2]
      clear hix hi1 hi2 hie hil hln hx hr2 hr2l
      have H50 : Hid (∀ w, Calls Tryz.prog 50 #[.string x, .string ⟨#[10]⟩] w fun e w' => e = .returned (.tuple #[.string ⟨ln.toArray⟩, .bool true]) ∧ w = w') := fun w => by
        refine (Tryz.strings_CutSuffix x ⟨#[10]⟩ w (by rw [Lib.size_eq, hxl]; have := congrArg List.length hrl; rw [← Lib.size_eq] at this; simp at this ⊢; omega)).mono ?_
        rintro e w' ⟨rfl, rfl⟩
        have e1 : (⟨#[10]⟩ : ByteArray).data.toList = [10] := rfl
        refine ⟨?_, rfl⟩
        have hsuf : Lib.hasSuffix (ln ++ [10]) [10] = true := by unfold Lib.hasSuffix; rw [List.isSuffixOf_iff_suffix]; exact ⟨ln, rfl⟩
        rw [e1, hxl]; unfold Lib.trimSuffix; rw [hsuf]
        simp
      have hI' := hI
      obtain ⟨L, v, h1, h2, h3, h4, h5, h6, h7, h8⟩ := hI'
      have hszr : r.size ≤ 2000 := by
        have := congrArg List.length h1
        rw [List.length_append, ← Lib.size_eq, ← Lib.size_eq] at this; omega
      have hszl : (⟨ln.toArray⟩ : ByteArray).size ≤ 2000 := by
        have := congrArg List.length hrl
        rw [List.length_append, ← Lib.size_eq] at this
        show ln.toArray.size ≤ 2000
        rw [List.size_toArray]; omega
      have hszx : x.size ≤ 2000 := by
        have := congrArg List.length hrl
        rw [Lib.size_eq, hxl]
        rw [List.length_append, ← Lib.size_eq] at this
        simp at this ⊢; omega
      have H51 : Hid (∀ W', Below W.heap.size W W' → Calls Tryz.prog 51 #[.string ⟨ln.toArray⟩] W' (StA ⟨ln.toArray⟩ W')) := fun W' hb => stone_any _ hszl W' (HT.out _ (h8.trans (hb.mono h8.size))) (HE.out _ (h8.trans (hb.mono h8.size)))
      have hrs : x.toList.isEmpty = false := by rw [Lib.toList_data, hxl]; cases ln <;> rfl
      obtain ⟨A, cap, hv⟩ : ∃ A cap, v = .slice A L.length cap := by
        rcases h5.2 with ⟨rfl, h0⟩ | ⟨g, cap, cur, rfl, -⟩
        · exact ⟨none, 0, by rw [h0]⟩
        · exact ⟨_, _, rfl⟩
      have HRL := Lib.hid hrl
      have H1 := Lib.hid h1
      have H2 := Lib.hid h2
      have H5 := Lib.hid h5
      obtain ⟨k, hk⟩ : ∃ k, (printL L).length = k := ⟨_, rfl⟩
      have HK := Lib.hid hk
      rw [hk] at h6
      have H4 := Lib.hid h4
      have H6 := Lib.hid h6
      have H7 := Lib.hid h7
      have H8 := Lib.hid h8
      have HV := Lib.hid hv
      have HXL := Lib.hid hxl
      have HNO := Lib.hid hno
      have HCP := Lib.hid hcp
      clear hI h1 h2 h4 h5 h6 h7 h8 hk hno hxl hrl hcp
      gi_upto_region 8 with (first
        | (refine ⟨trivial, ?_⟩; gi_at_call 50; refine (callsIn_wide.2 (H50.out _)).mono ?_; rintro e w1 ⟨rfl, rfl⟩)
        | (refine ⟨trivial, ?_⟩; gi_at_call 51; refine (callsIn_wide.2 (H51.out _ (Below.refl _ _))).mono ?_; rintro e w2 ⟨⟨t, v2, rfl, hv1, hv0⟩, hb2⟩; have V1 := Lib.hid hv1; have V0 := Lib.hid hv0; clear hv1 hv0; have D0 := H4.out.cell; have D1 := H6.out.cell; have D2 := H7.out.cell; have F0 := (hb2.frozen (p := ⟨w.heap.size, 0, none⟩) (lt_cell D0)).trans H4.out.frozen; have F1 := (hb2.frozen (p := ⟨w.heap.size + 1, 0, none⟩) (lt_cell D1)).trans H6.out.frozen; have F2 := (hb2.frozen (p := ⟨w.heap.size + 1 + 1, 0, none⟩) (lt_cell D2)).trans H7.out.frozen; replace D0 := upc D0 hb2; replace D1 := upc D1 hb2; replace D2 : w2.cell? ⟨w.heap.size + 1 + 1, 0, none⟩ = some (.int .i64 0) := upc D2 hb2; have hlt0 := lt_cell D0; have hlt1 := lt_cell D1; have hlt := lt_cell D2))
      by_cases hgood : v2 = true ∧ L.length < 16
      · obtain ⟨rfl, hl⟩ := hgood
        have hl16 : ((L.length : Int) == 16) = false := by rw [beq_eq_false_iff_ne]; omega
        have hk2 : k ≤ 2000 := by
          have := congrArg List.length H1.out
          rw [List.length_append, ← Lib.size_eq, HK.out] at this; omega
        subst hv
        gi_wp2
        obtain ⟨w4, hw4⟩ : ∃ w4, w2.alloc (Sto t) = w4 := ⟨_, rfl⟩
        have E0 : w4.cell? ⟨w.heap.size, 0, none⟩ = some (.slice A L.length cap) := by rw [← hw4]; exact upa D0 _
        have E1 : w4.cell? ⟨w.heap.size + 1, 0, none⟩ = some (.int .i64 k) := by rw [← hw4]; exact upa D1 _
        have E4 : At4 w4 w2.heap.size 0 t := by rw [← hw4]; exact At4.new w2 t
        rw [hw4]
        refine wpIn_region_P (fun i w' => if i = 0 then w'.cell? ⟨w.heap.size, 0, none⟩ = some (.slice A L.length cap) else if i = 1 then At4 w' w2.heap.size 0 t else if i = 4 then w'.cell? ⟨w.heap.size + 1, 0, none⟩ = some (.int .i64 k) else True) (by kernel_rfl) (by kernel_rfl) (by rintro ⟨a, w, h⟩; exact h) ?_
        refine wpAnyP_take (i := 0) (v := .slice A L.length cap) rfl (by kernel_rfl) (by kernel_rfl) (by kernel_rfl) (fun _ _ _ h => h) (yieldsIf_run rfl (fun w hS => ?_)) ?_ ?_
        · simp only [if_true] at hS
          go_simp
        · exact E0
        refine wpAnyP_take (i := 1) (v := Stv t) rfl (by kernel_rfl) (by kernel_rfl) (by kernel_rfl) (fun _ _ _ h => h) (yieldsIf_run rfl (fun w hS => ?_)) ?_ ?_
        · obtain ⟨s0, s1, s2, s3⟩ : At4 w w2.heap.size 0 t := hS
          go_simp
        · exact E4
        refine wpAnyP_take (i := 4) (v := .int .i64 k) rfl (by kernel_rfl) (by kernel_rfl) (by kernel_rfl) (fun _ _ _ h => h) (yieldsIf_run rfl (fun w hS => ?_)) ?_ ?_
        · have hS' : w.cell? ⟨_, 0, none⟩ = some (.int .i64 (k : Int)) := hS
          go_simp
        · exact E1
        refine wpAnyP_take (i := 5) (v := .string x) rfl (by kernel_rfl) (by kernel_rfl) (by kernel_rfl) (fun _ _ _ h => h) (yieldsIf_run rfl (fun w hS => ?_)) trivial ?_
        · go_simp
        refine wpAnyP_take (i := 6) (v := .int .i64 x.size) rfl (by kernel_rfl) (by kernel_rfl) (by kernel_rfl) (fun _ _ _ h => h) (yieldsIf_run rfl (fun w hS => ?_)) trivial ?_
        · go_simp
        have hkx : IntKind.i64.wrap ((k : Int) + x.size) = (k : Int) + x.size := IntWalk.i64_in _ (by omega)
        refine wpAnyP_take (i := 7) (v := .int .i64 ((k : Int) + x.size)) rfl (by kernel_rfl) (by kernel_rfl) (by kernel_rfl) (fun _ _ _ h => h) (yieldsIf_run rfl (fun w hS => ?_)) trivial ?_
        · go_simp
        refine wpAnyP_one (i := 2) (by kernel_rfl) (wpOp_run (v := .slice (some ⟨w4.heap.size, 0, none⟩) 1 1) (w' := w4.drew.alloc (.cells (stC t).toArray 53)) rfl rfl ?_ ⟨?_, ?_⟩)
        · go_simp
          rfl
        · intro i hf hS
          by_cases h0 : i = 0
          · subst h0; exact upa (w := w4.drew) hS _
          by_cases h1 : i = 1
          · subst h1; exact At4.alloc (w := w4.drew) hS _
          by_cases h2 : i = 4
          · subst h2; exact upa (w := w4.drew) hS _
          simp only [if_neg h0, if_neg h1, if_neg h2]
        have hOw : OwnS (w.heap.size + 6) (w4.drew.alloc (.cells (stC t).toArray 53)) (.slice A L.length cap) L := by
          rw [← hw4]; exact ((((own_up H5.out hb2).alloc (Sto t)).drew).alloc _)
        obtain ⟨v', w5, hrun, hown, hgrow, -⟩ := run_append_own (P := Tryz.prog) (w4.drew.alloc (.cells (stC t).toArray 53)) (w.heap.size + 6) 30 30 53 i0 _ 4 32 Tryz.underlying30 hi hz0 hz1 hz2 rfl (by decide) _ _ _ hOw ⟨w4.heap.size, 0, none⟩ 1 1 (stC t) rfl (news_stC _ t) (by intro u hu; simp [stC] at hu; rcases hu with rfl | rfl | rfl | rfl <;> rfl) (by unfold maxLen; omega) (by omega) (by rw [← hw4]; have := H8.out.size; have := hb2.size; have := HCP.out.2.2; have := (Array.getElem?_eq_some_iff.1 this).1; simp; omega)
        obtain ⟨g', cap', rfl⟩ := ownsRow_succ hown
        obtain ⟨v', hv'⟩ : ∃ v', Value.slice (some ⟨g', 0, none⟩) (L.length + 1) cap' = v' := ⟨_, rfl⟩
        rw [hv'] at hrun hown
        refine wpAnyP_one (i := 3) (by kernel_rfl) (wpOp_run (v := v') (w' := w5) rfl rfl ?_ ⟨?_, ?_⟩)
        · have q1 : ∀ {a : Act} {ty : TypeId} (_ : ty = 30), a.eval (.tmp 40) = .slice A L.length cap → a.eval (.tmp 42) = .slice (some ⟨w4.heap.size, 0, none⟩) 1 1 → ∀ o : Oper, o.op = .call { callee := .builtin .append, args := #[.tmp 40, .tmp 42], argTypes := #[30, 30] } → o.type = ty →
              (execOp a.eval o).run Tryz.prog (w4.drew.alloc (.cells (stC t).toArray 53)) = .ok (.value v') w5 := fun hty ha hb o ho ht => run_append_op ho ha hb (by rw [ht, hty]; exact hrun)
          refine q1 rfl ?_ ?_ _ rfl rfl
          · kernel_rfl
          · kernel_rfl
        · intro i hf hS
          by_cases h0 : i = 0
          · subst h0; exact Bool.noConfusion (show false = true from hf)
          by_cases h1 : i = 1
          · subst h1
            have hz4 : w2.heap.size < (w4.drew.alloc (.cells (stC t).toArray 53)).heap.size := by rw [← hw4]; simp; omega
            exact At4.heap (w := w4.drew.alloc (.cells (stC t).toArray 53)) hS (hgrow.block _ hz4 (fun e => by
              have h1 := (ownBlock_ge H5.out e.symm).2
              obtain ⟨o, ho, -⟩ := h1
              have := (Array.getElem?_eq_some_iff.1 ho).1
              have := hb2.size; omega))
          by_cases h2 : i = 4
          · subst h2
            have hbx := good_boxes (ty := 3) (by decide) H5.out hb2 (by rw [hw4]; exact hgrow) H6.out
            exact hbx.cell
          simp only [if_neg h0, if_neg h1, if_neg h2]
        have bx0 := good_boxes (ty := 30) (by decide) H5.out hb2 (by rw [hw4]; exact hgrow) H4.out
        have bx1 := good_boxes (ty := 3) (by decide) H5.out hb2 (by rw [hw4]; exact hgrow) H6.out
        have j0 := bx0.cell
        have j1 := bx1.cell
        have i0 := bx0.frozen
        have i1 := bx1.frozen
        refine wpAnyP_one (i := 8) (by kernel_rfl) (wpOp_skip (w' := w5.setCell ⟨w.heap.size, 0, none⟩ v') rfl rfl ?_ ⟨?_, ?_⟩)
        · subst hv'; go_simp
        · intro i hf hS
          by_cases h0 : i = 0
          · subst h0; exact Bool.noConfusion (show false = true from hf)
          by_cases h1 : i = 1
          · subst h1; exact Bool.noConfusion (show false = true from hf)
          by_cases h2 : i = 4
          · subst h2; exact (World.cell?_setCell_other _ _ _ _ (by simp)).trans hS
          simp only [if_neg h0, if_neg h1, if_neg h2]
        refine wpAnyP_one (i := 9) (by kernel_rfl) (wpOp_skip (w' := (w5.setCell ⟨w.heap.size, 0, none⟩ v').setCell ⟨w.heap.size + 1, 0, none⟩ (.int .i64 ((k : Int) + x.size))) rfl rfl ?_ ⟨?_, ?_⟩)
        · go_simp
        · intro i hf hS
          by_cases h0 : i = 0
          · subst h0; exact Bool.noConfusion (show false = true from hf)
          by_cases h1 : i = 1
          · subst h1; exact Bool.noConfusion (show false = true from hf)
          by_cases h2 : i = 4
          · subst h2; exact Bool.noConfusion (show false = true from hf)
          simp only [if_neg h0, if_neg h1, if_neg h2]
        refine wpAnyP_done (by kernel_rfl) ?_ _
        have hown' : OwnS (w.heap.size + 6) w5 v' (L ++ [t]) := by
          have e1 : (L ++ [t]).length = L.length + 1 := by simp
          have e2 : (L ++ [t]).flatMap stC = L.flatMap stC ++ stC t := by simp
          show World.ownsRow _ _ _ _ _ _ _
          rw [e1, e2]; exact hown
        have hfin := Lib.hid (good_end H1.out HRL.out HXL.out HK.out H2.out (V1.out trivial) hl H4.out H5.out H6.out H7.out H8.out HCP.out hb2 hown' (by rw [hw4]; exact hgrow))
        exact hfin.out
      · have HB : Hid (ParC 16 s.data.toList (.bad k)) := by
          refine ⟨L, r.data.toList, H1.out, H2.out, h3, by rw [HRL.out]; simp, HK.out.symm, ?_⟩
          by_cases hl : L.length = 16
          · exact .inl hl
          · refine .inr fun t' r' ht' he => ?_
            have hv2 : v2 = false := by
              cases h : v2
              · rfl
              · exact absurd ⟨h, by omega⟩ hgood
            rw [HRL.out] at he
            obtain ⟨e1, -⟩ := cut_uniq he HNO.out (lineB_no t')
            exact V0.out hv2 t' ⟨ht', by show ln = _; exact e1⟩
        have hc2 : v2 = false ∨ (v2 = true ∧ L.length = 16) := by
          cases h : v2
          · exact .inl rfl
          · refine .inr ⟨rfl, ?_⟩
            by_cases h2 : L.length < 16
            · exact absurd ⟨h, h2⟩ hgood
            · omega
        clear hgood HRL H1 H2 V1 V0 HNO HK HXL H5
        subst hv
        rcases hc2 with rfl | ⟨rfl, hl⟩
        · gi_wp2
          obtain ⟨w4, hw4⟩ : ∃ w4, w2.alloc (.cells #[.int .i64 t.t, .int .i64 t.n, .int .i64 t.x, .int .i64 t.y] 53) = w4 := ⟨_, rfl⟩
          have E0 : w4.cell? ⟨w.heap.size, 0, none⟩ = some (.slice A L.length cap) := by rw [← hw4]; exact upa D0 _
          have E1 : w4.cell? ⟨w.heap.size + 1, 0, none⟩ = some (.int .i64 k) := by rw [← hw4]; exact upa D1 _
          have E2 : w4.cell? ⟨w.heap.size + 1 + 1, 0, none⟩ = some (.int .i64 0) := by rw [← hw4]; exact upa D2 _
          rw [hw4]
          refine wpIn_region_P (fun i w' => if i = 0 then w'.cell? ⟨w.heap.size + 1, 0, none⟩ = some (.int .i64 k) else True) (by kernel_rfl) (by kernel_rfl) (by rintro ⟨a, w, h⟩; exact h) ?_
          refine wpAnyP_take (i := 0) (v := .int .i64 k) rfl (by kernel_rfl) (by kernel_rfl) (by kernel_rfl) (fun _ _ _ h => h) (yieldsIf_run rfl (fun w hS => ?_)) ?_ ?_
          · simp only [if_true] at hS
            go_simp
          · exact E1
          have G0 : w4.frozen? ⟨w.heap.size, 0, none⟩ = false := by rw [← hw4]; exact (World.frozen?_alloc_past _ _ _ (lt_cell D0)).trans F0
          have G1 : w4.frozen? ⟨w.heap.size + 1, 0, none⟩ = false := by rw [← hw4]; exact (World.frozen?_alloc_past _ _ _ (lt_cell D1)).trans F1
          have G2 : w4.frozen? ⟨w.heap.size + 1 + 1, 0, none⟩ = false := by rw [← hw4]; exact (World.frozen?_alloc_past _ _ _ (lt_cell D2)).trans F2
          refine wpAnyP_one (i := 1) (by kernel_rfl) (wpOp_skip (w' := w4.drew.setCell ⟨w.heap.size, 0, none⟩ (.slice none 0 0)) rfl rfl ?_ ⟨?_, ?_⟩)
          · go_simp
          · rintro (_ | i) _ hS
            · exact (World.cell?_setCell_other _ _ _ _ (by simp)).trans hS
            · exact trivial
          refine wpAnyP_one (i := 2) (by kernel_rfl) (wpOp_skip (w' := (w4.drew.setCell ⟨w.heap.size, 0, none⟩ (.slice none 0 0)).setCell ⟨w.heap.size + 1, 0, none⟩ (.int .i64 k)) rfl rfl ?_ ⟨?_, ?_⟩)
          · go_simp
          · rintro (_ | i) hf _
            · exact Bool.noConfusion (show false = true from hf)
            · exact trivial
          refine wpAnyP_one (i := 3) (by kernel_rfl) (wpOp_skip (w' := ((w4.drew.setCell ⟨w.heap.size, 0, none⟩ (.slice none 0 0)).setCell ⟨w.heap.size + 1, 0, none⟩ (.int .i64 k)).setCell ⟨w.heap.size + 1 + 1, 0, none⟩ (.int .i64 5)) rfl rfl ?_ ⟨?_, ?_⟩)
          · go_simp
          · rintro (_ | i) hf _
            · exact Bool.noConfusion (show false = true from hf)
            · exact trivial
          refine wpAnyP_done (by kernel_rfl) ?_ _
          have hfin := Lib.hid (badW_end (o := .cells #[.int .i64 t.t, .int .i64 t.n, .int .i64 t.x, .int .i64 t.y] 53) HB.out H4.out H6.out H7.out H8.out hb2)
          rw [hw4] at hfin
          change Exit.then _ _ _ _ (badW w k w4)
          generalize badW w k w4 = W5 at hfin
          gi_wp2
          exact hfin.out
        · have hl16 : ((L.length : Int) == 16) = true := by rw [hl]; rfl
          gi_wp2
          obtain ⟨w4, hw4⟩ : ∃ w4, w2.alloc (.cells #[.int .i64 t.t, .int .i64 t.n, .int .i64 t.x, .int .i64 t.y] 53) = w4 := ⟨_, rfl⟩
          have E0 : w4.cell? ⟨w.heap.size, 0, none⟩ = some (.slice A L.length cap) := by rw [← hw4]; exact upa D0 _
          have E1 : w4.cell? ⟨w.heap.size + 1, 0, none⟩ = some (.int .i64 k) := by rw [← hw4]; exact upa D1 _
          have E2 : w4.cell? ⟨w.heap.size + 1 + 1, 0, none⟩ = some (.int .i64 0) := by rw [← hw4]; exact upa D2 _
          rw [hw4]
          refine wpIn_region_P (fun i w' => if i = 0 then w'.cell? ⟨w.heap.size + 1, 0, none⟩ = some (.int .i64 k) else True) (by kernel_rfl) (by kernel_rfl) (by rintro ⟨a, w, h⟩; exact h) ?_
          refine wpAnyP_take (i := 0) (v := .int .i64 k) rfl (by kernel_rfl) (by kernel_rfl) (by kernel_rfl) (fun _ _ _ h => h) (yieldsIf_run rfl (fun w hS => ?_)) ?_ ?_
          · simp only [if_true] at hS
            go_simp
          · exact E1
          have G0 : w4.frozen? ⟨w.heap.size, 0, none⟩ = false := by rw [← hw4]; exact (World.frozen?_alloc_past _ _ _ (lt_cell D0)).trans F0
          have G1 : w4.frozen? ⟨w.heap.size + 1, 0, none⟩ = false := by rw [← hw4]; exact (World.frozen?_alloc_past _ _ _ (lt_cell D1)).trans F1
          have G2 : w4.frozen? ⟨w.heap.size + 1 + 1, 0, none⟩ = false := by rw [← hw4]; exact (World.frozen?_alloc_past _ _ _ (lt_cell D2)).trans F2
          refine wpAnyP_one (i := 1) (by kernel_rfl) (wpOp_skip (w' := w4.drew.setCell ⟨w.heap.size, 0, none⟩ (.slice none 0 0)) rfl rfl ?_ ⟨?_, ?_⟩)
          · go_simp
          · rintro (_ | i) _ hS
            · exact (World.cell?_setCell_other _ _ _ _ (by simp)).trans hS
            · exact trivial
          refine wpAnyP_one (i := 2) (by kernel_rfl) (wpOp_skip (w' := (w4.drew.setCell ⟨w.heap.size, 0, none⟩ (.slice none 0 0)).setCell ⟨w.heap.size + 1, 0, none⟩ (.int .i64 k)) rfl rfl ?_ ⟨?_, ?_⟩)
          · go_simp
          · rintro (_ | i) hf _
            · exact Bool.noConfusion (show false = true from hf)
            · exact trivial
          refine wpAnyP_one (i := 3) (by kernel_rfl) (wpOp_skip (w' := ((w4.drew.setCell ⟨w.heap.size, 0, none⟩ (.slice none 0 0)).setCell ⟨w.heap.size + 1, 0, none⟩ (.int .i64 k)).setCell ⟨w.heap.size + 1 + 1, 0, none⟩ (.int .i64 5)) rfl rfl ?_ ⟨?_, ?_⟩)
          · go_simp
          · rintro (_ | i) hf _
            · exact Bool.noConfusion (show false = true from hf)
            · exact trivial
          refine wpAnyP_done (by kernel_rfl) ?_ _
          have hfin := Lib.hid (badW_end (o := .cells #[.int .i64 t.t, .int .i64 t.n, .int .i64 t.x, .int .i64 t.y] 53) HB.out H4.out H6.out H7.out H8.out hb2)
          rw [hw4] at hfin
          change Exit.then _ _ _ _ (badW w k w4)
          generalize badW w k w4 = W5 at hfin
          gi_wp2
          exact hfin.out
    · intro l' r W hI hcp hr hix
      have hno : (10 : UInt8) ∉ r.data.toList := fun hm => by
        obtain ⟨j, hj, he⟩ := List.getElem_of_mem hm
        exact Lib.indexByte_none hix j (by rw [List.getElem?_eq_getElem hj, he])
      clear hix hcp
      by_cases hz0 : r.size = 0
      · have hr0 : r.data.toList = [] := List.length_eq_zero_iff.1 (by rw [← Lib.size_eq]; exact hz0)
        obtain rfl : r = ByteArray.empty := by
          apply ByteArray.ext; apply Array.toList_inj.1; rw [hr0]; rfl
        obtain ⟨L, v, h1, h2, h3, h4, h5, h6, h7, h8⟩ := hI
        have h1' : s.data.toList = printL L := by simpa using h1
        have hX : Hid (PaX w s (.exit 0) W) := .inl ⟨rfl, L, v, h1', h2, h3, h4, h5, h6, h7, h8⟩
        clear h1 h1' h2 h3 h4 h5 h6 h7 h8
        gi_wp2
        exact ⟨KeepsOthers.refl _, hX.out⟩
      · have hrn : r.data.toList ≠ [] := fun h => hz0 (by rw [Lib.size_eq, h]; rfl)
        have hsuf : Lib.hasSuffix r.data.toList [10] = false := by
          rw [Bool.eq_false_iff]; intro h
          unfold Lib.hasSuffix at h
          rw [List.isSuffixOf_iff_suffix] at h
          obtain ⟨a, ha⟩ := h
          exact hno (by rw [← ha]; simp)
        have H50 : Hid (∀ w, Calls Tryz.prog 50 #[.string r, .string ⟨#[10]⟩] w fun e w' => e = .returned (.tuple #[.string r, .bool false]) ∧ w = w') := fun w => by
          refine (Tryz.strings_CutSuffix r ⟨#[10]⟩ w (by omega)).mono ?_
          rintro e w' ⟨rfl, rfl⟩
          have e1 : (⟨#[10]⟩ : ByteArray).data.toList = [10] := rfl
          refine ⟨?_, rfl⟩
          rw [e1]; unfold Lib.trimSuffix; rw [hsuf]
          simp
        have hI' := hI
        obtain ⟨L, v, h1, h2, h3, h4, h5, h6, h7, h8⟩ := hI'
        have hszr : r.size ≤ 2000 := by
          have := congrArg List.length h1
          rw [List.length_append, ← Lib.size_eq, ← Lib.size_eq] at this; omega
        have HB : Hid (ParC 16 s.data.toList (.bad (printL L).length)) := by
          refine ⟨L, r.data.toList, h1, h2, h3, hrn, rfl, .inr fun t r' _ he => hno ?_⟩
          rw [he]; simp
        have H51 : Hid (∀ W', Below W.heap.size W W' → Calls Tryz.prog 51 #[.string r] W' (StA r W')) := fun W' hb => stone_any r hszr W' (HT.out _ (h8.trans (hb.mono h8.size))) (HE.out _ (h8.trans (hb.mono h8.size)))
        obtain ⟨k, hk⟩ : ∃ k, (printL L).length = k := ⟨_, rfl⟩
        rw [hk] at h6 HB
        have H4 := Lib.hid h4
        have H6 := Lib.hid h6
        have H7 := Lib.hid h7
        have H8 := Lib.hid h8
        have hrs : r.toList.isEmpty = false := by rw [Lib.toList_data]; cases h : r.data.toList with | nil => exact absurd h hrn | cons _ _ => rfl
        clear hI h1 h2 h3 h4 h5 h6 h7 h8 hk hsuf hno
        gi_wp2_with (first
          | (refine ⟨trivial, ?_⟩; gi_at_call 50; refine (callsIn_wide.2 (H50.out _)).mono ?_; rintro e w1 ⟨rfl, rfl⟩)
          | (refine ⟨trivial, ?_⟩; gi_at_call 51; refine (callsIn_wide.2 (H51.out _ (Below.refl _ _))).mono ?_; rintro e w2 ⟨⟨t, v2, rfl, hv1, hv0⟩, hb2⟩; clear hv1 hv0; have D0 := H4.out.cell; have D1 := H6.out.cell; have D2 := H7.out.cell; have F0 := (hb2.frozen (p := ⟨w.heap.size, 0, none⟩) (lt_cell D0)).trans H4.out.frozen; have F1 := (hb2.frozen (p := ⟨w.heap.size + 1, 0, none⟩) (lt_cell D1)).trans H6.out.frozen; have F2 := (hb2.frozen (p := ⟨w.heap.size + 1 + 1, 0, none⟩) (lt_cell D2)).trans H7.out.frozen; replace D0 := upc D0 hb2; replace D1 := upc D1 hb2; replace D2 : w2.cell? ⟨w.heap.size + 1 + 1, 0, none⟩ = some (.int .i64 0) := upc D2 hb2; have hlt := lt_cell D2))
        obtain ⟨w4, hw4⟩ : ∃ w4, w2.alloc (.cells #[.int .i64 t.t, .int .i64 t.n, .int .i64 t.x, .int .i64 t.y] 53) = w4 := ⟨_, rfl⟩
        have E0 : w4.cell? ⟨w.heap.size, 0, none⟩ = some v := by rw [← hw4]; exact upa D0 _
        have E1 : w4.cell? ⟨w.heap.size + 1, 0, none⟩ = some (.int .i64 k) := by rw [← hw4]; exact upa D1 _
        have E2 : w4.cell? ⟨w.heap.size + 1 + 1, 0, none⟩ = some (.int .i64 0) := by rw [← hw4]; exact upa D2 _
        rw [hw4]
        refine wpIn_region_P (fun i w' => if i = 0 then w'.cell? ⟨w.heap.size + 1, 0, none⟩ = some (.int .i64 k) else True) (by kernel_rfl) (by kernel_rfl) (by rintro ⟨a, w, h⟩; exact h) ?_
        refine wpAnyP_take (i := 0) (v := .int .i64 k) rfl (by kernel_rfl) (by kernel_rfl) (by kernel_rfl) (fun _ _ _ h => h) (yieldsIf_run rfl (fun w hS => ?_)) ?_ ?_
        · simp only [if_true] at hS
          go_simp
        · exact E1
        have G0 : w4.frozen? ⟨w.heap.size, 0, none⟩ = false := by rw [← hw4]; exact (World.frozen?_alloc_past _ _ _ (lt_cell D0)).trans F0
        have G1 : w4.frozen? ⟨w.heap.size + 1, 0, none⟩ = false := by rw [← hw4]; exact (World.frozen?_alloc_past _ _ _ (lt_cell D1)).trans F1
        have G2 : w4.frozen? ⟨w.heap.size + 1 + 1, 0, none⟩ = false := by rw [← hw4]; exact (World.frozen?_alloc_past _ _ _ (lt_cell D2)).trans F2
        refine wpAnyP_one (i := 1) (by kernel_rfl) (wpOp_skip (w' := w4.drew.setCell ⟨w.heap.size, 0, none⟩ (.slice none 0 0)) rfl rfl ?_ ⟨?_, ?_⟩)
        · go_simp
        · rintro (_ | i) _ hS
          · exact (World.cell?_setCell_other _ _ _ _ (by simp)).trans hS
          · exact trivial
        refine wpAnyP_one (i := 2) (by kernel_rfl) (wpOp_skip (w' := (w4.drew.setCell ⟨w.heap.size, 0, none⟩ (.slice none 0 0)).setCell ⟨w.heap.size + 1, 0, none⟩ (.int .i64 k)) rfl rfl ?_ ⟨?_, ?_⟩)
        · go_simp
        · rintro (_ | i) hf _
          · exact Bool.noConfusion (show false = true from hf)
          · exact trivial
        refine wpAnyP_one (i := 3) (by kernel_rfl) (wpOp_skip (w' := ((w4.drew.setCell ⟨w.heap.size, 0, none⟩ (.slice none 0 0)).setCell ⟨w.heap.size + 1, 0, none⟩ (.int .i64 k)).setCell ⟨w.heap.size + 1 + 1, 0, none⟩ (.int .i64 5)) rfl rfl ?_ ⟨?_, ?_⟩)
        · go_simp
        · rintro (_ | i) hf _
          · exact Bool.noConfusion (show false = true from hf)
          · exact trivial
        refine wpAnyP_done (by kernel_rfl) ?_ _
        have hfin := Lib.hid (badW_end (o := .cells #[.int .i64 t.t, .int .i64 t.n, .int .i64 t.x, .int .i64 t.y] 53) HB.out H4.out H6.out H7.out H8.out hb2)
        rw [hw4] at hfin
        change Exit.then _ _ _ _ (badW w k w4)
        generalize badW w k w4 = W5 at hfin
        gi_wp2
        exact hfin.out
  · intro D c W hX hK hD
    rcases hX with ⟨rfl, L, v, h1, h2, h3, h4, h5, h6, h7, h8⟩ | ⟨rfl, k, h1, h2, h3, h4, h5⟩
    · have HOK : Hid (ParC 16 s.data.toList (.ok L)) := ⟨h1, h2, h3⟩
      have H28 : Hid (∀ W', Below W.heap.size W W' → Calls Tryz.prog 28 #[v] W' (Back (.bool (chkB L)) W')) := fun W' hb => Check_any L v W' ((RowS.of_own h5 (by omega)).up hb)
      have HD : D < W.heap.size := (Array.getElem?_eq_some_iff.1 hK).1
      have hDw : w.heap.size ≤ D := by have := hb3.size; have := hb.size; omega
      obtain ⟨c, hc⟩ : ∃ c, chkB L = c := ⟨_, rfl⟩
      rw [hc] at H28
      have HC := Lib.hid hc
      have H5 := Lib.hid h5
      have H8 := Lib.hid h8
      obtain ⟨A, cap, hv⟩ : ∃ A cap, v = .slice A L.length cap := by
        rcases h5.2 with ⟨rfl, h0⟩ | ⟨g, cap, cur, rfl, -⟩
        · exact ⟨none, 0, by rw [h0]⟩
        · exact ⟨_, _, rfl⟩
      subst hv
      have d0 := h4.cell
      have B0 := Lib.hid h4
      have B1 := Lib.hid h6
      have B2 := Lib.hid h7
      clear hc h1 h2 h5 h8 h4 h6 h7
      cases c
      · gi_wp2_with (refine ⟨trivial, ?_⟩; gi_at_call 28; refine (callsIn_wide.2 (H28.out _ (Below.refl _ _))).mono ?_; rintro e w8 ⟨rfl, hb8⟩; have k0 := boxed_up B0.out hb8; have k1 := boxed_up B1.out hb8; have k2 : Boxed w8 (w.heap.size + 1 + 1) 25 (.int .i64 0) := boxed_up B2.out hb8; have e0 := k0.cell; have e1 := k1.cell; have e2 := k2.cell; have f0 := k0.frozen; have f1 := k1.frozen; have f2 := k2.frozen; have hK8 := boxed_cells_up hK hb8)
        obtain ⟨W9, hW9⟩ : ∃ W9, ((w8.setCell ⟨w.heap.size, 0, none⟩ (.slice none 0 0)).setCell ⟨w.heap.size + 1, 0, none⟩ (.int .i64 s.size)).setCell ⟨w.heap.size + 1 + 1, 0, none⟩ (.int .i64 2) = W9 := ⟨_, rfl⟩
        rw [hW9]
        have hK9 : W9.heap[D]? = some (.deferred (some [])) := by
          rw [← hW9]
          exact (((KeepsOthers.setCell w8 _ _).trans (KeepsOthers.setCell _ _ _)).trans (KeepsOthers.setCell _ _ _)).same _ _ hK8 rfl
        have x0 : Boxed W9 w.heap.size 30 (.slice none 0 0) := by rw [← hW9]; exact ((k0.set _).other (by omega) _).other (by omega) _
        have x1 : Boxed W9 (w.heap.size + 1) 3 (.int .i64 s.size) := by rw [← hW9]; exact ((k1.other (by omega) _).set _).other (by omega) _
        have x2 : Boxed W9 (w.heap.size + 1 + 1) 25 (.int .i64 2) := by rw [← hW9]; exact ((k2.other (by omega) _).other (by omega) _).set _
        have hb9 : Below w.heap.size w W9 := by
          rw [← hW9]; exact (((H8.out.trans (hb8.mono H8.out.size)).setCell (p := ⟨w.heap.size, 0, none⟩) (by simp) _).setCell (p := ⟨w.heap.size + 1, 0, none⟩) (by simp) _).setCell (p := ⟨w.heap.size + 1 + 1, 0, none⟩) (by simp; omega) _
        obtain ⟨W7, hW7, hb7, up7, c0, c1, c2⟩ := leave15 hK9 hDw hb9 x0 x1 x2
        refine ⟨by simp, .inl ⟨_, _, rfl, run_takeDeferred hK9, ?_⟩⟩
        rw [hW7]
        refine ⟨.tuple #[(.slice none 0 0), (.int .i64 s.size), (.int .i64 2)], ?_, .inr ⟨L, HOK.out, .inl ⟨HC.out, rfl⟩⟩, hb7⟩
        simp [results, Tryz.results15, go_sem, c0, c1, c2]
      · gi_wp2_with (refine ⟨trivial, ?_⟩; gi_at_call 28; refine (callsIn_wide.2 (H28.out _ (Below.refl _ _))).mono ?_; rintro e w8 ⟨rfl, hb8⟩; have k0 := boxed_up B0.out hb8; have k1 := boxed_up B1.out hb8; have k2 : Boxed w8 (w.heap.size + 1 + 1) 25 (.int .i64 0) := boxed_up B2.out hb8; have e0 := k0.cell; have e1 := k1.cell; have e2 := k2.cell; have f0 := k0.frozen; have f1 := k1.frozen; have f2 := k2.frozen; have hK8 := boxed_cells_up hK hb8)
        obtain ⟨W9, hW9⟩ : ∃ W9, ((w8.setCell ⟨w.heap.size, 0, none⟩ (.slice A L.length cap)).setCell ⟨w.heap.size + 1, 0, none⟩ (.int .i64 0)).setCell ⟨w.heap.size + 1 + 1, 0, none⟩ (.int .i64 0) = W9 := ⟨_, rfl⟩
        rw [hW9]
        have hK9 : W9.heap[D]? = some (.deferred (some [])) := by
          rw [← hW9]
          exact (((KeepsOthers.setCell w8 _ _).trans (KeepsOthers.setCell _ _ _)).trans (KeepsOthers.setCell _ _ _)).same _ _ hK8 rfl
        have x0 : Boxed W9 w.heap.size 30 (.slice A L.length cap) := by rw [← hW9]; exact ((k0.set _).other (by omega) _).other (by omega) _
        have x1 : Boxed W9 (w.heap.size + 1) 3 (.int .i64 0) := by rw [← hW9]; exact ((k1.other (by omega) _).set _).other (by omega) _
        have x2 : Boxed W9 (w.heap.size + 1 + 1) 25 (.int .i64 0) := by rw [← hW9]; exact ((k2.other (by omega) _).other (by omega) _).set _
        have hb9 : Below w.heap.size w W9 := by
          rw [← hW9]; exact (((H8.out.trans (hb8.mono H8.out.size)).setCell (p := ⟨w.heap.size, 0, none⟩) (by simp) _).setCell (p := ⟨w.heap.size + 1, 0, none⟩) (by simp) _).setCell (p := ⟨w.heap.size + 1 + 1, 0, none⟩) (by simp; omega) _
        have O8 : OwnS (w.heap.size + 6) w8 (.slice A L.length cap) L := own_up H5.out hb8
        have O9 : OwnS (w.heap.size + 6) W9 (.slice A L.length cap) L := by
          rw [← hW9]
          refine ((O8.kept (grownBy_setCell' w8 w.heap.size _) (.inr (k0.not_row (by decide) O8).symm)).kept (grownBy_setCell' _ (w.heap.size + 1) _) (.inr (k1.not_row (by decide) O8).symm)).kept (grownBy_setCell' _ (w.heap.size + 1 + 1) _) (.inr (k2.not_row (by decide) O8).symm)
        obtain ⟨W7, hW7, hb7, up7, c0, c1, c2⟩ := leave15 hK9 hDw hb9 x0 x1 x2
        refine ⟨by simp, .inl ⟨_, _, rfl, run_takeDeferred hK9, ?_⟩⟩
        rw [hW7]
        refine ⟨.tuple #[(.slice A L.length cap), (.int .i64 0), (.int .i64 0)], ?_, .inr ⟨L, HOK.out, .inr ⟨HC.out, _, rfl, ?_⟩⟩, hb7⟩
        · simp [results, Tryz.results15, go_sem, c0, c1, c2]
        · obtain ⟨q1, q2⟩ := O9
          refine ⟨q1, q2.imp_right ?_⟩
          rintro ⟨g, cap, cur, q3, q4, q5, q6⟩
          exact ⟨g, cap, cur, q3, by omega, up7 q5, q6⟩
    · have hDw : w.heap.size ≤ D := by have := hb3.size; have := hb.size; omega
      obtain ⟨W7, hW7, hb7, -, c0, c1, c2⟩ := leave15 hK hDw h5 h2 h3 (show Boxed W (w.heap.size + 1 + 1) 25 _ from h4)
      gi_wp2
      refine ⟨by simp, .inl ⟨_, _, rfl, run_takeDeferred hK, ?_⟩⟩
      rw [hW7]
      refine ⟨.tuple #[.slice none 0 0, .int .i64 k, .int .i64 5], ?_, .inl ⟨k, h1, rfl⟩, hb7⟩
      simp [results, Tryz.results15, go_sem, c0, c1, c2]
end Go.Proofs.YtmhlialdbggmdaaGreatDoor
