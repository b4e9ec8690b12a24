/- A range over strings.SplitAfterSeq at one byte: the iterator and the statement. -/
import Derived.RangeFuncNested
import Derived.RangeFuncBound
import Derived.RangeFuncCalls
import Derived.RangeFuncLeaves
import Derived.RangeFuncBox
import Derived.Shelf.Abstract
import Derived.Shelf.RegionOpen
import Derived.WalkKit
import Derived.OwnWalkIn
import Derived.TacticsInMore
import Derived.LoopNIn
import Derived.LoopIn
import Derived.Lib.Hide
import Derived.RangeFuncKeeps
import Derived.Lib.IndexLaws
import Derived.Test.YtmhlialdbggmdaaGreatDoorA
namespace Go.Proofs.YtmhlialdbggmdaaGreatDoor
open Go.RowKit Go.Proofs Go.Shelf
attribute [local go_sem] Oper.semAt_some

/-- What is left of the iterator's captured string. -/
def lftS (c : Nat) (w : World) : Nat := match w.cell? ⟨c, 0, none⟩ with | some (.string s) => s.size | _ => 0
def Idx92 : Prop := ∀ (s : ByteArray) (c : UInt8) (w : World), Calls Tryz.prog 92 #[.string s, .string ⟨#[c]⟩] w fun e w' => e = .returned (.int .i64 (Lib.indexByte s.data.toList c)) ∧ w' = w
/-- The three captured variables. -/
def Cap3 (cs cp cn : Nat) (r : ByteArray) (W : World) : Prop :=
  W.heap[cs]? = some (.cells #[.string r] 9 (0, 0)) ∧ W.heap[cp]? = some (.cells #[.string ⟨#[10]⟩] 9 (0, 0)) ∧ W.heap[cn]? = some (.cells #[.int .i64 1] 3 (0, 0))

set_option maxRecDepth 100000 in
set_option maxHeartbeats 4000000 in
theorem seq_iter (H92 : Idx92) (n cs cp cn l : Nat) (s : ByteArray) (hs : s.size ≤ 100000) (J : ByteArray → World → Prop) (Jx : World → Prop) (W : World) (hn : 1 ≤ n)
    (hJs : ∀ r r' u W, W.heap[cs]? = some (.cells #[u] 9 (0, 0)) → J r W → J r (W.setCell ⟨cs, 0, none⟩ (.string r')))
    (hY : ∀ r (i : Nat) W1, J r W1 → Cap3 cs cp cn r W1 → r.size ≤ 100000 → Lib.indexByte r.data.toList 10 = (i : Int) → YieldAt Fence.wide (n - 1) Tryz.prog l #[.string (r.extract 0 (i + 1))] W1 fun e W' =>
      (e = .returned (.bool true) ∧ J (r.extract (i + 1) r.size) W' ∧ Cap3 cs cp cn r W') ∨ (e = .returned (.bool false) ∧ Jx W'))
    (hZ : ∀ r W1, J r W1 → Cap3 cs cp cn r W1 → r.size ≤ 100000 → Lib.indexByte r.data.toList 10 = -1 → YieldAt Fence.wide (n - 1) Tryz.prog l #[.string r] W1 fun e W' => (∃ b, e = .returned (.bool b)) ∧ Jx W')
    (hne : cp ≠ cs) (hcap : Cap3 cs cp cn s W) (h0 : J s W) :
    CallsIn Fence.wide n Tryz.prog 90 #[.func (.yield l) #[] #[], .pointer (some ⟨cp, 0, none⟩), .pointer (some ⟨cs, 0, none⟩), .pointer (some ⟨cn, 0, none⟩)] W fun e W' => (∃ v, e = .returned v) ∧ Jx W' := by
  refine callsIn_of_wp Tryz.func90 rfl trivial ?_ rfl
  simp only [Tryz.ntmps90, List.size_toArray, List.length_cons, List.length_nil, Nat.reduceAdd, Nat.reduceSub, Array.replicate_succ, Array.replicate_zero, List.push_toArray, List.append_toArray, List.nil_append, List.cons_append]
  have kp : W.cell? ⟨cp, 0, none⟩ = some (.string ⟨#[10]⟩) := by simp [World.cell?, hcap.2.1]
  gi_wp2
  clear kp
  gi_loopw [] (fun wr => ∃ r : ByteArray, r.size ≤ 100000 ∧ Cap3 cs cp cn r wr ∧ J r wr) (fun wr => lftS cs wr)
  case atStart => exact ⟨s, hs, hcap, h0⟩
  case round =>
    obtain ⟨r, hr, hc, hJ⟩ := hrel
    have ks : wr.cell? ⟨cs, 0, none⟩ = some (.string r) := by simp [World.cell?, hc.1]
    have kp : wr.cell? ⟨cp, 0, none⟩ = some (.string ⟨#[10]⟩) := by simp [World.cell?, hc.2.1]
    have kn : wr.cell? ⟨cn, 0, none⟩ = some (.int .i64 1) := by simp [World.cell?, hc.2.2]
    have kf : wr.frozen? ⟨cs, 0, none⟩ = false := by simp [World.frozen?, hc.1]
    have E1 : Hid (lftS cs wr = r.size) := by show _ = _; unfold lftS; rw [ks]
    have HI := Lib.hid (fun w => H92 r 10 w)
    obtain ⟨q, hq⟩ : ∃ q, Lib.indexByte r.data.toList 10 = q := ⟨_, rfl⟩
    rw [hq] at HI
    have HQ := Lib.hid hq
    by_cases hm : q = -1
    · subst hm
      clear hq
      obtain ⟨f1, t1, a1, b1, hy1, hR1⟩ := hZ r wr hJ hc hr HQ.out
      gi_wp2_with (refine ⟨trivial, ?_⟩; gi_at_call 92; refine (callsIn_wide.2 (HI.out _)).mono ?_; rintro e w1 ⟨rfl, hw⟩; subst hw)
      refine hR1.mono ?_
      rintro e W3 ⟨⟨b, rfl⟩, hx⟩
      gi_wp2
      go_end0
      exact ⟨⟨_, rfl⟩, hx⟩
    · obtain ⟨i, rfl⟩ : ∃ i : Nat, q = (i : Int) := Int.eq_ofNat_of_zero_le (by have := Lib.indexByte_ge r.data.toList 10; omega)
      have hi : i < r.size := by
        have := (Lib.indexByte_some HQ.out).1
        have := (List.getElem?_eq_some_iff.1 this).1
        simpa using this
      clear hq
      obtain ⟨f1, t1, a1, b1, hy1, hR1⟩ := hY r i wr hJ hc hr HQ.out
      gi_wp2_with (refine ⟨trivial, ?_⟩; gi_at_call 92; refine (callsIn_wide.2 (HI.out _)).mono ?_; rintro e w1 ⟨rfl, hw⟩; subst hw)
      refine hR1.mono ?_
      rintro e W3 (⟨rfl, hJ3, hc3⟩ | ⟨rfl, hx⟩)
      · have ks3 : W3.cell? ⟨cs, 0, none⟩ = some (.string r) := by simp [World.cell?, hc3.1]
        have kp3 : W3.cell? ⟨cp, 0, none⟩ = some (.string ⟨#[10]⟩) := by simp [World.cell?, hc3.2.1]
        have kf3 : W3.frozen? ⟨cs, 0, none⟩ = false := by simp [World.frozen?, hc3.1]
        have hc4 : Cap3 cs cp cn (r.extract (i + 1) r.size) (W3.setCell ⟨cs, 0, none⟩ (.string (r.extract (i + 1) r.size))) := by
          refine ⟨by simp [World.setCell, Array.getElem?_modify, hc3.1], (Below.heap_setCell _ _ _ _ ?_).trans hc3.2.1, (Below.heap_setCell _ _ _ _ ?_).trans hc3.2.2⟩
          · exact hne
          · rintro rfl; have := hc3.1; rw [hc3.2.2] at this; cases this
        gi_wp2
        go_roundw
        case rel => exact ⟨r.extract (i + 1) r.size, by simp; omega, hc4, hJs _ _ _ _ hc3.1 hJ3⟩
        case measure =>
          have e1 := E1.out
          have e2 : lftS cs (W3.setCell ⟨cs, 0, none⟩ (.string (r.extract (i + 1) r.size))) = r.size - (i + 1) := by
            unfold lftS; simp [World.cell?, hc4.1]
          rw [e1, e2]; omega
      · gi_wp2
        refine bodyPost_ret (results_none rfl _ _ _) rfl ?_
        exact ⟨⟨_, rfl⟩, hx⟩

/-- What the statement's own steps keep: what lies below n0, and all cells but the iterator's own string. -/
def Kq (n0 cs : Nat) (W W' : World) : Prop := Below n0 W W' ∧ ∀ (k : Nat) (c : Array Value) (t : TypeId) (fz : Nat × Nat), W.heap[k]? = some (Obj.cells c t fz) → k ≠ cs → W'.heap[k]? = some (Obj.cells c t fz)
theorem Kq.alloc {n0 cs : Nat} (W : World) (o : Obj) (h : n0 ≤ W.heap.size) : Kq n0 cs W (W.alloc o) :=
  ⟨(Below.refl _ _).alloc h _, fun k _ _ _ hk _ => (Below.heap_alloc W o k (Array.getElem?_eq_some_iff.1 hk).1).trans hk⟩
theorem Kq.putObj {n0 cs : Nat} {W : World} {l : Nat} {o : Obj} (o' : Obj) (hl : W.heap[l]? = some o) (ho : o.isCells = false) (h : n0 ≤ l) : Kq n0 cs W (W.putObj l o') :=
  ⟨(Below.refl n0 W).grown (grownBy_putObj' W l o') (by have := (Array.getElem?_eq_some_iff.1 hl).1; omega) (fun k e => by cases e; omega), fun k c t fz hk _ => by
    by_cases e : k = l
    · subst e; rw [hl] at hk; cases hk; cases ho
    · exact (World.putObj_heap_other (fun h => e h)).trans hk⟩
theorem Kq.setCell {n0 cs : Nat} {W : World} (u : Value) (h : n0 ≤ cs) : Kq n0 cs W (W.setCell ⟨cs, 0, none⟩ u) :=
  ⟨(Below.refl n0 W).setCell (p := ⟨cs, 0, none⟩) h _, fun _ _ _ _ hk ht => (Below.heap_setCell _ _ _ _ ht).trans hk⟩
theorem Cap3.put {cs cp cn : Nat} {r : ByteArray} {W : World} (h : Cap3 cs cp cn r W) {l : Nat} {o : Obj} (o' : Obj) (hl : W.heap[l]? = some o) (ho : o.isCells = false) : Cap3 cs cp cn r (W.putObj l o') := by
  have one : ∀ (k : Nat) (c : Array Value) (t : TypeId) (fz : Nat × Nat), W.heap[k]? = some (Obj.cells c t fz) → (W.putObj l o').heap[k]? = some (Obj.cells c t fz) := fun k c t fz hk => by
    by_cases e : k = l
    · subst e; rw [hl] at hk; cases hk; cases ho
    · exact (World.putObj_heap_other (fun h => e h)).trans hk
  exact ⟨one _ _ _ _ h.1, one _ _ _ _ h.2.1, one _ _ _ _ h.2.2⟩

/-- How a round's body is left. -/
def seqPost (cs cp cn : Nat) (I : ByteArray → World → Prop) (Ix : Code → World → Prop) (r r' : ByteArray) (W : World) : Exit → Act → World → Prop
  | .normal, _, W' => KeepsOthers W W' ∧ Cap3 cs cp cn r W' ∧ I r' W'
  | .ret, _, W' => KeepsOthers W W' ∧ Ix .ret W'
  | .exit id, _, W' => KeepsOthers W W' ∧ Ix (.exit id) W'
  | _, _, _ => False
/-- How the last round's body is left: it does not go on. -/
def seqLast (Ix : Code → World → Prop) (W : World) : Exit → Act → World → Prop
  | .ret, _, W' => KeepsOthers W W' ∧ Ix .ret W'
  | .exit id, _, W' => KeepsOthers W W' ∧ Ix (.exit id) W'
  | _, _, _ => False

set_option maxHeartbeats 2000000 in
theorem range_seq (H92 : Idx92) {ps : Array Tmp} {assign body : Code} {Q : Exit → Act → World → Prop} {a : Act} {w : World} {n n0 : Nat} (h1 : 2 ≤ n) {g : Operand} {cs cp cn : Nat}
    (hg : a.eval g = .func (.func 90) #[] #[.pointer (some ⟨cp, 0, none⟩), .pointer (some ⟨cs, 0, none⟩), .pointer (some ⟨cn, 0, none⟩)]) (hps : ps.size = 1) (s : ByteArray) (hs : s.size ≤ 100000) (hn0 : n0 ≤ cs) (hne : cp ≠ cs)
    (hcap : Cap3 cs cp cn s w) (I : ByteArray → World → Prop) (Ix : Code → World → Prop) (hIk : ∀ r W W', I r W → Kq n0 cs W W' → I r W') (hIxk : ∀ c W W', Ix c W → Kq n0 cs W W' → Ix c W') (h0 : I s w)
    (hab : ∃ a1 : ByteArray → Act, (∀ (l : Nat) (x : ByteArray) (W : World) (K : Act → World → Prop), K (a1 x) W →
      assign.wpIn (Fence.wide.inRound l) (n - 1 - 1) Tryz.prog (Exit.then K (fun _ _ _ => False)) { tmps := (ps.zip #[.string x]).foldl (fun t (p, v) => t.setIfInBounds p v) a.tmps, defers := [] } W) ∧
      (∀ (l : Nat) (r : ByteArray) (i : Nat) (W : World), I r W → Cap3 cs cp cn r W → r.size ≤ 100000 → Lib.indexByte r.data.toList 10 = (i : Int) →
        body.wpIn (Fence.wide.inRound l) (n - 1 - 1) Tryz.prog (seqPost cs cp cn I Ix r (r.extract (i + 1) r.size) W) (a1 (r.extract 0 (i + 1))) W) ∧
      (∀ (l : Nat) (r : ByteArray) (W : World), I r W → Cap3 cs cp cn r W → r.size ≤ 100000 → Lib.indexByte r.data.toList 10 = -1 →
        body.wpIn (Fence.wide.inRound l) (n - 1 - 1) Tryz.prog (seqLast Ix W) (a1 r) W))
    (hstop : ∀ (D : Nat) (c : Code) (W : World), Ix c W → W.heap[D]? = some (.deferred (some [])) → w.heap.size ≤ D → c.wpIn Fence.wide n Tryz.prog Q { a with defers := { target := .collected D, args := #[] } :: a.defers } W) :
    (Code.rangeFunc g ps assign body).wpIn Fence.wide n Tryz.prog Q a w := by
  obtain ⟨a1, hassign, hbody, hlast⟩ := hab
  have hcl : cs < w.heap.size := (Array.getElem?_eq_some_iff.1 hcap.1).1
  refine wpIn_rangeFunc ?_
  intro fn hfn
  obtain ⟨rec, hrec⟩ : ∃ rec : LoopState → Option Code → Loop, rec = fun st pe => { state := st, pending := pe, fn, tmps := a.tmps, params := ps, assign, body, defers := w.heap.size } := ⟨_, rfl⟩
  obtain ⟨W1, hW1⟩ : ∃ W1, (w.alloc (.deferred (some []))).alloc (.loop (rec .ready none)) = W1 := ⟨_, rfl⟩
  have hL1 : W1.heap[w.heap.size + 1]? = some (.loop (rec .ready none)) := by
    rw [← hW1]; have := World.alloc_heap_new (w.alloc (.deferred (some []))) (.loop (rec .ready none)); rwa [World.size_alloc] at this
  have hK1 : W1.heap[w.heap.size]? = some (.deferred (some [])) := by
    rw [← hW1]; exact (Below.heap_alloc _ _ _ (by simp)).trans (World.alloc_heap_new w _)
  have up1 : ∀ (k : Nat) (o : Obj), w.heap[k]? = some o → W1.heap[k]? = some o := fun k o hk => by
    have := (Array.getElem?_eq_some_iff.1 hk).1
    rw [← hW1]; exact (Below.heap_alloc _ _ _ (by simp; omega)).trans ((Below.heap_alloc _ _ _ this).trans hk)
  have hc1 : Cap3 cs cp cn s W1 := ⟨up1 _ _ hcap.1, up1 _ _ hcap.2.1, up1 _ _ hcap.2.2⟩
  have hI1 : I s W1 := by rw [← hW1]; exact hIk _ _ _ (hIk _ _ _ h0 (Kq.alloc _ _ (by omega))) (Kq.alloc _ _ (by simp; omega))
  refine ⟨w.heap.size + 1, [{ target := .collected w.heap.size, args := #[] }], W1, { target := .fn (.func 90) #[.pointer (some ⟨cp, 0, none⟩), .pointer (some ⟨cs, 0, none⟩), .pointer (some ⟨cn, 0, none⟩)], args := #[.func (.yield (w.heap.size + 1)) #[] #[]] }, W1, 90,
    #[.func (.yield (w.heap.size + 1)) #[] #[], .pointer (some ⟨cp, 0, none⟩), .pointer (some ⟨cs, 0, none⟩), .pointer (some ⟨cn, 0, none⟩)], W1, ?_, ?_, ?_, ?_, fun _ => by omega, ?_⟩
  · rw [← hW1, hrec]; exact run_enterLoop_outer _ _ _ _ _
  · simp only [resolve, hg]
    simp [go_sem]
  · intro f' _; exact trivial
  · simp [invoke, go_sem]
  · -- how a round ends that does not go on
    have hend : ∀ (c : Code) (W W3 : World), W.heap[w.heap.size + 1]? = some (.loop (rec .ready none)) → W.heap[w.heap.size]? = some (.deferred (some [])) → KeepsOthers (W.putObj (w.heap.size + 1) (.loop { rec .ready none with state := .busy })) W3 → Ix c W3 →
        ∃ v w', (Instr.endRound (w.heap.size + 1) (some c)).run Tryz.prog W3 = .ok v w' ∧ Ending.returned v = .returned (.bool false) ∧ (∃ c, Ix c w' ∧ w'.heap[w.heap.size + 1]? = some (.loop (rec .done (some c))) ∧ w'.heap[w.heap.size]? = some (.deferred (some []))) := by
      intro c W W3 hl hk hko hx
      have hlt : w.heap.size + 1 < W.heap.size := (Array.getElem?_eq_some_iff.1 hl).1
      have hl2 : (W.putObj (w.heap.size + 1) (.loop { rec .ready none with state := .busy })).heap[w.heap.size + 1]? = some (.loop { rec .ready none with state := .busy }) := World.putObj_heap_same hlt
      have hk2 : (W.putObj (w.heap.size + 1) (.loop { rec .ready none with state := .busy })).heap[w.heap.size]? = some (.deferred (some [])) := (World.putObj_heap_other (by omega)).trans hk
      have hl3 := hko.same _ _ hl2 rfl
      have he := run_endRound (P := Tryz.prog) (some c) hl3
      rw [hrec] at he
      refine ⟨_, _, he, rfl, c, hIxk _ _ _ hx (Kq.putObj _ hl3 rfl (by omega)), ?_, (World.putObj_heap_other (by omega)).trans (hko.same _ _ hk2 rfl)⟩
      rw [hrec]; exact World.putObj_heap_same (Array.getElem?_eq_some_iff.1 hl3).1
    refine (seq_iter H92 (n - 1) cs cp cn (w.heap.size + 1) s hs
      (fun r W => I r W ∧ W.heap[w.heap.size + 1]? = some (.loop (rec .ready none)) ∧ W.heap[w.heap.size]? = some (.deferred (some [])))
      (fun W => ∃ c, Ix c W ∧ W.heap[w.heap.size + 1]? = some (.loop (rec .done (some c))) ∧ W.heap[w.heap.size]? = some (.deferred (some []))) W1 (by omega) ?_ ?_ ?_ hne hc1 ⟨hI1, hL1, hK1⟩).mono ?_
    · rintro r r' u W hu ⟨hi, hl, hk⟩
      have ko := KeepsOthers.setCell W ⟨cs, 0, none⟩ (.string r')
      exact ⟨hIk _ _ _ hi (Kq.setCell _ hn0), ko.same _ _ hl rfl, ko.same _ _ hk rfl⟩
    · rintro r i W ⟨hi, hl, hk⟩ hcp hr hix
      have hlt : w.heap.size + 1 < W.heap.size := (Array.getElem?_eq_some_iff.1 hl).1
      have hy := run_yield (P := Tryz.prog) (args := #[.string (r.extract 0 (i + 1))]) hl (by rw [hrec]; simp [hps])
      rw [hrec] at hy
      refine ⟨fn, _, assign, body, hy, roundIn_of_wpIn hfn (hassign _ (r.extract 0 (i + 1)) W _ ⟨_, run_beginRound hl (by rw [hrec]), ?_⟩)⟩
      have hl2 : (W.putObj (w.heap.size + 1) (.loop { rec .ready none with state := .busy })).heap[w.heap.size + 1]? = some (.loop { rec .ready none with state := .busy }) := World.putObj_heap_same hlt
      have hk2 : (W.putObj (w.heap.size + 1) (.loop { rec .ready none with state := .busy })).heap[w.heap.size]? = some (.deferred (some [])) := (World.putObj_heap_other (by omega)).trans hk
      refine wpIn_mono (hbody _ r i _ (hIk _ _ _ hi (Kq.putObj _ hl rfl (by omega))) (hcp.put _ hl rfl) hr hix) ?_
      rintro e a3 W3 hp
      cases e with
      | normal =>
        obtain ⟨hk3, hc3, hi3⟩ := hp
        have hl3 := hk3.same _ _ hl2 rfl
        have he := run_endRound (P := Tryz.prog) none hl3
        rw [hrec] at he
        refine ⟨_, _, he, .inl ⟨rfl, ⟨hIk _ _ _ hi3 (Kq.putObj _ hl3 rfl (by omega)), ?_, (World.putObj_heap_other (by omega)).trans (hk3.same _ _ hk2 rfl)⟩, hc3.put _ hl3 rfl⟩⟩
        rw [hrec]; exact World.putObj_heap_same (Array.getElem?_eq_some_iff.1 hl3).1
      | ret =>
        obtain ⟨hk3, hx⟩ := hp
        obtain ⟨v, w', he, hv, hr⟩ := hend _ W W3 hl hk hk3 hx
        exact ⟨v, w', he, .inr ⟨hv, hr⟩⟩
      | exit id =>
        obtain ⟨hk3, hx⟩ := hp
        obtain ⟨v, w', he, hv, hr⟩ := hend _ W W3 hl hk hk3 hx
        exact ⟨v, w', he, .inr ⟨hv, hr⟩⟩
      | goto t => exact hp.elim
      | panic ch => exact hp.elim
      | outgrown => exact hp.elim
    · rintro r W ⟨hi, hl, hk⟩ hcp hr hix
      have hlt : w.heap.size + 1 < W.heap.size := (Array.getElem?_eq_some_iff.1 hl).1
      have hy := run_yield (P := Tryz.prog) (args := #[.string r]) hl (by rw [hrec]; simp [hps])
      rw [hrec] at hy
      refine ⟨fn, _, assign, body, hy, roundIn_of_wpIn hfn (hassign _ r W _ ⟨_, run_beginRound hl (by rw [hrec]), ?_⟩)⟩
      refine wpIn_mono (hlast _ r _ (hIk _ _ _ hi (Kq.putObj _ hl rfl (by omega))) (hcp.put _ hl rfl) hr hix) ?_
      rintro e a3 W3 hp
      cases e with
      | normal => exact hp.elim
      | ret =>
        obtain ⟨hk3, hx⟩ := hp
        obtain ⟨v, w', he, hv, hr⟩ := hend _ W W3 hl hk hk3 hx
        exact ⟨v, w', he, ⟨_, hv⟩, hr⟩
      | exit id =>
        obtain ⟨hk3, hx⟩ := hp
        obtain ⟨v, w', he, hv, hr⟩ := hend _ W W3 hl hk hk3 hx
        exact ⟨v, w', he, ⟨_, hv⟩, hr⟩
      | goto t => exact hp.elim
      | panic ch => exact hp.elim
      | outgrown => exact hp.elim
    · rintro e W2 ⟨⟨v, rfl⟩, c, hx, hl, hk⟩
      have he := run_endLoop (P := Tryz.prog) hl (by rw [hrec]; simp)
      rw [hrec] at he
      exact ⟨some c, _, he, hstop _ c _ (hIxk _ _ _ hx (Kq.putObj _ hl rfl (by omega))) ((World.putObj_heap_other (by omega)).trans hk) (Nat.le_refl _)⟩
end Go.Proofs.YtmhlialdbggmdaaGreatDoor
