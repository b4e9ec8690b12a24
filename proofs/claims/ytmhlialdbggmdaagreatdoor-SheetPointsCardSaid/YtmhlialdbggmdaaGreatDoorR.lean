/- A range over the stones in the house (sheet.housed): the iterator and the statement. -/
import Derived.RangeFuncNested
import Derived.RangeFuncBound
import Derived.RangeFuncCalls
import Derived.RangeFuncLeaves
import Derived.RangeFuncBox
import Derived.Shelf.Abstract
import Derived.Shelf.RegionOpen
import Derived.WalkKit
import Derived.OwnWalkIn
import Derived.TacticsInMore
import Derived.LoopNIn
import Derived.LoopIn
import Derived.Lib.Hide
import Derived.RangeFuncKeeps
import Derived.Test.YtmhlialdbggmdaaGreatDoorP
namespace Go.Proofs.YtmhlialdbggmdaaGreatDoor
open Go.RowKit Go.Proofs Go.Shelf
attribute [local go_sem] Oper.semAt_some

/-- The first k places' stones in the house, with their places. -/
def hsK (l : List St) (k : Nat) : List (Nat × St) := (List.range k).filterMap fun j => match l[j]? with | some s => if InH s.x s.y then some (j, s) else none | none => none
theorem hsK_succ {l : List St} {k : Nat} (h : k < l.length) : hsK l (k + 1) = hsK l k ++ (if InH (l[k]'h).x (l[k]'h).y then [(k, l[k]'h)] else []) := by
  unfold hsK
  rw [List.range_succ, List.filterMap_append, List.filterMap_cons, List.getElem?_eq_getElem h]
  by_cases hi : InH (l[k]'h).x (l[k]'h).y
  · simp [hi]
  · simp [hi]
theorem hsK_len (l : List St) (k : Nat) : (hsK l k).length ≤ k := by
  unfold hsK
  exact Nat.le_trans (List.length_filterMap_le _ _) (by simp)

/-- All blocks of cells lie as they lay, and all that lies below n0. -/
def Kc (n0 : Nat) (W W' : World) : Prop := Below n0 W W' ∧ ∀ (k : Nat) (cs : Array Value) (t : TypeId) (fz : Nat × Nat), W.heap[k]? = some (Obj.cells cs t fz) → W'.heap[k]? = some (Obj.cells cs t fz)
theorem Kc.of_below {n0 : Nat} {W W' : World} (h : Below W.heap.size W W') (hn : n0 ≤ W.heap.size) : Kc n0 W W' :=
  ⟨h.mono hn, fun k _ _ _ hk => (h.block k (Array.getElem?_eq_some_iff.1 hk).1).trans hk⟩
theorem Kc.alloc {n0 : Nat} (W : World) (o : Obj) (h : n0 ≤ W.heap.size) : Kc n0 W (W.alloc o) :=
  Kc.of_below ((Below.refl _ _).alloc (Nat.le_refl _) _) h
theorem Kc.putObj {n0 : Nat} {W : World} {l : Nat} {o : Obj} (o' : Obj) (hl : W.heap[l]? = some o) (ho : o.isCells = false) (h : n0 ≤ l) : Kc n0 W (W.putObj l o') :=
  ⟨(Below.refl n0 W).grown (grownBy_putObj' W l o') (by have := (Array.getElem?_eq_some_iff.1 hl).1; omega) (fun k e => by cases e; omega), fun k cs t fz hk => by
    by_cases e : k = l
    · subst e; rw [hl] at hk; cases hk; cases ho
    · exact (World.putObj_heap_other (fun h => e h)).trans hk⟩

set_option maxRecDepth 100000 in
set_option maxHeartbeats 4000000 in
theorem hs_iter (n Bs l0 : Nat) (l : List St) (v : Value) (w0 : World) (hrow : RowS w0 v l) (hok : ∀ j (h : j < l.length), OkS (l[j]'h).x (l[j]'h).y)
    (J : List (Nat × St) → World → Prop) (W : World) (hn : 1 ≤ n) (hvW : W.cell? ⟨Bs, 0, none⟩ = some v) (h0W : Below w0.heap.size w0 W)
    (hJs : ∀ s W W', w0.heap.size ≤ W.heap.size → J s W → Below W.heap.size W W' → J s W')
    (hY : ∀ pre x W1, J pre W1 → pre.length < l.length → Below w0.heap.size w0 W1 → YieldAt Fence.wide (n - 1) Tryz.prog l0 #[.int .i64 (x.1 : Nat), Stv x.2] W1 fun e W' => e = .returned (.bool true) ∧ J (pre ++ [x]) W' ∧ Below w0.heap.size W1 W')
    (h0 : J [] W) :
    CallsIn Fence.wide n Tryz.prog 98 #[.func (.yield l0) #[] #[], .pointer (some ⟨Bs, 0, none⟩)] W fun e W' => (∃ v, e = .returned v) ∧ J (hsK l l.length) W' ∧ Below w0.heap.size w0 W' := by
  refine callsIn_of_wp Tryz.func98 rfl trivial ?_ rfl
  simp only [Tryz.ntmps98, List.size_toArray, List.length_cons, List.length_nil, Nat.reduceAdd, Nat.reduceSub, Array.replicate_succ, Array.replicate_zero, List.push_toArray, List.append_toArray, List.nil_append, List.cons_append]
  obtain ⟨A, cap, rfl, hlc, ⟨hcap, -⟩, hcells⟩ := hrow
  gi_wp2
  gi_loopw [7] (fun i wr => ∃ k : Nat, k ≤ l.length ∧ i = .int .i64 k ∧ J (hsK l k) wr ∧ Below w0.heap.size w0 wr) (fun i _ => l.length - (intOf i).toNat)
  case atStart => exact ⟨0, Nat.zero_le _, rfl, h0, h0W⟩
  case round =>
    obtain ⟨k, hk, rfl, hJ, hb⟩ := hrel
    by_cases hlt : k < l.length
    · have hlt' : (k : Int) < (l.length : Int) := by omega
      obtain ⟨b, o, rfl, hc⟩ := hcells (by intro h; subst h; simp at hlt)
      have hA := (hc k hlt).up hb
      have hO := hok k hlt
      have hsu := hsK_succ hlt
      obtain ⟨s, hs⟩ : ∃ s, l[k]'hlt = s := ⟨_, rfl⟩
      rw [hs] at hA hO hsu
      obtain ⟨a0, a1, a2, a3⟩ := hA
      have HO := Lib.hid hO
      have HSU := Lib.hid hsu
      clear hsu hs hc hO
      have HJ1 : Hid (∀ W', Below wr.heap.size wr W' → J (hsK l k) W') := fun W' h => hJs _ _ _ hb.size hJ h
      have HB := Lib.hid hb
      obtain ⟨s1, s2, s3, s4⟩ := s
      have HK0 : Hid (At4 (wr.alloc (Sto ⟨s1, s2, s3, s4⟩)) wr.heap.size 0 ⟨s1, s2, s3, s4⟩) := At4.new wr ⟨s1, s2, s3, s4⟩
      have HB1 : Hid (Below wr.heap.size wr (wr.alloc (Sto ⟨s1, s2, s3, s4⟩))) := (Below.refl _ _).alloc (Nat.le_refl _) _
      obtain ⟨z, hz⟩ : ∃ z, zoneZ s3 s4 = z := ⟨_, rfl⟩
      have HZ := Lib.hid (zone_house s3 s4)
      have HC : Hid (∀ w, Calls Tryz.prog 54 #[.agg #[.int .i64 s3, .int .i64 s4]] w (Back (.int .i64 z) w)) := fun w => by rw [← hz]; exact zone_any s3 s4 w HO.out
      rw [hz] at HZ
      clear hz
      by_cases h2 : z = 2
      · subst h2
        have hin := HZ.out.1 rfl
        have hsu2 := HSU.out
        rw [if_pos hin] at hsu2
        have HS2 := Lib.hid hsu2
        clear hsu2 hin HSU
        have hlen : (hsK l k).length < l.length := by have := hsK_len l k; omega
        gi_wp2_with (refine ⟨trivial, ?_⟩; gi_at_call 54; refine (callsIn_wide.2 (HC.out _)).mono ?_; rintro e w1 ⟨rfl, hb1⟩; obtain ⟨b0, b1, b2, b3⟩ := HK0.out.up hb1; have HB2 := Lib.hid (HB1.out.trans (hb1.mono HB1.out.size)); obtain ⟨f1, t1, as1, bd1, hy1, hR1⟩ := hY _ (k, ⟨s1, s2, s3, s4⟩) w1 (HJ1.out w1 HB2.out) hlen (HB.out.trans (HB2.out.mono HB.out.size)); dsimp only at hy1)
        refine hR1.mono ?_
        rintro e W3 ⟨rfl, hJ3, hk3⟩
        gi_wp2
        go_roundw
        case rel => exact ⟨k + 1, by omega, by go_num, by rw [HS2.out]; exact hJ3, (HB.out.trans (HB2.out.mono HB.out.size)).trans hk3⟩
        case measure => simp [intOf]; omega
      · have h2' : (z == 2) = false := by simpa using h2
        have hsu2 := HSU.out
        rw [if_neg (fun h => h2 (HZ.out.2 h)), List.append_nil] at hsu2
        have HS2 := Lib.hid hsu2
        clear hsu2 h2
        gi_wp2_with (refine ⟨trivial, ?_⟩; gi_at_call 54; refine (callsIn_wide.2 (HC.out _)).mono ?_; rintro e w1 ⟨rfl, hb1⟩; have HB2 := Lib.hid (HB1.out.trans (hb1.mono HB1.out.size)))
        refine ⟨fun _ h => (by cases h), ?_⟩
        gi_wp2
        go_roundw
        case rel => exact ⟨k + 1, by omega, by go_num, by rw [HS2.out]; exact HJ1.out _ HB2.out, HB.out.trans (HB2.out.mono HB.out.size)⟩
        case measure => simp [intOf]; omega
    · obtain rfl : k = l.length := by omega
      gi_wp2
      go_end0
      exact ⟨⟨_, rfl⟩, hJ, hb⟩

/-- How a round's body is left: off its end. -/
def hsPost (n0 : Nat) (I : List (Nat × St) → World → Prop) (xs : List (Nat × St)) (W : World) : Exit → Act → World → Prop
  | .normal, _, W' => KeepsOthers W W' ∧ Below n0 W W' ∧ I xs W'
  | _, _, _ => False

set_option maxHeartbeats 2000000 in
theorem range_hs {ps : Array Tmp} {assign body : Code} {Q : Exit → Act → World → Prop} {a : Act} {w w0 : World} {n : Nat} (h1 : 2 ≤ n) {g : Operand} {Bs : Nat} {l : List St} {v : Value}
    (hg : a.eval g = .func (.func 98) #[] #[.pointer (some ⟨Bs, 0, none⟩)]) (hps : ps.size = 2) (hv : w.cell? ⟨Bs, 0, none⟩ = some v) (hrow : RowS w0 v l) (hok : ∀ j (h : j < l.length), OkS (l[j]'h).x (l[j]'h).y)
    (hw : Below w0.heap.size w0 w) (I : List (Nat × St) → World → Prop) (hIk : ∀ s W W', w0.heap.size ≤ W.heap.size → I s W → Kc w0.heap.size W W' → I s W') (h0 : I [] w)
    (hab : ∃ a1 : (Nat × St) → Act, (∀ (l' : Nat) (x : Nat × St) (W : World) (K : Act → World → Prop), K (a1 x) W →
      assign.wpIn (Fence.wide.inRound l') (n - 1 - 1) Tryz.prog (Exit.then K (fun _ _ _ => False)) { tmps := (ps.zip #[.int .i64 (x.1 : Nat), Stv x.2]).foldl (fun t (p, v) => t.setIfInBounds p v) a.tmps, defers := [] } W) ∧
      (∀ (l' : Nat) (pre : List (Nat × St)) (x : Nat × St) (W : World), I pre W → pre.length < l.length → Below w0.heap.size w0 W → body.wpIn (Fence.wide.inRound l') (n - 1 - 1) Tryz.prog (hsPost w0.heap.size I (pre ++ [x]) W) (a1 x) W))
    (hdone : ∀ (D : Nat) (W : World), I (hsK l l.length) W → Below w0.heap.size w0 W → W.heap[D]? = some (.deferred (some [])) → w.heap.size ≤ D → Q .normal { a with defers := { target := .collected D, args := #[] } :: a.defers } W) :
    (Code.rangeFunc g ps assign body).wpIn Fence.wide n Tryz.prog Q a w := by
  obtain ⟨a1, hassign, hbody⟩ := hab
  have hwz := hw.size
  refine wpIn_rangeFunc ?_
  intro fn hfn
  obtain ⟨rec, hrec⟩ : ∃ rec : LoopState → Option Code → Loop, rec = fun st pe => { state := st, pending := pe, fn, tmps := a.tmps, params := ps, assign, body, defers := w.heap.size } := ⟨_, rfl⟩
  obtain ⟨W1, hW1⟩ : ∃ W1, (w.alloc (.deferred (some []))).alloc (.loop (rec .ready none)) = W1 := ⟨_, rfl⟩
  have hL1 : W1.heap[w.heap.size + 1]? = some (.loop (rec .ready none)) := by
    rw [← hW1]; have := World.alloc_heap_new (w.alloc (.deferred (some []))) (.loop (rec .ready none)); rwa [World.size_alloc] at this
  have hK1 : W1.heap[w.heap.size]? = some (.deferred (some [])) := by
    rw [← hW1]; exact (Below.heap_alloc _ _ _ (by simp)).trans (World.alloc_heap_new w _)
  have hI1 : I [] W1 := by rw [← hW1]; exact hIk _ _ _ (by simp; omega) (hIk _ _ _ hwz h0 (Kc.alloc _ _ (by omega))) (Kc.alloc _ _ (by simp; omega))
  have hB1 : Below w0.heap.size w0 W1 := by rw [← hW1]; exact (hw.alloc hwz _).alloc (by simp; omega) _
  refine ⟨w.heap.size + 1, [{ target := .collected w.heap.size, args := #[] }], W1, { target := .fn (.func 98) #[.pointer (some ⟨Bs, 0, none⟩)], args := #[.func (.yield (w.heap.size + 1)) #[] #[]] }, W1, 98,
    #[.func (.yield (w.heap.size + 1)) #[] #[], .pointer (some ⟨Bs, 0, none⟩)], W1, ?_, ?_, ?_, ?_, fun _ => by omega, ?_⟩
  · rw [← hW1, hrec]; exact run_enterLoop_outer _ _ _ _ _
  · simp only [resolve, hg]
    simp [go_sem]
  · intro f' _; exact trivial
  · simp [invoke, go_sem]
  · refine (hs_iter (n - 1) Bs (w.heap.size + 1) l v w0 hrow hok
      (fun pre W => I pre W ∧ W.heap[w.heap.size + 1]? = some (.loop (rec .ready none)) ∧ W.heap[w.heap.size]? = some (.deferred (some []))) W1 (by omega) (by rw [← hW1]; exact upa (upa hv _) _) hB1 ?_ ?_ ⟨hI1, hL1, hK1⟩).mono ?_
    · rintro s W W' hz ⟨hi, hl, hk⟩ hbl
      exact ⟨hIk _ _ _ hz hi (Kc.of_below hbl hz), (hbl.block _ (Array.getElem?_eq_some_iff.1 hl).1).trans hl, (hbl.block _ (Array.getElem?_eq_some_iff.1 hk).1).trans hk⟩
    · rintro pre x W ⟨hi, hl, hk⟩ hlen hBW
      have hlt : w.heap.size + 1 < W.heap.size := (Array.getElem?_eq_some_iff.1 hl).1
      have hy := run_yield (P := Tryz.prog) (args := #[.int .i64 (x.1 : Nat), Stv x.2]) hl (by rw [hrec]; simp [hps])
      rw [hrec] at hy
      refine ⟨fn, _, assign, body, hy, roundIn_of_wpIn hfn (hassign _ x W _ ⟨_, run_beginRound hl (by rw [hrec]), ?_⟩)⟩
      have hl2 : (W.putObj (w.heap.size + 1) (.loop { rec .ready none with state := .busy })).heap[w.heap.size + 1]? = some (.loop { rec .ready none with state := .busy }) := World.putObj_heap_same hlt
      have hk2 : (W.putObj (w.heap.size + 1) (.loop { rec .ready none with state := .busy })).heap[w.heap.size]? = some (.deferred (some [])) := (World.putObj_heap_other (by omega)).trans hk
      have hkc2 := Kc.putObj (n0 := w0.heap.size) (.loop { rec .ready none with state := .busy }) hl rfl (by omega)
      have hz2 : w0.heap.size ≤ (W.putObj (w.heap.size + 1) (.loop { rec .ready none with state := .busy })).heap.size := Nat.le_trans hBW.size hkc2.1.size
      refine wpIn_mono (hbody _ pre x _ (hIk _ _ _ hBW.size hi hkc2) hlen (hBW.trans hkc2.1)) ?_
      rintro e a3 W3 hp
      cases e with
      | normal =>
        obtain ⟨hk3, hc3, hi3⟩ := hp
        have hl3 := hk3.same _ _ hl2 rfl
        have he := run_endRound (P := Tryz.prog) none hl3
        rw [hrec] at he
        have hkc3 := Kc.putObj (n0 := w0.heap.size) (.loop { rec .ready none with state := .ready }) hl3 rfl (by omega)
        have hz3 : w0.heap.size ≤ W3.heap.size := Nat.le_trans hz2 hc3.size
        refine ⟨_, _, he, rfl, ⟨hIk _ _ _ hz3 hi3 (Kc.putObj _ hl3 rfl (by omega)), ?_, (World.putObj_heap_other (by omega)).trans (hk3.same _ _ hk2 rfl)⟩, ?_⟩
        · rw [hrec]; exact World.putObj_heap_same (Array.getElem?_eq_some_iff.1 hl3).1
        · exact (hkc2.1.trans hc3).trans (Kc.putObj (n0 := w0.heap.size) _ hl3 rfl (by omega)).1
      | ret => exact hp.elim
      | exit id => exact hp.elim
      | goto t => exact hp.elim
      | panic ch => exact hp.elim
      | outgrown => exact hp.elim
    · rintro e W2 ⟨⟨u, rfl⟩, ⟨hi, hl, hk⟩, hb2⟩
      have he := run_endLoop (P := Tryz.prog) hl (by rw [hrec]; simp)
      rw [hrec] at he
      exact ⟨none, _, he, hdone _ _ (hIk _ _ _ hb2.size hi (Kc.putObj _ hl rfl (by omega))) (hb2.trans (Kc.putObj (n0 := w0.heap.size) _ hl rfl (by omega)).1) ((World.putObj_heap_other (by omega)).trans hk) (Nat.le_refl _)⟩
end Go.Proofs.YtmhlialdbggmdaaGreatDoor
