/- A range over an iterator that keeps its state in a captured variable (fixed.decimals): the iterator and the statement. -/
import Derived.RangeFuncNested
import Derived.RangeFuncBound
import Derived.RangeFuncCalls
import Derived.RangeFuncLeaves
import Derived.Shelf.Abstract
import Derived.Shelf.RegionOpen
import Derived.WalkKit
import Derived.OwnWalkIn
import Derived.TacticsInMore
import Derived.LoopNIn
import Derived.LoopIn
import Derived.Lib.Hide
import Derived.RangeFuncKeeps
import Derived.Test.YthkhhjfldkebcaaGreatDoorProg
namespace Go.Proofs.YthkhhjfldkebcaaGreatDoor
open Go.RowKit Go.Proofs Go.Shelf
attribute [local go_sem] Oper.semAt_some

/-- The decimals of a part of 65536. -/
def fr : Nat → Nat → List Nat
  | 0, _ => []
  | k + 1, r => if r = 0 then [] else (10 * r / 65536) :: fr k (10 * r % 65536)
def frac (r : Nat) : List Nat := fr 16 r
theorem fr_more : ∀ (k r : Nat), k ≤ 16 → r < 65536 → 2 ^ (16 - k) ∣ r → fr k r = fr (k + 1) r
  | 0, r, _, hr, hd => by
    have : r = 0 := by rcases hd with ⟨m, rfl⟩; rcases m with _ | m <;> omega
    subst this; rfl
  | k + 1, r, hk, _, hd => by
    by_cases h : r = 0
    · subst h; rfl
    · have ih := fr_more k (10 * r % 65536) (by omega) (Nat.mod_lt _ (by decide)) (by
        have e : 2 ^ (16 - k) = 2 * 2 ^ (16 - (k + 1)) := by rw [show 16 - k = (16 - (k + 1)) + 1 by omega, Nat.pow_succ]; omega
        have h1 : 2 ^ (16 - k) ∣ 10 * r := by
          rw [e]; obtain ⟨m, hm⟩ := hd; exact ⟨5 * m, by rw [hm]; grind⟩
        have h2 : 2 ^ (16 - k) ∣ 65536 := by
          have := Nat.pow_dvd_pow 2 (show 16 - k ≤ 16 by omega)
          exact this
        exact (Nat.dvd_mod_iff h2).2 h1)
      show (if r = 0 then [] else _) = (if r = 0 then [] else _)
      rw [if_neg h, if_neg h, ih]
theorem fr_len : ∀ (k r : Nat), (fr k r).length ≤ k
  | 0, _ => Nat.le_refl _
  | k + 1, r => by
    show (if r = 0 then [] else _ :: fr k _ : List Nat).length ≤ _
    split
    · simp
    · have := fr_len k (10 * r % 65536); simp; omega
theorem frac_len (r : Nat) : (frac r).length ≤ 16 := fr_len 16 r
theorem fr_dig : ∀ (k r x : Nat), r < 65536 → x ∈ fr k r → x ≤ 9
  | 0, _, _, _, h => by cases h
  | k + 1, r, x, hr, h => by
    have h' : x ∈ (if r = 0 then [] else (10 * r / 65536) :: fr k (10 * r % 65536)) := h
    split at h'
    · cases h'
    · rcases List.mem_cons.1 h' with rfl | h2
      · omega
      · exact fr_dig k _ x (Nat.mod_lt _ (by decide)) h2
theorem frac_zero : frac 0 = [] := rfl
theorem frac_succ {r : Nat} (h : r ≠ 0) : frac r = (10 * r / 65536) :: frac (10 * r % 65536) := by
  show (if r = 0 then [] else _) = _
  rw [if_neg h, fr_more 15 (10 * r % 65536) (by omega) (Nat.mod_lt _ (by decide)) (by omega)]; rfl

/-- What is left of the iterator's captured variable. -/
def lft (c : Nat) (w : World) : Nat := match w.cell? ⟨c, 0, none⟩ with | some (.int _ r) => (frac r.toNat).length | _ => 0

set_option maxRecDepth 100000 in
set_option maxHeartbeats 2000000 in
theorem dec_iter (n c l r0 : Nat) (hr : r0 < 65536) (J : List Nat → World → Prop) (W : World) (hn : 1 ≤ n)
    (hJs : ∀ s W v, J s W → J s (W.setCell ⟨c, 0, none⟩ v))
    (hY : ∀ pre x W1, J pre W1 → pre.length < 16 → YieldAt Fence.wide (n - 1) Tryz.prog l #[.int .u8 ((48 + x : Nat) : Int)] W1 fun e W' => e = .returned (.bool true) ∧ J (pre ++ [x]) W' ∧ W'.heap[c]? = W1.heap[c]?)
    (hc : W.heap[c]? = some (.cells #[.int .u64 r0] 29 (0, 0))) (h0 : J [] W) :
    CallsIn Fence.wide n Tryz.prog 148 #[.func (.yield l) #[] #[], .pointer (some ⟨c, 0, none⟩)] W fun e W' => (∃ v, e = .returned v) ∧ J (frac r0) W' := by
  refine callsIn_of_wp Tryz.func148 rfl trivial ?_ rfl
  simp only [Tryz.ntmps148, List.size_toArray, List.length_cons, List.length_nil, Nat.reduceAdd, Nat.reduceSub, Array.replicate_succ, Array.replicate_zero, List.push_toArray, List.append_toArray, List.nil_append, List.cons_append]
  gi_wp2
  gi_loopw [] (fun wr => ∃ (pre : List Nat) (r : Nat), r < 65536 ∧ pre ++ frac r = frac r0 ∧ wr.heap[c]? = some (.cells #[.int .u64 r] 29 (0, 0)) ∧ J pre wr) (fun wr => lft c wr)
  case atStart => exact ⟨[], r0, hr, rfl, hc, h0⟩
  case round =>
    obtain ⟨pre, r, hr1, hp, hcr, hJ⟩ := hrel
    have k0 : wr.cell? ⟨c, 0, none⟩ = some (.int .u64 r) := by simp [World.cell?, hcr]
    have kf : wr.frozen? ⟨c, 0, none⟩ = false := by simp [World.frozen?, hcr]
    by_cases hz : r = 0
    · subst hz
      rw [frac_zero, List.append_nil] at hp
      subst hp
      gi_wp2
      go_end0
      exact ⟨⟨_, rfl⟩, hJ⟩
    · have hpos : (0 : Int) < (r : Int) := by omega
      obtain ⟨m, hm⟩ : ∃ m, 10 * r = m := ⟨_, rfl⟩
      obtain ⟨q, hq⟩ : ∃ q, m / 65536 = q := ⟨_, rfl⟩
      obtain ⟨s, hs⟩ : ∃ s, m % 65536 = s := ⟨_, rfl⟩
      have w1 : IntKind.u64.wrap ((r : Int) * 10) = (m : Int) := by rw [IntKind.wrap_u64]; omega
      have hF := frac_succ hz
      rw [hm, hq, hs] at hF
      rw [hF] at hp
      have hq9 : q ≤ 9 := by omega
      have hs1 : s < 65536 := by omega
      have hJ2 := hJs pre wr (.int .u64 m) hJ
      have hc2 : (wr.setCell ⟨c, 0, none⟩ (.int .u64 m)).heap[c]? = some (.cells #[.int .u64 m] 29 (0, 0)) := by simp [World.setCell, Array.getElem?_modify, hcr]
      have k2 : (wr.setCell ⟨c, 0, none⟩ (.int .u64 m)).cell? ⟨c, 0, none⟩ = some (.int .u64 m) := by simp [World.cell?, hc2]
      have hlen : pre.length < 16 := by have h1 := frac_len r0; rw [← hp] at h1; simp at h1; omega
      obtain ⟨f1, t1, a1, b1, hy1, hR1⟩ := hY pre q _ hJ2 hlen
      have HM := Lib.hid hm
      have HF := Lib.hid hF
      have HP := Lib.hid hp
      clear hm hF hp
      rw [show ((48 + q : Nat) : Int) = 48 + (m : Int) / 65536 by omega] at hy1
      gi_wp2
      refine hR1.mono ?_
      rintro e W3 ⟨rfl, hJ3, hk3⟩
      rw [hc2] at hk3
      have k3 : W3.cell? ⟨c, 0, none⟩ = some (.int .u64 m) := by simp [World.cell?, hk3]
      have f3 : W3.frozen? ⟨c, 0, none⟩ = false := by simp [World.frozen?, hk3]
      have w2 : (m : Int) % 65536 = (s : Int) := by omega
      gi_wp2
      have hc4 : (W3.setCell ⟨c, 0, none⟩ (.int .u64 s)).heap[c]? = some (.cells #[.int .u64 s] 29 (0, 0)) := by simp [World.setCell, Array.getElem?_modify, hk3]
      go_roundw
      case rel => exact ⟨pre ++ [q], s, hs1, by rw [← HP.out]; simp, hc4, hJs _ _ _ hJ3⟩
      case measure =>
        have e1 : lft c wr = (frac r).length := by unfold lft; rw [k0]; simp
        have e2 : lft c (W3.setCell ⟨c, 0, none⟩ (.int .u64 s)) = (frac s).length := by unfold lft; simp [World.cell?, hc4]
        rw [e1, e2, HF.out]; simp

/-- What the statement's own steps keep: what lies below n0, and all cells but those of the iterator's kind. -/
def Kc (n0 : Nat) (W W' : World) : Prop := Below n0 W W' ∧ ∀ (k : Nat) (cs : Array Value) (t : TypeId) (fz : Nat × Nat), W.heap[k]? = some (Obj.cells cs t fz) → t ≠ 29 → W'.heap[k]? = some (Obj.cells cs t fz)
theorem Kc.alloc {n0 : Nat} (W : World) (o : Obj) (h : n0 ≤ W.heap.size) : Kc n0 W (W.alloc o) :=
  ⟨(Below.refl _ _).alloc h _, fun k _ _ _ hk _ => (Below.heap_alloc W o k (Array.getElem?_eq_some_iff.1 hk).1).trans hk⟩
theorem Kc.putObj {n0 : Nat} {W : World} {l : Nat} {o : Obj} (o' : Obj) (hl : W.heap[l]? = some o) (ho : o.isCells = false) (h : n0 ≤ l) : Kc n0 W (W.putObj l o') :=
  ⟨(Below.refl n0 W).grown (grownBy_putObj' W l o') (by have := (Array.getElem?_eq_some_iff.1 hl).1; omega) (fun k e => by cases e; omega), fun k cs t fz hk _ => by
    by_cases e : k = l
    · subst e; rw [hl] at hk; cases hk; cases ho
    · exact (World.putObj_heap_other (fun h => e h)).trans hk⟩
theorem Kc.setCell {n0 : Nat} {W : World} {c : Nat} {v : Value} {fz : Nat × Nat} (u : Value) (hc : W.heap[c]? = some (.cells #[v] 29 fz)) (h : n0 ≤ c) : Kc n0 W (W.setCell ⟨c, 0, none⟩ u) :=
  ⟨(Below.refl n0 W).setCell (p := ⟨c, 0, none⟩) h _, fun k cs t fz' hk ht => by
    have e : k ≠ c := by rintro rfl; rw [hc] at hk; cases hk; exact ht rfl
    exact (Below.heap_setCell _ _ _ _ e).trans hk⟩

/-- How a round's body is left: off its end. -/
def decPost (c : Nat) (I : List Nat → World → Prop) (xs : List Nat) (W : World) : Exit → Act → World → Prop
  | .normal, _, W' => KeepsOthers W W' ∧ W'.heap[c]? = W.heap[c]? ∧ I xs W'
  | _, _, _ => False

set_option maxHeartbeats 1000000 in
theorem range_dec {ps : Array Tmp} {assign body : Code} {Q : Exit → Act → World → Prop} {a : Act} {w : World} {n n0 : Nat} (h1 : 2 ≤ n) {g : Operand} {c : Nat}
    (hg : a.eval g = .func (.func 148) #[] #[.pointer (some ⟨c, 0, none⟩)]) (hps : ps.size = 1) (r0 : Nat) (hr : r0 < 65536) (hn0 : n0 ≤ c)
    (hc : w.heap[c]? = some (.cells #[.int .u64 r0] 29 (0, 0))) (I : List Nat → World → Prop) (hIk : ∀ s W W', I s W → Kc n0 W W' → I s W') (h0 : I [] w)
    (hab : ∃ a1 : Nat → Act, (∀ (l : Nat) (x : Nat) (W : World) (K : Act → World → Prop), K (a1 x) W →
      assign.wpIn (Fence.wide.inRound l) (n - 1 - 1) Tryz.prog (Exit.then K (fun _ _ _ => False)) { tmps := (ps.zip #[.int .u8 ((48 + x : Nat) : Int)]).foldl (fun t (p, v) => t.setIfInBounds p v) a.tmps, defers := [] } W) ∧
      (∀ (l : Nat) (pre : List Nat) (x : Nat) (W : World), I pre W → pre.length < 16 → (∃ v, W.heap[c]? = some (.cells #[v] 29 (0, 0))) → body.wpIn (Fence.wide.inRound l) (n - 1 - 1) Tryz.prog (decPost c I (pre ++ [x]) W) (a1 x) W))
    (hdone : ∀ (D : Nat) (W : World), I (frac r0) W → W.heap[D]? = some (.deferred (some [])) → w.heap.size ≤ D → Q .normal { a with defers := { target := .collected D, args := #[] } :: a.defers } W) :
    (Code.rangeFunc g ps assign body).wpIn Fence.wide n Tryz.prog Q a w := by
  obtain ⟨a1, hassign, hbody⟩ := hab
  have hcl : c < w.heap.size := (Array.getElem?_eq_some_iff.1 hc).1
  refine wpIn_rangeFunc ?_
  intro fn hfn
  obtain ⟨rec, hrec⟩ : ∃ rec : LoopState → Option Code → Loop, rec = fun st pe => { state := st, pending := pe, fn, tmps := a.tmps, params := ps, assign, body, defers := w.heap.size } := ⟨_, rfl⟩
  obtain ⟨W1, hW1⟩ : ∃ W1, (w.alloc (.deferred (some []))).alloc (.loop (rec .ready none)) = W1 := ⟨_, rfl⟩
  have hL1 : W1.heap[w.heap.size + 1]? = some (.loop (rec .ready none)) := by
    rw [← hW1]; have := World.alloc_heap_new (w.alloc (.deferred (some []))) (.loop (rec .ready none)); rwa [World.size_alloc] at this
  have hK1 : W1.heap[w.heap.size]? = some (.deferred (some [])) := by
    rw [← hW1]; exact (Below.heap_alloc _ _ _ (by simp)).trans (World.alloc_heap_new w _)
  have hc1 : W1.heap[c]? = some (.cells #[.int .u64 r0] 29 (0, 0)) := by
    rw [← hW1]; exact (Below.heap_alloc _ _ _ (by simp; omega)).trans ((Below.heap_alloc _ _ _ hcl).trans hc)
  have hI1 : I [] W1 := by rw [← hW1]; exact hIk _ _ _ (hIk _ _ _ h0 (Kc.alloc _ _ (by omega))) (Kc.alloc _ _ (by simp; omega))
  refine ⟨w.heap.size + 1, [{ target := .collected w.heap.size, args := #[] }], W1, { target := .fn (.func 148) #[.pointer (some ⟨c, 0, none⟩)], args := #[.func (.yield (w.heap.size + 1)) #[] #[]] }, W1, 148,
    #[.func (.yield (w.heap.size + 1)) #[] #[], .pointer (some ⟨c, 0, none⟩)], W1, ?_, ?_, ?_, ?_, fun _ => by omega, ?_⟩
  · rw [← hW1, hrec]; exact run_enterLoop_outer _ _ _ _ _
  · simp only [resolve, hg]
    simp [go_sem]
  · intro f' _; exact trivial
  · simp [invoke, go_sem]
  · refine (dec_iter (n - 1) c (w.heap.size + 1) r0 hr
      (fun pre W => I pre W ∧ W.heap[w.heap.size + 1]? = some (.loop (rec .ready none)) ∧ W.heap[w.heap.size]? = some (.deferred (some [])) ∧ ∃ v, W.heap[c]? = some (.cells #[v] 29 (0, 0))) W1 (by omega) ?_ ?_ hc1 ⟨hI1, hL1, hK1, _, hc1⟩).mono ?_
    · rintro s W v ⟨hi, hl, hk, u, hu⟩
      have ko := KeepsOthers.setCell W ⟨c, 0, none⟩ v
      exact ⟨hIk _ _ _ hi (Kc.setCell v hu hn0), ko.same _ _ hl rfl, ko.same _ _ hk rfl, v, by simp [World.setCell, Array.getElem?_modify, hu]⟩
    · rintro pre x W ⟨hi, hl, hk, u, hu⟩ hlen
      have hlt : w.heap.size + 1 < W.heap.size := (Array.getElem?_eq_some_iff.1 hl).1
      have hy := run_yield (P := Tryz.prog) (args := #[.int .u8 ((48 + x : Nat) : Int)]) hl (by rw [hrec]; simp [hps])
      rw [hrec] at hy
      refine ⟨fn, _, assign, body, hy, roundIn_of_wpIn hfn (hassign _ x W _ ⟨_, run_beginRound hl (by rw [hrec]), ?_⟩)⟩
      have hl2 : (W.putObj (w.heap.size + 1) (.loop { rec .ready none with state := .busy })).heap[w.heap.size + 1]? = some (.loop { rec .ready none with state := .busy }) := World.putObj_heap_same hlt
      have hk2 : (W.putObj (w.heap.size + 1) (.loop { rec .ready none with state := .busy })).heap[w.heap.size]? = some (.deferred (some [])) := (World.putObj_heap_other (by omega)).trans hk
      have hu2 : (W.putObj (w.heap.size + 1) (.loop { rec .ready none with state := .busy })).heap[c]? = W.heap[c]? := World.putObj_heap_other (by omega)
      refine wpIn_mono (hbody _ pre x _ (hIk _ _ _ hi (Kc.putObj _ hl rfl (by omega))) hlen ⟨u, hu2.trans hu⟩) ?_
      rintro e a3 W3 hp
      cases e with
      | normal =>
        obtain ⟨hk3, hc3, hi3⟩ := hp
        have hl3 := hk3.same _ _ hl2 rfl
        have he := run_endRound (P := Tryz.prog) none hl3
        rw [hrec] at he
        refine ⟨_, _, he, rfl, ⟨hIk _ _ _ hi3 (Kc.putObj _ hl3 rfl (by omega)), ?_, (World.putObj_heap_other (by omega)).trans (hk3.same _ _ hk2 rfl), u, ?_⟩, ?_⟩
        · rw [hrec]; exact World.putObj_heap_same (Array.getElem?_eq_some_iff.1 hl3).1
        · exact (World.putObj_heap_other (by omega)).trans (hc3.trans (hu2.trans hu))
        · exact (World.putObj_heap_other (by omega)).trans (hc3.trans hu2)
      | ret => exact hp.elim
      | exit id => exact hp.elim
      | goto t => exact hp.elim
      | panic ch => exact hp.elim
      | outgrown => exact hp.elim
    · rintro e W2 ⟨⟨v, rfl⟩, hi, hl, hk, -⟩
      have he := run_endLoop (P := Tryz.prog) hl (by rw [hrec]; simp)
      rw [hrec] at he
      exact ⟨none, _, he, hdone _ _ (hIk _ _ _ hi (Kc.putObj _ hl rfl (by omega))) ((World.putObj_heap_other (by omega)).trans hk) (Nat.le_refl _)⟩
end Go.Proofs.YthkhhjfldkebcaaGreatDoor
