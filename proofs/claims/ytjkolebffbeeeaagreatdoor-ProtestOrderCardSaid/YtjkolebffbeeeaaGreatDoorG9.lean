import Derived.Test.YtjkolebffbeeeaaGreatDoorG8
import Derived.RangeFuncIn
import Derived.RangeFuncRecord
import Derived.RangeFuncLeaves
import Derived.RangeFuncSeq
/- A range over a function whose iterator reads what the rounds write. Over any program. -/
namespace Go.Proofs.YtjkolebffbeeeaaGreatDoor
open Go Go.RowKit Go.Proofs Go.Shelf
attribute [local go_sem] Oper.semAt_some

def mark (D : Nat) : Deferred := { target := .collected D, args := #[] }
/-- The blocks of the loops that are done. -/
def defsB (Ds : List Nat) : It where
 foot b := b ∈ Ds
 holds w := Ds.Nodup ∧ ∀ D ∈ Ds, w.heap[D]? = some (.deferred (some []))
 st _ _ h h1 := ⟨h1.1, fun D hD => (h D hD).trans (h1.2 D hD)⟩
/-- The record of a loop that runs. -/
def loopB (lp : Nat) (L : Loop) (Ds : List Nat) : It where
 foot b := b = lp ∨ b ∈ Ds
 holds w := lp ∉ Ds ∧ Ds.Nodup ∧ w.heap[lp]? = some (.loop L) ∧ ∀ D ∈ Ds, w.heap[D]? = some (.deferred (some []))
 st _ _ h h1 := ⟨h1.1, h1.2.1, (h lp (.inl rfl)).trans h1.2.2.1, fun D hD => (h D (.inr hD)).trans (h1.2.2.2 D hD)⟩
section
variable {P : Program} {n : Nat} {B : Bs} {Q : Exit → Act → World → Prop} {l : Sl} {H H' : List It} {c : Code} {w w' : World}
theorem Wd.re (h : Wd B H w) (r : Option Nat) (d : List Deferred) : Wd ⟨B.w, B.m, r, d⟩ H w := ⟨h.os, h.tape, h.output, h.size, h.block, h.ok, h.sep⟩
theorem Wd.un {w0 : World} {m : Nat → Prop} {r r' : Option Nat} {d d' : List Deferred} (h : Wd ⟨w0, m, r, d⟩ H w) : Wd ⟨w0, m, r', d'⟩ H w := ⟨h.os, h.tape, h.output, h.size, h.block, h.ok, h.sep⟩
theorem J_defs (h : J P n B c Q l (defsB [] :: H)) : J P n B c Q l H := fun a w ha hw => h a w ha (hw.new (Below.refl _ _) ⟨List.nodup_nil, fun _ h => (by cases h)⟩ (fun _ h => (by cases h)))
theorem Chg.putObj {A : It} {b : Nat} {o' : Obj} (hA : A.foot b) : Chg A w (w.putObj b o') :=
 ⟨(grownBy_putObj' w b o').os, (grownBy_putObj' w b o').tape, (grownBy_putObj' w b o').output, (grownBy_putObj' w b o').size, fun _ _ hf => World.putObj_heap_other (fun e => hf (e ▸ hA))⟩
theorem Wd.loop {lp : Nat} {L L' : Loop} {Ds : List Nat} (h : Wd B H w) (hat : At (loopB lp L Ds) (loopB lp L' Ds) H H') : Wd B H' (w.putObj lp (.loop L')) := by
 have hh := (h.ok _ hat.mem).1
 have hlt : lp < w.heap.size := (Array.getElem?_eq_some_iff.1 hh.2.2.1).1
 have hc : Chg (loopB lp L Ds) w (w.putObj lp (.loop L')) := Chg.putObj (.inl rfl)
 refine h.chg hat rfl rfl hc ⟨hh.1, hh.2.1, World.putObj_heap_same hlt, fun D hD => (World.putObj_heap_other (fun (e : D = lp) => hh.1 (by rw [← e]; exact hD))).trans (hh.2.2.2 D hD)⟩ (fun b hb => ⟨.inl hb, ?_⟩)
 have := ((h.ok _ hat.mem).2 b hb).2
 exact Nat.lt_of_lt_of_le this hc.size
theorem J_setK {P : Program} {α : Type} [DecidableEq α] {kt b : Nat} {kv : α → Value} {ok : α → Prop} {S : List α} (hat : At (setB P kt kv ok b S) (mapK P kt 4 kv ok dB b S.length (setG S)) H H') (h : J P n B c Q l H') : J P n B c Q l H := fun a w h1 h2 => h a w h1 (h2.turn hat (fun h => h) (h2.ok _ hat.mem).1 (fun _ h => h))
theorem J_kSet {P : Program} {α : Type} [DecidableEq α] {kt b : Nat} {kv : α → Value} {ok : α → Prop} {S : List α} {x : α} (hat : At (mapK P kt 4 kv ok dB b (x :: S).length (upd (setG S) x true)) (setB P kt kv ok b (x :: S)) H H') (h : J P n B c Q l H') : J P n B c Q l H := fun a w h1 h2 => h a w h1 (h2.turn hat (fun h => h) (by have := (h2.ok _ hat.mem).1; rw [setG_upd] at this; exact this) (fun _ h => h))
/-- The contract of an iterator f with what it has captured: T the states, Y what it hands out. -/
def Itr (P : Program) {T Y : Type} (f : FuncId) (caps : Array Value) (B : Bs) (φ : T → Prop) (HH : T → It → List It) (Yk : T → Y → Prop) (V : Y → Value) (HG : T → Y → It → List It) (Rn : T → T → Prop) (fin : T → Prop) : Prop :=
 ∀ (lp : Nat) (X : It) (t0 : T) (W : World), φ t0 → Wd B (HH t0 X) W →
  (∀ t y W1, φ t → Yk t y → Wd B (HG t y X) W1 → ∀ m, YieldAt Fence.wide m P lp #[V y] W1 (fun e W2 => e = .returned (.bool true) ∧ ∃ t', Rn t t' ∧ φ t' ∧ Wd B (HH t' X) W2)) →
  Calls P f (#[.func (.yield lp) #[] #[]] ++ caps) W (fun e W' => (∃ v, e = .returned v) ∧ ∃ t, φ t ∧ fin t ∧ Wd B (HH t X) W')
set_option maxHeartbeats 2000000 in
theorem J_range {T Y : Type} {g : Operand} {p : Nat} {assign body : Code} {f : FuncId} {caps : Array Value} [hf : Cf P f] (φ : T → Prop) (HH : T → It → List It) (Yk : T → Y → Prop) (V : Y → Value) (HG : T → Y → It → List It) (Rn : T → T → Prop) (fin : T → Prop) {Ds : List Nat} (l1 : Y → Sl)
  (hit : Itr P f caps ⟨B.w, B.m, none, []⟩ φ HH Yk V HG Rn fin) (t0 : T) (h0 : φ t0)
  (has : ∀ lp t y X, φ t → Yk t y → J P n ⟨B.w, B.m, some lp, []⟩ assign (Exit.then (CutP n ⟨B.w, B.m, some lp, []⟩ (fun _ : Unit => True) (fun _ => l1 y) (fun _ => HG t y X)) (fun _ _ _ => False)) ((p, V y) :: l) (HG t y X))
  (hbd : ∀ lp t y X, φ t → Yk t y → J P n ⟨B.w, B.m, some lp, []⟩ body (Exit.then (CutP n ⟨B.w, B.m, some lp, []⟩ (fun t' => Rn t t' ∧ φ t') (fun _ => []) (fun t' => HH t' X)) (fun _ _ _ => False)) (l1 y) (HG t y X))
  (k : ∀ D t, φ t → fin t → JQ n ⟨B.w, B.m, none, (D :: Ds).map mark⟩ Q .normal l (HH t (defsB (D :: Ds))))
  (hr : B.r = none := by rfl) (hd : B.d = Ds.map mark := by rfl) (hg : evl l g = some (.func (.func f) #[] caps) := by rfl) (hp : Nat.ble n p = false := by rfl)
  (hH : Pk (HH t0 (defsB Ds)) H := by repeat constructor) (a1 : ∀ t A C, At A C (HH t A) (HH t C) := by intro t A C; repeat constructor) (a2 : ∀ t y A C, At A C (HG t y A) (HG t y C) := by intro t y A C; repeat constructor) :
  J P n B (.rangeFunc g #[p] assign body) Q l H := by
 intro a w ha hw m
 rw [hr]
 have hF := hf.h
 have hw0 : Wd ⟨B.w, B.m, none, []⟩ (HH t0 (defsB Ds)) w := (hw.pick hH).re _ _
 clear hw hH
 refine wpIn_rangeFunc ?_
 intro fn hfn
 obtain ⟨rec, hrec⟩ : ∃ rec : LoopState → Option Code → Loop, rec = fun st pe => { state := st, pending := pe, fn, tmps := a.tmps, params := #[p], assign, body, defers := w.heap.size } := ⟨_, rfl⟩
 obtain ⟨W1, hW1⟩ : ∃ W1, (w.alloc (.deferred (some []))).alloc (.loop (rec .ready none)) = W1 := ⟨_, rfl⟩
 have hL1 : W1.heap[w.heap.size + 1]? = some (.loop (rec .ready none)) := by
  rw [← hW1]; have := World.alloc_heap_new (w.alloc (.deferred (some []))) (.loop (rec .ready none)); rwa [World.size_alloc] at this
 have hK1 : W1.heap[w.heap.size]? = some (.deferred (some [])) := by
  rw [← hW1]; exact (Below.heap_alloc _ _ _ (by simp)).trans (World.alloc_heap_new w _)
 have hb1 : Below w.heap.size w W1 := by rw [← hW1]; exact ((Below.refl _ _).alloc (Nat.le_refl _) _).alloc (by simp) _
 have hz1 : W1.heap.size = w.heap.size + 2 := by rw [← hW1]; simp
 have hmem := (a1 t0 (defsB Ds) (defsB Ds)).mem
 have hD0 := hw0.ok _ hmem
 have hnew : w.heap.size ∉ Ds := fun h => Nat.lt_irrefl _ (hD0.2 _ h).2
 have hnew1 : w.heap.size + 1 ∉ Ds := fun h => by have := (hD0.2 _ h).2; omega
 have hw1 : Wd ⟨B.w, B.m, none, []⟩ (HH t0 (loopB (w.heap.size + 1) (rec .ready none) (w.heap.size :: Ds))) W1 := by
  refine hw0.chg (a1 t0 _ _) rfl rfl ⟨hb1.os, hb1.tape, hb1.output, hb1.size, fun b hb _ => hb1.block b hb⟩ ⟨by simp [hnew1], List.nodup_cons.2 ⟨hnew, hD0.1.1⟩, hL1, fun D hD => ?_⟩ (fun b hb => ?_)
  ·rcases List.mem_cons.1 hD with rfl | hD
   ·exact hK1
   ·exact (hb1.block D (hD0.2 D hD).2).trans (hD0.1.2 D hD)
  ·rcases hb with rfl | hb
   ·exact ⟨.inr (by omega), by omega⟩
   ·rcases List.mem_cons.1 hb with rfl | hb
    ·exact ⟨.inr (Nat.le_refl _), by omega⟩
    ·exact ⟨.inl hb, by have := (hD0.2 b hb).2; omega⟩
 refine ⟨w.heap.size + 1, [mark w.heap.size], W1, { target := .fn (.func f) caps, args := #[.func (.yield (w.heap.size + 1)) #[] #[]] }, W1, f,
  #[.func (.yield (w.heap.size + 1)) #[] #[]] ++ caps, W1, ?_, ?_, ?_, ?_, fun h => (by cases h), ?_⟩
 ·rw [← hW1, hrec]; exact run_enterLoop_outer _ _ _ _ _
 ·simp only [resolve, ha.evD hg]
  simp [go_sem]
 ·intro f' _; exact trivial
 ·simp [invoke, go_sem, hF]
 refine (callsIn_wide.2 (hit (w.heap.size + 1) (loopB (w.heap.size + 1) (rec .ready none) (w.heap.size :: Ds)) t0 W1 h0 hw1 ?_)).mono ?_
 ·intro t y W ht hy hwW m'
  have hX := (hwW.ok _ (a2 t y (loopB (w.heap.size + 1) (rec .ready none) (w.heap.size :: Ds)) (loopB (w.heap.size + 1) (rec .ready none) (w.heap.size :: Ds))).mem).1
  have hl := hX.2.2.1
  have hy1 := run_yield (P := P) (args := #[V y]) hl (by rw [hrec]; simp)
  rw [hrec] at hy1
  refine ⟨fn, _, assign, body, hy1, roundIn_of_wpIn trivial ?_⟩
  have hfr : Fr n ((p, V y) :: l) { tmps := a.tmps.setIfInBounds p (V y), defers := [] } := by
   have h := ha.put p (V y) hp
   exact ⟨h.size, rfl, h.get⟩
  have hA := has (w.heap.size + 1) t y _ ht hy _ W hfr hwW.un m'
  refine wpIn_mono (Q := NO _) (by simpa [Bs.df, wr, Fence.inRound] using hA) ?_
  intro e a2' w2 hq
  cases e with
  | normal =>
   obtain ⟨_, -, a0, rfl, hf0, hw2⟩ := hq
   have hX2 := (hw2.ok _ (a2 t y (loopB (w.heap.size + 1) (rec .ready none) (w.heap.size :: Ds)) (loopB (w.heap.size + 1) (rec .ready none) (w.heap.size :: Ds))).mem).1
   refine ⟨_, run_beginRound hX2.2.2.1 (by rw [hrec]), ?_⟩
   have hw3 := hw2.loop (L' := { rec .ready none with state := .busy }) (a2 t y _ _)
   refine wpIn_mono (hbd (w.heap.size + 1) t y _ ht hy a0 _ hf0 hw3 m') ?_
   intro e a3 w4 hq
   cases e with
   | normal =>
    obtain ⟨t', ⟨hR, hφ⟩, a4, rfl, -, hw5⟩ := hq
    have hX5 := (hw5.ok _ (a1 t' (loopB (w.heap.size + 1) { rec .ready none with state := .busy } (w.heap.size :: Ds)) (loopB (w.heap.size + 1) { rec .ready none with state := .busy } (w.heap.size :: Ds))).mem).1
    refine ⟨_, _, run_endRound none hX5.2.2.1, rfl, t', hR, hφ, ?_⟩
    have := hw5.loop (L' := rec .ready none) (a1 t' _ _)
    rw [hrec] at this ⊢
    exact this.un
   | _ => exact hq.elim
  | _ => exact hq.elim
 ·rintro e W2 ⟨⟨u, rfl⟩, t, hφ, hfin, hw2⟩
  have hX2 := (hw2.ok _ (a1 t (loopB (w.heap.size + 1) (rec .ready none) (w.heap.size :: Ds)) (loopB (w.heap.size + 1) (rec .ready none) (w.heap.size :: Ds))).mem).1
  refine ⟨none, _, (run_endLoop hX2.2.2.1 (by rw [hrec]; simp)).trans (by rw [hrec]), ?_⟩
  have hw3 := hw2.loop (L' := { rec .ready none with state := .exhausted }) (a1 t _ _)
  have hX3 := (hw3.ok _ (a1 t (loopB (w.heap.size + 1) { rec .ready none with state := .exhausted } (w.heap.size :: Ds)) (loopB (w.heap.size + 1) { rec .ready none with state := .exhausted } (w.heap.size :: Ds))).mem).1
  have hw4 := hw3.turn (a1 t _ (defsB (w.heap.size :: Ds))) (fun h => (by cases h)) ⟨hX3.2.1, hX3.2.2.2⟩ (fun b hb => .inr hb)
  have hk := k w.heap.size t hφ hfin a _ ha (by rw [hrec] at hw4; exact hw4.un)
  show Q .normal _ _
  have e : ({ B.df a with defers := [mark w.heap.size] ++ (B.df a).defers } : Act) = (⟨B.w, B.m, none, (w.heap.size :: Ds).map mark⟩ : Bs).df a := by
   simp [Bs.df, hd]
  rw [e]
  exact hk
/-! ### A function with such loops -/
theorem J_startM {f : FuncId} {fn : Func} {args : Array Value} {w : World} {R : Ending → World → Prop} (hr : B.r = none) (hd : B.d = []) {vs : List Value} {k : Nat} (hf : P.funcs[f]? = some fn) (hb : fn.body = some c) (ha : args = vs.toArray) (hn : fn.ntmps = n) (hk : vs.length + k = n) (hl : en 0 vs = l)
  (hH : Wd B H w) (h : J P n B c (bodyPostM Fence.wide 0 P fn R) l H) : Calls P f args w R := by
 subst ha hl
 refine (callsIn_wide (n := 0)).1 (callsIn_of_wp_marks hf hb trivial ?_ rfl)
 have e : fn.ntmps - vs.toArray.size = k := by simp; omega
 rw [e]
 have h1 := h { tmps := vs.toArray ++ Array.replicate k undef, defers := [] } w (by rw [← hk]; exact Fr.start vs k) hH
 unfold Wp at h1
 rw [hr] at h1
 have e2 : B.df { tmps := vs.toArray ++ Array.replicate k undef, defers := [] } = { tmps := vs.toArray ++ Array.replicate k undef, defers := [] } := by unfold Bs.df; rw [hd]
 rw [e2] at h1
 exact wpIn_mono (h1 0) (NO.imp (fun _ _ _ _ h => h))
theorem Wd.take {D : Nat} {Ds : List Nat} (h : Wd B H w) (hat : At (defsB (D :: Ds)) (defsB Ds) H H') : (Instr.takeDeferred D).run P w = .ok [] (w.putObj D (.deferred none)) ∧ Wd B H' (w.putObj D (.deferred none)) := by
 have hh := h.ok _ hat.mem
 have hD := hh.1.2 D (by simp)
 have hn := List.nodup_cons.1 hh.1.1
 refine ⟨run_takeDeferred hD, h.chg hat rfl rfl (Chg.putObj (by simp [defsB])) ⟨hn.2, fun C hC => (World.putObj_heap_other (fun (e : C = D) => hn.1 (by rw [← e]; exact hC))).trans (hh.1.2 C (by simp [hC]))⟩ (fun b hb => ⟨.inl (by simp only [defsB] at hb ⊢; simp [hb]), ?_⟩)⟩
 have := (hh.2 b (by simp only [defsB] at hb ⊢; simp [hb])).2
 exact Nat.lt_of_lt_of_le this (grownBy_putObj' w D _).size
theorem JR_marks {fn : Func} {R : Ending → World → Prop} {r : ResultVar} {v : Value} {k : Nat} (HX : It → List It) {Ds : List Nat} (hr : fn.results = #[r]) (h1 : ∀ A, RR P n B l (HX A) r v) (hR : ∀ w, Wd B (HX (defsB [])) w → R (.returned v) w) (hd : B.d = Ds.map mark := by rfl) (hH : Pk (HX (defsB Ds)) H := by repeat constructor) (hat : ∀ A C, At A C (HX A) (HX C) := by intro A C; repeat constructor) :
  JQ n B (bodyPostM Fence.wide k P fn R) .ret l H := by
 intro a w ha hw
 show LeavesInM Fence.wide k P fn a.tmps R B.d .returning w
 rw [hd]
 have hw' := hw.pick hH
 clear hw hH hd
 induction Ds generalizing w with
 | nil =>
  refine ⟨v, ?_, hR w hw'⟩
  have h1 := h1 _ a w ha hw'
  rw [results_rvS, hr]
  simp [h1]
 | cons D Ds ih =>
  obtain ⟨h2, h3⟩ := Wd.take (P := P) hw' (hat _ _)
  exact ⟨by simp, .inl ⟨D, _, rfl, h2, ih _ h3⟩⟩
theorem JR_panicM {fn : Func} {R : Ending → World → Prop} {ch : List PanicEntry} {k : Nat} (hR : ∀ w, Wd B H w → R (.panicked ch) w) (hB : B.d = [] := by rfl) : JQ n B (bodyPostM Fence.wide k P fn R) (.panic ch) l H := fun a w _ hw => by
 show LeavesInM Fence.wide k P fn a.tmps R B.d (.panicking ch) w
 rw [hB]; exact hR w hw
/-! ### A call of yield -/
def JLi (P : Program) (n : Nat) (B : Bs) (ops : Array Oper) (Q : Exit → Act → World → Prop) (rest : List Oper) (l : Sl) (H : List It) : Prop := ∀ a w, Fr n l a → Wd B H w → ∀ m, wpListIn Fence.wide m P ops (NO Q) rest (B.df a) w
variable {ops : Array Oper} {rest : List Oper} {o : Oper}
theorem J_regI {id : Nat} {ls : List Oper} (h : JLi P n B ls.toArray Q ls l H) (hr : B.r = none := by rfl) : J P n B (.region id ls.toArray false) Q l H := fun a w ha hw m => by
 rw [hr]; exact wpIn_region_lit (h a w ha hw m)
theorem iN (h : JQ n B Q .normal l H) : JLi P n B ops Q [] l H := fun a w ha hw _ => h a w ha hw
theorem iV {d : Nat} {v : Value} (hv : RV P n B l H o v) (k : JLi P n B ops Q rest ((d, v) :: l) H) (hnd : isDef o.op = false := by rfl) (hd : o.dst = some d := by rfl) (hW : WN ops n l o true := by exact wAny) (hn : Nat.ble n d = false := by rfl) : JLi P n B ops Q (o :: rest) l H := fun a w ha hw m =>
 wpListIn_step (fun K hK => by
  rw [if_pos (hW.D ha)]
  unfold Oper.wpIn
  refine ⟨fun _ _ => trivial, ?_⟩
  rw [Oper.semAt_plain _ _ _ (fun c hc => by rw [hc] at hnd; cases hnd), show (execOp (B.df a).eval o).run P w = _ from hv a w ha hw]
  show K ((B.df a).put o.dst v) w
  rw [hd]
  exact hK _ _ (by rw [Bs.df_put]; exact k _ _ (ha.put d v hn) hw m))
theorem iKF {d : Nat} {p : Prop} [Decidable p] (hp : ¬ p) (k : JLi P n B ops Q rest ((d, .bool false) :: l) H) : JLi P n B ops Q rest ((d, .bool (decide p)) :: l) H := fun a w ha hw m => k a w (Fr.known (decide_eq_false hp) ha) hw m
theorem iY {T : Type} {φ : T → Prop} {HH : T → List It} {ts : Array TypeId} {x y : Operand} {lp d : Nat} {v : Value} (hY : ∀ W, Wd B H W → ∀ m, YieldAt Fence.wide m P lp #[v] W (fun e W2 => e = .returned (.bool true) ∧ ∃ t', φ t' ∧ Wd B (HH t') W2))
  (k : ∀ t', φ t' → JLi P n B ops Q rest ((d, .bool true) :: l) (HH t')) (ho : o.op = .call { callee := .value x, args := #[y], argTypes := ts } := by rfl) (hx : evl l x = some (.func (.yield lp) #[] #[]) := by rfl) (hy : evl l y = some v := by rfl) (hd : o.dst = some d := by rfl) (hW : WN ops n l o true := by exact wAny) (hn : Nat.ble n d = false := by rfl) :
  JLi P n B ops Q (o :: rest) l H := fun a w ha hw m =>
 wpListIn_step (fun K hK => by
  rw [if_pos (hW.D ha)]
  obtain ⟨fn, tmps, assign, body, h1, h2⟩ := hY w hw (m - 1)
  have he : (execOp (B.df a).eval o).run P w = .ok (.round lp fn tmps assign body) w := by
   unfold execOp; rw [ho]
   simp only [resolve, ha.evD hx, List.map_toArray, List.map_cons, List.map_nil]
   simp [Deferred.ofValue, invoke, ha.evD hy, h1]
  unfold Oper.wpIn
  refine ⟨fun _ _ => trivial, ?_⟩
  rw [Oper.semAt_plain _ _ _ (fun c hc => by rw [ho] at hc; cases hc), he, Oper.uponIn_round]
  refine ⟨fun h => (by cases h), h2.mono ?_⟩
  rintro e W2 ⟨rfl, t', h3, h4⟩
  show K ((B.df a).put o.dst (.bool true)) W2
  rw [hd]
  exact hK _ _ (by rw [Bs.df_put]; exact k t' h3 _ _ (ha.put d _ hn) h4 m))
end
end Go.Proofs.YtjkolebffbeeeaaGreatDoor
