import Derived.Test.YtjkolebffbeeeaaGreatDoorG4
import Derived.WideKeyEntry
/- Maps of the call's own, with a bound on their entries; an entry that is laid first and written then. Over any program. -/
namespace Go.Proofs.YtjkolebffbeeeaaGreatDoor
open Go Go.RowKit Go.Proofs Go.Shelf Go.ChangeMaps

def mapK (P : Program) {α β : Type} (kt e : TypeId) (kv : α → Value) (ok : α → Prop) (ed : β → DataW Unit) (b k : Nat) (m : α → Option β) : It where
 foot x := x = b
 holds w := ∃ n c, n ≤ k ∧ MapF P kt e kv ok ed w b n c m
 st _ _ h h1 := by obtain ⟨n, c, h0, h1⟩ := h1; exact ⟨n, c, h0, h1.heap (h b rfl)⟩
section
variable {P : Program} {α β : Type} {kt e t : TypeId} {kv : α → Value} {ok : α → Prop} {ev : β → Value} {ed : β → DataW Unit} {z : β} {okE : β → Prop}
theorem mapK_lt {b k : Nat} {m : α → Option β} {w : World} (h : (mapK P kt e kv ok ed b k m).holds w) : b < w.heap.size := by obtain ⟨n, c, -, h⟩ := h; exact h.lt
theorem mapK_up {b k : Nat} {m : α → Option β} {w w' : World} (h : (mapK P kt e kv ok ed b k m).holds w) (hb : Below w.heap.size w w') : (mapK P kt e kv ok ed b k m).holds w' := by
 obtain ⟨n, c, h0, h1⟩ := h; exact ⟨n, c, h0, h1.up hb⟩
theorem mapK_le {b k k' : Nat} {m : α → Option β} {w : World} (h : (mapK P kt e kv ok ed b k m).holds w) (hk : k ≤ k') : (mapK P kt e kv ok ed b k' m).holds w := by
 obtain ⟨n, c, h0, h1⟩ := h; exact ⟨n, c, Nat.le_trans h0 hk, h1⟩
variable {n : Nat} {B : Bs} {Q : Exit → Act → World → Prop} {l : Sl} {H H' : List It} {ops : Array Oper} {rest : List Oper} {o : Oper} {x y q : Operand}
theorem ow_makeK {d : Nat} (ho : o.op = .makeMap t none) (hd : o.dst = some d) (hn : Nat.ble n d = false) (hm : ∀ w, (Instr.makeMap t none).run P w = .ok (.map (some w.heap.size)) (w.alloc (.map #[] 0))) :
  OpW P n B none l H o (fun b : Nat => B.w.heap.size ≤ b) (fun b => (d, .map (some b)) :: l) (fun b => mapK P kt e kv ok ed b 0 (fun _ => none) :: H) :=
 OpW.of_run hd hn (fun a w _ hw => by
  have hm' : (mapK P kt e kv ok ed w.heap.size 0 (fun _ => none)).holds (w.alloc (.map #[] 0)) := ⟨0, 0, Nat.le_refl _, MapF.made w⟩
  exact ⟨w.heap.size, w.alloc (.map #[] 0), hw.size, by unfold execOp; rw [ho]; simp only [Option.map_none, Sem.run_bind, hm, Result.andThen_ok, Sem.run_pure], hw.new ((Below.refl _ _).alloc (Nat.le_refl _) _) hm' (fun b e => by cases e; simp), (show Below _ _ _ from (Below.refl _ _).alloc (Nat.le_refl _) _)⟩)
theorem rv_lookK {b m' : Nat} {f : α → Option β} {u : Value} (K : KeyL P kt kv ok) (E : ElL P e ev ed z okE) (k : α) (ht : P.underlying t = some (.map kt e)) (ho : o.op = .lookup t x y false) (hx : evl l x = some (.map (some b))) (hy : evl l y = some u) (hm : mapK P kt e kv ok ed b m' f ∈ H) (hu : u = kv k) (hk : ok k) : RV P n B l H o (ev ((f k).getD z)) := fun a w ha hw => by
 obtain ⟨n, c, -, h⟩ := (hw.ok _ hm).1
 unfold execOp; rw [ho]; simp only [ha.ev hx, ha.ev hy, hu, Sem.run_bind, h.look K E ht hk, Result.andThen_ok, Sem.run_pure]
theorem rv_lookK2 {b m' : Nat} {f : α → Option β} {u : Value} {r : Option β} (K : KeyL P kt kv ok) (E : ElL P e ev ed z okE) (k : α) (ht : P.underlying t = some (.map kt e)) (ho : o.op = .lookup t x y true) (hx : evl l x = some (.map (some b))) (hy : evl l y = some u) (hm : mapK P kt e kv ok ed b m' f ∈ H) (hu : u = kv k) (hk : ok k) (hr : f k = r) : RV P n B l H o (.tuple #[ev (r.getD z), .bool r.isSome]) := fun a w ha hw => by
 subst hr
 obtain ⟨n, c, -, h⟩ := (hw.ok _ hm).1
 unfold execOp; rw [ho]; simp only [ha.ev hx, ha.ev hy, hu, Sem.run_bind, h.look2 K E ht hk, Result.andThen_ok, Sem.run_pure]
theorem mapK_old {b m' : Nat} {f : α → Option β} {w : World} (hw : Wd B H w) (hm : ¬ B.m b) (h : (mapK P kt e kv ok ed b m' f).holds B.w) : (mapK P kt e kv ok ed b m' f).holds w := (mapK P kt e kv ok ed b m' f).st B.w w (fun b' e' => by cases e'; exact hw.block _ (mapK_lt h) hm) h
theorem rv_lookKO {b m' : Nat} {f : α → Option β} {u : Value} (K : KeyL P kt kv ok) (E : ElL P e ev ed z okE) (k : α) (ht : P.underlying t = some (.map kt e)) (ho : o.op = .lookup t x y false) (hx : evl l x = some (.map (some b))) (hy : evl l y = some u) (hm : ¬ B.m b) (h0 : (mapK P kt e kv ok ed b m' f).holds B.w) (hu : u = kv k) (hk : ok k) : RV P n B l H o (ev ((f k).getD z)) := fun a w ha hw => by
 obtain ⟨n, c, -, h⟩ := mapK_old hw hm h0
 unfold execOp; rw [ho]; simp only [ha.ev hx, ha.ev hy, hu, Sem.run_bind, h.look K E ht hk, Result.andThen_ok, Sem.run_pure]
theorem rv_lookKO2 {b m' : Nat} {f : α → Option β} {u : Value} {r : Option β} (K : KeyL P kt kv ok) (E : ElL P e ev ed z okE) (k : α) (ht : P.underlying t = some (.map kt e)) (ho : o.op = .lookup t x y true) (hx : evl l x = some (.map (some b))) (hy : evl l y = some u) (hm : ¬ B.m b) (h0 : (mapK P kt e kv ok ed b m' f).holds B.w) (hu : u = kv k) (hk : ok k) (hr : f k = r) : RV P n B l H o (.tuple #[ev (r.getD z), .bool r.isSome]) := fun a w ha hw => by
 subst hr
 obtain ⟨n, c, -, h⟩ := mapK_old hw hm h0
 unfold execOp; rw [ho]; simp only [ha.ev hx, ha.ev hy, hu, Sem.run_bind, h.look2 K E ht hk, Result.andThen_ok, Sem.run_pure]
theorem ow_putK [DecidableEq α] {b m' m'' : Nat} {f : α → Option β} {u s : Value} (K : KeyL P kt kv ok) (E : ElL P e ev ed z okE) (k : α) (r : β) (ht : P.underlying t = some (.map kt e)) (ho : o.op = .mapUpdate t x y q) (hd : o.dst = none) (hx : evl l x = some (.map (some b))) (hy : evl l y = some u) (hq : evl l q = some s) (hu : u = kv k) (hs : s = ev r)
  (hat : At (mapK P kt e kv ok ed b m' f) (mapK P kt e kv ok ed b m'' (upd f k r)) H H') (hk : ok k) (hr : okE r) (hmn : m' < 1000000) (hm2 : m' + 1 ≤ m'') : OpW P n B (some (mapK P kt e kv ok ed b m' f)) l H o (fun _ : Unit => True) (fun _ => l) (fun _ => H') :=
 OpW.of_skip hd (fun a w ha hw => by
  obtain ⟨n, c, h0, h⟩ := (hw.ok _ hat.mem).1
  obtain ⟨w', h1, h2, h3⟩ := h.put K E ht (by omega) hk hr
  have hc : Chg (mapK P kt e kv ok ed b m' f) w w' := ⟨h3.os, h3.tape, h3.output, h3.size, fun k hk hnk => h3.block k hk (fun e => hnk (by injection e))⟩
  refine ⟨(), w', trivial, by unfold execOp; rw [ho]; simp only [ha.ev hx, ha.ev hy, ha.ev hq, hu, hs, Sem.run_bind, h1, Result.andThen_ok, Sem.run_pure], hw.chg hat rfl rfl hc ⟨_, _, by omega, h2⟩ (fun k hk => ⟨.inl hk, ?_⟩), hc⟩
  have : k = b := hk
  subst this
  exact h2.lt)
/-- An entry is laid; it is to be written. -/
def entK (P : Program) {α β : Type} [DecidableEq α] (kt e t : TypeId) (kv : α → Value) (ok : α → Prop) (ev : β → Value) (ed : β → DataW Unit) (okE : β → Prop) (b k : Nat) (m : α → Option β) (x : α) (st : Nat) : It where
 foot i := i = b
 holds w := b < w.heap.size ∧ ∃ es1 clock1, w.heap[b]? = some (.map es1 clock1) ∧ ∀ (w2 : World) (v : β), okE v → b < w2.heap.size → w2.heap[b]? = some (.map es1 clock1) → ∃ es' clock', (Instr.entryStore t (.map (some b)) (goInt st) (ev v)).run P w2 = .ok () (setBlock w2 b (.map es' clock')) ∧ (mapK P kt e kv ok ed b k (upd m x v)).holds (setBlock w2 b (.map es' clock'))
 st w w' h h1 := by
  obtain ⟨h0, es1, clock1, h1, h2⟩ := h1
  have e := (h b rfl).trans h1
  exact ⟨(Array.getElem?_eq_some_iff.1 e).1, es1, clock1, e, h2⟩
theorem setBlock_heap {w : World} {b : Nat} (o : Obj) (h : b < w.heap.size) : (setBlock w b o).heap[b]? = some o := by simp [setBlock, h]
theorem ow_entK [DecidableEq α] {G : Nat → List It} {d b m' m'' : Nat} {f : α → Option β} {u : Value} (KL : WideMaps.KeyLaw P kt) (K : KeyL P kt kv ok) (E : ElL P e ev ed z okE) (k : α) (ht : P.underlying t = some (.map kt e)) (ho : o.op = .mapEntry t x y) (hd : o.dst = some d) (hn : Nat.ble n d = false) (hx : evl l x = some (.map (some b))) (hy : evl l y = some u) (hu : u = kv k)
  (hat : ∀ s, At (mapK P kt e kv ok ed b m' f) (entK P kt e t kv ok ev ed okE b m'' f k s) H (G s)) (hk : ok k) (hmn : m' < 1000000) (hm2 : m' + 1 ≤ m'') : OpW P n B (some (mapK P kt e kv ok ed b m' f)) l H o (T := Value × Nat) (fun _ => True) (fun t => (d, .tuple #[t.1, goInt t.2]) :: l) (fun t => G t.2) :=
 OpW.of_run (T := Value × Nat) hd hn (V := fun t => .tuple #[t.1, goInt t.2]) (fun a w ha hw => by
  obtain ⟨n0, c, h0, h⟩ := (hw.ok _ (hat 0).mem).1
  have hmf := h
  obtain ⟨D, ⟨es, clock, hb, F, hs, hD⟩, hc0, hmap⟩ := h
  obtain ⟨kl, hkl⟩ := K.key k hk
  obtain ⟨v0, st, es1, clock1, r1, -, r3⟩ := Go.WideElems.entry_then_store KL ht E.zero hb F hkl
  have hlt : b < w.heap.size := hmf.lt
  have hcg : Chg (mapK P kt e kv ok ed b m' f) w (setBlock w b (.map es1 clock1)) := ⟨rfl, rfl, rfl, by simp [setBlock], fun i _ hi => heap_setBlock_other hb _ (fun e => hi e)⟩
  refine ⟨(v0, st), setBlock w b (.map es1 clock1), trivial, by unfold execOp; rw [ho]; simp only [ha.ev hx, ha.ev hy, hu, Sem.run_bind, r1, Result.andThen_ok, Sem.run_pure], hw.chg (hat st) rfl rfl hcg ?_ (fun i hi => ⟨.inl hi, ?_⟩), hcg⟩
  ·refine ⟨by simpa [setBlock] using hlt, es1, clock1, setBlock_heap _ hlt, fun w2 v hv hlt2 hw2 => ?_⟩
   obtain ⟨es', clock', q1, q2⟩ := r3 w2 (ev v) hw2
   obtain ⟨w', p1, p2, p3⟩ := hmf.put K E ht (by omega) hk hv
   rw [q2] at p1
   injection p1 with _ p1
   refine ⟨es', clock', q1, n0 + 1, _, by omega, p2.heap ?_⟩
   rw [← p1, setBlock_heap _ hlt, setBlock_heap _ hlt2]
  ·have : i = b := hi
   subst this
   simpa [setBlock] using hlt)
theorem ow_entStore [DecidableEq α] {b m' : Nat} {f : α → Option β} {k : α} {st : Nat} {s : Value} (v : β) (ho : o.op = .entryStore t x y q) (hd : o.dst = none) (hx : evl l x = some (.map (some b))) (hy : evl l y = some (goInt st)) (hq : evl l q = some s) (hs : s = ev v) (hv : okE v)
  (hat : At (entK P kt e t kv ok ev ed okE b m' f k st) (mapK P kt e kv ok ed b m' (upd f k v)) H H') : OpW P n B (some (entK P kt e t kv ok ev ed okE b m' f k st)) l H o (fun _ : Unit => True) (fun _ => l) (fun _ => H') :=
 OpW.of_skip hd (fun a w ha hw => by
  obtain ⟨hlt, es1, clock1, hb, h⟩ := (hw.ok _ hat.mem).1
  obtain ⟨es', clock', r1, r2⟩ := h w v hv hlt hb
  have hcg : Chg (entK P kt e t kv ok ev ed okE b m' f k st) w (setBlock w b (.map es' clock')) := ⟨rfl, rfl, rfl, by simp [setBlock], fun i _ hi => heap_setBlock_other hb _ (fun e => hi e)⟩
  refine ⟨(), setBlock w b (.map es' clock'), trivial, by unfold execOp; rw [ho]; simp only [ha.ev hx, ha.ev hy, ha.ev hq, hs, Sem.run_bind, r1, Result.andThen_ok, Sem.run_pure], hw.chg hat rfl rfl hcg r2 (fun i hi => ⟨.inl hi, ?_⟩), hcg⟩
  have : i = b := hi
  subst this
  simpa [setBlock] using hlt)
/-- A map's item with a wider bound. -/
theorem J_leK {b k k' : Nat} {m : α → Option β} {c : Code} (hat : At (mapK P kt e kv ok ed b k m) (mapK P kt e kv ok ed b k' m) H H') (hk : k ≤ k') (h : J P n B c Q l H') : J P n B c Q l H := fun a w h1 h2 => h a w h1 (h2.turn hat (fun h => h) (mapK_le (h2.ok _ hat.mem).1 hk) (fun _ h => h))
theorem JQ_leK {b k k' : Nat} {m : α → Option β} {ex : Exit} (hat : At (mapK P kt e kv ok ed b k m) (mapK P kt e kv ok ed b k' m) H H') (hk : k ≤ k') (h : JQ n B Q ex l H') : JQ n B Q ex l H := fun a w h1 h2 => h a w h1 (h2.turn hat (fun h => h) (mapK_le (h2.ok _ hat.mem).1 hk) (fun _ h => h))
end
end Go.Proofs.YtjkolebffbeeeaaGreatDoor
