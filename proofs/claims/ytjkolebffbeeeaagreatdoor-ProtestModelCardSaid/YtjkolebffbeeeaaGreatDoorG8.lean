import Derived.Test.YtjkolebffbeeeaaGreatDoorG7
import Derived.Maps.RangeWalk
/- A range over a map of the call's own. Over any program. -/
namespace Go.Proofs.YtjkolebffbeeeaaGreatDoor
open Go Go.RowKit Go.Proofs Go.Shelf

section
variable {P : Program} {α β : Type} [DecidableEq α] {kt e t : TypeId} {kv : α → Value} {ok : α → Prop} {ev : β → Value} {ed : β → DataW Unit} {z : β} {okE : β → Prop}
theorem entry_same {r b : Nat} {es : Array MapEntry} {clock since c0 : Nat} {seen : Array Nat} {w w' : World} {v : Value} (hr : w.heap[r]? = some (.mapIter (some b) since seen c0)) (hb : w.heap[b]? = some (.map es clock)) (hr' : w'.heap[r]? = w.heap[r]?) (hb' : w'.heap[b]? = w.heap[b]?)
  (h : (Instr.entry (.pointer (some ⟨r, 0, none⟩))).run P w = .ok v w) : (Instr.entry (.pointer (some ⟨r, 0, none⟩))).run P w' = .ok v w' := by
 have hr2 := hr'.trans hr
 have hb2 := hb'.trans hb
 cases h1 : seen.back? with
 | none => simp [Instr.entry, getObj, Sem.run, hr, Result.andThen, h1] at h
 | some s =>
  by_cases h2 : clock = c0
  ·cases h3 : es.find? (·.born == s) with
   | none => simp [Instr.entry, getObj, Sem.run, hr, hb, Result.andThen, h1, h2, h3] at h
   | some x =>
    simp [Instr.entry, getObj, Sem.run, hr, hb, Result.andThen, h1, h2, h3] at h
    simp [Instr.entry, getObj, Sem.run, hr2, hb2, Result.andThen, h1, h2, h3, h]
  ·simp [Instr.entry, getObj, Sem.run, hr, hb, Result.andThen, h1, h2] at h
/-- A map over which a range runs: S are the keys that were met, cnt are still to come; last is the one that was met last. -/
def rngK (P : Program) {α β : Type} [DecidableEq α] (kt e : TypeId) (kv : α → Value) (ok : α → Prop) (ev : β → Value) (ed : β → DataW Unit) (b r k cnt : Nat) (m : α → Option β) (S : List α) (last : Option (α × β)) : It where
 foot i := i = b ∨ i = r
 holds w := ∃ (n : Nat) (D : DataW Unit) (left : Lit → Bool), n ≤ k ∧ w.ranges P kt (plainElem P e) b r n D left cnt ∧ (∀ x kl, ok x → keyOf P kt (kv x) = some kl → Maps.has D kl = (m x).isSome ∧ (∀ u, D.atKey kl u = match m x with | some v => ed v | none => u) ∧ left kl = ((m x).isSome && decide (x ∉ S))) ∧
  ∀ x v, last = some (x, v) → (Instr.entry (.pointer (some ⟨r, 0, none⟩))).run P w = .ok (.tuple #[kv x, ev v]) w
 st w w' h h1 := by
  obtain ⟨n, D, left, h0, ⟨es, clock, since, seen, c0, q1, q2, q3, q4, q5, q6⟩, h2, h3⟩ := h1
  refine ⟨n, D, left, h0, ⟨es, clock, since, seen, c0, (h b (.inl rfl)).trans q1, q2, q3, q4, (h r (.inr rfl)).trans q5, q6⟩, h2, fun x v hx => entry_same q5 q1 (h r (.inr rfl)) (h b (.inl rfl)) (h3 x v hx)⟩
variable {n : Nat} {B : Bs} {Q : Exit → Act → World → Prop} {l : Sl} {H H' : List It} {o : Oper} {x y q : Operand}
theorem ow_range {d b m' : Nat} {f : α → Option β} {G : Nat → Nat → List It} (K : KeyL P kt kv ok) (ht : P.underlying t = some (.map kt e)) (ho : o.op = .range t x) (hd : o.dst = some d) (hn : Nat.ble n d = false) (hx : evl l x = some (.map (some b))) (hat : ∀ r c, At (mapK P kt e kv ok ed b m' f) (rngK P kt e kv ok ev ed b r m' c f [] none) H (G r c)) :
  OpW P n B (some (mapK P kt e kv ok ed b m' f)) l H o (T := Nat × Nat) (fun t => B.w.heap.size ≤ t.1) (fun t => (d, .pointer (some ⟨t.1, 0, none⟩)) :: l) (fun t => G t.1 t.2) :=
 OpW.of_run (T := Nat × Nat) hd hn (V := fun t => .pointer (some ⟨t.1, 0, none⟩)) (fun a w ha hw => by
  obtain ⟨n0, c, h0, D, h1, h2, h3⟩ := (hw.ok _ (hat 0 0).mem).1
  obtain ⟨w', r1, r2, r3, r4⟩ := h1.range K.law ht
  have hcg : Chg (mapK P kt e kv ok ed b m' f) w w' := ⟨r3.os, r3.tape, r3.output, r3.size, fun i hi _ => r3.block i hi (by simp)⟩
  refine ⟨(w.heap.size, Maps.size D), w', hw.size, by unfold execOp; rw [ho]; simp only [ha.ev hx, Sem.run_bind, r1, Result.andThen_ok, Sem.run_pure], hw.chg (hat w.heap.size (Maps.size D)) rfl rfl hcg ⟨n0, D, _, h0, r2, fun x kl hx' hk => ?_, fun _ _ h => by cases h⟩ (fun i hi => ?_), hcg⟩
  ·obtain ⟨q1, q2⟩ := h3 x kl hx' hk
   exact ⟨q1, q2, by simp [q1]⟩
  ·rcases hi with rfl | rfl
   ·exact ⟨.inl rfl, by rw [r4]; exact Nat.lt_succ_of_lt h1.lt⟩
   ·exact ⟨.inr (Nat.le_refl _), by rw [r4]; exact Nat.lt_succ_self _⟩)
def nxV (kv : α → Value) (ev : β → Value) : Option (α × β × Nat) → Value
 | none => .tuple #[.bool false]
 | some (x, v, _) => .tuple #[.bool true, kv x, ev v]
def nxP (ok : α → Prop) (f : α → Option β) (S : List α) (cnt : Nat) : Option (α × β × Nat) → Prop
 | none => ∀ x, ok x → (f x).isSome = true → x ∈ S
 | some (x, v, c') => ok x ∧ f x = some v ∧ x ∉ S ∧ c' < cnt
def nxI (P : Program) (kt e : TypeId) (kv : α → Value) (ok : α → Prop) (ev : β → Value) (ed : β → DataW Unit) (b r k cnt : Nat) (m : α → Option β) (S : List α) (last : Option (α × β)) : Option (α × β × Nat) → It
 | none => rngK P kt e kv ok ev ed b r k cnt m S last
 | some (x, v, c') => rngK P kt e kv ok ev ed b r k c' m (x :: S) (some (x, v))
theorem ow_next {d b r m' cnt : Nat} {f : α → Option β} {S : List α} {last : Option (α × β)} {G : Option (α × β × Nat) → List It} (K : KeyL P kt kv ok) (KI : ∀ key kl, keyOf P kt key = some kl → ∃ x, key = kv x ∧ ok x) (E : ElL P e ev ed z okE) (ho : o.op = .next x false) (hd : o.dst = some d) (hn : Nat.ble n d = false) (hx : evl l x = some (.pointer (some ⟨r, 0, none⟩)))
  (hat : ∀ u, At (rngK P kt e kv ok ev ed b r m' cnt f S last) (nxI P kt e kv ok ev ed b r m' cnt f S last u) H (G u)) :
  OpW P n B (some (rngK P kt e kv ok ev ed b r m' cnt f S last)) l H o (T := Option (α × β × Nat)) (nxP ok f S cnt) (fun u => (d, nxV kv ev u) :: l) G :=
 OpW.of_run (T := Option (α × β × Nat)) hd hn (V := nxV kv ev) (fun a w ha hw => by
  have hI := hw.ok _ (hat none).mem
  obtain ⟨n0, D, left, h0, h1, h2, h3⟩ := hI.1
  rcases h1.next K.law o.type with ⟨hc0, hl, hrun⟩ | ⟨key, v, kl, yy, w', cnt', hkey, hlk, hv, hat', hrun, hrg, hlt, hgr, hsz, hen⟩
  ·refine ⟨none, w, fun x hx' hs => ?_, by unfold execOp; rw [ho]; simp only [ha.ev hx, Sem.run_bind, hrun, Result.andThen_ok, Sem.run_pure]; rfl, ?_, ⟨rfl, rfl, rfl, Nat.le_refl _, fun _ _ _ => rfl⟩⟩
   ·obtain ⟨kl, hk⟩ := K.key x hx'
    have := (h2 x kl hx' hk).2.2
    rw [hl, hs] at this
    simpa using this
   ·exact hw.turn (hat none) (fun h => h) hI.1 (fun _ h => h)
  ·obtain ⟨x0, rfl, hx0⟩ := KI key kl hkey
   obtain ⟨g1, g2, g3⟩ := h2 x0 kl hx0 hkey
   rw [hlk] at g3
   have g4 := (Bool.and_eq_true_iff.1 g3.symm)
   obtain ⟨v0, hv0⟩ := Option.isSome_iff_exists.1 g4.1
   have hyy : yy.1 = ed v0 := by
    have e1 := hat' (.lit (.bool true))
    rw [g2, hv0] at e1
    exact e1.symm
   have hvv : v = ev v0 := E.inv v v0 yy.2 (by rw [hv, ← hyy])
   subst hvv
   have hcg : Chg (rngK P kt e kv ok ev ed b r m' cnt f S last) w w' := ⟨hgr.os, hgr.tape, hgr.output, hgr.size, fun i hi hni => hgr.block i hi (fun e' => hni (.inr (by injection e')))⟩
   refine ⟨some (x0, v0, cnt'), w', ⟨hx0, hv0, of_decide_eq_true g4.2, hlt⟩, by unfold execOp; rw [ho]; simp only [ha.ev hx, Sem.run_bind, hrun, Result.andThen_ok, Sem.run_pure]; rfl, hw.chg (hat (some (x0, v0, cnt'))) rfl rfl hcg ⟨n0, D, _, h0, hrg, fun x kl' hx' hk => ?_, fun x v h => ?_⟩ (fun i hi => ⟨.inl hi, by rw [hsz]; exact (hI.2 i hi).2⟩), hcg⟩
   ·obtain ⟨q1, q2, q3⟩ := h2 x kl' hx' hk
    refine ⟨q1, q2, ?_⟩
    have hiff : kl'.sameKey kl = decide (x = x0) := by
     rw [Bool.eq_iff_iff, decide_eq_true_eq, WideAt.sameKey_iff (K.law.key hkey)]
     constructor
     ·rintro rfl; exact K.inj _ _ (K.law.inj hk hkey)
     ·rintro rfl; rw [hk] at hkey; injection hkey
    show (left kl' && !kl'.sameKey kl) = _
    rw [q3, hiff]
    by_cases e1 : x = x0 <;> by_cases e2 : x ∈ S <;> simp [e1, e2]
   ·injection h with h; injection h with h1 h2; subst h1 h2; exact hen)
theorem rv_entry {b r m' cnt : Nat} {f : α → Option β} {S : List α} {k : α} {v : β} (ho : o.op = .entry x) (hx : evl l x = some (.pointer (some ⟨r, 0, none⟩))) (hm : rngK P kt e kv ok ev ed b r m' cnt f S (some (k, v)) ∈ H) : RV P n B l H o (.tuple #[kv k, ev v]) := fun a w ha hw => by
 obtain ⟨n0, D, left, h0, h1, h2, h3⟩ := (hw.ok _ hm).1
 unfold execOp; rw [ho]; simp only [ha.ev hx, Sem.run_bind, h3 k v rfl, Result.andThen_ok, Sem.run_pure]
/-- The range is over: the map again. -/
theorem J_rngEnd {c : Code} {b r m' cnt : Nat} {f : α → Option β} {S : List α} {last : Option (α × β)} (hat : At (rngK P kt e kv ok ev ed b r m' cnt f S last) (mapK P kt e kv ok ed b m' f) H H') (h : J P n B c Q l H') : J P n B c Q l H := fun a w h1 h2 => h a w h1 (h2.turn hat (fun h => h) (by
 obtain ⟨n0, D, left, q0, q1, q2, -⟩ := (h2.ok _ hat.mem).1
 exact ⟨n0, Maps.size D, q0, D, q1.owns, rfl, fun x kl hx hk => ⟨(q2 x kl hx hk).1, (q2 x kl hx hk).2.1⟩⟩) (fun _ h => .inl h))
end
end Go.Proofs.YtjkolebffbeeeaaGreatDoor
