import Derived.BigQuiet
import Derived.Deep.Cut
import Derived.Deep.MidRow
import Derived.Deep.OwnRows
import Derived.Deep.QuietTactic
import Derived.DeepKeys4
import Derived.Laws.CopyRow
import Derived.Laws.MakeOwn
import Derived.Lib.Hide
import Derived.Lib.VarintMem
import Derived.LoopIn
import Derived.LoopNIn
import Derived.Maps.AppendAt
import Derived.Maps.Own
import Derived.Maps.OwnSet
import Derived.Maps.Views
import Derived.OrdersHeld
import Derived.OrdersIn
import Derived.OwnWalkIn
import Derived.RangeFuncBound
import Derived.RangeFuncBox
import Derived.RangeFuncCalls
import Derived.RangeFuncKeeps
import Derived.RangeFuncLeaves
import Derived.RangeFuncNested
import Derived.Shelf.Abstract
import Derived.Shelf.RegionOpen
import Derived.Sort.CutIn
import Derived.TacticsIn
import Derived.TacticsInMore
import Derived.WalkKit
import Derived.WalkLawsBesides
import Derived.WalkSpells
/- Base: cells of old blocks; slices of elements of k cells; a region that draws its order; maps; single operations. Over any program. -/
namespace Go.Proofs.YtjkolebffbeeeaaGreatDoor
open Go Go.RowKit Go.Proofs Go.Shelf
attribute [local go_sem] Oper.semAt_some

theorem lt_cell {w : World} {b o : Nat} {v : Value} (h : w.cell? ⟨b, o, none⟩ = some v) : b < w.heap.size := by
 rcases Nat.lt_or_ge b w.heap.size with h' | h'
 ·exact h'
 ·exfalso
  simp [World.cell?, Array.getElem?_eq_none h'] at h
/-- An old cell, behind a call, and behind a new variable. -/
theorem upc {w w' : World} {b i : Nat} {v : Value} (h : w.cell? ⟨b, i, none⟩ = some v) (hb : Below w.heap.size w w') : w'.cell? ⟨b, i, none⟩ = some v :=
 (hb.cell (p := ⟨b, i, none⟩) (lt_cell h)).trans h
theorem upa {w : World} {b i : Nat} {v : Value} (h : w.cell? ⟨b, i, none⟩ = some v) (o : Obj) : (w.alloc o).cell? ⟨b, i, none⟩ = some v := by
 rw [World.cell?_alloc_past _ _ _ (lt_cell h)]; exact h
theorem below_drewN {B : Nat} {a w : World} (h : Below B a w) (n : Nat) : Below B a (w.drewN n) := ⟨h.os, h.tape, h.output, h.size, h.block⟩
theorem cell_heap {w w' : World} {b o : Nat} (h : w'.heap[b]? = w.heap[b]?) : w'.cell? ⟨b, o, none⟩ = w.cell? ⟨b, o, none⟩ := by simp [World.cell?, h]
theorem frozen_heap {w w' : World} {b o : Nat} (h : w'.heap[b]? = w.heap[b]?) : w'.frozen? ⟨b, o, none⟩ = w.frozen? ⟨b, o, none⟩ := by simp [World.frozen?, h]
theorem grown_set (w : World) (a : Addr) (u : Value) : w.grownBy (w.setCell a u) (some a.block) :=
 ⟨rfl, rfl, rfl, by simp, fun k _ hk => Below.heap_setCell _ _ _ _ (fun e => hk (by rw [e]))⟩
theorem grown_of {w w' : World} (h : Below w.heap.size w w') (row : Option Nat) : w.grownBy w' row := ⟨h.os, h.tape, h.output, h.size, fun i hi _ => h.block i hi⟩
theorem grown_setCells (b : Nat) : ∀ (vs : List Value) (o : Nat) (w : World), w.grownBy (w.setCells b o vs) (some b)
 | [], _, _ => ⟨rfl, rfl, rfl, Nat.le_refl _, fun _ _ _ => rfl⟩
 | v :: r, o, w => (grown_set w ⟨b, o, none⟩ v).trans (grown_setCells b r (o + 1) _)
/-- A call that leaves the world as it lay. -/
abbrev Back (v : Value) (w : World) (e : Ending) (w' : World) : Prop := e = .returned v ∧ Below w.heap.size w w'

/-! Slices of elements of k cells. -/
section
variable {P : Program} {α : Type} {k : Nat} {enc : α → List Value}
def HoldL (k : Nat) (enc : α → List Value) (w : World) (b o : Nat) (l : List α) : Prop := ∀ j (h : j < l.length) i, i < k → w.cell? ⟨b, o + j * k + i, none⟩ = (enc (l[j]'h))[i]?
def Arr (k : Nat) (enc : α → List Value) (w : World) (v : Value) (l : List α) : Prop :=
 ∃ A cap, v = .slice A l.length cap ∧ l.length ≤ cap ∧ (l.length ≤ 9223372036854775807 ∧ cap ≤ maxLen) ∧ (l ≠ [] → ∃ b o, A = some ⟨b, o, none⟩ ∧ HoldL k enc w b o l)
/-- The elements have k cells. -/
structure Enc (k : Nat) (enc : α → List Value) : Prop where
 len : ∀ x, (enc x).length = k
 one : ∀ x, ∀ v ∈ enc x, v.oneCell' = true
theorem HoldL.up (E : Enc k enc) {w w' : World} {b o : Nat} {l : List α} (h : HoldL k enc w b o l) (hb : Below w.heap.size w w') : HoldL k enc w' b o l := fun j hj i hi => by
 have h1 := h j hj i hi
 have : i < (enc (l[j]'hj)).length := by rw [E.len]; exact hi
 rw [List.getElem?_eq_getElem this] at h1 ⊢
 exact upc h1 hb
theorem HoldL.kept (E : Enc k enc) {w w' : World} {b o : Nat} {l : List α} {row : Option Nat} (h : HoldL k enc w b o l) (hg : w.grownBy w' row) (hne : some b ≠ row) : HoldL k enc w' b o l := fun j hj i hi => by
 have h1 := h j hj i hi
 have : i < (enc (l[j]'hj)).length := by rw [E.len]; exact hi
 rw [List.getElem?_eq_getElem this] at h1 ⊢
 exact hg.cell h1 hne
theorem Arr.up (E : Enc k enc) {w w' : World} {v : Value} {l : List α} (h : Arr k enc w v l) (hb : Below w.heap.size w w') : Arr k enc w' v l := by
 obtain ⟨A, cap, h1, h2, h3, h4⟩ := h
 exact ⟨A, cap, h1, h2, h3, fun hn => by obtain ⟨b, o, h5, h6⟩ := h4 hn; exact ⟨b, o, h5, h6.up E hb⟩⟩
theorem Arr.form {w : World} {v : Value} {l : List α} (h : Arr k enc w v l) : ∃ A cap, v = .slice A l.length cap := by
 obtain ⟨A, cap, h, -⟩ := h; exact ⟨A, cap, h⟩
theorem Arr.nil (w : World) : Arr k enc w (.slice none 0 0) [] := ⟨none, 0, rfl, Nat.le_refl _, ⟨Nat.zero_le _, Nat.zero_le _⟩, fun h => absurd rfl h⟩
theorem Arr.keptA (E : Enc k enc) {W W' : World} {A : Option Addr} {n c : Nat} {row : Option Nat} {l : List α} (h : Arr k enc W (.slice A n c) l) (hg : W.grownBy W' row) (hk : ∀ g o, A = some ⟨g, o, none⟩ → some g ≠ row) : Arr k enc W' (.slice A n c) l := by
 obtain ⟨A', cap, h1, h2, h3, h4⟩ := h
 injection h1 with e1 e2 e3
 subst e1 e2 e3
 refine ⟨_, _, rfl, h2, h3, fun hn => ?_⟩
 obtain ⟨b, o, h5, h6⟩ := h4 hn
 exact ⟨b, o, h5, h6.kept E hg (hk b o h5)⟩
theorem flat_len (E : Enc k enc) (l : List α) : (l.flatMap enc).length = l.length * k := by
 induction l with
 | nil => simp
 | cons a l ih => rw [List.flatMap_cons, List.length_append, ih, E.len, List.length_cons, Nat.succ_mul]; omega
theorem flat_get (E : Enc k enc) : ∀ {L : List α} {j : Nat} (h : j < L.length) (i : Nat) (_ : i < k), (L.flatMap enc)[j * k + i]? = (enc (L[j]'h))[i]?
 | [], _, h, _, _ => by simp at h
 | a :: L, 0, _, i, hi => by
  rw [List.flatMap_cons, List.getElem?_append_left (by rw [E.len]; omega)]; simp
 | a :: L, j + 1, h, i, hi => by
  have hk : (j + 1) * k = j * k + k := Nat.succ_mul j k
  rw [List.flatMap_cons, List.getElem?_append_right (by rw [E.len]; omega)]
  have e : (j + 1) * k + i - (enc a).length = j * k + i := by rw [E.len]; omega
  rw [e, flat_get E (by simpa using h) i hi]; rfl
/-- A slice of the call's own. -/
abbrev Own (base ty k : Nat) (enc : α → List Value) (W : World) (v : Value) (L : List α) : Prop := W.ownsRow base ty k v L.length (L.flatMap enc)
theorem boxed_cells_up {W W' : World} {g : Nat} {o : Obj} (h : W.heap[g]? = some o) (hb : Below W.heap.size W W') : W'.heap[g]? = some o := (hb.block g (Array.getElem?_eq_some_iff.1 h).1).trans h
theorem row_up {base ty sz n : Nat} {v : Value} {xs : List Value} {W w2 : World} (h : W.ownsRow base ty sz v n xs) (hb : Below W.heap.size W w2) : w2.ownsRow base ty sz v n xs := by
 obtain ⟨q1, q2⟩ := h
 refine ⟨q1, q2.imp_right ?_⟩
 rintro ⟨g, cap, cur, q3, q4, q5, q6⟩
 exact ⟨g, cap, cur, q3, q4, boxed_cells_up q5 hb, q6⟩
theorem row_form {base ty sz n : Nat} {u : Value} {xs : List Value} {W : World} (h : W.ownsRow base ty sz u n xs) : ∃ A c, u = .slice A n c ∧ (∀ g o, A = some ⟨g, o, none⟩ → o = 0 ∧ base ≤ g ∧ g < W.heap.size) ∧ ∀ g, u.ownBlock = some g ↔ A = some ⟨g, 0, none⟩ := by
 rcases h.2 with ⟨rfl, h0⟩ | ⟨g, cap, cur, rfl, hb, hg, -⟩
 ·exact ⟨none, 0, by rw [h0], (fun _ _ h => by cases h), fun g => by simp [Value.ownBlock]⟩
 ·refine ⟨some ⟨g, 0, none⟩, cap, rfl, (fun g' o e => ?_), fun g' => by simp [Value.ownBlock]⟩
  injection e with e; injection e with e1 e2; subst e1 e2; exact ⟨rfl, hb, (Array.getElem?_eq_some_iff.1 hg).1⟩
theorem row_ge {base : Nat} {e : TypeId} {size n : Nat} {v : Value} {xs : List Value} {W : World} (h : W.ownsRow base e size v n xs) {j : Nat} (hj : v.ownBlock = some j) : base ≤ j ∧ ∃ o, W.heap[j]? = some o ∧ o.isCells = true := by
 rcases h.2 with ⟨rfl, _⟩ | ⟨g, cap, cur, rfl, hb, hg, _⟩
 ·simp [Value.ownBlock] at hj
 ·obtain rfl : g = j := by simpa [Value.ownBlock] using hj
  exact ⟨hb, _, hg, rfl⟩
theorem Arr.of_own (E : Enc k enc) {W : World} {base ty : Nat} {v : Value} {L : List α} (h : Own base ty k enc W v L) (hl : L.length ≤ 9223372036854775807) : Arr k enc W v L := by
 have hc := h
 rcases h.2 with ⟨rfl, h0⟩ | ⟨g, cap, cur, rfl, h2, h3, h4, h5, -⟩
 ·exact ⟨none, 0, by rw [h0], by omega, ⟨by omega, by unfold maxLen; omega⟩, fun hl => absurd (List.length_eq_zero_iff.1 h0) hl⟩
 ·refine ⟨_, _, rfl, h4, ⟨hl, h5⟩, fun _ => ⟨g, 0, rfl, fun j hj i hi => ?_⟩⟩
  rw [Nat.zero_add, ← flat_get E hj i hi]
  have h1 : (j + 1) * k ≤ L.length * k := Nat.mul_le_mul_right k (by omega)
  rw [Nat.succ_mul] at h1
  exact hc.cellAt _ (by omega)
theorem Arr.news (E : Enc k enc) (hk : 0 < k) {W : World} {b o cap n : Nat} {l : List α} (h : Arr k enc W (.slice (some ⟨b, o, none⟩) n cap) l) : ∀ j u, (l.flatMap enc)[j]? = some u → W.cell? ((⟨b, o, none⟩ : Addr).add j) = some u := by
 intro j u hu
 have hlen := flat_len E l
 have hj := (List.getElem?_eq_some_iff.1 hu).1
 obtain ⟨A, cap', he, h1, h2, h3⟩ := h
 injection he with e1 _ e2
 subst e1
 obtain ⟨b', o', hA, hc⟩ := h3 (by intro e; subst e; simp at hj)
 injection hA with hA
 injection hA with hb ho _
 subst hb ho
 have hq : j / k < l.length := by rw [Nat.div_lt_iff_lt_mul hk]; omega
 have hm : j % k < k := Nat.mod_lt _ hk
 have hjj : j / k * k + j % k = j := Nat.div_add_mod' j k
 have hg := flat_get E hq (j % k) hm
 rw [hjj, hu] at hg
 have := hc (j / k) hq (j % k) hm
 rw [Addr.add_mid, ← hjj, ← Nat.add_assoc, this, ← hg]
theorem flat_one (E : Enc k enc) {l : List α} {u : Value} (h : u ∈ l.flatMap enc) : u.oneCell' = true := by
 obtain ⟨s, -, hs⟩ := List.mem_flatMap.1 h
 exact E.one s u hs
theorem news_one (W : World) (ty : TypeId) (x : α) : ∀ j u, (enc x)[j]? = some u → (W.alloc (.cells (enc x).toArray ty)).cell? ((⟨W.heap.size, 0, none⟩ : Addr).add j) = some u := by
 intro j u hu
 have h := World.alloc_heap_new W (.cells (enc x).toArray ty)
 rw [Addr.add_mid]
 unfold World.cell?
 rw [h]
 simp [hu]
end
/-- The encodings. -/
def eI (x : Int) : List Value := [.int .i64 x]
def eP (x : Int × Int) : List Value := [.int .i64 x.1, .int .i64 x.2]
theorem EI : Enc 1 eI := ⟨fun _ => rfl, fun x v h => by simp [eI] at h; subst h; rfl⟩
theorem EP : Enc 2 eP := ⟨fun _ => rfl, fun x v h => by simp [eP] at h; rcases h with rfl | rfl <;> rfl⟩
theorem HoldL.int {w : World} {b o : Nat} {l : List Int} (h : HoldL 1 eI w b o l) (j : Nat) (hj : j < l.length) : w.cell? ⟨b, o + j, none⟩ = some (.int .i64 (l[j]'hj)) := by
 have := h j hj 0 (by omega)
 rw [Nat.mul_one] at this
 exact this
theorem HoldL.pair {w : World} {b o : Nat} {l : List (Int × Int)} (h : HoldL 2 eP w b o l) (j : Nat) (hj : j < l.length) : w.cell? ⟨b, o + j * 2, none⟩ = some (.int .i64 (l[j]'hj).1) ∧ w.cell? ⟨b, o + j * 2 + 1, none⟩ = some (.int .i64 (l[j]'hj).2) :=
 ⟨h j hj 0 (by omega), h j hj 1 (by omega)⟩
abbrev Pv (a b : Int) : Value := .agg #[.int .i64 a, .int .i64 b]
theorem run_append_op {P : Program} {o : Oper} {a : Act} {W W' : World} {s x : Operand} {t : TypeId} {v u v' : Value} (ho : o.op = .call { callee := .builtin .append, args := #[s, x], argTypes := #[t, t] }) (hs : a.eval s = v) (hx : a.eval x = u)
  (hrun : (Builtin.append_ #[t, t] o.type #[v, u]).run P W = .ok v' W') : (execOp a.eval o).run P W = .ok (.value v') W' := by
 unfold execOp
 simp only [ho, resolve, invoke, builtin, Sem.run_bind, Sem.run_pure, Result.andThen_ok, List.map_toArray, List.map_cons, List.map_nil, hs, hx, hrun]
section
variable {P : Program} {α : Type} {k : Nat} {enc : α → List Value}
/-- append: a slice of the call's own, and another one's elements. -/
theorem run_app (E : Enc k enc) (hk : 0 < k) {sl e ty : TypeId} {z : Value} {bytes : Nat} (ht : P.underlying sl = some (.slice e)) (hinf : (P.info? e).map (fun i => (i.zero, i.size, i.bytes)) = some (some z, k, bytes)) (hzs : z.cells.size = k) (hby : bytes ≤ 128)
  {w : World} {base : Nat} {v : Value} {L M : List α} (hown : Own base e k enc w v L) {a : Addr} {m c : Nat} (hm : m = M.length) (hnews : ∀ j u, (M.flatMap enc)[j]? = some u → w.cell? (a.add j) = some u) (hl : L.length + M.length ≤ 1000000) (hbase : base ≤ w.heap.size) :
  ∃ v' w', (Builtin.append_ #[sl, sl] ty #[v, .slice (some a) m c]).run P w = .ok v' w' ∧ Own base e k enc w' v' (L ++ M) ∧ w.grownBy w' v.ownBlock ∧ (v'.ownBlock = v.ownBlock ∨ v'.ownBlock = some w.heap.size) ∧ ∃ A c, v' = .slice A (L.length + M.length) c := by
 subst hm
 obtain ⟨i0, hi, hz0, hz1, hz2⟩ := info_parts hinf
 have hlm := flat_len E M
 obtain ⟨v', w', h1, h2, h3, h4, h5⟩ := run_append_own_at (P := P) w base sl ty e i0 z k bytes ht hi hz0 hz1 hz2 hzs hk v L.length (L.flatMap enc) hown a M.length c (M.flatMap enc) hlm hnews (fun u h => flat_one E h) (by unfold maxLen; omega)
  (Nat.le_trans (Nat.mul_le_mul (show L.length + M.length ≤ 1000000 from hl) hby) (by omega)) hbase
 have h2' : Own base e k enc w' v' (L ++ M) := by
  show World.ownsRow _ _ _ _ _ _ _
  rw [List.length_append, List.flatMap_append]; exact h2
 obtain ⟨A, c', h6, -, -⟩ := row_form h2
 exact ⟨v', w', h1, h2', h3, h5, A, c', h6⟩
end
theorem run_append0 {P : Program} {w : World} (sl e ty : TypeId) (A : Option Addr) (m c sz : Nat) (ht : P.underlying sl = some (.slice e)) (hs : ∀ w, (sizeOf e).run P w = .ok sz w) (hmc : m ≤ c) : (Builtin.append_ #[sl, sl] ty #[.slice A m c, .slice none 0 0]).run P w = .ok (.slice A m c) w := by
 cases A <;> simp [Builtin.append_, run_underlying ht, hs, Builtin.lenOf, Builtin.firstCells, storeCells, hmc, Sem.run_bind]
/-- A slice's parts, and what it holds. -/
structure Dv (α : Type) where
 A : Option Addr
 n : Nat
 c : Nat
 l : List α
abbrev Dv.v {α : Type} (p : Dv α) : Value := .slice p.A p.n p.c
def eD {α : Type} (p : Dv α) : List Value := [.slice p.A p.n p.c]
theorem ED {α : Type} : Enc 1 (eD (α := α)) := ⟨fun _ => rfl, fun x v h => by simp [eD] at h; subst h; rfl⟩
section
variable {P : Program} {ops : Array Oper} {Q : Exit → Act → World → Prop} {md : Region.Mode} {S : Nat → World → Prop}

/-- Number j does not wait for number i itself. -/
def frB (md : Region.Mode) (ops : Array Oper) (j i : Nat) : Bool := match ops[j]? with | some o => o.after.toList.all (fun e => !(Region.binds md e) || e.on != i) | none => true
theorem frB_of {j i : Nat} {o : Oper} (hj : ops[j]? = some o) (h : ∀ e ∈ o.after, Region.binds md e = true → e.on ≠ i) : frB md ops j i = true := by
 unfold frB; rw [hj]
 simp only [List.all_eq_true]
 intro e he'
 have he : e ∈ o.after := Array.mem_toList_iff.1 he'
 cases hb : Region.binds md e
 ·rfl
 ·simpa using h e he hb

def wpAnyP (P : Program) (md : Region.Mode) (ops : Array Oper) (Q : Exit → Act → World → Prop) (S : Nat → World → Prop) : Nat → Array Bool → Act → World → Prop
 | 0, listed, a, w => Region.ready md ops listed = [] ∧ Q .normal a w
 | fuel + 1, listed, a, w =>
  (Region.ready md ops listed = [] → Q .normal a w) ∧
  ∀ j ∈ Region.ready md ops listed, wpOp P ops Q j (fun a' w' => (∀ i, frB md ops j i = true → S i w → S i w') ∧ wpAnyP P md ops Q S fuel (listed.setIfInBounds j true) a' w') a w
theorem wpAny_of_P : ∀ (fuel : Nat) (listed : Array Bool) (a : Act) (w : World), wpAnyP P md ops Q S fuel listed a w → wpAny P md ops Q fuel listed a w
 | 0, _, _, _, h => h
 | fuel + 1, _, _, _, h => ⟨h.1, fun i hi => wpOp_mono (fun a' w' h' => wpAny_of_P fuel _ a' w' h'.2) (h.2 i hi)⟩

theorem wpAnyP_first {i : Nat} {oi : Oper} {v : Value} (hi : ops[i]? = some oi) (hsel : ∀ (j : Nat) (o : Oper) cs b, ops[j]? = some o → o.op ≠ .select cs b)
  (hQ : ∀ c a w, Q (.panic c) (a.put oi.dst v) w → Q (.panic c) a w) :
  ∀ (fuel : Nat) (listed : Array Bool) (a : Act) (w : World),
   (∀ j oj, ops[j]? = some oj → j ≠ i → listed.getD j true = false → (∀ e ∈ oj.after, Region.binds md e = true → e.on ≠ i) → oi.apart ops oj = true) →
   i ∈ Region.ready md ops listed → YieldsIf P ops (S i) oi v a → S i w →
   wpAnyP P md ops Q S fuel (listed.setIfInBounds i true) (a.put oi.dst v) w → wpAnyP P md ops Q S (fuel + 1) listed a w := by
 intro fuel
 induction fuel with
 | zero =>
  intro listed a w _ hr hy hS H
  refine ⟨fun h => (by rw [h] at hr; cases hr), fun j hj => ?_⟩
  by_cases hji : j = i
  ·subst hji; exact hy.wpOp hi hS ⟨fun _ _ h => h, H⟩
  ·have := ready_mono hj hji
   rw [H.1] at this
   cases this
 | succ fuel ih =>
  intro listed a w hfree hr hy hS H
  refine ⟨fun h => (by rw [h] at hr; cases hr), fun j hj => ?_⟩
  by_cases hji : j = i
  ·subst hji; exact hy.wpOp hi hS ⟨fun _ _ h => h, H⟩
  ·have h1 := H.2 j (ready_mono hj hji)
   obtain ⟨hjun, oj, hoj, hall⟩ := mem_ready.1 hj
   have hnot : ∀ e ∈ oj.after, Region.binds md e = true → e.on ≠ i := fun e he hb heq => by
    have h1 := hall e he hb
    have h0 := (mem_ready.1 hr).1
    rw [heq] at h1
    rcases Nat.lt_or_ge i listed.size with h' | h'
    ·simp [h'] at h0 h1; rw [h0] at h1; cases h1
    ·simp [Array.getElem?_eq_none h'] at h1
   have h2 := wpOp_putIf hoj (hfree j oj hoj hji hjun hnot) (fun cs b => hsel i oi cs b hi) (fun cs b => hsel j oj cs b hoj) hQ hy h1
   have hfree' : ∀ k ok, ops[k]? = some ok → k ≠ i → (listed.setIfInBounds j true).getD k true = false →
     (∀ e ∈ ok.after, Region.binds md e = true → e.on ≠ i) → oi.apart ops ok = true := fun k ok hk hki hun hno => by
    refine hfree k ok hk hki ?_ hno
    by_cases hjk : j = k
    ·subst hjk; exact hjun
    ·rw [getD_set_ne true hjk] at hun; exact hun
   refine wpOp_mono (fun a' w' h3 => ⟨h3.2.1, ih (listed.setIfInBounds j true) a' w' hfree' (ready_mono hr (Ne.symm hji)) h3.1 (h3.2.1 i (frB_of hoj hnot) hS) ?_⟩) h2
   rw [Array.setIfInBounds_comm _ _ hji]
   exact h3.2.2

/-- Take number i first. -/
theorem wpAnyP_take {i : Nat} {oi : Oper} {v : Value} {fuel : Nat} {listed : Array Bool} {a : Act} {w : World} (hi : ops[i]? = some oi)
  (hs : Region.noSelect ops = true) (hf : Region.free md ops listed i = true) (hr : (Region.ready md ops listed).contains i = true)
  (hQ : ∀ c a w, Q (.panic c) (a.put oi.dst v) w → Q (.panic c) a w) (hy : YieldsIf P ops (S i) oi v a) (hS : S i w)
  (h : wpAnyP P md ops Q S fuel (listed.setIfInBounds i true) (a.put oi.dst v) w) : wpAnyP P md ops Q S (fuel + 1) listed a w :=
 wpAnyP_first hi (Region.noSelect_spec hs) hQ fuel listed a w (Region.free_spec hi hf) (by simpa using hr) hy hS h
/-- Only number i may come up. -/
theorem wpAnyP_one {i : Nat} {fuel : Nat} {listed : Array Bool} {a : Act} {w : World} (hr : Region.ready md ops listed = [i])
  (h : wpOp P ops Q i (fun a' w' => (∀ k, frB md ops i k = true → S k w → S k w') ∧ wpAnyP P md ops Q S fuel (listed.setIfInBounds i true) a' w') a w) : wpAnyP P md ops Q S (fuel + 1) listed a w :=
 ⟨fun h0 => by (rw [hr] at h0; cases h0), fun j hj => by
  rw [hr, List.mem_singleton] at hj; subst hj; exact h⟩
theorem wpAnyP_done {listed : Array Bool} {a : Act} {w : World} (hr : Region.ready md ops listed = []) (h : Q .normal a w) : ∀ fuel, wpAnyP P md ops Q S fuel listed a w
 | 0 => ⟨hr, h⟩
 | _ + 1 => ⟨fun _ => h, by rw [hr]; simp⟩
/-- An operation that runs. -/
theorem wpOp_run {i : Nat} {o : Oper} {a : Act} {w w' : World} {v : Value} {K : Act → World → Prop} (hi : ops[i]? = some o) (hg : o.guard = none)
  (hrun : (execOp a.eval o).run P w = .ok (.value v) w') (h : K (a.put o.dst v) w') : wpOp P ops Q i K a w := by
 unfold wpOp
 have hw : Region.wanted o (yielded ops a.tmps) = true := by simp [Region.wanted, hg]
 simp only [hi, hw, if_true, Oper.wp, hrun, Oper.upon]
 exact .inl h
theorem wpOp_skip {i : Nat} {o : Oper} {a : Act} {w w' : World} {K : Act → World → Prop} (hi : ops[i]? = some o) (hg : o.guard = none)
  (hrun : (execOp a.eval o).run P w = .ok .skip w') (h : K (a.put o.dst undef) w') : wpOp P ops Q i K a w := by
 unfold wpOp
 have hw : Region.wanted o (yielded ops a.tmps) = true := by simp [Region.wanted, hg]
 simp only [hi, hw, if_true, Oper.wp, hrun, Oper.upon]
 exact .inl h
theorem yieldsIf_run {S : World → Prop} {o : Oper} {v : Value} {a : Act} (hg : o.guard = none) (h : ∀ w, S w → (execOp a.eval o).run P w = .ok (.value v) w) : YieldsIf P ops S o v a :=
 .inl ⟨by simp [Region.wanted, hg], h⟩

/-- No operation of the region defers. -/
def noDefer (ops : Array Oper) : Bool := ops.all fun o => match o.op with | .defer _ => false | _ => true
theorem wpOpIn_of {l n i : Nat} {K : Act → World → Prop} {a : Act} {w : World} (hd : noDefer ops = true) (hlet : ¬ LetsOut Q) (h : wpOp P ops Q i K a w) : wpOpIn (Fence.wide.inRound l) n P ops Q i K a w := by
 unfold wpOp at h
 unfold wpOpIn
 cases ho : ops[i]? with
 | none => simp only [ho] at h ⊢; exact h
 | some o =>
  simp only [ho] at h ⊢
  have hnd : ∀ c, o.op ≠ .defer c := by
   intro c hc
   unfold noDefer at hd
   have hm := Array.mem_of_getElem? ho
   have := (Array.all_eq_true'.1 hd) o hm
   rw [hc] at this
   cases this
  split
  ·rename_i hw
   rw [if_pos hw] at h
   rcases h with h | ⟨-, h⟩
   ·unfold Oper.wpIn
    refine ⟨fun _ _ => trivial, ?_⟩
    rw [Oper.semAt_plain _ _ _ hnd]
    unfold Oper.wp at h
    generalize (execOp a.eval o).run P w = r at h ⊢
    cases r with
    | ok x w' =>
     cases x <;> simp only [Oper.upon, Oper.uponIn] at h ⊢
     case value => exact h
     case skip => exact h
     case defer => exact h
     case enter => exact ⟨fun h => (by cases h), (callsIn_wide (n := n - 1)).2 h⟩
     case row => exact ⟨fun h => (by cases h), fun c cs _ => let ⟨v, w2, r, s⟩ := h c cs; ⟨v, w2, r, stepsIn_wide.2 s⟩⟩
    | halt x w' => cases x <;> simp only [Oper.upon, Oper.uponIn] at h ⊢ <;> exact h
   ·exact absurd h hlet
  ·rename_i hw
   rw [if_neg hw] at h
   exact ⟨fun _ _ => trivial, h⟩
theorem wpAnyIn_of {l n : Nat} (hd : noDefer ops = true) (hlet : ¬ LetsOut Q) : ∀ (fuel : Nat) (listed : Array Bool) (a : Act) (w : World), wpAny P md ops Q fuel listed a w → wpAnyIn (Fence.wide.inRound l) n P md ops Q fuel listed a w
 | 0, _, _, _, h => h
 | fuel + 1, _, _, _, h => ⟨h.1, fun i hi => wpOpIn_of hd hlet (wpOp_mono (fun a' w' h' => wpAnyIn_of hd hlet fuel _ a' w' h') (h.2 i hi))⟩
theorem wpIn_region_P {l n id : Nat} {a : Act} {w : World} (S : Nat → World → Prop) (hm : P.follows .mixedOrders = true) (hd : noDefer ops = true) (hlet : ¬ LetsOut Q)
  (h : wpAnyP P .any ops Q S ops.size (Array.replicate ops.size false) a w.drew) : (Code.region id ops true).wpIn (Fence.wide.inRound l) n P Q a w :=
 wpIn_region_any hm (wpAnyIn_of hd hlet _ _ _ _ (wpAny_of_P _ _ _ _ h))
theorem wpOpW_of {n i : Nat} {K : Act → World → Prop} {a : Act} {w : World} (hd : noDefer ops = true) (hlet : ¬ LetsOut Q) (h : wpOp P ops Q i K a w) : wpOpIn Fence.wide n P ops Q i K a w := by
 unfold wpOp at h
 unfold wpOpIn
 cases ho : ops[i]? with
 | none => simp only [ho] at h ⊢; exact h
 | some o =>
  simp only [ho] at h ⊢
  have hnd : ∀ c, o.op ≠ .defer c := by
   intro c hc
   unfold noDefer at hd
   have hm := Array.mem_of_getElem? ho
   have := (Array.all_eq_true'.1 hd) o hm
   rw [hc] at this
   cases this
  split
  ·rename_i hw
   rw [if_pos hw] at h
   rcases h with h | ⟨-, h⟩
   ·unfold Oper.wpIn
    refine ⟨fun _ _ => trivial, ?_⟩
    rw [Oper.semAt_plain _ _ _ hnd]
    unfold Oper.wp at h
    generalize (execOp a.eval o).run P w = r at h ⊢
    cases r with
    | ok x w' =>
     cases x <;> simp only [Oper.upon, Oper.uponIn] at h ⊢
     case value => exact h
     case skip => exact h
     case defer => exact h
     case enter => exact ⟨fun h => (by cases h), (callsIn_wide (n := n - 1)).2 h⟩
     case row => exact ⟨fun h => (by cases h), fun c cs _ => let ⟨v, w2, r, s⟩ := h c cs; ⟨v, w2, r, stepsIn_wide.2 s⟩⟩
    | halt x w' => cases x <;> simp only [Oper.upon, Oper.uponIn] at h ⊢ <;> exact h
   ·exact absurd h hlet
  ·rename_i hw
   rw [if_neg hw] at h
   exact ⟨fun _ _ => trivial, h⟩
theorem wpAnyW_of {n : Nat} (hd : noDefer ops = true) (hlet : ¬ LetsOut Q) : ∀ (fuel : Nat) (listed : Array Bool) (a : Act) (w : World), wpAny P md ops Q fuel listed a w → wpAnyIn Fence.wide n P md ops Q fuel listed a w
 | 0, _, _, _, h => h
 | fuel + 1, _, _, _, h => ⟨h.1, fun i hi => wpOpW_of hd hlet (wpOp_mono (fun a' w' h' => wpAnyW_of hd hlet fuel _ a' w' h') (h.2 i hi))⟩
theorem wpW_region_P {n id : Nat} {a : Act} {w : World} (S : Nat → World → Prop) (hm : P.follows .mixedOrders = true) (hd : noDefer ops = true) (hlet : ¬ LetsOut Q)
  (h : wpAnyP P .any ops Q S ops.size (Array.replicate ops.size false) a w.drew) : (Code.region id ops true).wpIn Fence.wide n P Q a w :=
 wpIn_region_any hm (wpAnyW_of hd hlet _ _ _ _ (wpAny_of_P _ _ _ _ h))
end
section
variable {P : Program} {ops : Array Oper} {Q : Exit → Act → World → Prop} {md : Region.Mode} {S : Nat → World → Prop}
theorem wp_region_P {id : Nat} {a : Act} {w : World} (S : Nat → World → Prop) (hm : P.follows .mixedOrders = true)
  (h : wpAnyP P .any ops Q S ops.size (Array.replicate ops.size false) a w.drew) : (Code.region id ops true).wp P Q a w :=
 wp_region_any hm (wpAny_of_P _ _ _ _ h)
/-- An operation that calls. -/
theorem wpOp_call {i : Nat} {o : Oper} {a : Act} {w : World} {f : FuncId} {args : Array Value} {K : Act → World → Prop} (hi : ops[i]? = some o) (hg : o.guard = none)
  (hrun : (execOp a.eval o).run P w = .ok (.enter f args) w) (h : Calls P f args w fun e w' => ∃ v, e = .returned v ∧ K (a.put o.dst v) w') : wpOp P ops Q i K a w := by
 unfold wpOp
 have hw : Region.wanted o (yielded ops a.tmps) = true := by simp [Region.wanted, hg]
 simp only [hi, hw, if_true, Oper.wp, hrun, Oper.upon]
 exact .inl (h.mono fun e w' ⟨v, he, hk⟩ => by subst he; exact hk)
/-- Two of them may come up. -/
theorem wpAnyP_two {i j : Nat} {fuel : Nat} {listed : Array Bool} {a : Act} {w : World} (hr : Region.ready md ops listed = [i, j])
  (h1 : wpOp P ops Q i (fun a' w' => (∀ k, frB md ops i k = true → S k w → S k w') ∧ wpAnyP P md ops Q S fuel (listed.setIfInBounds i true) a' w') a w)
  (h2 : wpOp P ops Q j (fun a' w' => (∀ k, frB md ops j k = true → S k w → S k w') ∧ wpAnyP P md ops Q S fuel (listed.setIfInBounds j true) a' w') a w) : wpAnyP P md ops Q S (fuel + 1) listed a w :=
 ⟨fun h0 => by (rw [hr] at h0; cases h0), fun k hk => by
  rw [hr] at hk
  simp only [List.mem_cons, List.not_mem_nil, or_false] at hk
  rcases hk with rfl | rfl
  ·exact h1
  ·exact h2⟩
end

section
variable {P : Program} {ops : Array Oper} {Q : Exit → Act → World → Prop} {md : Region.Mode} {S : Nat → World → Prop}
theorem wpOp_callG {i : Nat} {o : Oper} {a : Act} {w : World} {f : FuncId} {args : Array Value} {K : Act → World → Prop} (hi : ops[i]? = some o) (hw : Region.wanted o (yielded ops a.tmps) = true)
  (hrun : (execOp a.eval o).run P w = .ok (.enter f args) w) (h : Calls P f args w fun e w' => ∃ v, e = .returned v ∧ K (a.put o.dst v) w') : wpOp P ops Q i K a w := by
 unfold wpOp
 simp only [hi, hw, if_true, Oper.wp, hrun, Oper.upon]
 exact .inl (h.mono fun e w' ⟨v, he, hk⟩ => by subst he; exact hk)
theorem wpOp_runG {i : Nat} {o : Oper} {a : Act} {w w' : World} {v : Value} {K : Act → World → Prop} (hi : ops[i]? = some o) (hw : Region.wanted o (yielded ops a.tmps) = true)
  (hrun : (execOp a.eval o).run P w = .ok (.value v) w') (h : K (a.put o.dst v) w') : wpOp P ops Q i K a w := by
 unfold wpOp
 simp only [hi, hw, if_true, Oper.wp, hrun, Oper.upon]
 exact .inl h
theorem yieldsIf_runG {S : World → Prop} {o : Oper} {v : Value} {a : Act} (hw : Region.wanted o (yielded ops a.tmps) = true) (h : ∀ w, S w → (execOp a.eval o).run P w = .ok (.value v) w) : YieldsIf P ops S o v a :=
 .inl ⟨hw, h⟩
end

section
variable {P : Program} {ops : Array Oper} {Q : Exit → Act → World → Prop} {md : Region.Mode} {S : Nat → World → Prop}
/-- Three of them may come up. -/
theorem wpAnyP_three {i j k : Nat} {fuel : Nat} {listed : Array Bool} {a : Act} {w : World} (hr : Region.ready md ops listed = [i, j, k])
  (h1 : wpOp P ops Q i (fun a' w' => (∀ k, frB md ops i k = true → S k w → S k w') ∧ wpAnyP P md ops Q S fuel (listed.setIfInBounds i true) a' w') a w)
  (h2 : wpOp P ops Q j (fun a' w' => (∀ k, frB md ops j k = true → S k w → S k w') ∧ wpAnyP P md ops Q S fuel (listed.setIfInBounds j true) a' w') a w)
  (h3 : wpOp P ops Q k (fun a' w' => (∀ m, frB md ops k m = true → S m w → S m w') ∧ wpAnyP P md ops Q S fuel (listed.setIfInBounds k true) a' w') a w) : wpAnyP P md ops Q S (fuel + 1) listed a w :=
 ⟨fun h0 => by (rw [hr] at h0; cases h0), fun m hm => by
  rw [hr] at hm
  simp only [List.mem_cons, List.not_mem_nil, or_false] at hm
  rcases hm with rfl | rfl | rfl
  ·exact h1
  ·exact h2
  ·exact h3⟩
/-- An operation that never ends the region: its other ends may be any. -/
theorem wpOp_ends {Q' : Exit → Act → World → Prop} (hq : ∀ e a w, Q' e a w → Q e a w) {i : Nat} {K : Act → World → Prop} {a : Act} {w : World} (h : wpOp P ops Q' i K a w) : wpOp P ops Q i K a w := by
 unfold wpOp at h ⊢
 cases ho : ops[i]? with
 | none => simp only [ho] at h ⊢; exact h
 | some o =>
  simp only [ho] at h ⊢
  split
  ·rename_i hw
   rw [if_pos hw] at h
   have hl : LetsOut Q' → LetsOut Q := fun ⟨a, w, h⟩ => ⟨a, w, hq _ _ _ h⟩
   refine h.imp (fun h => ?_) (fun h => ⟨h.1, hl h.2⟩)
   unfold Oper.wp at h ⊢
   generalize (execOp a.eval o).run P w = r at h ⊢
   cases r with
   | ok x w' =>
    cases x <;> simp only [Oper.upon] at h ⊢
    case value => exact h
    case skip => exact h
    case defer => exact h
    case enter =>
     refine h.mono ?_
     intro e w'' h
     cases e with
     | returned v => exact h
     | panicked c => exact hq _ _ _ h
     | outgrown => exact hl h
    case row => exact h
   | halt x w' => cases x <;> simp only [Oper.upon] at h ⊢ <;> first | exact hq _ _ _ h | exact h
  ·rename_i hw
   rw [if_neg hw] at h
   exact h
theorem wpAnyP_ends {Q' : Exit → Act → World → Prop} (hq : ∀ e a w, Q' e a w → Q e a w) : ∀ (fuel : Nat) (listed : Array Bool) (a : Act) (w : World), wpAnyP P md ops Q' S fuel listed a w → wpAnyP P md ops Q S fuel listed a w
 | 0, _, _, _, h => ⟨h.1, hq _ _ _ h.2⟩
 | fuel + 1, _, _, _, h => ⟨fun hr => hq _ _ _ (h.1 hr), fun j hj => wpOp_ends hq (wpOp_mono (fun a' w' h' => ⟨h'.1, wpAnyP_ends hq fuel _ a' w' h'.2⟩) (h.2 j hj))⟩
/-- A cut behind a region: it ends normally, with this frame (of three values), and what is known. -/
def CutQ {T : Type} (F : T → Act) (K : T → World → Prop) (e : Exit) (a : Act) (w : World) : Prop := e = .normal ∧ ∃ t, a = F t ∧ K t w
theorem wpAnyP_cut {T : Type} {fuel : Nat} {listed : Array Bool} {a : Act} {w : World} (F : Act → T → Act) (K : T → World → Prop)
  (h1 : wpAnyP P md ops (CutQ (F a) K) S fuel listed a w) (h2 : ∀ t w', K t w' → Q .normal (F a t) w') : wpAnyP P md ops Q S fuel listed a w :=
 wpAnyP_ends (fun e a' w' ⟨he, t, ha, hk⟩ => by subst he ha; exact h2 t w' hk) _ _ _ _ h1
theorem put_comm (a : Act) {i j : Nat} (h : i ≠ j) (v u : Value) : (a.put (some i) v).put (some j) u = (a.put (some j) u).put (some i) v := by
 unfold Act.put
 simp only
 rw [Array.setIfInBounds_comm _ _ h]
/-- Three variables of one type, made in whatever order. -/
theorem wpAnyP_allocs3 {i j k di dj dk : Nat} {oi oj ok : Oper} {o : Obj} {fuel : Nat} {listed : Array Bool} {a : Act} {w : World}
  (hi : ops[i]? = some oi) (hj : ops[j]? = some oj) (hk : ops[k]? = some ok) (gi : oi.guard = none) (gj : oj.guard = none) (gk : ok.guard = none) (ei : oi.dst = some di) (ej : oj.dst = some dj) (ek : ok.dst = some dk)
  (ri : ∀ (a : Act) w, (execOp a.eval oi).run P w = .ok (.value (.pointer (some ⟨w.heap.size, 0, none⟩))) (w.alloc o))
  (rj : ∀ (a : Act) w, (execOp a.eval oj).run P w = .ok (.value (.pointer (some ⟨w.heap.size, 0, none⟩))) (w.alloc o))
  (rk : ∀ (a : Act) w, (execOp a.eval ok).run P w = .ok (.value (.pointer (some ⟨w.heap.size, 0, none⟩))) (w.alloc o))
  (r0 : Region.ready md ops listed = [i, j, k]) (r1 : Region.ready md ops (listed.setIfInBounds i true) = [j, k]) (r2 : Region.ready md ops (listed.setIfInBounds j true) = [i, k]) (r3 : Region.ready md ops (listed.setIfInBounds k true) = [i, j])
  (r12 : Region.ready md ops ((listed.setIfInBounds i true).setIfInBounds j true) = [k]) (r13 : Region.ready md ops ((listed.setIfInBounds i true).setIfInBounds k true) = [j]) (r23 : Region.ready md ops ((listed.setIfInBounds j true).setIfInBounds k true) = [i])
  (nij : i ≠ j) (nik : i ≠ k) (njk : j ≠ k) (dij : di ≠ dj) (dik : di ≠ dk) (djk : dj ≠ dk)
  (hS : ∀ m w, S m w → S m (w.alloc o))
  (H : ∀ p q r, p ≠ q → p ≠ r → q ≠ r → (w.heap.size ≤ p ∧ p < w.heap.size + 3) → (w.heap.size ≤ q ∧ q < w.heap.size + 3) → (w.heap.size ≤ r ∧ r < w.heap.size + 3) →
   wpAnyP P md ops Q S fuel (((listed.setIfInBounds i true).setIfInBounds j true).setIfInBounds k true) (((a.put (some di) (.pointer (some ⟨p, 0, none⟩))).put (some dj) (.pointer (some ⟨q, 0, none⟩))).put (some dk) (.pointer (some ⟨r, 0, none⟩))) (((w.alloc o).alloc o).alloc o)) :
  wpAnyP P md ops Q S (fuel + 3) listed a w := by
 have z1 : (w.alloc o).heap.size = w.heap.size + 1 := by simp
 have z2 : ((w.alloc o).alloc o).heap.size = w.heap.size + 2 := by simp
 have hs : ∀ m w', (∀ l, frB md ops m l = true → S l w' → S l (w'.alloc o)) := fun _ w' l _ h => hS l w' h
 refine wpAnyP_three (i := i) (j := j) (k := k) r0 (wpOp_run hi gi (ri a w) ⟨hs i _, ?_⟩) (wpOp_run hj gj (rj a w) ⟨hs j _, ?_⟩) (wpOp_run hk gk (rk a w) ⟨hs k _, ?_⟩)
 ·refine wpAnyP_two r1 (wpOp_run hj gj (rj _ _) ⟨hs j _, ?_⟩) (wpOp_run hk gk (rk _ _) ⟨hs k _, ?_⟩)
  ·refine wpAnyP_one r12 (wpOp_run hk gk (rk _ _) ⟨hs k _, ?_⟩)
   rw [ei, ej, ek, z1, z2]
   exact H _ _ _ (by omega) (by omega) (by omega) (by omega) (by omega) (by omega)
  ·refine wpAnyP_one r13 (wpOp_run hj gj (rj _ _) ⟨hs j _, ?_⟩)
   rw [ei, ej, ek, z1, z2, put_comm _ (Ne.symm djk), Array.setIfInBounds_comm _ _ (Ne.symm njk)]
   exact H _ _ _ (by omega) (by omega) (by omega) (by omega) (by omega) (by omega)
 ·refine wpAnyP_two r2 (wpOp_run hi gi (ri _ _) ⟨hs i _, ?_⟩) (wpOp_run hk gk (rk _ _) ⟨hs k _, ?_⟩)
  ·rw [Array.setIfInBounds_comm _ _ (Ne.symm nij)]
   refine wpAnyP_one r12 (wpOp_run hk gk (rk _ _) ⟨hs k _, ?_⟩)
   rw [ei, ej, ek, z1, z2, put_comm a (Ne.symm dij)]
   exact H _ _ _ (by omega) (by omega) (by omega) (by omega) (by omega) (by omega)
  ·refine wpAnyP_one r23 (wpOp_run hi gi (ri _ _) ⟨hs i _, ?_⟩)
   rw [ei, ej, ek, z1, z2, put_comm _ (Ne.symm dik), put_comm a (Ne.symm dij), Array.setIfInBounds_comm _ _ (Ne.symm nik), Array.setIfInBounds_comm (xs := listed) _ _ (Ne.symm nij)]
   exact H _ _ _ (by omega) (by omega) (by omega) (by omega) (by omega) (by omega)
 ·refine wpAnyP_two r3 (wpOp_run hi gi (ri _ _) ⟨hs i _, ?_⟩) (wpOp_run hj gj (rj _ _) ⟨hs j _, ?_⟩)
  ·rw [Array.setIfInBounds_comm _ _ (Ne.symm nik)]
   refine wpAnyP_one r13 (wpOp_run hj gj (rj _ _) ⟨hs j _, ?_⟩)
   rw [ei, ej, ek, z1, z2, put_comm a (Ne.symm dik), put_comm _ (Ne.symm djk), Array.setIfInBounds_comm _ _ (Ne.symm njk)]
   exact H _ _ _ (by omega) (by omega) (by omega) (by omega) (by omega) (by omega)
  ·rw [Array.setIfInBounds_comm _ _ (Ne.symm njk)]
   refine wpAnyP_one r23 (wpOp_run hi gi (ri _ _) ⟨hs i _, ?_⟩)
   rw [ei, ej, ek, z1, z2, put_comm a (Ne.symm djk), put_comm _ (Ne.symm dik), put_comm a (Ne.symm dij), Array.setIfInBounds_comm _ _ (Ne.symm nik), Array.setIfInBounds_comm (xs := listed) _ _ (Ne.symm nij)]
   exact H _ _ _ (by omega) (by omega) (by omega) (by omega) (by omega) (by omega)
end
section
variable {P : Program} {ops : Array Oper} {Q : Exit → Act → World → Prop}
/-- The region ends normally. -/
def NQ (Q : Exit → Act → World → Prop) : Exit → Act → World → Prop
 | .normal, a, w => Q .normal a w
 | .panic c, a, w => ∀ a' : Act, a'.defers = a.defers → a'.tmps.size = a.tmps.size → Q (.panic c) a' w
 | _, _, _ => False
theorem nq_panic {c} {a : Act} {d : Option Nat} {v : Value} {w : World} (h : NQ Q (.panic c) (a.put d v) w) : NQ Q (.panic c) a w := fun a' h1 h2 => h a' (h1.trans (by cases d <;> rfl)) (h2.trans (by cases d <;> simp [Act.put]))
theorem nq_let : ¬ LetsOut (NQ Q) := fun ⟨_, _, h⟩ => h
theorem nq_out : ∀ e a w, NQ Q e a w → Q e a w := fun e a w h => by
 cases e <;> first | exact h | exact h a rfl rfl | exact h.elim
theorem wpW_region_N {n id : Nat} {a : Act} {w : World} (S : Nat → World → Prop) (hm : P.follows .mixedOrders = true) (hd : noDefer ops = true)
  (h : wpAnyP P .any ops (NQ Q) S ops.size (Array.replicate ops.size false) a w.drew) : (Code.region id ops true).wpIn Fence.wide n P Q a w :=
 wpIn_mono (wpW_region_P S hm hd nq_let h) nq_out
theorem wpR_region_N {l n id : Nat} {a : Act} {w : World} (S : Nat → World → Prop) (hm : P.follows .mixedOrders = true) (hd : noDefer ops = true)
  (h : wpAnyP P .any ops (NQ Q) S ops.size (Array.replicate ops.size false) a w.drew) : (Code.region id ops true).wpIn (Fence.wide.inRound l) n P Q a w :=
 wpIn_mono (wpIn_region_P S hm hd nq_let h) nq_out
end
section
variable {P : Program} {ρ : Operand → Value} {o : Oper} {w : World} {x y : Operand} {t : TypeId}
theorem ex_load {b off : Nat} {v : Value} (ho : o.op = .load t x) (hx : ρ x = .pointer (some ⟨b, off, none⟩)) (hagg : ∀ w, (isAgg t).run P w = .ok false w) (hc : w.cell? ⟨b, off, none⟩ = some v) :
  (execOp ρ o).run P w = .ok (.value v) w := by
 have h1 := hagg w
 unfold execOp
 simp only [ho, hx]
 go_simp
theorem ex_add {a b : Int} {ty : TypeId} (ho : o.op = .binOp .add t x y ty) (hx : ρ x = .int .i64 a) (hy : ρ y = .int .i64 b) (hb : -9223372036854775808 ≤ a + b ∧ a + b ≤ 9223372036854775807) :
  (execOp ρ o).run P w = .ok (.value (.int .i64 (a + b))) w := by
 unfold execOp
 simp only [ho, hx, hy]
 go_simp
 exact IntWalk.i64_in _ hb
theorem ex_sub {a b : Int} {ty : TypeId} (ho : o.op = .binOp .sub t x y ty) (hx : ρ x = .int .i64 a) (hy : ρ y = .int .i64 b) (hb : -9223372036854775808 ≤ a - b ∧ a - b ≤ 9223372036854775807) :
  (execOp ρ o).run P w = .ok (.value (.int .i64 (a - b))) w := by
 unfold execOp
 simp only [ho, hx, hy]
 go_simp
 exact IntWalk.i64_in _ hb
theorem ex_mul {a b : Int} {ty : TypeId} (ho : o.op = .binOp .mul t x y ty) (hx : ρ x = .int .i64 a) (hy : ρ y = .int .i64 b) (hb : -9223372036854775808 ≤ a * b ∧ a * b ≤ 9223372036854775807) :
  (execOp ρ o).run P w = .ok (.value (.int .i64 (a * b))) w := by
 unfold execOp
 simp only [ho, hx, hy]
 go_simp
 exact IntWalk.i64_in _ hb
theorem ex_lss {a b : Int} {ty : TypeId} (ho : o.op = .binOp .lss t x y ty) (hx : ρ x = .int .i64 a) (hy : ρ y = .int .i64 b) : (execOp ρ o).run P w = .ok (.value (.bool (decide (a < b)))) w := by
 unfold execOp
 simp only [ho, hx, hy]
 go_simp
theorem ex_gtr {a b : Int} {ty : TypeId} (ho : o.op = .binOp .gtr t x y ty) (hx : ρ x = .int .i64 a) (hy : ρ y = .int .i64 b) : (execOp ρ o).run P w = .ok (.value (.bool (decide (b < a)))) w := by
 unfold execOp
 simp only [ho, hx, hy]
 go_simp
theorem ex_eql {a b : Int} {ty : TypeId} (ho : o.op = .binOp .eql t x y ty) (hx : ρ x = .int .i64 a) (hy : ρ y = .int .i64 b) : (execOp ρ o).run P w = .ok (.value (.bool (a == b))) w := by
 unfold execOp
 simp only [ho, hx, hy]
 go_simp
theorem ex_neq {a b : Int} {ty : TypeId} (ho : o.op = .binOp .neq t x y ty) (hx : ρ x = .int .i64 a) (hy : ρ y = .int .i64 b) : (execOp ρ o).run P w = .ok (.value (.bool (a != b))) w := by
 unfold execOp
 simp only [ho, hx, hy]
 go_simp
theorem ex_geq {a b : Int} {ty : TypeId} (ho : o.op = .binOp .geq t x y ty) (hx : ρ x = .int .i64 a) (hy : ρ y = .int .i64 b) : (execOp ρ o).run P w = .ok (.value (.bool (decide (b ≤ a)))) w := by
 unfold execOp
 simp only [ho, hx, hy]
 go_simp
theorem ex_leq {a b : Int} {ty : TypeId} (ho : o.op = .binOp .leq t x y ty) (hx : ρ x = .int .i64 a) (hy : ρ y = .int .i64 b) : (execOp ρ o).run P w = .ok (.value (.bool (decide (a ≤ b)))) w := by
 unfold execOp
 simp only [ho, hx, hy]
 go_simp
theorem ex_max {a b : Int} {t1 t2 : TypeId} (ho : o.op = .call { callee := .builtin .max, args := #[x, y], argTypes := #[t1, t2] }) (hx : ρ x = .int .i64 a) (hy : ρ y = .int .i64 b) : (execOp ρ o).run P w = .ok (.value (.int .i64 (max a b))) w := by
 unfold execOp
 simp only [ho, resolve, List.map_toArray, List.map_cons, List.map_nil, hx, hy]
 go_simp
 split <;> omega
theorem ex_min {a b : Int} {t1 t2 : TypeId} (ho : o.op = .call { callee := .builtin .min, args := #[x, y], argTypes := #[t1, t2] }) (hx : ρ x = .int .i64 a) (hy : ρ y = .int .i64 b) : (execOp ρ o).run P w = .ok (.value (.int .i64 (min a b))) w := by
 unfold execOp
 simp only [ho, resolve, List.map_toArray, List.map_cons, List.map_nil, hx, hy]
 go_simp
 split <;> omega
theorem ex_len {A : Option Addr} {n c : Nat} {e : TypeId} (ho : o.op = .call { callee := .builtin .len, args := #[x], argTypes := #[t] }) (ht : P.underlying t = some (.slice e)) (hx : ρ x = .slice A n c) : (execOp ρ o).run P w = .ok (.value (.int .i64 (n : Nat))) w := by
 unfold execOp
 simp only [ho, resolve, List.map_toArray, List.map_cons, List.map_nil, hx]
 go_simp
theorem ex_index {b off off' n c k sz : Nat} {e : TypeId} (ho : o.op = .indexAddr t x y) (hx : ρ x = .slice (some ⟨b, off, none⟩) n c) (hy : ρ y = .int .i64 (k : Nat)) (ht : P.underlying t = some (.slice e)) (hs : ∀ w, (sizeOf e).run P w = .ok sz w) (hk : k < n) (he : off + k * sz = off') :
  (execOp ρ o).run P w = .ok (.value (.pointer (some ⟨b, off', none⟩))) w := by
 have h1 := hs w
 have h2 : ¬ (k : Int) < 0 := by omega
 have h3 : (k : Int) < (n : Int) := by omega
 subst he
 unfold execOp
 simp only [ho, hx, hy]
 go_simp
end
section
variable {P : Program} {ops : Array Oper} {Q : Exit → Act → World → Prop} {md : Region.Mode} {S : Nat → World → Prop}
/-- Take number i first; its slot is d. -/
theorem wpAnyP_takeD {i d : Nat} {oi : Oper} {v : Value} {fuel : Nat} {listed : Array Bool} {a : Act} {w : World} (hi : ops[i]? = some oi) (hd : oi.dst = some d)
  (hs : Region.noSelect ops = true) (hf : Region.free md ops listed i = true) (hr : (Region.ready md ops listed).contains i = true)
  (hQ : ∀ c a w, Q (.panic c) (a.put oi.dst v) w → Q (.panic c) a w) (hy : YieldsIf P ops (S i) oi v a) (hS : S i w)
  (h : wpAnyP P md ops Q S fuel (listed.setIfInBounds i true) (a.put (some d) v) w) : wpAnyP P md ops Q S (fuel + 1) listed a w :=
 wpAnyP_take hi hs hf hr hQ hy hS (by rw [hd]; exact h)
/-- Only number i may come up, and it stores. -/
theorem wpAnyP_store {i : Nat} {o : Oper} {fuel : Nat} {listed : Array Bool} {a : Act} {w w' : World} (hr : Region.ready md ops listed = [i]) (hi : ops[i]? = some o) (hd : o.dst = none) (hg : o.guard = none)
  (hrun : (execOp a.eval o).run P w = .ok .skip w') (hS : ∀ k, frB md ops i k = true → S k w → S k w') (h : wpAnyP P md ops Q S fuel (listed.setIfInBounds i true) a w') : wpAnyP P md ops Q S (fuel + 1) listed a w :=
 wpAnyP_one hr (wpOp_skip hi hg hrun ⟨hS, by rw [hd]; exact h⟩)
/-- Only number i may come up, and it runs; its slot is d. -/
theorem wpAnyP_runD {i d : Nat} {o : Oper} {fuel : Nat} {listed : Array Bool} {a : Act} {w w' : World} {v : Value} (hr : Region.ready md ops listed = [i]) (hi : ops[i]? = some o) (hd : o.dst = some d) (hg : o.guard = none)
  (hrun : (execOp a.eval o).run P w = .ok (.value v) w') (hS : ∀ k, frB md ops i k = true → S k w → S k w') (h : wpAnyP P md ops Q S fuel (listed.setIfInBounds i true) (a.put (some d) v) w') : wpAnyP P md ops Q S (fuel + 1) listed a w :=
 wpAnyP_one hr (wpOp_run hi hg hrun ⟨hS, by rw [hd]; exact h⟩)
/-- Only number i may come up, and it calls; its slot is d. -/
theorem wpAnyP_callD {i d : Nat} {o : Oper} {fuel : Nat} {listed : Array Bool} {a : Act} {w : World} {f : FuncId} {args : Array Value} (hr : Region.ready md ops listed = [i]) (hi : ops[i]? = some o) (hd : o.dst = some d) (hg : o.guard = none)
  (hrun : (execOp a.eval o).run P w = .ok (.enter f args) w) (h : Calls P f args w fun e w' => ∃ v, e = .returned v ∧ (∀ k, frB md ops i k = true → S k w → S k w') ∧ wpAnyP P md ops Q S fuel (listed.setIfInBounds i true) (a.put (some d) v) w') : wpAnyP P md ops Q S (fuel + 1) listed a w :=
 wpAnyP_one hr (wpOp_call hi hg hrun (h.mono fun e w' ⟨v, he, h1, h2⟩ => ⟨v, he, h1, by rw [hd]; exact h2⟩))
end
def W64 (x : Int) : Prop := -9223372036854775808 ≤ x ∧ x ≤ 9223372036854775807
theorem wf64 {x : Int} (h : W64 x) : (Lit.int .i64 x).wf = true := by
 unfold W64 at h
 simp [Lit.wf, IntKind.min, IntKind.max, IntKind.signed, IntKind.bits]; omega
def W2 (x : Int × Int) : Prop := W64 x.1 ∧ W64 x.2
structure KeyL (P : Program) {α : Type} (kt : TypeId) (kv : α → Value) (ok : α → Prop) : Prop where
 law : Maps.Keyed P kt
 key : ∀ x, ok x → ∃ kl, keyOf P kt (kv x) = some kl
 inj : ∀ x y, kv x = kv y → x = y
structure ElL (P : Program) {β : Type} (e : TypeId) (ev : β → Value) (ed : β → DataW Unit) (z : β) (okE : β → Prop) : Prop where
 zero : ∀ w, (zeroValue e).run P w = .ok (ev z) w
 okz : okE z
 rd : ∀ x, okE x → plainElem P e (ev x) = some (ed x, [])
 inv : ∀ v x ps, plainElem P e v = some (ed x, ps) → v = ev x
section
variable {P : Program} {α β : Type} {kt e t : TypeId} {kv : α → Value} {ok : α → Prop} {ev : β → Value} {ed : β → DataW Unit} {z : β} {okE : β → Prop}
def MapF (P : Program) (kt e : TypeId) (kv : α → Value) (ok : α → Prop) (ed : β → DataW Unit) (w : World) (b n c : Nat) (m : α → Option β) : Prop :=
 ∃ D, w.ownsMap P kt (plainElem P e) b n D ∧ Maps.size D = c ∧ ∀ x kl, ok x → keyOf P kt (kv x) = some kl → Maps.has D kl = (m x).isSome ∧ ∀ u, D.atKey kl u = match m x with | some v => ed v | none => u
def upd [DecidableEq α] (m : α → Option β) (x : α) (v : β) : α → Option β := fun y => if y = x then some v else m y
theorem MapF.made (w : World) : MapF P kt e kv ok ed (w.alloc (.map #[] 0)) w.heap.size 0 0 (fun _ => none) :=
 ⟨_, World.ownsMap_made w _ _ _, rfl, fun x kl _ _ => ⟨by simp [Maps.has_eq], fun u => by simp [DataW.atKey]⟩⟩
variable {P : Program} {w : World} {b n c : Nat} {m : α → Option β}
theorem MapF.lt (h : MapF P kt e kv ok ed w b n c m) : b < w.heap.size := by obtain ⟨D, h1, -⟩ := h; exact h1.lt
theorem MapF.cn (h : MapF P kt e kv ok ed w b n c m) : c ≤ n := by obtain ⟨D, h1, h2, -⟩ := h; rw [← h2]; exact h1.size_le
theorem MapF.heap {w' : World} (h : MapF P kt e kv ok ed w b n c m) (hb : w'.heap[b]? = w.heap[b]?) : MapF P kt e kv ok ed w' b n c m := by
 obtain ⟨D, ⟨es, clock, h1, h2⟩, h3⟩ := h
 exact ⟨D, ⟨es, clock, hb.trans h1, h2⟩, h3⟩
theorem MapF.up {w' : World} (h : MapF P kt e kv ok ed w b n c m) (hb : Below w.heap.size w w') : MapF P kt e kv ok ed w' b n c m := h.heap (hb.block b h.lt)
theorem MapF.kept {w' : World} {row : Option Nat} (h : MapF P kt e kv ok ed w b n c m) (hg : w.grownBy w' row) (hne : some b ≠ row) : MapF P kt e kv ok ed w' b n c m := h.heap (hg.block b h.lt hne)
theorem MapF.le {n' : Nat} (h : MapF P kt e kv ok ed w b n c m) (hn : n ≤ n') : MapF P kt e kv ok ed w b n' c m := by
 obtain ⟨D, h1, h2⟩ := h; exact ⟨D, h1.mono hn, h2⟩
theorem MapF.put [DecidableEq α] (K : KeyL P kt kv ok) (E : ElL P e ev ed z okE) (ht : P.underlying t = some (.map kt e)) (h : MapF P kt e kv ok ed w b n c m) (hn : n < 1000000) {x : α} (hx : ok x) {v : β} (hv : okE v) :
  ∃ w', (Instr.mapUpdate t (.map (some b)) (kv x) (ev v)).run P w = .ok () w' ∧ MapF P kt e kv ok ed w' b (n + 1) (if (m x).isSome then c else c + 1) (upd m x v) ∧ w.grownBy w' (some b) := by
 obtain ⟨D, h1, h0, h2⟩ := h
 obtain ⟨kl, hk⟩ := K.key x hx
 obtain ⟨w', hrun, ho, hg⟩ := h1.update K.law ht (by unfold maxLen; omega) hk (E.rd v hv)
 refine ⟨w', hrun, ⟨_, ho, ?_, fun y kl' hy hk' => ?_⟩, hg⟩
 ·rw [Maps.size_put (h1.tidy K.law), (h2 x kl hx hk).1, h0]
 ·by_cases e1 : kl' = kl
  ·subst e1
   have e2 := K.inj _ _ (K.law.inj hk' hk)
   subst e2
   have hu : upd m y v y = some v := by unfold upd; rw [if_pos rfl]
   rw [hu]
   exact ⟨Maps.has_put_same h1.isMap (K.law.key hk) _, fun u => Maps.atKey_put_same h1.isMap (K.law.key hk) _ u⟩
  ·have hne : y ≠ x := by intro e2; subst e2; rw [hk] at hk'; injection hk' with hk'; exact e1 hk'.symm
   have hu : upd m x v y = m y := by unfold upd; rw [if_neg hne]
   rw [hu]
   exact ⟨(Maps.has_put_other e1 _).trans (h2 y kl' hy hk').1, fun u => (Maps.atKey_put_other e1 _ u).trans ((h2 y kl' hy hk').2 u)⟩
theorem MapF.look (K : KeyL P kt kv ok) (E : ElL P e ev ed z okE) (ht : P.underlying t = some (.map kt e)) (h : MapF P kt e kv ok ed w b n c m) {x : α} (hx : ok x) :
  (Instr.lookup t (.map (some b)) (kv x) false).run P w = .ok (ev ((m x).getD z)) w := by
 obtain ⟨D, h1, h0, h2⟩ := h
 obtain ⟨kl, hk⟩ := K.key x hx
 obtain ⟨v, ps, hrun, hv⟩ := h1.lookup K.law ht (E.zero w) (E.rd z E.okz) hk
 rw [(h2 x kl hx hk).2] at hv
 rw [hrun]
 have : v = ev ((m x).getD z) := by
  cases hm : m x with
  | none => rw [hm] at hv; exact E.inv _ _ _ hv
  | some y => rw [hm] at hv; exact E.inv _ _ _ hv
 rw [this]
theorem MapF.look2 (K : KeyL P kt kv ok) (E : ElL P e ev ed z okE) (ht : P.underlying t = some (.map kt e)) (h : MapF P kt e kv ok ed w b n c m) {x : α} (hx : ok x) :
  (Instr.lookup t (.map (some b)) (kv x) true).run P w = .ok (.tuple #[ev ((m x).getD z), .bool (m x).isSome]) w := by
 obtain ⟨D, h1, h0, h2⟩ := h
 obtain ⟨kl, hk⟩ := K.key x hx
 obtain ⟨v, ps, hrun, hv⟩ := h1.look_ok K.law ht (E.zero w) (E.rd z E.okz) hk
 rw [(h2 x kl hx hk).1] at hrun
 rw [(h2 x kl hx hk).2] at hv
 rw [hrun]
 have : v = ev ((m x).getD z) := by
  cases hm : m x with
  | none => rw [hm] at hv; exact E.inv _ _ _ hv
  | some y => rw [hm] at hv; exact E.inv _ _ _ hv
 rw [this]
theorem MapF.len (ht : P.underlying t = some (.map kt e)) (h : MapF P kt e kv ok ed w b n c m) (ty : TypeId) : (Builtin.len_ #[t] ty #[.map (some b)]).run P w = .ok (.int .i64 (c : Nat)) w := by
 obtain ⟨D, h1, h0, h2⟩ := h
 rw [← h0]; exact h1.len ht ty
end
def kI (x : Int) : Value := .int .i64 x
/-! Facts of the program, as instances (a text of each seat's has them). -/
class Und (P : Program) (t : TypeId) (u : outParam TypeDesc) : Prop where h : P.underlying t = some u
class Siz (P : Program) (t : TypeId) (k : outParam Nat) : Prop where h : ∀ w, (sizeOf t).run P w = .ok k w
class Agg (P : Program) (t : TypeId) (b : outParam Bool) : Prop where h : ∀ w, (isAgg t).run P w = .ok b w
class Zer (P : Program) (t : TypeId) (v : outParam Value) : Prop where h : ∀ w, (zeroValue t).run P w = .ok v w
class Fof (P : Program) (s f : Nat) (k : outParam Nat) : Prop where h : ∀ (b off : Nat) (w : World), (Instr.fieldAt s (.pointer (some ⟨b, off, none⟩)) f).run P w = .ok (.pointer (some ⟨b, off + k, none⟩)) w
class Inf (P : Program) (t : TypeId) (z : outParam Value) (k bytes : outParam Nat) : Prop where h : (P.info? t).map (fun i => (i.zero, i.size, i.bytes)) = some (some z, k, bytes)
class Cf (P : Program) (f : FuncId) : Prop where h : ∀ args w, (callFunc f args).run P w = .ok (.enter f args) w
theorem KI {P : Program} {t : TypeId} [u : Und P t (.int .i64)] : KeyL P t kI W64 where
 law := Maps.int_keyed u.h
 key := fun x hx => ⟨_, Maps.keyOf_int_mk u.h (wf64 hx)⟩
 inj := fun x y h => by simpa [kI] using h
/-! The elements. -/
def dI (x : Int) : DataW Unit := .lit (.int .i64 x)
def dB (x : Bool) : DataW Unit := .lit (.bool x)
def kB (x : Bool) : Value := .bool x
theorem LI64 {P : Program} {t : TypeId} [u : Und P t (.int .i64)] [z : Zer P t (.int .i64 0)] : ElL P t kI dI 0 W64 where
 zero := z.h
 okz := by unfold W64; omega
 rd := fun x hx => plainElem_int u.h (wf64 hx)
 inv := fun v x ps h => by
  cases v <;> simp [plainElem, u.h, dI] at h
  unfold kI
  obtain ⟨⟨rfl, -⟩, rfl, -⟩ := h
  rfl
theorem LBool {P : Program} {t : TypeId} [u : Und P t .bool] [z : Zer P t (.bool false)] : ElL P t kB dB false (fun _ => True) where
 zero := z.h
 okz := trivial
 rd := fun x _ => plainElem_bool u.h x
 inv := fun v x ps h => by
  cases v <;> simp [plainElem, u.h, dB] at h
  rw [h.1]; rfl
end Go.Proofs.YtjkolebffbeeeaaGreatDoor
