/- Layers of the proofs, joined: G1 G2. -/
import Derived.BigQuiet
import Derived.Deep.Cut
import Derived.Deep.MidRow
import Derived.Deep.OwnRows
import Derived.Deep.QuietTactic
import Derived.DeepKeys4
import Derived.Laws.CopyRow
import Derived.Laws.MakeOwn
import Derived.Lib.Hide
import Derived.Lib.VarintMem
import Derived.LoopIn
import Derived.LoopNIn
import Derived.Maps.AppendAt
import Derived.Maps.Own
import Derived.Maps.OwnSet
import Derived.Maps.Views
import Derived.OrdersHeld
import Derived.OrdersIn
import Derived.OwnWalkIn
import Derived.RangeFuncBound
import Derived.RangeFuncBox
import Derived.RangeFuncCalls
import Derived.RangeFuncKeeps
import Derived.RangeFuncLeaves
import Derived.RangeFuncNested
import Derived.Shelf.Abstract
import Derived.Shelf.RegionOpen
import Derived.Sort.CutIn
import Derived.TacticsIn
import Derived.TacticsInMore
import Derived.WalkKit
import Derived.WalkLawsBesides
import Derived.WalkSpells
/- Base: cells of old blocks; slices of elements of k cells; a region that draws its order; maps; single operations. Over any program. -/
namespace Go.Proofs.YtmcpnoailbmkkaaGreat
open Go Go.RowKit Go.Proofs Go.Shelf
attribute [local go_sem] Oper.semAt_some

theorem lt_cell {w : World} {b o : Nat} {v : Value} (h : w.cell? ⟨b, o, none⟩ = some v) : b < w.heap.size := by
 rcases Nat.lt_or_ge b w.heap.size with h' | h'
 ·exact h'
 ·exfalso
  simp [World.cell?, Array.getElem?_eq_none h'] at h
/-- An old cell, behind a call, and behind a new variable. -/
theorem upc {w w' : World} {b i : Nat} {v : Value} (h : w.cell? ⟨b, i, none⟩ = some v) (hb : Below w.heap.size w w') : w'.cell? ⟨b, i, none⟩ = some v :=
 (hb.cell (p := ⟨b, i, none⟩) (lt_cell h)).trans h
theorem below_drewN {B : Nat} {a w : World} (h : Below B a w) (n : Nat) : Below B a (w.drewN n) := ⟨h.os, h.tape, h.output, h.size, h.block⟩
theorem cell_heap {w w' : World} {b o : Nat} (h : w'.heap[b]? = w.heap[b]?) : w'.cell? ⟨b, o, none⟩ = w.cell? ⟨b, o, none⟩ := by simp [World.cell?, h]
/-- A call that leaves the world as it lay. -/
abbrev Back (v : Value) (w : World) (e : Ending) (w' : World) : Prop := e = .returned v ∧ Below w.heap.size w w'

/-! Slices of elements of k cells. -/
section
variable {P : Program} {α : Type} {k : Nat} {enc : α → List Value}
def HoldL (k : Nat) (enc : α → List Value) (w : World) (b o : Nat) (l : List α) : Prop := ∀ j (h : j < l.length) i, i < k → w.cell? ⟨b, o + j * k + i, none⟩ = (enc (l[j]'h))[i]?
def Arr (k : Nat) (enc : α → List Value) (w : World) (v : Value) (l : List α) : Prop :=
 ∃ A cap, v = .slice A l.length cap ∧ l.length ≤ cap ∧ (l.length ≤ 9223372036854775807 ∧ cap ≤ maxLen) ∧ (l ≠ [] → ∃ b o, A = some ⟨b, o, none⟩ ∧ HoldL k enc w b o l)
/-- The elements have k cells. -/
structure Enc (k : Nat) (enc : α → List Value) : Prop where
 len : ∀ x, (enc x).length = k
 one : ∀ x, ∀ v ∈ enc x, v.oneCell' = true
theorem HoldL.up (E : Enc k enc) {w w' : World} {b o : Nat} {l : List α} (h : HoldL k enc w b o l) (hb : Below w.heap.size w w') : HoldL k enc w' b o l := fun j hj i hi => by
 have h1 := h j hj i hi
 have : i < (enc (l[j]'hj)).length := by rw [E.len]; exact hi
 rw [List.getElem?_eq_getElem this] at h1 ⊢
 exact upc h1 hb
theorem HoldL.kept (E : Enc k enc) {w w' : World} {b o : Nat} {l : List α} {row : Option Nat} (h : HoldL k enc w b o l) (hg : w.grownBy w' row) (hne : some b ≠ row) : HoldL k enc w' b o l := fun j hj i hi => by
 have h1 := h j hj i hi
 have : i < (enc (l[j]'hj)).length := by rw [E.len]; exact hi
 rw [List.getElem?_eq_getElem this] at h1 ⊢
 exact hg.cell h1 hne
theorem Arr.up (E : Enc k enc) {w w' : World} {v : Value} {l : List α} (h : Arr k enc w v l) (hb : Below w.heap.size w w') : Arr k enc w' v l := by
 obtain ⟨A, cap, h1, h2, h3, h4⟩ := h
 exact ⟨A, cap, h1, h2, h3, fun hn => by obtain ⟨b, o, h5, h6⟩ := h4 hn; exact ⟨b, o, h5, h6.up E hb⟩⟩
theorem Arr.nil (w : World) : Arr k enc w (.slice none 0 0) [] := ⟨none, 0, rfl, Nat.le_refl _, ⟨Nat.zero_le _, Nat.zero_le _⟩, fun h => absurd rfl h⟩
theorem flat_len (E : Enc k enc) (l : List α) : (l.flatMap enc).length = l.length * k := by
 induction l with
 | nil => simp
 | cons a l ih => rw [List.flatMap_cons, List.length_append, ih, E.len, List.length_cons, Nat.succ_mul]; omega
theorem flat_get (E : Enc k enc) : ∀ {L : List α} {j : Nat} (h : j < L.length) (i : Nat) (_ : i < k), (L.flatMap enc)[j * k + i]? = (enc (L[j]'h))[i]?
 | [], _, h, _, _ => by simp at h
 | a :: L, 0, _, i, hi => by
  rw [List.flatMap_cons, List.getElem?_append_left (by rw [E.len]; omega)]; simp
 | a :: L, j + 1, h, i, hi => by
  have hk : (j + 1) * k = j * k + k := Nat.succ_mul j k
  rw [List.flatMap_cons, List.getElem?_append_right (by rw [E.len]; omega)]
  have e : (j + 1) * k + i - (enc a).length = j * k + i := by rw [E.len]; omega
  rw [e, flat_get E (by simpa using h) i hi]; rfl
/-- A slice of the call's own. -/
abbrev Own (base ty k : Nat) (enc : α → List Value) (W : World) (v : Value) (L : List α) : Prop := W.ownsRow base ty k v L.length (L.flatMap enc)
theorem row_form {base ty sz n : Nat} {u : Value} {xs : List Value} {W : World} (h : W.ownsRow base ty sz u n xs) : ∃ A c, u = .slice A n c ∧ (∀ g o, A = some ⟨g, o, none⟩ → o = 0 ∧ base ≤ g ∧ g < W.heap.size) ∧ ∀ g, u.ownBlock = some g ↔ A = some ⟨g, 0, none⟩ := by
 rcases h.2 with ⟨rfl, h0⟩ | ⟨g, cap, cur, rfl, hb, hg, -⟩
 ·exact ⟨none, 0, by rw [h0], (fun _ _ h => by cases h), fun g => by simp [Value.ownBlock]⟩
 ·refine ⟨some ⟨g, 0, none⟩, cap, rfl, (fun g' o e => ?_), fun g' => by simp [Value.ownBlock]⟩
  injection e with e; injection e with e1 e2; subst e1 e2; exact ⟨rfl, hb, (Array.getElem?_eq_some_iff.1 hg).1⟩
theorem Arr.of_own (E : Enc k enc) {W : World} {base ty : Nat} {v : Value} {L : List α} (h : Own base ty k enc W v L) (hl : L.length ≤ 9223372036854775807) : Arr k enc W v L := by
 have hc := h
 rcases h.2 with ⟨rfl, h0⟩ | ⟨g, cap, cur, rfl, h2, h3, h4, h5, -⟩
 ·exact ⟨none, 0, by rw [h0], by omega, ⟨by omega, by unfold maxLen; omega⟩, fun hl => absurd (List.length_eq_zero_iff.1 h0) hl⟩
 ·refine ⟨_, _, rfl, h4, ⟨hl, h5⟩, fun _ => ⟨g, 0, rfl, fun j hj i hi => ?_⟩⟩
  rw [Nat.zero_add, ← flat_get E hj i hi]
  have h1 : (j + 1) * k ≤ L.length * k := Nat.mul_le_mul_right k (by omega)
  rw [Nat.succ_mul] at h1
  exact hc.cellAt _ (by omega)
theorem flat_one (E : Enc k enc) {l : List α} {u : Value} (h : u ∈ l.flatMap enc) : u.oneCell' = true := by
 obtain ⟨s, -, hs⟩ := List.mem_flatMap.1 h
 exact E.one s u hs
end
/-- The encodings. -/
def eI (x : Int) : List Value := [.int .i64 x]
def eP (x : Int × Int) : List Value := [.int .i64 x.1, .int .i64 x.2]
theorem HoldL.int {w : World} {b o : Nat} {l : List Int} (h : HoldL 1 eI w b o l) (j : Nat) (hj : j < l.length) : w.cell? ⟨b, o + j, none⟩ = some (.int .i64 (l[j]'hj)) := by
 have := h j hj 0 (by omega)
 rw [Nat.mul_one] at this
 exact this
theorem HoldL.pair {w : World} {b o : Nat} {l : List (Int × Int)} (h : HoldL 2 eP w b o l) (j : Nat) (hj : j < l.length) : w.cell? ⟨b, o + j * 2, none⟩ = some (.int .i64 (l[j]'hj).1) ∧ w.cell? ⟨b, o + j * 2 + 1, none⟩ = some (.int .i64 (l[j]'hj).2) :=
 ⟨h j hj 0 (by omega), h j hj 1 (by omega)⟩
theorem run_append_op {P : Program} {o : Oper} {a : Act} {W W' : World} {s x : Operand} {t : TypeId} {v u v' : Value} (ho : o.op = .call { callee := .builtin .append, args := #[s, x], argTypes := #[t, t] }) (hs : a.eval s = v) (hx : a.eval x = u)
  (hrun : (Builtin.append_ #[t, t] o.type #[v, u]).run P W = .ok v' W') : (execOp a.eval o).run P W = .ok (.value v') W' := by
 unfold execOp
 simp only [ho, resolve, invoke, builtin, Sem.run_bind, Sem.run_pure, Result.andThen_ok, List.map_toArray, List.map_cons, List.map_nil, hs, hx, hrun]
section
variable {P : Program} {α : Type} {k : Nat} {enc : α → List Value}
/-- append: a slice of the call's own, and another one's elements. -/
theorem run_app (E : Enc k enc) (hk : 0 < k) {sl e ty : TypeId} {z : Value} {bytes : Nat} (ht : P.underlying sl = some (.slice e)) (hinf : (P.info? e).map (fun i => (i.zero, i.size, i.bytes)) = some (some z, k, bytes)) (hzs : z.cells.size = k) (hby : bytes ≤ 128)
  {w : World} {base : Nat} {v : Value} {L M : List α} (hown : Own base e k enc w v L) {a : Addr} {m c : Nat} (hm : m = M.length) (hnews : ∀ j u, (M.flatMap enc)[j]? = some u → w.cell? (a.add j) = some u) (hl : L.length + M.length ≤ 1000000) (hbase : base ≤ w.heap.size) :
  ∃ v' w', (Builtin.append_ #[sl, sl] ty #[v, .slice (some a) m c]).run P w = .ok v' w' ∧ Own base e k enc w' v' (L ++ M) ∧ w.grownBy w' v.ownBlock ∧ (v'.ownBlock = v.ownBlock ∨ v'.ownBlock = some w.heap.size) ∧ ∃ A c, v' = .slice A (L.length + M.length) c := by
 subst hm
 obtain ⟨i0, hi, hz0, hz1, hz2⟩ := info_parts hinf
 have hlm := flat_len E M
 obtain ⟨v', w', h1, h2, h3, h4, h5⟩ := run_append_own_at (P := P) w base sl ty e i0 z k bytes ht hi hz0 hz1 hz2 hzs hk v L.length (L.flatMap enc) hown a M.length c (M.flatMap enc) hlm hnews (fun u h => flat_one E h) (by unfold maxLen; omega)
  (Nat.le_trans (Nat.mul_le_mul (show L.length + M.length ≤ 1000000 from hl) hby) (by omega)) hbase
 have h2' : Own base e k enc w' v' (L ++ M) := by
  show World.ownsRow _ _ _ _ _ _ _
  rw [List.length_append, List.flatMap_append]; exact h2
 obtain ⟨A, c', h6, -, -⟩ := row_form h2
 exact ⟨v', w', h1, h2', h3, h5, A, c', h6⟩
end
/-- A slice's parts, and what it holds. -/
structure Dv (α : Type) where
 A : Option Addr
 n : Nat
 c : Nat
 l : List α
abbrev Dv.v {α : Type} (p : Dv α) : Value := .slice p.A p.n p.c
section
variable {P : Program} {ops : Array Oper} {Q : Exit → Act → World → Prop} {md : Region.Mode} {S : Nat → World → Prop}

/-- Number j does not wait for number i itself. -/
def frB (md : Region.Mode) (ops : Array Oper) (j i : Nat) : Bool := match ops[j]? with | some o => o.after.toList.all (fun e => !(Region.binds md e) || e.on != i) | none => true
theorem frB_of {j i : Nat} {o : Oper} (hj : ops[j]? = some o) (h : ∀ e ∈ o.after, Region.binds md e = true → e.on ≠ i) : frB md ops j i = true := by
 unfold frB; rw [hj]
 simp only [List.all_eq_true]
 intro e he'
 have he : e ∈ o.after := Array.mem_toList_iff.1 he'
 cases hb : Region.binds md e
 ·rfl
 ·simpa using h e he hb

def wpAnyP (P : Program) (md : Region.Mode) (ops : Array Oper) (Q : Exit → Act → World → Prop) (S : Nat → World → Prop) : Nat → Array Bool → Act → World → Prop
 | 0, listed, a, w => Region.ready md ops listed = [] ∧ Q .normal a w
 | fuel + 1, listed, a, w =>
  (Region.ready md ops listed = [] → Q .normal a w) ∧
  ∀ j ∈ Region.ready md ops listed, wpOp P ops Q j (fun a' w' => (∀ i, frB md ops j i = true → S i w → S i w') ∧ wpAnyP P md ops Q S fuel (listed.setIfInBounds j true) a' w') a w
theorem wpAny_of_P : ∀ (fuel : Nat) (listed : Array Bool) (a : Act) (w : World), wpAnyP P md ops Q S fuel listed a w → wpAny P md ops Q fuel listed a w
 | 0, _, _, _, h => h
 | fuel + 1, _, _, _, h => ⟨h.1, fun i hi => wpOp_mono (fun a' w' h' => wpAny_of_P fuel _ a' w' h'.2) (h.2 i hi)⟩

theorem wpAnyP_first {i : Nat} {oi : Oper} {v : Value} (hi : ops[i]? = some oi) (hsel : ∀ (j : Nat) (o : Oper) cs b, ops[j]? = some o → o.op ≠ .select cs b)
  (hQ : ∀ c a w, Q (.panic c) (a.put oi.dst v) w → Q (.panic c) a w) :
  ∀ (fuel : Nat) (listed : Array Bool) (a : Act) (w : World),
   (∀ j oj, ops[j]? = some oj → j ≠ i → listed.getD j true = false → (∀ e ∈ oj.after, Region.binds md e = true → e.on ≠ i) → oi.apart ops oj = true) →
   i ∈ Region.ready md ops listed → YieldsIf P ops (S i) oi v a → S i w →
   wpAnyP P md ops Q S fuel (listed.setIfInBounds i true) (a.put oi.dst v) w → wpAnyP P md ops Q S (fuel + 1) listed a w := by
 intro fuel
 induction fuel with
 | zero =>
  intro listed a w _ hr hy hS H
  refine ⟨fun h => (by rw [h] at hr; cases hr), fun j hj => ?_⟩
  by_cases hji : j = i
  ·subst hji; exact hy.wpOp hi hS ⟨fun _ _ h => h, H⟩
  ·have := ready_mono hj hji
   rw [H.1] at this
   cases this
 | succ fuel ih =>
  intro listed a w hfree hr hy hS H
  refine ⟨fun h => (by rw [h] at hr; cases hr), fun j hj => ?_⟩
  by_cases hji : j = i
  ·subst hji; exact hy.wpOp hi hS ⟨fun _ _ h => h, H⟩
  ·have h1 := H.2 j (ready_mono hj hji)
   obtain ⟨hjun, oj, hoj, hall⟩ := mem_ready.1 hj
   have hnot : ∀ e ∈ oj.after, Region.binds md e = true → e.on ≠ i := fun e he hb heq => by
    have h1 := hall e he hb
    have h0 := (mem_ready.1 hr).1
    rw [heq] at h1
    rcases Nat.lt_or_ge i listed.size with h' | h'
    ·simp [h'] at h0 h1; rw [h0] at h1; cases h1
    ·simp [Array.getElem?_eq_none h'] at h1
   have h2 := wpOp_putIf hoj (hfree j oj hoj hji hjun hnot) (fun cs b => hsel i oi cs b hi) (fun cs b => hsel j oj cs b hoj) hQ hy h1
   have hfree' : ∀ k ok, ops[k]? = some ok → k ≠ i → (listed.setIfInBounds j true).getD k true = false →
     (∀ e ∈ ok.after, Region.binds md e = true → e.on ≠ i) → oi.apart ops ok = true := fun k ok hk hki hun hno => by
    refine hfree k ok hk hki ?_ hno
    by_cases hjk : j = k
    ·subst hjk; exact hjun
    ·rw [getD_set_ne true hjk] at hun; exact hun
   refine wpOp_mono (fun a' w' h3 => ⟨h3.2.1, ih (listed.setIfInBounds j true) a' w' hfree' (ready_mono hr (Ne.symm hji)) h3.1 (h3.2.1 i (frB_of hoj hnot) hS) ?_⟩) h2
   rw [Array.setIfInBounds_comm _ _ hji]
   exact h3.2.2

/-- Take number i first. -/
theorem wpAnyP_take {i : Nat} {oi : Oper} {v : Value} {fuel : Nat} {listed : Array Bool} {a : Act} {w : World} (hi : ops[i]? = some oi)
  (hs : Region.noSelect ops = true) (hf : Region.free md ops listed i = true) (hr : (Region.ready md ops listed).contains i = true)
  (hQ : ∀ c a w, Q (.panic c) (a.put oi.dst v) w → Q (.panic c) a w) (hy : YieldsIf P ops (S i) oi v a) (hS : S i w)
  (h : wpAnyP P md ops Q S fuel (listed.setIfInBounds i true) (a.put oi.dst v) w) : wpAnyP P md ops Q S (fuel + 1) listed a w :=
 wpAnyP_first hi (Region.noSelect_spec hs) hQ fuel listed a w (Region.free_spec hi hf) (by simpa using hr) hy hS h
/-- Only number i may come up. -/
theorem wpAnyP_one {i : Nat} {fuel : Nat} {listed : Array Bool} {a : Act} {w : World} (hr : Region.ready md ops listed = [i])
  (h : wpOp P ops Q i (fun a' w' => (∀ k, frB md ops i k = true → S k w → S k w') ∧ wpAnyP P md ops Q S fuel (listed.setIfInBounds i true) a' w') a w) : wpAnyP P md ops Q S (fuel + 1) listed a w :=
 ⟨fun h0 => by (rw [hr] at h0; cases h0), fun j hj => by
  rw [hr, List.mem_singleton] at hj; subst hj; exact h⟩
theorem wpAnyP_done {listed : Array Bool} {a : Act} {w : World} (hr : Region.ready md ops listed = []) (h : Q .normal a w) : ∀ fuel, wpAnyP P md ops Q S fuel listed a w
 | 0 => ⟨hr, h⟩
 | _ + 1 => ⟨fun _ => h, by rw [hr]; simp⟩
/-- No operation of the region defers. -/
def noDefer (ops : Array Oper) : Bool := ops.all fun o => match o.op with | .defer _ => false | _ => true
theorem wpOpIn_of {l n i : Nat} {K : Act → World → Prop} {a : Act} {w : World} (hd : noDefer ops = true) (hlet : ¬ LetsOut Q) (h : wpOp P ops Q i K a w) : wpOpIn (Fence.wide.inRound l) n P ops Q i K a w := by
 unfold wpOp at h
 unfold wpOpIn
 cases ho : ops[i]? with
 | none => simp only [ho] at h ⊢; exact h
 | some o =>
  simp only [ho] at h ⊢
  have hnd : ∀ c, o.op ≠ .defer c := by
   intro c hc
   unfold noDefer at hd
   have hm := Array.mem_of_getElem? ho
   have := (Array.all_eq_true'.1 hd) o hm
   rw [hc] at this
   cases this
  split
  ·rename_i hw
   rw [if_pos hw] at h
   rcases h with h | ⟨-, h⟩
   ·unfold Oper.wpIn
    refine ⟨fun _ _ => trivial, ?_⟩
    rw [Oper.semAt_plain _ _ _ hnd]
    unfold Oper.wp at h
    generalize (execOp a.eval o).run P w = r at h ⊢
    cases r with
    | ok x w' =>
     cases x <;> simp only [Oper.upon, Oper.uponIn] at h ⊢
     case value => exact h
     case skip => exact h
     case defer => exact h
     case enter => exact ⟨fun h => (by cases h), (callsIn_wide (n := n - 1)).2 h⟩
     case row => exact ⟨fun h => (by cases h), fun c cs _ => let ⟨v, w2, r, s⟩ := h c cs; ⟨v, w2, r, stepsIn_wide.2 s⟩⟩
    | halt x w' => cases x <;> simp only [Oper.upon, Oper.uponIn] at h ⊢ <;> exact h
   ·exact absurd h hlet
  ·rename_i hw
   rw [if_neg hw] at h
   exact ⟨fun _ _ => trivial, h⟩
theorem wpAnyIn_of {l n : Nat} (hd : noDefer ops = true) (hlet : ¬ LetsOut Q) : ∀ (fuel : Nat) (listed : Array Bool) (a : Act) (w : World), wpAny P md ops Q fuel listed a w → wpAnyIn (Fence.wide.inRound l) n P md ops Q fuel listed a w
 | 0, _, _, _, h => h
 | fuel + 1, _, _, _, h => ⟨h.1, fun i hi => wpOpIn_of hd hlet (wpOp_mono (fun a' w' h' => wpAnyIn_of hd hlet fuel _ a' w' h') (h.2 i hi))⟩
theorem wpIn_region_P {l n id : Nat} {a : Act} {w : World} (S : Nat → World → Prop) (hm : P.follows .mixedOrders = true) (hd : noDefer ops = true) (hlet : ¬ LetsOut Q)
  (h : wpAnyP P .any ops Q S ops.size (Array.replicate ops.size false) a w.drew) : (Code.region id ops true).wpIn (Fence.wide.inRound l) n P Q a w :=
 wpIn_region_any hm (wpAnyIn_of hd hlet _ _ _ _ (wpAny_of_P _ _ _ _ h))
end
section
variable {P : Program} {ops : Array Oper} {Q : Exit → Act → World → Prop} {md : Region.Mode} {S : Nat → World → Prop}
theorem wp_region_P {id : Nat} {a : Act} {w : World} (S : Nat → World → Prop) (hm : P.follows .mixedOrders = true)
  (h : wpAnyP P .any ops Q S ops.size (Array.replicate ops.size false) a w.drew) : (Code.region id ops true).wp P Q a w :=
 wp_region_any hm (wpAny_of_P _ _ _ _ h)
end

section
variable {P : Program} {ops : Array Oper} {Q : Exit → Act → World → Prop} {md : Region.Mode} {S : Nat → World → Prop}
end

section
variable {P : Program} {ops : Array Oper} {Q : Exit → Act → World → Prop} {md : Region.Mode} {S : Nat → World → Prop}
/-- An operation that never ends the region: its other ends may be any. -/
theorem wpOp_ends {Q' : Exit → Act → World → Prop} (hq : ∀ e a w, Q' e a w → Q e a w) {i : Nat} {K : Act → World → Prop} {a : Act} {w : World} (h : wpOp P ops Q' i K a w) : wpOp P ops Q i K a w := by
 unfold wpOp at h ⊢
 cases ho : ops[i]? with
 | none => simp only [ho] at h ⊢; exact h
 | some o =>
  simp only [ho] at h ⊢
  split
  ·rename_i hw
   rw [if_pos hw] at h
   have hl : LetsOut Q' → LetsOut Q := fun ⟨a, w, h⟩ => ⟨a, w, hq _ _ _ h⟩
   refine h.imp (fun h => ?_) (fun h => ⟨h.1, hl h.2⟩)
   unfold Oper.wp at h ⊢
   generalize (execOp a.eval o).run P w = r at h ⊢
   cases r with
   | ok x w' =>
    cases x <;> simp only [Oper.upon] at h ⊢
    case value => exact h
    case skip => exact h
    case defer => exact h
    case enter =>
     refine h.mono ?_
     intro e w'' h
     cases e with
     | returned v => exact h
     | panicked c => exact hq _ _ _ h
     | outgrown => exact hl h
    case row => exact h
   | halt x w' => cases x <;> simp only [Oper.upon] at h ⊢ <;> first | exact hq _ _ _ h | exact h
  ·rename_i hw
   rw [if_neg hw] at h
   exact h
theorem wpAnyP_ends {Q' : Exit → Act → World → Prop} (hq : ∀ e a w, Q' e a w → Q e a w) : ∀ (fuel : Nat) (listed : Array Bool) (a : Act) (w : World), wpAnyP P md ops Q' S fuel listed a w → wpAnyP P md ops Q S fuel listed a w
 | 0, _, _, _, h => ⟨h.1, hq _ _ _ h.2⟩
 | fuel + 1, _, _, _, h => ⟨fun hr => hq _ _ _ (h.1 hr), fun j hj => wpOp_ends hq (wpOp_mono (fun a' w' h' => ⟨h'.1, wpAnyP_ends hq fuel _ a' w' h'.2⟩) (h.2 j hj))⟩
end
section
variable {P : Program} {ops : Array Oper} {Q : Exit → Act → World → Prop}
/-- The region ends normally. -/
def NQ (Q : Exit → Act → World → Prop) : Exit → Act → World → Prop
 | .normal, a, w => Q .normal a w
 | .panic c, a, w => ∀ a' : Act, a'.defers = a.defers → a'.tmps.size = a.tmps.size → Q (.panic c) a' w
 | _, _, _ => False
theorem nq_panic {c} {a : Act} {d : Option Nat} {v : Value} {w : World} (h : NQ Q (.panic c) (a.put d v) w) : NQ Q (.panic c) a w := fun a' h1 h2 => h a' (h1.trans (by cases d <;> rfl)) (h2.trans (by cases d <;> simp [Act.put]))
theorem nq_let : ¬ LetsOut (NQ Q) := fun ⟨_, _, h⟩ => h
theorem nq_out : ∀ e a w, NQ Q e a w → Q e a w := fun e a w h => by
 cases e <;> first | exact h | exact h a rfl rfl | exact h.elim
theorem wpR_region_N {l n id : Nat} {a : Act} {w : World} (S : Nat → World → Prop) (hm : P.follows .mixedOrders = true) (hd : noDefer ops = true)
  (h : wpAnyP P .any ops (NQ Q) S ops.size (Array.replicate ops.size false) a w.drew) : (Code.region id ops true).wpIn (Fence.wide.inRound l) n P Q a w :=
 wpIn_mono (wpIn_region_P S hm hd nq_let h) nq_out
end
section
variable {P : Program} {ρ : Operand → Value} {o : Oper} {w : World} {x y : Operand} {t : TypeId}
theorem ex_add {a b : Int} {ty : TypeId} (ho : o.op = .binOp .add t x y ty) (hx : ρ x = .int .i64 a) (hy : ρ y = .int .i64 b) (hb : -9223372036854775808 ≤ a + b ∧ a + b ≤ 9223372036854775807) :
  (execOp ρ o).run P w = .ok (.value (.int .i64 (a + b))) w := by
 unfold execOp
 simp only [ho, hx, hy]
 go_simp
 exact IntWalk.i64_in _ hb
theorem ex_sub {a b : Int} {ty : TypeId} (ho : o.op = .binOp .sub t x y ty) (hx : ρ x = .int .i64 a) (hy : ρ y = .int .i64 b) (hb : -9223372036854775808 ≤ a - b ∧ a - b ≤ 9223372036854775807) :
  (execOp ρ o).run P w = .ok (.value (.int .i64 (a - b))) w := by
 unfold execOp
 simp only [ho, hx, hy]
 go_simp
 exact IntWalk.i64_in _ hb
theorem ex_mul {a b : Int} {ty : TypeId} (ho : o.op = .binOp .mul t x y ty) (hx : ρ x = .int .i64 a) (hy : ρ y = .int .i64 b) (hb : -9223372036854775808 ≤ a * b ∧ a * b ≤ 9223372036854775807) :
  (execOp ρ o).run P w = .ok (.value (.int .i64 (a * b))) w := by
 unfold execOp
 simp only [ho, hx, hy]
 go_simp
 exact IntWalk.i64_in _ hb
theorem ex_lss {a b : Int} {ty : TypeId} (ho : o.op = .binOp .lss t x y ty) (hx : ρ x = .int .i64 a) (hy : ρ y = .int .i64 b) : (execOp ρ o).run P w = .ok (.value (.bool (decide (a < b)))) w := by
 unfold execOp
 simp only [ho, hx, hy]
 go_simp
theorem ex_gtr {a b : Int} {ty : TypeId} (ho : o.op = .binOp .gtr t x y ty) (hx : ρ x = .int .i64 a) (hy : ρ y = .int .i64 b) : (execOp ρ o).run P w = .ok (.value (.bool (decide (b < a)))) w := by
 unfold execOp
 simp only [ho, hx, hy]
 go_simp
theorem ex_eql {a b : Int} {ty : TypeId} (ho : o.op = .binOp .eql t x y ty) (hx : ρ x = .int .i64 a) (hy : ρ y = .int .i64 b) : (execOp ρ o).run P w = .ok (.value (.bool (a == b))) w := by
 unfold execOp
 simp only [ho, hx, hy]
 go_simp
theorem ex_neq {a b : Int} {ty : TypeId} (ho : o.op = .binOp .neq t x y ty) (hx : ρ x = .int .i64 a) (hy : ρ y = .int .i64 b) : (execOp ρ o).run P w = .ok (.value (.bool (a != b))) w := by
 unfold execOp
 simp only [ho, hx, hy]
 go_simp
theorem ex_geq {a b : Int} {ty : TypeId} (ho : o.op = .binOp .geq t x y ty) (hx : ρ x = .int .i64 a) (hy : ρ y = .int .i64 b) : (execOp ρ o).run P w = .ok (.value (.bool (decide (b ≤ a)))) w := by
 unfold execOp
 simp only [ho, hx, hy]
 go_simp
theorem ex_leq {a b : Int} {ty : TypeId} (ho : o.op = .binOp .leq t x y ty) (hx : ρ x = .int .i64 a) (hy : ρ y = .int .i64 b) : (execOp ρ o).run P w = .ok (.value (.bool (decide (a ≤ b)))) w := by
 unfold execOp
 simp only [ho, hx, hy]
 go_simp
theorem ex_max {a b : Int} {t1 t2 : TypeId} (ho : o.op = .call { callee := .builtin .max, args := #[x, y], argTypes := #[t1, t2] }) (hx : ρ x = .int .i64 a) (hy : ρ y = .int .i64 b) : (execOp ρ o).run P w = .ok (.value (.int .i64 (max a b))) w := by
 unfold execOp
 simp only [ho, resolve, List.map_toArray, List.map_cons, List.map_nil, hx, hy]
 go_simp
 split <;> omega
theorem ex_min {a b : Int} {t1 t2 : TypeId} (ho : o.op = .call { callee := .builtin .min, args := #[x, y], argTypes := #[t1, t2] }) (hx : ρ x = .int .i64 a) (hy : ρ y = .int .i64 b) : (execOp ρ o).run P w = .ok (.value (.int .i64 (min a b))) w := by
 unfold execOp
 simp only [ho, resolve, List.map_toArray, List.map_cons, List.map_nil, hx, hy]
 go_simp
 split <;> omega
theorem ex_len {A : Option Addr} {n c : Nat} {e : TypeId} (ho : o.op = .call { callee := .builtin .len, args := #[x], argTypes := #[t] }) (ht : P.underlying t = some (.slice e)) (hx : ρ x = .slice A n c) : (execOp ρ o).run P w = .ok (.value (.int .i64 (n : Nat))) w := by
 unfold execOp
 simp only [ho, resolve, List.map_toArray, List.map_cons, List.map_nil, hx]
 go_simp
theorem ex_index {b off off' n c k sz : Nat} {e : TypeId} (ho : o.op = .indexAddr t x y) (hx : ρ x = .slice (some ⟨b, off, none⟩) n c) (hy : ρ y = .int .i64 (k : Nat)) (ht : P.underlying t = some (.slice e)) (hs : ∀ w, (sizeOf e).run P w = .ok sz w) (hk : k < n) (he : off + k * sz = off') :
  (execOp ρ o).run P w = .ok (.value (.pointer (some ⟨b, off', none⟩))) w := by
 have h1 := hs w
 have h2 : ¬ (k : Int) < 0 := by omega
 have h3 : (k : Int) < (n : Int) := by omega
 subst he
 unfold execOp
 simp only [ho, hx, hy]
 go_simp
end
section
variable {P : Program} {ops : Array Oper} {Q : Exit → Act → World → Prop} {md : Region.Mode} {S : Nat → World → Prop}
end
def W64 (x : Int) : Prop := -9223372036854775808 ≤ x ∧ x ≤ 9223372036854775807
theorem wf64 {x : Int} (h : W64 x) : (Lit.int .i64 x).wf = true := by
 unfold W64 at h
 simp [Lit.wf, IntKind.min, IntKind.max, IntKind.signed, IntKind.bits]; omega
def W2 (x : Int × Int) : Prop := W64 x.1 ∧ W64 x.2
structure KeyL (P : Program) {α : Type} (kt : TypeId) (kv : α → Value) (ok : α → Prop) : Prop where
 law : Maps.Keyed P kt
 key : ∀ x, ok x → ∃ kl, keyOf P kt (kv x) = some kl
 inj : ∀ x y, kv x = kv y → x = y
/-- A cell's datum; an element's, which may be a struct of such cells. -/
def rdCell : Value → Option (DataW Unit)
 | .int k a => some (.lit (.int k a))
 | .bool b => some (.lit (.bool b))
 | .string s => some (.lit (.string s.data.toList))
 | _ => none
def rdCells : List Value → Option (List (DataW Unit))
 | [] => some []
 | v :: l => match rdCell v, rdCells l with
  | some d, some ds => some (d :: ds)
  | _, _ => none
def rdE (P : Program) (e : TypeId) (v : Value) : Option (DataW Unit × List MemPlace) := match v with
 | .agg cs => match rdCells cs.toList with
  | some ds => some (.agg ds, [])
  | none => none
 | v => plainElem P e v
theorem rdE_lit {P : Program} {e : TypeId} {v : Value} {x : Lit} {ps : List MemPlace} (h : rdE P e v = some (.lit x, ps)) : plainElem (H := Unit) P e v = some (.lit x, ps) := by
 unfold rdE at h
 split at h
 ·split at h <;> cases h
 ·exact h
structure ElL (P : Program) {β : Type} (e : TypeId) (ev : β → Value) (ed : β → DataW Unit) (z : β) (okE : β → Prop) : Prop where
 zero : ∀ w, (zeroValue e).run P w = .ok (ev z) w
 okz : okE z
 rd : ∀ x, okE x → rdE P e (ev x) = some (ed x, [])
 inv : ∀ v x ps, rdE P e v = some (ed x, ps) → v = ev x
section
variable {P : Program} {α β : Type} {kt e t : TypeId} {kv : α → Value} {ok : α → Prop} {ev : β → Value} {ed : β → DataW Unit} {z : β} {okE : β → Prop}
def MapF (P : Program) (kt e : TypeId) (kv : α → Value) (ok : α → Prop) (ed : β → DataW Unit) (w : World) (b n c : Nat) (m : α → Option β) : Prop :=
 ∃ D, w.ownsMap P kt (rdE P e) b n D ∧ Maps.size D = c ∧ ∀ x kl, ok x → keyOf P kt (kv x) = some kl → Maps.has D kl = (m x).isSome ∧ ∀ u, D.atKey kl u = match m x with | some v => ed v | none => u
def upd [DecidableEq α] (m : α → Option β) (x : α) (v : β) : α → Option β := fun y => if y = x then some v else m y
theorem MapF.made (w : World) : MapF P kt e kv ok ed (w.alloc (.map #[] 0)) w.heap.size 0 0 (fun _ => none) :=
 ⟨_, World.ownsMap_made w _ _ _, rfl, fun x kl _ _ => ⟨by simp [Maps.has_eq], fun u => by simp [DataW.atKey]⟩⟩
variable {P : Program} {w : World} {b n c : Nat} {m : α → Option β}
theorem MapF.lt (h : MapF P kt e kv ok ed w b n c m) : b < w.heap.size := by obtain ⟨D, h1, -⟩ := h; exact h1.lt
theorem MapF.heap {w' : World} (h : MapF P kt e kv ok ed w b n c m) (hb : w'.heap[b]? = w.heap[b]?) : MapF P kt e kv ok ed w' b n c m := by
 obtain ⟨D, ⟨es, clock, h1, h2⟩, h3⟩ := h
 exact ⟨D, ⟨es, clock, hb.trans h1, h2⟩, h3⟩
theorem MapF.up {w' : World} (h : MapF P kt e kv ok ed w b n c m) (hb : Below w.heap.size w w') : MapF P kt e kv ok ed w' b n c m := h.heap (hb.block b h.lt)
theorem MapF.kept {w' : World} {row : Option Nat} (h : MapF P kt e kv ok ed w b n c m) (hg : w.grownBy w' row) (hne : some b ≠ row) : MapF P kt e kv ok ed w' b n c m := h.heap (hg.block b h.lt hne)
theorem MapF.le {n' : Nat} (h : MapF P kt e kv ok ed w b n c m) (hn : n ≤ n') : MapF P kt e kv ok ed w b n' c m := by
 obtain ⟨D, h1, h2⟩ := h; exact ⟨D, h1.mono hn, h2⟩
theorem MapF.put [DecidableEq α] (K : KeyL P kt kv ok) (E : ElL P e ev ed z okE) (ht : P.underlying t = some (.map kt e)) (h : MapF P kt e kv ok ed w b n c m) (hn : n < 1000000) {x : α} (hx : ok x) {v : β} (hv : okE v) :
  ∃ w', (Instr.mapUpdate t (.map (some b)) (kv x) (ev v)).run P w = .ok () w' ∧ MapF P kt e kv ok ed w' b (n + 1) (if (m x).isSome then c else c + 1) (upd m x v) ∧ w.grownBy w' (some b) := by
 obtain ⟨D, h1, h0, h2⟩ := h
 obtain ⟨kl, hk⟩ := K.key x hx
 obtain ⟨w', hrun, ho, hg⟩ := h1.update K.law ht (by unfold maxLen; omega) hk (E.rd v hv)
 refine ⟨w', hrun, ⟨_, ho, ?_, fun y kl' hy hk' => ?_⟩, hg⟩
 ·rw [Maps.size_put (h1.tidy K.law), (h2 x kl hx hk).1, h0]
 ·by_cases e1 : kl' = kl
  ·subst e1
   have e2 := K.inj _ _ (K.law.inj hk' hk)
   subst e2
   have hu : upd m y v y = some v := by unfold upd; rw [if_pos rfl]
   rw [hu]
   exact ⟨Maps.has_put_same h1.isMap (K.law.key hk) _, fun u => Maps.atKey_put_same h1.isMap (K.law.key hk) _ u⟩
  ·have hne : y ≠ x := by intro e2; subst e2; rw [hk] at hk'; injection hk' with hk'; exact e1 hk'.symm
   have hu : upd m x v y = m y := by unfold upd; rw [if_neg hne]
   rw [hu]
   exact ⟨(Maps.has_put_other e1 _).trans (h2 y kl' hy hk').1, fun u => (Maps.atKey_put_other e1 _ u).trans ((h2 y kl' hy hk').2 u)⟩
theorem MapF.look (K : KeyL P kt kv ok) (E : ElL P e ev ed z okE) (ht : P.underlying t = some (.map kt e)) (h : MapF P kt e kv ok ed w b n c m) {x : α} (hx : ok x) :
  (Instr.lookup t (.map (some b)) (kv x) false).run P w = .ok (ev ((m x).getD z)) w := by
 obtain ⟨D, h1, h0, h2⟩ := h
 obtain ⟨kl, hk⟩ := K.key x hx
 obtain ⟨v, ps, hrun, hv⟩ := h1.lookup K.law ht (E.zero w) (E.rd z E.okz) hk
 rw [(h2 x kl hx hk).2] at hv
 rw [hrun]
 have : v = ev ((m x).getD z) := by
  cases hm : m x with
  | none => rw [hm] at hv; exact E.inv _ _ _ hv
  | some y => rw [hm] at hv; exact E.inv _ _ _ hv
 rw [this]
theorem MapF.len (ht : P.underlying t = some (.map kt e)) (h : MapF P kt e kv ok ed w b n c m) (ty : TypeId) : (Builtin.len_ #[t] ty #[.map (some b)]).run P w = .ok (.int .i64 (c : Nat)) w := by
 obtain ⟨D, h1, h0, h2⟩ := h
 rw [← h0]; exact h1.len ht ty
end
def kI (x : Int) : Value := .int .i64 x
/-! Facts of the program, as instances (a text of each seat's has them). -/
class Und (P : Program) (t : TypeId) (u : outParam TypeDesc) : Prop where h : P.underlying t = some u
class Siz (P : Program) (t : TypeId) (k : outParam Nat) : Prop where h : ∀ w, (sizeOf t).run P w = .ok k w
class Agg (P : Program) (t : TypeId) (b : outParam Bool) : Prop where h : ∀ w, (isAgg t).run P w = .ok b w
class Zer (P : Program) (t : TypeId) (v : outParam Value) : Prop where h : ∀ w, (zeroValue t).run P w = .ok v w
class Fof (P : Program) (s f : Nat) (k : outParam Nat) : Prop where h : ∀ (b off : Nat) (w : World), (Instr.fieldAt s (.pointer (some ⟨b, off, none⟩)) f).run P w = .ok (.pointer (some ⟨b, off + k, none⟩)) w
class Inf (P : Program) (t : TypeId) (z : outParam Value) (k bytes : outParam Nat) : Prop where h : (P.info? t).map (fun i => (i.zero, i.size, i.bytes)) = some (some z, k, bytes)
class Cf (P : Program) (f : FuncId) : Prop where h : ∀ args w, (callFunc f args).run P w = .ok (.enter f args) w
theorem KI {P : Program} {t : TypeId} [u : Und P t (.int .i64)] : KeyL P t kI W64 where
 law := Maps.int_keyed u.h
 key := fun x hx => ⟨_, Maps.keyOf_int_mk u.h (wf64 hx)⟩
 inj := fun x y h => by simpa [kI] using h
/-! The elements. -/
def dB (x : Bool) : DataW Unit := .lit (.bool x)
def kB (x : Bool) : Value := .bool x
theorem LBool {P : Program} {t : TypeId} [u : Und P t .bool] [z : Zer P t (.bool false)] : ElL P t kB dB false (fun _ => True) where
 zero := z.h
 okz := trivial
 rd := fun x _ => by show plainElem _ _ _ = _; exact plainElem_bool u.h x
 inv := fun v x ps h => by
  unfold dB at h
  have h := rdE_lit h
  cases v <;> simp [plainElem, u.h] at h
  rw [h.1]; rfl
end Go.Proofs.YtmcpnoailbmkkaaGreat
/- The walk by live slots and items of memory. Over any program. -/
namespace Go.Proofs.YtmcpnoailbmkkaaGreat
open Go Go.RowKit Go.Proofs Go.Shelf
attribute [local go_sem] Oper.semAt_some


/-! ### Slots -/
abbrev Sl := List (Nat × Value)
def lk : Sl → Nat → Option Value
 | [], _ => none
 | (k, v) :: l, t => bif Nat.beq k t then some v else lk l t
def evl (l : Sl) : Operand → Option Value
 | .tmp t => lk l t
 | .const v => some v
 | .global g => some (.pointer (some ⟨g, 0, none⟩))
 | .func f => some (.func (.func f) #[] #[])
/-- The frame's live slots. -/
structure Fr (n : Nat) (l : Sl) (a : Act) : Prop where
 size : a.tmps.size = n
 defers : a.defers = []
 get : ∀ t v, lk l t = some v → a.tmps.getD t undef = v
def Cov : Sl → Sl → Prop
 | [], _ => True
 | (k, v) :: l', l => lk l k = some v ∧ Cov l' l
def evs (l : Sl) : List Operand → Option (List Value)
 | [] => some []
 | x :: r => match evl l x, evs l r with | some v, some vs => some (v :: vs) | _, _ => none
section
variable {P : Program} {n : Nat} {l l' : Sl} {a : Act}
theorem Fr.ev (h : Fr n l a) {x : Operand} {v : Value} (hx : evl l x = some v) : a.eval x = v := by
 cases x with
 | tmp t => exact h.get t v hx
 | const u => injection hx
 | global g => injection hx
 | func f => injection hx
theorem Fr.evs (h : Fr n l a) : ∀ {xs : List Operand} {vs : List Value}, evs l xs = some vs → xs.map a.eval = vs
 | [], vs, e => by cases e; rfl
 | x :: r, vs, e => by
  unfold Go.Proofs.YtmcpnoailbmkkaaGreat.evs at e
  cases h1 : evl l x with
  | none => simp [h1] at e
  | some v =>
   cases h2 : Go.Proofs.YtmcpnoailbmkkaaGreat.evs l r with
   | none => simp [h1, h2] at e
   | some us =>
    simp [h1, h2] at e
    subst e
    rw [List.map_cons, h.ev h1, Fr.evs h h2]
theorem Fr.put (h : Fr n l a) (d : Nat) (v : Value) (hd : Nat.ble n d = false) : Fr n ((d, v) :: l) (a.put (some d) v) := by
 have hd' : d < n := by rcases Nat.lt_or_ge d n with h' | h'; exact h'; rw [Nat.ble_eq_true_of_le h'] at hd; cases hd
 refine ⟨by simp [Act.put, h.size], h.defers, fun t u ht => ?_⟩
 unfold lk at ht
 unfold Act.put
 by_cases e : d = t
 ·subst e
  simp at ht
  subst ht
  have := h.size
  simp [Array.getD_eq_getD_getElem?, hd', this]
 ·have : Nat.beq d t = false := by cases hb : Nat.beq d t with
   | false => rfl
   | true => exact absurd (Nat.eq_of_beq_eq_true hb) e
  simp [this] at ht
  have h1 := h.get t u ht
  simp only [Array.getD_eq_getD_getElem?] at h1 ⊢
  rw [Array.getElem?_setIfInBounds_ne e]
  exact h1
theorem Cov.get : ∀ {l' : Sl}, Cov l' l → ∀ t v, lk l' t = some v → lk l t = some v
 | [], _, _, _, h => by cases h
 | (k, u) :: l', hc, t, v, h => by
  unfold lk at h
  cases hb : Nat.beq k t with
  | true =>
   simp [hb] at h
   have e := Nat.eq_of_beq_eq_true hb
   rw [← e, ← h]; exact hc.1
  | false =>
   simp [hb] at h
   exact Cov.get hc.2 t v h
theorem Fr.weak (h : Fr n l a) (hc : Cov l' l) : Fr n l' a := ⟨h.size, h.defers, fun t v ht => h.get t v (hc.get t v ht)⟩
def en : Nat → List Value → Sl
 | _, [] => []
 | k, v :: vs => (k, v) :: en (k + 1) vs
theorem lk_en : ∀ (vs : List Value) (k t : Nat) (v : Value), lk (en k vs) t = some v → k ≤ t ∧ vs[t - k]? = some v
 | [], _, _, _, h => by cases h
 | u :: vs, k, t, v, h => by
  unfold en lk at h
  cases hb : Nat.beq k t with
  | true =>
   have e := Nat.eq_of_beq_eq_true hb
   simp [hb] at h
   subst e h
   simp
  | false =>
   have e : k ≠ t := Nat.ne_of_beq_eq_false hb
   simp [hb] at h
   obtain ⟨h1, h2⟩ := lk_en vs (k + 1) t v h
   refine ⟨by omega, ?_⟩
   have : t - k = (t - (k + 1)) + 1 := by omega
   rw [this, List.getElem?_cons_succ]; exact h2
theorem Fr.start (args : List Value) (m : Nat) : Fr (args.length + m) (en 0 args) { tmps := args.toArray ++ Array.replicate m undef, defers := [] } := by
 refine ⟨by simp, rfl, fun t v ht => ?_⟩
 obtain ⟨-, h2⟩ := lk_en args 0 t v ht
 rw [Nat.sub_zero] at h2
 have hlt := (List.getElem?_eq_some_iff.1 h2).1
 simp only [Array.getD_eq_getD_getElem?]
 rw [Array.getElem?_append_left (by simpa using hlt)]
 simp [h2]
end

/-! ### Items of memory -/
/-- An item of memory: the blocks that it stands in, and what it says of the world. -/
structure It where
 /-- It is read alone: several such items may stand in one block. -/
 ro : Bool := false
 foot : Nat → Prop
 holds : World → Prop
 st : ∀ w w', (∀ b, foot b → w'.heap[b]? = w.heap[b]?) → holds w → holds w'
/-- The start of a call: the world, and which of its blocks the call may write. -/
structure Bs where
 w : World
 m : Nat → Prop
 /-- The round of a range over a function in which it runs; the calls that are put off. -/
 r : Option Nat := none
 d : List Deferred := []
abbrev bs (w : World) : Bs := ⟨w, fun _ => False, none, []⟩
def Bs.df (B : Bs) (a : Act) : Act := { a with defers := B.d }
@[simp] theorem Bs.df_tmps (B : Bs) (a : Act) : (B.df a).tmps = a.tmps := rfl
@[simp] theorem Bs.df_eval (B : Bs) (a : Act) (x : Operand) : (B.df a).eval x = a.eval x := by cases x <;> rfl
@[simp] theorem Bs.df_put (B : Bs) (a : Act) (d : Option Nat) (v : Value) : (B.df a).put d v = B.df (a.put d v) := by cases d <;> rfl
@[simp] theorem Bs.df_defers (B : Bs) (a : Act) : (B.df a).defers = B.d := rfl
structure Wd (B : Bs) (H : List It) (w : World) : Prop where
 os : w.os = B.w.os
 tape : w.tape = B.w.tape
 output : w.output = B.w.output
 size : B.w.heap.size ≤ w.heap.size
 block : ∀ b, b < B.w.heap.size → ¬ B.m b → w.heap[b]? = B.w.heap[b]?
 ok : ∀ A ∈ H, A.holds w ∧ ∀ b, A.foot b → (A.ro = true ∨ B.m b ∨ B.w.heap.size ≤ b) ∧ b < w.heap.size
 sep : H.Pairwise (fun A C => (A.ro = true ∧ C.ro = true) ∨ ∀ b, A.foot b → C.foot b → False)
/-- One item changes. -/
inductive At (A C : It) : List It → List It → Prop
 | here (l : List It) : At A C (A :: l) (C :: l)
 | there (D : It) {l l' : List It} : At A C l l' → At A C (D :: l) (D :: l')
inductive Rm (A : It) : List It → List It → Prop
 | here (l : List It) : Rm A (A :: l) l
 | there (D : It) {l l' : List It} : Rm A l l' → Rm A (D :: l) (D :: l')
/-- Some of the items, in some order. -/
inductive Pk : List It → List It → Prop
 | nil (H : List It) : Pk [] H
 | pick {A : It} {H H1 l : List It} : Rm A H H1 → Pk l H1 → Pk (A :: l) H
/-- The item A may have been written; all else stays. -/
structure Chg (A : It) (w w' : World) : Prop where
 os : w'.os = w.os
 tape : w'.tape = w.tape
 output : w'.output = w.output
 size : w.heap.size ≤ w'.heap.size
 block : ∀ b, b < w.heap.size → ¬ A.foot b → w'.heap[b]? = w.heap[b]?
theorem Rm.mem {A : It} {H H1 : List It} (h : Rm A H H1) : A ∈ H := by
 induction h with
 | here l => simp
 | there D h ih => simp [ih]
theorem Rm.sub {A : It} {H H1 : List It} (h : Rm A H H1) : ∀ C ∈ H1, C ∈ H := by
 induction h with
 | here l => intro C hC; simp [hC]
 | there D h ih =>
  intro C hC
  rcases List.mem_cons.1 hC with rfl | hC
  ·simp
  ·simp [ih C hC]
theorem Rm.sep {R : It → It → Prop} (hs : ∀ A C, R A C → R C A) {A : It} {H H1 : List It} (h : Rm A H H1) (hp : H.Pairwise R) : H1.Pairwise R ∧ ∀ C ∈ H1, R A C := by
 induction h with
 | here l =>
  rw [List.pairwise_cons] at hp
  exact ⟨hp.2, hp.1⟩
 | there D h ih =>
  rw [List.pairwise_cons] at hp
  obtain ⟨h1, h2⟩ := ih hp.2
  refine ⟨List.pairwise_cons.2 ⟨fun C hC => hp.1 C (h.sub C hC), h1⟩, fun C hC => ?_⟩
  rcases List.mem_cons.1 hC with rfl | hC
  ·exact hs _ _ (hp.1 A h.mem)
  ·exact h2 C hC
theorem Pk.sub {l H : List It} (h : Pk l H) : ∀ C ∈ l, C ∈ H := by
 induction h with
 | nil => intro C hC; cases hC
 | pick hr hk ih =>
  intro C hC
  rcases List.mem_cons.1 hC with rfl | hC
  ·exact hr.mem
  ·exact hr.sub C (ih C hC)
theorem Pk.sep {R : It → It → Prop} (hs : ∀ A C, R A C → R C A) {l H : List It} (h : Pk l H) : H.Pairwise R → l.Pairwise R := by
 induction h with
 | nil => intro _; exact List.Pairwise.nil
 | pick hr hk ih =>
  intro hp
  obtain ⟨h1, h2⟩ := hr.sep hs hp
  exact List.pairwise_cons.2 ⟨fun C hC => h2 C (hk.sub C hC), ih h1⟩
theorem At.rm {A C : It} {H H' : List It} (h : At A C H H') : ∃ H1, Rm A H H1 ∧ Rm C H' H1 := by
 induction h with
 | here l => exact ⟨l, .here l, .here l⟩
 | there D h ih => obtain ⟨H1, h1, h2⟩ := ih; exact ⟨D :: H1, .there D h1, .there D h2⟩
theorem Rm.of_mem {A C : It} {H H1 : List It} (h : Rm A H H1) (hC : C ∈ H) : C = A ∨ C ∈ H1 := by
 induction h with
 | here l => simpa using hC
 | there D h ih =>
  rcases List.mem_cons.1 hC with rfl | hC
  ·exact .inr (by simp)
  ·rcases ih hC with h | h
   ·exact .inl h
   ·exact .inr (by simp [h])
theorem Rm.pair {R : It → It → Prop} (hs : ∀ A C, R A C → R C A) {A : It} {H H1 : List It} (h : Rm A H H1) (hp : H1.Pairwise R) (ha : ∀ C ∈ H1, R A C) : H.Pairwise R := by
 induction h with
 | here l => exact List.pairwise_cons.2 ⟨ha, hp⟩
 | there D h ih =>
  rw [List.pairwise_cons] at hp
  refine List.pairwise_cons.2 ⟨fun C hC => ?_, ih hp.2 (fun C hC => ha C (by simp [hC]))⟩
  rcases h.of_mem hC with rfl | hC
  ·exact hs _ _ (ha D (by simp))
  ·exact hp.1 C hC
section
variable {P : Program} {B : Bs} {H H' : List It} {w w' : World}
def sepR (A C : It) : Prop := (A.ro = true ∧ C.ro = true) ∨ ∀ b, A.foot b → C.foot b → False
theorem sepR_symm (A C : It) (h : sepR A C) : sepR C A := by
 rcases h with ⟨h1, h2⟩ | h
 ·exact .inl ⟨h2, h1⟩
 ·exact .inr (fun b h1 h2 => h b h2 h1)
theorem sepR.out {A C : It} (h : sepR A C) (hr : A.ro = false) : ∀ b, A.foot b → C.foot b → False := by
 rcases h with ⟨h1, -⟩ | h
 ·rw [hr] at h1; cases h1
 ·exact h
theorem Wd.start (B : Bs) : Wd B [] B.w := ⟨rfl, rfl, rfl, Nat.le_refl _, fun _ _ _ => rfl, (fun _ h => (by cases h)), List.Pairwise.nil⟩
theorem Wd.below (h : Wd B H w) (hm : ∀ b, ¬ B.m b) : Below B.w.heap.size B.w w := ⟨h.os, h.tape, h.output, h.size, fun b hb => h.block b hb (hm b)⟩
theorem Wd.bel {w0 : World} (h : Wd (bs w0) H w) : Below w0.heap.size w0 w := h.below (fun _ h => h)
theorem Wd.pick (h : Wd B H w) (hk : Pk H' H) : Wd B H' w :=
 ⟨h.os, h.tape, h.output, h.size, h.block, fun A hA => h.ok A (hk.sub A hA), hk.sep (R := sepR) sepR_symm h.sep⟩
theorem Wd.up (h : Wd B H w) (hb : Below w.heap.size w w') : Wd B H w' :=
 ⟨hb.os.trans h.os, hb.tape.trans h.tape, hb.output.trans h.output, Nat.le_trans h.size hb.size, fun b h1 h2 => (hb.block b (Nat.lt_of_lt_of_le h1 h.size)).trans (h.block b h1 h2),
  fun A hA => ⟨A.st w w' (fun b hb' => hb.block b ((h.ok A hA).2 b hb').2) (h.ok A hA).1, fun b hb' => ⟨((h.ok A hA).2 b hb').1, Nat.lt_of_lt_of_le ((h.ok A hA).2 b hb').2 hb.size⟩⟩, h.sep⟩
theorem Wd.drew (h : Wd B H w) : Wd B H w.drew := h.up (Below.refl _ _).drew
theorem Wd.new (h : Wd B H w) (hb : Below w.heap.size w w') {A : It} (hA : A.holds w') (hf : ∀ b, A.foot b → w.heap.size ≤ b ∧ b < w'.heap.size) : Wd B (A :: H) w' := by
 have h' := h.up hb
 refine ⟨h'.os, h'.tape, h'.output, h'.size, h'.block, fun C hC => ?_, List.pairwise_cons.2 ⟨fun C hC => .inr (fun b h1 h2 => ?_), h.sep⟩⟩
 ·rcases List.mem_cons.1 hC with rfl | hC
  ·exact ⟨hA, fun b hb' => ⟨.inr (.inr (Nat.le_trans h.size (hf b hb').1)), (hf b hb').2⟩⟩
  ·exact h'.ok C hC
 ·have e1 := (hf b h1).1
  have e2 := ((h.ok C hC).2 b h2).2
  omega
theorem Wd.chg (h : Wd B H w) {A C : It} (ha : At A C H H') (hAr : A.ro = false) (hCr : C.ro = false) (hc : Chg A w w') (hC : C.holds w') (hf : ∀ b, C.foot b → (A.foot b ∨ w.heap.size ≤ b) ∧ b < w'.heap.size) : Wd B H' w' := by
 obtain ⟨H1, r1, r2⟩ := ha.rm
 have hA := h.ok A r1.mem
 have hsep := r1.sep (R := sepR) sepR_symm h.sep
 refine ⟨hc.os.trans h.os, hc.tape.trans h.tape, hc.output.trans h.output, Nat.le_trans h.size hc.size, fun b h1 h2 => ?_, fun D hD => ?_, ?_⟩
 ·refine (hc.block b (Nat.lt_of_lt_of_le h1 h.size) (fun hAb => ?_)).trans (h.block b h1 h2)
  rcases (hA.2 b hAb).1 with h3 | h3 | h3
  ·rw [hAr] at h3; cases h3
  ·exact h2 h3
  ·omega
 ·rcases r2.of_mem hD with rfl | hD
  ·refine ⟨hC, fun b hb => ⟨?_, (hf b hb).2⟩⟩
   rcases (hf b hb).1 with h1 | h1
   ·rcases (hA.2 b h1).1 with h3 | h3
    ·rw [hAr] at h3; cases h3
    ·exact .inr h3
   ·exact .inr (.inr (Nat.le_trans h.size h1))
  ·have hD' := h.ok D (r1.sub D hD)
   refine ⟨D.st w w' (fun b hb => hc.block b (hD'.2 b hb).2 (fun hAb => (hsep.2 D hD).out hAr b hAb hb)) hD'.1, fun b hb => ⟨(hD'.2 b hb).1, Nat.lt_of_lt_of_le (hD'.2 b hb).2 hc.size⟩⟩
 ·refine r2.pair (R := sepR) sepR_symm hsep.1 (fun D hD => .inr (fun b h1 h2 => ?_))
  rcases (hf b h1).1 with h3 | h3
  ·exact (hsep.2 D hD).out hAr b h3 h2
  ·have := ((h.ok D (r1.sub D hD)).2 b h2).2
   omega
/-- An item turns into another one in the same blocks. -/
theorem Wd.turn (h : Wd B H w) {A C : It} (ha : At A C H H') (hr : A.ro = true → C.ro = true) (hC : C.holds w) (hf : ∀ b, C.foot b → A.foot b) : Wd B H' w := by
 obtain ⟨H1, r1, r2⟩ := ha.rm
 have hA := h.ok A r1.mem
 have hsep := r1.sep (R := sepR) sepR_symm h.sep
 refine ⟨h.os, h.tape, h.output, h.size, h.block, fun D hD => ?_, ?_⟩
 ·rcases r2.of_mem hD with rfl | hD
  ·refine ⟨hC, fun b hb => ⟨?_, (hA.2 b (hf b hb)).2⟩⟩
   exact (hA.2 b (hf b hb)).1.imp_left hr
  ·exact h.ok D (r1.sub D hD)
 ·refine r2.pair (R := sepR) sepR_symm hsep.1 (fun D hD => ?_)
  rcases hsep.2 D hD with ⟨h1, h2⟩ | h1
  ·exact .inl ⟨hr h1, h2⟩
  ·exact .inr (fun b hb hd => h1 b (hf b hb) hd)
theorem At.mem {A C : It} (h : At A C H H') : A ∈ H := by obtain ⟨_, h1, -⟩ := h.rm; exact h1.mem
end

/-! ### Judgements -/
section
variable {P : Program} {n : Nat} {B : Bs} {Q Q' : Exit → Act → World → Prop} {l l' : Sl} {H H' : List It} {c x y : Code}
/-- What is let out at the end: no outgrown stack. -/
def NO (Q : Exit → Act → World → Prop) : Exit → Act → World → Prop
 | .outgrown, _, _ => False
 | .normal, a, w => Q .normal a w
 | .ret, a, w => Q .ret a w
 | .exit i, a, w => Q (.exit i) a w
 | .goto i, a, w => Q (.goto i) a w
 | .panic c, a, w => Q (.panic c) a w
theorem NO.imp {K : Exit → Act → World → Prop} (h : ∀ e a w, e ≠ .outgrown → Q e a w → K e a w) : ∀ e a w, NO Q e a w → K e a w := by
 intro e a w hq
 cases e <;> first | exact hq.elim | exact h _ a w (by simp) hq
theorem NO.nlet : ¬ LetsOut (NO Q) := fun ⟨_, _, h⟩ => h
/-- Nothing is put off. -/
def isDef : Op → Bool | .defer _ => true | _ => false
def ndL : List Oper → Bool | [] => true | o :: l => !isDef o.op && ndL l
theorem ndL_noDefer : ∀ {l : List Oper}, ndL l = true → noDefer l.toArray = true := by
 intro l h
 unfold noDefer
 rw [Array.all_eq_true']
 induction l with
 | nil => intro o ho; simp at ho
 | cons x l ih =>
  unfold ndL at h
  simp at h
  intro o ho
  rcases List.mem_cons.1 (by simpa using ho) with rfl | ho
  ·cases hx : o.op <;> simp_all [isDef]
  ·exact ih h.2 o (by simpa using ho)
/-- The fence of a round. -/
def wr (r : Option Nat) : Fence := { Fence.wide with round := r }
def Wp (P : Program) (r : Option Nat) (c : Code) (Q : Exit → Act → World → Prop) (a : Act) (w : World) : Prop := ∀ m, c.wpIn (wr r) m P (NO Q) a w
def J (P : Program) (n : Nat) (B : Bs) (c : Code) (Q : Exit → Act → World → Prop) (l : Sl) (H : List It) : Prop := ∀ a w, Fr n l a → Wd B H w → Wp P B.r c Q (B.df a) w
def JQ (n : Nat) (B : Bs) (Q : Exit → Act → World → Prop) (e : Exit) (l : Sl) (H : List It) : Prop := ∀ a w, Fr n l a → Wd B H w → Q e (B.df a) w
def JL (P : Program) (n : Nat) (B : Bs) (ops : Array Oper) (Q : Exit → Act → World → Prop) (rest : List Oper) (l : Sl) (H : List It) : Prop := ∀ a w, Fr n l a → Wd B H w → wpList P ops (NO Q) rest (B.df a) w
theorem J_start {f : FuncId} {fn : Func} {args : Array Value} {w : World} {R : Ending → World → Prop} (hr : B.r = none) (hd : B.d = []) {vs : List Value} {k : Nat} (hf : P.funcs[f]? = some fn) (hb : fn.body = some c) (ha : args = vs.toArray) (hn : fn.ntmps = n) (hk : vs.length + k = n) (hl : en 0 vs = l)
  (hH : Wd B H w) (h : J P n B c (bodyPost P fn R) l H) : Calls P f args w R := by
 subst ha hl
 refine calls_of_wp hf hb ?_
 have e : fn.ntmps - vs.toArray.size = k := by simp; omega
 rw [e]
 have h1 := h { tmps := vs.toArray ++ Array.replicate k undef, defers := [] } w (by rw [← hk]; exact Fr.start vs k) hH
 unfold Wp at h1
 rw [hr] at h1
 have e2 : B.df { tmps := vs.toArray ++ Array.replicate k undef, defers := [] } = { tmps := vs.toArray ++ Array.replicate k undef, defers := [] } := by unfold Bs.df; rw [hd]
 rw [e2] at h1
 exact wp_mono (wpIn_wide.1 (h1 0)) (NO.imp (fun _ _ _ _ h => h))
theorem J_enter {f : FuncId} {fn : Func} {args : Array Value} {w : World} {R : Ending → World → Prop} (m : Nat → Prop) {vs : List Value} {k : Nat} (hf : P.funcs[f]? = some fn) (hb : fn.body = some c) (ha : args = vs.toArray) (hn : fn.ntmps = n) (hk : vs.length + k = n) (hl : en 0 vs = l)
  (hH : Wd ⟨w, m, none, []⟩ H w) (h : J P n ⟨w, m, none, []⟩ c (bodyPost P fn R) l H) : Calls P f args w R := J_start rfl rfl hf hb ha hn hk hl hH h
theorem J_seq (h : J P n B x (Exit.then (Wp P B.r y Q) Q) l H) : J P n B (x.seq y) Q l H := fun a w h1 h2 m => wpIn_seq (wpIn_mono (h a w h1 h2 m) (by
 intro e a w hq
 cases e <;> first | exact hq m | exact hq))
theorem Fr.evD {a : Act} (h : Fr n l a) {x : Operand} {v : Value} (hx : evl l x = some v) : (B.df a).eval x = v := h.ev hx
theorem J_skip (h : JQ n B Q .normal l H) : J P n B .skip Q l H := fun a w h1 h2 _ => wpIn_skip (h a w h1 h2)
theorem J_exit {id : Nat} (h : JQ n B Q (.exit id) l H) : J P n B (.exit id) Q l H := fun a w h1 h2 _ => wpIn_exit (h a w h1 h2)
theorem J_ret (h : JQ n B Q .ret l H) : J P n B .ret Q l H := fun a w h1 h2 _ => wpIn_ret (h a w h1 h2)
theorem J_block {id : Nat} (h : J P n B c (Exit.inBlock id Q) l H) : J P n B (.block id c) Q l H := fun a w h1 h2 m => wpIn_block (wpIn_mono (h a w h1 h2 m) (by
 intro e a w hq
 cases e with
 | exit i =>
  show Exit.inBlock id (NO Q) (.exit i) a w
  have hq' : Exit.inBlock id Q (.exit i) a w := hq
  by_cases e : i = id
  ·subst e; simp only [Exit.inBlock, if_true] at hq' ⊢; exact hq'
  ·simp only [Exit.inBlock, if_neg e] at hq' ⊢; exact hq'
 | _ => exact hq))
theorem J_label {i : Nat} (h : JQ n B Q .normal l H) : J P n B (.label i) Q l H := fun a w h1 h2 _ => wpIn_label (h a w h1 h2)
theorem J_yes {c : Operand} {b : Bool} (hc : evl l c = some (.bool b)) (hb : b = true) (h1 : J P n B x Q l H) : J P n B (.cond c x y) Q l H := fun a w ha hw m =>
 wpIn_cond_true ((ha.evD hc).trans (by rw [hb])) (h1 a w ha hw m)
theorem J_no {c : Operand} {b : Bool} (hc : evl l c = some (.bool b)) (hb : b = false) (h1 : J P n B y Q l H) : J P n B (.cond c x y) Q l H := fun a w ha hw m =>
 wpIn_cond_false ((ha.evD hc).trans (by rw [hb])) (h1 a w ha hw m)
theorem J_keep (hc : Cov l' l) (h : J P n B c Q l' H) : J P n B c Q l H := fun a w ha hw => h a w (ha.weak hc) hw
/-- What an item says, and the world, while the walk stands. -/
theorem J_fact (h : (∃ w, Wd B H w) → J P n B c Q l H) : J P n B c Q l H := fun a w ha hw => h ⟨w, hw⟩ a w ha hw
theorem JQ_then_n (h : J P n B y Q' l H) : JQ n B (Exit.then (Wp P B.r y Q') Q) .normal l H := fun a w ha hw => h a w ha hw
theorem JQ_then_x {K : Act → World → Prop} {i : Nat} (h : JQ n B Q (.exit i) l H) : JQ n B (Exit.then K Q) (.exit i) l H := fun a w ha hw => h a w ha hw
theorem JQ_then_r {K : Act → World → Prop} (h : JQ n B Q .ret l H) : JQ n B (Exit.then K Q) .ret l H := fun a w ha hw => h a w ha hw
theorem JQ_block_n {i : Nat} (h : JQ n B Q .normal l H) : JQ n B (Exit.inBlock i Q) .normal l H := fun a w ha hw => h a w ha hw
theorem JQ_block_r {i : Nat} (h : JQ n B Q .ret l H) : JQ n B (Exit.inBlock i Q) .ret l H := fun a w ha hw => h a w ha hw
theorem JQ_block_y {i j : Nat} (hij : Nat.beq j i = true) (h : JQ n B Q .normal l H) : JQ n B (Exit.inBlock i Q) (.exit j) l H := fun a w ha hw => by
 have e := Nat.eq_of_beq_eq_true hij
 subst e
 simp only [Exit.inBlock, if_true]
 exact h a w ha hw
theorem JQ_block_x {i j : Nat} (hij : Nat.beq j i = false) (h : JQ n B Q (.exit j) l H) : JQ n B (Exit.inBlock i Q) (.exit j) l H := fun a w ha hw => by
 have e : j ≠ i := Nat.ne_of_beq_eq_false hij
 simp only [Exit.inBlock, if_neg e]
 exact h a w ha hw
/-- A loop's invariant: one of the states. -/
def LI {T : Type} (n : Nat) (B : T → Bs) (φ : T → Prop) (L : T → Sl) (HH : T → List It) (μ : T → Nat) (m : Nat) (a : Act) (w : World) : Prop := ∃ t, φ t ∧ μ t < m ∧ ∃ a0, a = (B t).df a0 ∧ Fr n (L t) a0 ∧ Wd (B t) (HH t) w
theorem wp_loop_ind {T : Type} {B : T → Bs} {r : Option Nat} (hB : ∀ t, (B t).r = r) {φ : T → Prop} {L : T → Sl} {HH : T → List It} {μ : T → Nat} (round : ∀ t, φ t → J P n (B t) c (Exit.then (LI n B φ L HH μ (μ t)) Q) (L t) (HH t)) (rm : Nat) :
  ∀ (m : Nat) (t : T) (a : Act) (w : World), μ t = m → φ t → Fr n (L t) a → Wd (B t) (HH t) w → ∀ (b : Frame) (k : List Item) (cs : List Frame), b.roundOf = (wr r).round → (wr r).fn b.fn → (wr r).room (cs.length + 1 + rm) → ∃ e a' w', NO Q e a' w' ∧ ArrivesIn (Machine.fenced P (wr r)) P (lone (b.atR ((B t).df a) (.code c :: .inLoop c :: k)) cs w) b k cs e a' w' := by
 intro m
 induction m using Nat.strongRecOn with
 | _ m ih =>
  intro t a w hm hφ ha hw b k cs hro hb hr
  have h0 := round t hφ a w ha hw rm
  rw [hB t] at h0
  obtain ⟨e, a₁, w₁, hq, harr⟩ := h0 b (.inLoop c :: k) cs hro hb hr
  cases e with
  | normal =>
   obtain ⟨t', h1, h2, a0, rfl, h3, h4⟩ := hq
   obtain ⟨e₂, a₂, w₂, hq₂, harr₂⟩ := ih (μ t') (hm ▸ h2) t' a0 w₁ rfl h1 h3 h4 b k cs hro hb hr
   exact ⟨e₂, a₂, w₂, hq₂, .of_steps (StepsIn.trans harr (.one (fenced_calm hb hr rfl) stepR_inLoop)) harr₂⟩
  | exit id => exact ⟨.exit id, a₁, w₁, show NO Q (.exit id) a₁ w₁ from hq, .pass (x := .inLoop c) rfl (fun _ _ => .inl (by simp)) harr⟩
  | goto l => exact ⟨.goto l, a₁, w₁, show NO Q (.goto l) a₁ w₁ from hq, .pass (x := .inLoop c) rfl (fun _ _ => .inl (by simp)) harr⟩
  | ret => exact ⟨.ret, a₁, w₁, show NO Q (.ret) a₁ w₁ from hq, .pass (x := .inLoop c) rfl (fun _ _ => .inl (by simp)) harr⟩
  | panic ch => exact ⟨.panic ch, a₁, w₁, show NO Q (.panic ch) a₁ w₁ from hq, .pass (x := .inLoop c) rfl (fun _ _ => .inl (by simp)) harr⟩
  | outgrown => exact ⟨.outgrown, a₁, w₁, show NO Q (.outgrown) a₁ w₁ from hq, .pass (x := .inLoop c) rfl (fun _ _ => .inl (by simp)) harr⟩
/-- A loop in which the calls that are put off grow. -/
theorem J_loopD {T : Type} (B : T → Bs) {r : Option Nat} (hB : ∀ t, (B t).r = r) (φ : T → Prop) (L : T → Sl) (HH : T → List It) (μ : T → Nat) (t0 : T) (h0 : φ t0) (hl : Cov (L t0) l) (hH : Pk (HH t0) H)
  (round : ∀ t, φ t → J P n (B t) c (Exit.then (LI n B φ L HH μ (μ t)) Q) (L t) (HH t)) : J P n (B t0) (.loop c) Q l H := by
 intro a w ha hw m
 rw [hB t0]
 intro b k cs hro hb hr
 obtain ⟨e, a', w', hq, harr⟩ := wp_loop_ind hB round m _ t0 a w rfl h0 (ha.weak hl) (hw.pick hH) b k cs hro hb hr
 exact ⟨e, a', w', hq, .of_steps (.one (fenced_calm hb hr rfl) stepR_loop) harr⟩
theorem J_loop {T : Type} (φ : T → Prop) (L : T → Sl) (HH : T → List It) (μ : T → Nat) (t0 : T) (h0 : φ t0) (hl : Cov (L t0) l) (hH : Pk (HH t0) H)
  (round : ∀ t, φ t → J P n B c (Exit.then (LI n (fun _ => B) φ L HH μ (μ t)) Q) (L t) (HH t)) : J P n B (.loop c) Q l H := J_loopD (fun _ => B) (fun _ => rfl) φ L HH μ t0 h0 hl hH round
/-- The end of a round. -/
theorem JQ_round {T : Type} {B : T → Bs} {φ : T → Prop} {L : T → Sl} {HH : T → List It} {μ : T → Nat} {m : Nat} (t : T) (h0 : φ t) (hm : μ t < m) (hl : Cov (L t) l) (hH : Pk (HH t) H) : JQ n (B t) (Exit.then (LI n B φ L HH μ m) Q) .normal l H :=
 fun a _ ha hw => ⟨t, h0, hm, a, rfl, ha.weak hl, hw.pick hH⟩
/-- A cut between two pieces of code. -/
def CutP {T : Type} (n : Nat) (B : Bs) (φ : T → Prop) (L : T → Sl) (HH : T → List It) (a : Act) (w : World) : Prop := ∃ t, φ t ∧ ∃ a0, a = B.df a0 ∧ Fr n (L t) a0 ∧ Wd B (HH t) w
theorem JQ_cut {T : Type} {φ : T → Prop} {L : T → Sl} {HH : T → List It} (t : T) (h0 : φ t) (hl : Cov (L t) l) (hH : Pk (HH t) H) : JQ n B (Exit.then (CutP n B φ L HH) Q) .normal l H :=
 fun a _ ha hw => ⟨t, h0, a, rfl, ha.weak hl, hw.pick hH⟩
/-! The function's end. -/
def rvS (tmps : Array Value) : ResultVar → Sem Value
 | .tmp t => pure (tmps.getD t undef)
 | .cell a t => do loadVar t (← asAddr (tmps.getD a undef))
theorem results_rvS (fn : Func) (tmps : Array Value) : results fn tmps = (do let vs ← fn.results.mapM (rvS tmps); pure (if h : vs.size = 1 then vs[0] else .tuple vs)) := by
 unfold results
 congr 1
def RR (P : Program) (n : Nat) (B : Bs) (l : Sl) (H : List It) (r : ResultVar) (v : Value) : Prop := ∀ a w, Fr n l a → Wd B H w → (rvS a.tmps r).run P w = .ok v w
theorem rr_tmp {t : Nat} {v : Value} (h : lk l t = some v) : RR P n B l H (.tmp t) v := fun a w ha _ => by
 show Result.ok (a.tmps.getD t undef) w = _
 rw [ha.get t v h]
theorem JR_one {fn : Func} {R : Ending → World → Prop} {r : ResultVar} {v : Value} (hr : fn.results = #[r]) (h1 : RR P n B l H r v) (hR : ∀ w, Wd B H w → R (.returned v) w) (hB : B.d = [] := by rfl) : JQ n B (bodyPost P fn R) .ret l H := fun a w ha hw => by
 refine ⟨hB, v, ?_, hR w hw⟩
 have h1 := h1 a w ha hw
 rw [results_rvS, hr]
 simp [h1]
theorem JR_end {fn : Func} {R : Ending → World → Prop} (hr : fn.results = #[]) (hR : ∀ w, Wd B H w → R (.returned (.tuple #[])) w) (hB : B.d = [] := by rfl) : JQ n B (bodyPost P fn R) .normal l H := fun _ w _ hw =>
 bodyPost_end (results_none hr _ _ _) hB (hR w hw)
theorem JR_none {fn : Func} {R : Ending → World → Prop} (hr : fn.results = #[]) (hR : ∀ w, Wd B H w → R (.returned (.tuple #[])) w) (hB : B.d = [] := by rfl) : JQ n B (bodyPost P fn R) .ret l H := fun _ w _ hw =>
 bodyPost_ret (results_none hr _ _ _) hB (hR w hw)
theorem JR_two {fn : Func} {R : Ending → World → Prop} {r s : ResultVar} {v u : Value} (hr : fn.results = #[r, s]) (h1 : RR P n B l H r v) (h2 : RR P n B l H s u) (hR : ∀ w, Wd B H w → R (.returned (.tuple #[v, u])) w) (hB : B.d = [] := by rfl) : JQ n B (bodyPost P fn R) .ret l H := fun a w ha hw => by
 refine ⟨hB, .tuple #[v, u], ?_, hR w hw⟩
 have h1 := h1 a w ha hw
 have h2 := h2 a w ha hw
 rw [results_rvS, hr]
 simp [h1, h2]
theorem JR_three {fn : Func} {R : Ending → World → Prop} {r s q : ResultVar} {v u x : Value} (hr : fn.results = #[r, s, q]) (h1 : RR P n B l H r v) (h2 : RR P n B l H s u) (h3 : RR P n B l H q x) (hR : ∀ w, Wd B H w → R (.returned (.tuple #[v, u, x])) w) (hB : B.d = [] := by rfl) : JQ n B (bodyPost P fn R) .ret l H := fun a w ha hw => by
 refine ⟨hB, .tuple #[v, u, x], ?_, hR w hw⟩
 have h1 := h1 a w ha hw
 have h2 := h2 a w ha hw
 have h3 := h3 a w ha hw
 rw [results_rvS, hr]
 simp [h1, h2, h3]
end

/- The walk by live slots and items of memory: regions, plain and drawn; operations. Over any program. -/

/-! ### Items -/
def cellB (b : Nat) (vs : List Value) (ty : TypeId) : It where
 foot k := k = b
 holds w := w.heap[b]? = some (.cells vs.toArray ty (0, 0))
 st _ _ h h1 := (h b rfl).trans h1
/-- A slice of the call's own, with what it holds. -/
def ownB (ty k : Nat) (A : Option Addr) (m c : Nat) (xs : List Value) : It where
 foot b := (Value.slice A m c).ownBlock = some b
 holds w := w.ownsRow 0 ty k (.slice A m c) m xs
 st _ _ h h1 := by
  obtain ⟨q1, q2⟩ := h1
  refine ⟨q1, q2.imp_right ?_⟩
  rintro ⟨g, cap, cur, q3, q4, q5, q6⟩
  exact ⟨g, cap, cur, q3, q4, (h g (by rw [q3]; rfl)).trans q5, q6⟩

section
variable {P : Program} {n : Nat} {B : Bs} {Q : Exit → Act → World → Prop} {l l' : Sl} {H H' : List It} {ops : Array Oper} {rest : List Oper} {o : Oper}

/-! ### What an operation does -/
/-- It is wanted (b), in such a frame. -/
def WN (ops : Array Oper) (n : Nat) (l : Sl) (o : Oper) (b : Bool) : Prop := ∀ a, Fr n l a → Region.wanted o (yielded ops a.tmps) = b
theorem wn0 (hg : o.guard = none) : WN ops n l o true := fun a _ => by simp [Region.wanted, hg]
theorem wn_of {g d : Nat} {b v : Bool} (hg : o.guard = some (g, b)) (hd : (ops[g]?).bind (·.dst) = some d) (hv : lk l d = some (.bool v)) : WN ops n l o (v == b) := fun a ha => by
 have h := ha.get d _ hv
 rw [Array.getD_eq_getD_getElem?] at h
 unfold Region.wanted yielded
 rw [hg]
 simp only [hd, Option.bind_some]
 cases h1 : a.tmps[d]? with
 | none => rw [h1] at h; cases h
 | some u =>
  rw [h1] at h
  simp only [Option.getD_some] at h
  subst h
  cases v <;> cases b <;> rfl
theorem wn_g {g d : Nat} {b v c : Bool} (hg : o.guard = some (g, b)) (hd : (ops[g]?).bind (·.dst) = some d) (hv : lk l d = some (.bool v)) (he : (v == b) = c) : WN ops n l o c := by
 subst he; exact wn_of hg hd hv
/-- Without a look at memory. -/
def RP (P : Program) (n : Nat) (l : Sl) (o : Oper) (v : Value) : Prop := ∀ a w, Fr n l a → (execOp a.eval o).run P w = .ok (.value v) w
/-- Memory is read. -/
def RV (P : Program) (n : Nat) (B : Bs) (l : Sl) (H : List It) (o : Oper) (v : Value) : Prop := ∀ a w, Fr n l a → Wd B H w → (execOp a.eval o).run P w = .ok (.value v) w
theorem RP.rv {v : Value} (h : RP P n l o v) : RV P n B l H o v := fun a w ha _ => h a w ha
/-- What an operation may have written: nothing that was there, or one item. -/
def Rl : Option It → World → World → Prop
 | none, w, w' => Below w.heap.size w w'
 | some A, w, w' => Chg A w w'
/-- An operation, whatever it does: it ends in one of the states t (m: the item that it may write). -/
def OpW (P : Program) (n : Nat) (B : Bs) (m : Option It) (l : Sl) (H : List It) (o : Oper) {T : Type} (φ : T → Prop) (D : T → Sl) (H' : T → List It) : Prop :=
 ∀ a w (K : Act → World → Prop) (Q : Exit → Act → World → Prop), Fr n l a → Wd B H w → (∀ t a' w', φ t → Fr n (D t) a' → Wd B (H' t) w' → Rl m w w' → K a' w') → o.wp P a w K Q

/-! ### Plain regions -/
theorem wpIn_plain {r : Option Nat} {ls : List Oper} {id m : Nat} {a : Act} {w : World} (hd : r = none ∨ ndL ls = true) (h : wpList P ls.toArray (NO Q) ls a w) : (Code.region id ls.toArray false).wpIn (wr r) m P (NO Q) a w := by
 cases r with
 | none => exact wpIn_wide.2 (wp_region_lit h)
 | some k =>
  rcases hd with hd | hd
  ·cases hd
  replace hd := ndL_noDefer hd
  refine wpIn_region_lit ?_
  have key : ∀ (xs : List Oper) (a : Act) (w : World), (∀ o ∈ xs, ∀ c, o.op ≠ .defer c) → wpList P ls.toArray (NO Q) xs a w → wpListIn (Fence.wide.inRound k) m P ls.toArray (NO Q) xs a w := by
   intro xs
   induction xs with
   | nil => intro a w _ h; exact h
   | cons o xs ih =>
    intro a w hn h
    have ih' : ∀ a w, wpList P ls.toArray (NO Q) xs a w → wpListIn (Fence.wide.inRound k) m P ls.toArray (NO Q) xs a w := fun a w => ih a w (fun o ho => hn o (by simp [ho]))
    have hnd := hn o (by simp)
    unfold wpList at h
    unfold wpListIn
    split
    ·rename_i hw
     rw [if_pos hw] at h
     rcases h with h | ⟨-, h⟩
     case inr => exact absurd h NO.nlet
     unfold Oper.wpIn
     refine ⟨fun _ _ => trivial, ?_⟩
     rw [Oper.semAt_plain _ _ _ hnd]
     unfold Oper.wp at h
     generalize (execOp a.eval o).run P w = r at h ⊢
     cases r with
     | ok x w' =>
      cases x <;> simp only [Oper.upon, Oper.uponIn] at h ⊢
      case value => exact ih' _ _ h
      case skip => exact ih' _ _ h
      case defer => exact ih' _ _ h
      case enter =>
       refine ⟨fun h => (by cases h), CallsIn.inRound k ((callsIn_wide (n := m - 1)).2 (h.mono ?_))⟩
       intro e w2 he
       cases e with
       | returned v => exact ih' _ _ he
       | _ => exact he
      case row => exact ⟨fun h => (by cases h), fun c cs _ => let ⟨v, w2, r, s⟩ := h c cs; ⟨v, w2, ih' _ _ r, stepsIn_wide.2 s⟩⟩
     | halt x w' => cases x <;> simp only [Oper.upon, Oper.uponIn] at h ⊢ <;> exact h
    ·rename_i hw
     rw [if_neg hw] at h
     exact ⟨fun _ _ => trivial, ih' _ _ h⟩
  exact key ls a w (fun o ho c hc => by
   unfold noDefer at hd
   have := (Array.all_eq_true'.1 hd) o (by simpa using ho)
   rw [hc] at this
   cases this) h
theorem J_reg {id : Nat} {ls : List Oper} (h : JL P n B ls.toArray Q ls l H) (hd : B.r = none ∨ ndL ls = true := by first | exact .inl rfl | exact .inr rfl) : J P n B (.region id ls.toArray false) Q l H := fun a w ha hw _ => wpIn_plain hd (h a w ha hw)
/-- An operation, with calls that are put off. -/
theorem OpW.go {m : Option It} {T : Type} {φ : T → Prop} {D : T → Sl} {H' : T → List It} (h : OpW P n B m l H o φ D H') {a : Act} {w : World} {K : Act → World → Prop} (ha : Fr n l a) (hw : Wd B H w) (hk : ∀ t a' w', φ t → Fr n (D t) a' → Wd B (H' t) w' → Rl m w w' → K (B.df a') w') : o.wp P (B.df a) w K Q := by
 have h1 := h a w (fun a' w' => a'.defers = [] ∧ K (B.df a') w') (fun e a w => Q e (B.df a) w) ha hw (fun t a' w' h1 h2 h3 h4 => ⟨h2.defers, hk t a' w' h1 h2 h3 h4⟩)
 unfold Oper.wp at h1 ⊢
 have he : (B.df a).eval = a.eval := by funext x; cases x <;> rfl
 rw [he]
 generalize (execOp a.eval o).run P w = r at h1 ⊢
 cases r with
 | ok x w' =>
  cases x <;> simp only [Oper.upon] at h1 ⊢
  case value => rw [Bs.df_put]; exact h1.2
  case skip => rw [Bs.df_put]; exact h1.2
  case defer => exact absurd h1.1 (by cases o.dst <;> simp [Act.put])
  case enter =>
   refine h1.mono ?_
   intro e w2 he
   cases e with
   | returned v => show K ((B.df a).put o.dst v) w2; rw [Bs.df_put]; exact he.2
   | panicked c => exact he
   | outgrown => obtain ⟨a', w', h⟩ := he; exact ⟨_, _, h⟩
  case row => exact h1.mono (fun v w2 h => by rw [Bs.df_put]; exact h.2)
 | halt x w' => cases x <;> simp only [Oper.upon] at h1 ⊢ <;> exact h1
theorem JL_nil (h : JQ n B Q .normal l H) : JL P n B ops Q [] l H := fun a w ha hw => wpList_nil (h a w ha hw)
theorem WN.D {b : Bool} (h : WN ops n l o b) {a : Act} (ha : Fr n l a) : Region.wanted o (yielded ops (B.df a).tmps) = b := h a ha
theorem JL_val {d : Nat} {v : Value} (hd : o.dst = some d) (hW : WN ops n l o true) (hv : RV P n B l H o v) (hn : Nat.ble n d = false) (k : JL P n B ops Q rest ((d, v) :: l) H) : JL P n B ops Q (o :: rest) l H := fun a w ha hw =>
 wpList_step (fun K hK => by
  rw [if_pos (hW.D ha)]
  unfold Oper.wp
  rw [show (execOp (B.df a).eval o).run P w = _ from hv a w ha hw]
  show K ((B.df a).put o.dst v) w
  rw [hd]
  exact hK _ _ (by rw [Bs.df_put]; exact k _ _ (ha.put d v hn) hw))
theorem JL_off {d : Nat} (hd : o.dst = some d) (hW : WN ops n l o false) (hn : Nat.ble n d = false) (k : JL P n B ops Q rest ((d, undef) :: l) H) : JL P n B ops Q (o :: rest) l H := fun a w ha hw =>
 wpList_step (fun K hK => by
  rw [if_neg (by rw [hW.D ha]; simp), hd]
  exact hK _ _ (by rw [Bs.df_put]; exact k _ _ (ha.put d _ hn) hw))
theorem JL_off0 (hd : o.dst = none) (hW : WN ops n l o false) (k : JL P n B ops Q rest l H) : JL P n B ops Q (o :: rest) l H := fun a w ha hw =>
 wpList_step (fun K hK => by
  rw [if_neg (by rw [hW.D ha]; simp), hd]
  exact hK _ _ (k _ _ ha hw))
theorem JL_op {m : Option It} {T : Type} {φ : T → Prop} {D : T → Sl} {G : T → List It} (hW : WN ops n l o true) (h : OpW P n B m l H o φ D G) (k : ∀ t, φ t → JL P n B ops Q rest (D t) (G t)) : JL P n B ops Q (o :: rest) l H := fun a w ha hw =>
 wpList_step (fun K hK => by
  rw [if_pos (hW.D ha)]
  exact h.go ha hw (fun t a' w' h1 h2 h3 _ => hK _ _ (k t h1 a' w' h2 h3)))
/-! ### Regions that draw their order -/
theorem wpAnyP_takeD0 {md : Region.Mode} {S : Nat → World → Prop} {i d : Nat} {oi : Oper} {v : Value} {fuel : Nat} {listed : Array Bool} {a : Act} {w : World} (hi : ops[i]? = some oi) (hd : oi.dst = some d)
  (hs : Region.noSelect ops = true) (hf : Region.free md ops listed i = true) (hr : (Region.ready md ops listed).contains i = true)
  (hQ : ∀ c a w, Q (.panic c) (a.put oi.dst v) w → Q (.panic c) a w) (hy : YieldsIf P ops (S i) oi v a) (hS : S i w)
  (h : wpAnyP P md ops Q S fuel (listed.setIfInBounds i true) (a.put (some d) v) w) : wpAnyP P md ops Q S (fuel + 1) listed a w :=
 wpAnyP_take hi hs hf hr hQ hy hS (by rw [hd]; exact h)
def SR (B : Bs) (ld : List Nat) (H0 : List It) (lx : List Nat) (Hx : List It) : Nat → World → Prop := fun i w => (ld.contains i = true → Wd B H0 w) ∧ (lx.contains i = true → Wd B Hx w)
def JA (P : Program) (n : Nat) (B : Bs) (ops : Array Oper) (Q : Exit → Act → World → Prop) (ld : List Nat) (H0 : List It) (lx : List Nat) (Hx : List It) (fuel : Nat) (listed : Array Bool) (l : Sl) (H : List It) : Prop :=
 ∀ a w, Fr n l a → Wd B H w → wpAnyP P .any ops (NQ Q) (SR B ld H0 lx Hx) fuel listed (B.df a) w
variable {P : Program} {ld lx : List Nat} {H0 Hx : List It} {fuel : Nat} {listed : Array Bool}
theorem wpIn_drawn {r : Option Nat} {ls : List Oper} {id m : Nat} {a : Act} {w : World} {S : Nat → World → Prop} (hd : r = none ∨ ndL ls = true) (hm : P.follows .mixedOrders = true) (h : wpAnyP P .any ls.toArray (NQ Q) S ls.length (Array.replicate ls.length false) a w.drew) : (Code.region id ls.toArray true).wpIn (wr r) m P (NO Q) a w := by
 cases r with
 | none => exact wpIn_wide.2 (wp_mono (wp_region_P S hm h) (fun e a w h => by cases e <;> first | exact h | exact h a rfl rfl | exact h.elim))
 | some k =>
  rcases hd with hd | hd
  ·cases hd
  exact wpR_region_N S hm (ndL_noDefer hd) (wpAnyP_ends (fun e a w h => by cases e <;> first | exact h | exact h.elim) _ _ _ _ h)
/-- ld: the reads that lean on all that is there now; lx: those that lean on some items alone. -/
theorem J_draw {id : Nat} {ls : List Oper} (ld : List Nat) (hm : P.follows .mixedOrders = true) (h : JA P n B ls.toArray Q ld H [] [] ls.length (Array.replicate ls.length false) l H) (hd : B.r = none ∨ ndL ls = true := by first | exact .inl rfl | exact .inr rfl) : J P n B (.region id ls.toArray true) Q l H := fun a w ha hw _ =>
 wpIn_drawn hd hm (h a w.drew ha hw.drew)
theorem J_drawX {id : Nat} {ls : List Oper} (ld lx : List Nat) (Hx : List It) (_ : Pk Hx H) (hm : P.follows .mixedOrders = true) (h : JA P n B ls.toArray Q ld H lx Hx ls.length (Array.replicate ls.length false) l H) (hd : B.r = none ∨ ndL ls = true := by first | exact .inl rfl | exact .inr rfl) : J P n B (.region id ls.toArray true) Q l H := fun a w ha hw _ =>
 wpIn_drawn hd hm (h a w.drew ha hw.drew)
theorem SR_no {i : Nat} {w : World} (hl : (ld ++ lx).contains i = false) : SR B ld H0 lx Hx i w := by
 simp at hl
 exact ⟨fun h => absurd (by simpa using h) hl.1, fun h => absurd (by simpa using h) hl.2⟩
theorem JA_takeP {i d : Nat} {v : Value} (hi : ops[i]? = some o) (hd : o.dst = some d) (hs : Region.noSelect ops = true) (hf : Region.free .any ops listed i = true) (hr : (Region.ready .any ops listed).contains i = true) (hl : (ld ++ lx).contains i = false)
  (hW : WN ops n l o true) (hv : RP P n l o v) (hn : Nat.ble n d = false) (k : JA P n B ops Q ld H0 lx Hx fuel (listed.setIfInBounds i true) ((d, v) :: l) H) : JA P n B ops Q ld H0 lx Hx (fuel + 1) listed l H := fun a _ ha hw =>
 wpAnyP_takeD0 hi hd hs hf hr (fun _ _ _ h => nq_panic h) (.inl ⟨hW a ha, fun w' _ => hv a w' ha⟩) (SR_no hl) (k _ _ (ha.put d v hn) hw)
theorem JA_takeL {i d : Nat} {v : Value} (hi : ops[i]? = some o) (hd : o.dst = some d) (hs : Region.noSelect ops = true) (hf : Region.free .any ops listed i = true) (hr : (Region.ready .any ops listed).contains i = true) (hl : ld.contains i = true) (hlx : lx.contains i = false) (hk : Pk H0 H)
  (hW : WN ops n l o true) (hv : RV P n B l H0 o v) (hn : Nat.ble n d = false) (k : JA P n B ops Q ld H0 lx Hx fuel (listed.setIfInBounds i true) ((d, v) :: l) H) : JA P n B ops Q ld H0 lx Hx (fuel + 1) listed l H := fun a _ ha hw =>
 wpAnyP_takeD0 hi hd hs hf hr (fun _ _ _ h => nq_panic h) (.inl ⟨hW a ha, fun w' hS => hv a w' ha (hS.1 hl)⟩) ⟨fun _ => hw.pick hk, (fun h => by rw [hlx] at h; cases h)⟩ (k _ _ (ha.put d v hn) hw)
theorem JA_takeX {i d : Nat} {v : Value} (hi : ops[i]? = some o) (hd : o.dst = some d) (hs : Region.noSelect ops = true) (hf : Region.free .any ops listed i = true) (hr : (Region.ready .any ops listed).contains i = true) (hl : ld.contains i = false) (hlx : lx.contains i = true) (hk : Pk Hx H)
  (hW : WN ops n l o true) (hv : RV P n B l Hx o v) (hn : Nat.ble n d = false) (k : JA P n B ops Q ld H0 lx Hx fuel (listed.setIfInBounds i true) ((d, v) :: l) H) : JA P n B ops Q ld H0 lx Hx (fuel + 1) listed l H := fun a _ ha hw =>
 wpAnyP_takeD0 hi hd hs hf hr (fun _ _ _ h => nq_panic h) (.inl ⟨hW a ha, fun w' hS => hv a w' ha (hS.2 hlx)⟩) ⟨(fun h => by rw [hl] at h; cases h), fun _ => hw.pick hk⟩ (k _ _ (ha.put d v hn) hw)
theorem JA_off {i d : Nat} (hi : ops[i]? = some o) (hd : o.dst = some d) (hs : Region.noSelect ops = true) (hf : Region.free .any ops listed i = true) (hr : (Region.ready .any ops listed).contains i = true) (hl : (ld ++ lx).contains i = false)
  (hW : WN ops n l o false) (hn : Nat.ble n d = false) (k : JA P n B ops Q ld H0 lx Hx fuel (listed.setIfInBounds i true) ((d, undef) :: l) H) : JA P n B ops Q ld H0 lx Hx (fuel + 1) listed l H := fun a _ ha hw =>
 wpAnyP_takeD0 hi hd hs hf hr (fun _ _ _ h => nq_panic h) (.inr ⟨hW a ha, rfl⟩) (SR_no hl) (k _ _ (ha.put d undef hn) hw)
/-- What an operation that may write must wait for: the reads. -/
def waitsB (ops : Array Oper) (ld : List Nat) (i : Nat) : Bool := ld.all fun k => !frB .any ops i k
theorem Wd.kept {A : It} {w w' : World} (h : Wd B H w) (hk : Pk (A :: Hx) H) (hAr : A.ro = false) (hc : Chg A w w') : Wd B Hx w' := by
 have h0 := h.pick hk
 have hs := List.pairwise_cons.1 h0.sep
 have hA := h0.ok A (by simp)
 refine ⟨hc.os.trans h.os, hc.tape.trans h.tape, hc.output.trans h.output, Nat.le_trans h.size hc.size, fun b h1 h2 => ?_, fun D hD => ?_, hs.2⟩
 ·refine (hc.block b (Nat.lt_of_lt_of_le h1 h.size) (fun hAb => ?_)).trans (h.block b h1 h2)
  rcases (hA.2 b hAb).1 with h3 | h3 | h3
  ·rw [hAr] at h3; cases h3
  ·exact h2 h3
  ·omega
 ·have hD' := h0.ok D (by simp [hD])
  exact ⟨D.st w w' (fun b hb => hc.block b (hD'.2 b hb).2 (fun hAb => sepR.out (hs.1 D hD) hAr b hAb hb)) hD'.1, fun b hb => ⟨(hD'.2 b hb).1, Nat.lt_of_lt_of_le (hD'.2 b hb).2 hc.size⟩⟩
/-- What a written item leaves of the reads. -/
def Kp (ops : Array Oper) (ld lx : List Nat) (Hx H : List It) (i : Nat) : Option It → Prop
 | none => True
 | some A => waitsB ops ld i = true ∧ (waitsB ops lx i = true ∨ (A.ro = false ∧ Pk (A :: Hx) H))
theorem SR_kept {i : Nat} {w w' : World} {m : Option It} (hw : Wd B H w) (hm : Kp ops ld lx Hx H i m) (hb : Rl m w w') : ∀ k, frB .any ops i k = true → SR B ld H0 lx Hx k w → SR B ld H0 lx Hx k w' := by
 intro k hf hS
 have hno : ∀ L : List Nat, waitsB ops L i = true → L.contains k = true → False := fun L h hl => by
  have h1 := List.all_eq_true.1 h k (by simpa using hl)
  rw [hf] at h1
  cases h1
 cases m with
 | none => exact ⟨fun h => (hS.1 h).up hb, fun h => (hS.2 h).up hb⟩
 | some A =>
  refine ⟨fun h => (hno _ hm.1 h).elim, fun h => ?_⟩
  rcases hm.2 with h2 | h2
  ·exact (hno _ h2 h).elim
  ·exact hw.kept h2.2 h2.1 hb
theorem wpOp_wp {i : Nat} {a : Act} {w : World} {K : Act → World → Prop} (hi : ops[i]? = some o) (hW : Region.wanted o (yielded ops a.tmps) = true) (h : o.wp P a w K Q) : wpOp P ops Q i K a w := by
 unfold wpOp
 simp only [hi, hW, if_true]
 exact .inl h
theorem JA_one {i : Nat} {m : Option It} {T : Type} {φ : T → Prop} {D : T → Sl} {G : T → List It} (hr : Region.ready .any ops listed = [i]) (hi : ops[i]? = some o) (hW : WN ops n l o true) (h : OpW P n B m l H o φ D G) (hm : Kp ops ld lx Hx H i m)
  (k : ∀ t, φ t → JA P n B ops Q ld H0 lx Hx fuel (listed.setIfInBounds i true) (D t) (G t)) : JA P n B ops Q ld H0 lx Hx (fuel + 1) listed l H := fun a _ ha hw =>
 wpAnyP_one hr (wpOp_wp hi (hW a ha) (h.go ha hw (fun t a' w' h1 h2 h3 hb => ⟨SR_kept hw hm hb, k t h1 a' w' h2 h3⟩)))
theorem JA_done (hr : Region.ready .any ops listed = []) (h : JQ n B Q .normal l H) : JA P n B ops Q ld H0 lx Hx fuel listed l H := fun a w ha hw => wpAnyP_done (Q := NQ Q) hr (h a w ha hw) _
/-! ### Operations without memory -/
theorem rp_move {x : Operand} {v : Value} (ho : o.op = .move x) (hx : evl l x = some v) : RP P n l o v := fun a w ha => by
 unfold execOp; rw [ho]; show Result.ok (Next.value (a.eval x)) w = _; rw [ha.ev hx]
theorem rp_assign {x : Operand} {v : Value} (ho : o.op = .assign x) (hx : evl l x = some v) : RP P n l o v := fun a w ha => by
 unfold execOp; rw [ho]; show Result.ok (Next.value (a.eval x)) w = _; rw [ha.ev hx]
theorem rp1 {x : Operand} {v u : Value} (hx : evl l x = some u) (h : ∀ (ρ : Operand → Value), ρ x = u → ∀ w, (execOp ρ o).run P w = .ok (.value v) w) : RP P n l o v := fun a w ha => h a.eval (ha.ev hx) w
theorem rp2 {x y : Operand} {v u t : Value} (hx : evl l x = some u) (hy : evl l y = some t) (h : ∀ (ρ : Operand → Value), ρ x = u → ρ y = t → ∀ w, (execOp ρ o).run P w = .ok (.value v) w) : RP P n l o v := fun a w ha => h a.eval (ha.ev hx) (ha.ev hy) w
theorem rp_nil {x : Operand} {b : Addr} (ho : o.op = .nilCheck x) (hx : evl l x = some (.pointer (some b))) : RP P n l o (.pointer (some b)) := fun a w ha => by
 unfold execOp; rw [ho]; simp only [ha.ev hx]; rfl
theorem rp_field {s f : Nat} {x : Operand} {b off k : Nat} (ho : o.op = .fieldAddr s x f) (hx : evl l x = some (.pointer (some ⟨b, off, none⟩))) (hf : ∀ b off w, (Instr.fieldAt s (.pointer (some ⟨b, off, none⟩)) f).run P w = .ok (.pointer (some ⟨b, off + k, none⟩)) w) :
  RP P n l o (.pointer (some ⟨b, off + k, none⟩)) := fun a w ha => by
 unfold execOp; rw [ho]; simp only [ha.ev hx, Sem.run_bind, hf, Result.andThen_ok, Sem.run_pure]
theorem rp_run2 {x y : Operand} {u t v : Value} {f : Value → Value → Sem Value} (ho : ∀ ρ, execOp ρ o = (do pure (.value (← f (ρ x) (ρ y))))) (hx : evl l x = some u) (hy : evl l y = some t) (hf : ∀ w, (f u t).run P w = .ok v w) : RP P n l o v := fun a w ha => by
 rw [ho, ha.ev hx, ha.ev hy]; simp only [Sem.run_bind, hf, Result.andThen_ok, Sem.run_pure]
def evp (l : Sl) : List (Nat × Operand) → Option (List (Nat × Value))
 | [] => some []
 | (i, x) :: r => match evl l x, evp l r with | some v, some vs => some ((i, v) :: vs) | _, _ => none
theorem Fr.evp {a : Act} (h : Fr n l a) : ∀ {xs : List (Nat × Operand)} {vs : List (Nat × Value)}, evp l xs = some vs → xs.map (fun p => (p.1, a.eval p.2)) = vs
 | [], vs, e => by cases e; rfl
 | (i, x) :: r, vs, e => by
  unfold Go.Proofs.YtmcpnoailbmkkaaGreat.evp at e
  cases h1 : evl l x with
  | none => simp [h1] at e
  | some v =>
   cases h2 : Go.Proofs.YtmcpnoailbmkkaaGreat.evp l r with
   | none => simp [h1, h2] at e
   | some us =>
    simp [h1, h2] at e
    subst e
    rw [List.map_cons, h.ev h1, Fr.evp h h2]
theorem rp_build {t : TypeId} {ps : List (Nat × Operand)} {us : List (Nat × Value)} {v : Value} (ho : o.op = .build t ps.toArray) (hx : evp l ps = some us) (hf : ∀ w, (Instr.build t us.toArray).run P w = .ok v w) : RP P n l o v := fun a w ha => by
 unfold execOp; rw [ho]
 have e : ps.toArray.map (fun x => (x.1, a.eval x.2)) = us.toArray := by rw [← ha.evp hx]; simp
 show ((Instr.build t (ps.toArray.map (fun x => (x.1, a.eval x.2)))).bind _).run P w = _
 rw [e]
 show Sem.run P (Instr.build t us.toArray >>= _) w = _
 rw [Sem.run_bind, hf]; rfl
theorem rp_func {fn : Fn} {fs cs : List Operand} {us vs : List Value} (ho : o.op = .makeFunc fn fs.toArray cs.toArray) (hx : evs l fs = some us) (hy : evs l cs = some vs) : RP P n l o (.func fn us.toArray vs.toArray) := fun a w ha => by
 unfold execOp; rw [ho]
 simp only [List.map_toArray, ha.evs hx, ha.evs hy]
 rfl
/-! ### Reads -/
theorem cellB_get {b : Nat} {vs : List Value} {ty : TypeId} {w : World} (h : (cellB b vs ty).holds w) {off : Nat} {v : Value} (hv : vs[off]? = some v) : w.cell? ⟨b, off, none⟩ = some v := by
 have h' : w.heap[b]? = some (.cells vs.toArray ty (0, 0)) := h
 simp [World.cell?, h', hv]
theorem run_load_agg0 {t : TypeId} {ad : Addr} {v : Value} {w : World} (hagg : ∀ w, (isAgg t).run P w = .ok false w) (hc : w.cell? ad = some v) : (Instr.loadAt t (.pointer (some ad))).run P w = .ok v w := by
 have h1 := hagg w
 show (loadVar t ad).run P w = _
 unfold loadVar
 rw [Sem.run_bind, h1]
 show (load ad).run P w = _
 simp [load, Sem.run, hc]
theorem run_load_agg1 {t : TypeId} {b off : Nat} {cs : List Value} {w : World} (hagg : ∀ w, (isAgg t).run P w = .ok true w) (hsz : ∀ w, (sizeOf t).run P w = .ok cs.length w) (hc : ∀ j v, cs[j]? = some v → w.cell? ⟨b, off + j, none⟩ = some v) : (Instr.loadAt t (.pointer (some ⟨b, off, none⟩))).run P w = .ok (.agg cs.toArray) w := by
 have h1 := hagg w
 have hl : (loadCells ⟨b, off, none⟩ cs.length).run P w = .ok cs.toArray w := run_loadCells_list (P := P) w ⟨b, off, none⟩ cs (fun j v hv => by rw [Addr.add_mid]; exact hc j v hv)
 show (loadVar t ⟨b, off, none⟩).run P w = _
 simp only [loadVar, Sem.run_bind, h1, hsz w, hl, Result.andThen_ok, Sem.run_pure, if_true]
theorem rv_read {t : TypeId} {x : Operand} {ad : Addr} {v : Value} (ho : o.op = .load t x) (hx : evl l x = some (.pointer (some ad))) (h : ∀ w, Wd B H w → (Instr.loadAt t (.pointer (some ad))).run P w = .ok v w) : RV P n B l H o v := fun a w ha hw => by
 unfold execOp; rw [ho]; simp only [ha.ev hx, Sem.run_bind, h w hw, Result.andThen_ok, Sem.run_pure]
/-- A cell of a block that is known whole. -/
theorem rv_cell {t : TypeId} {x : Operand} {b off : Nat} {v : Value} {vs : List Value} {ty : TypeId} (ho : o.op = .load t x) (hx : evl l x = some (.pointer (some ⟨b, off, none⟩))) (hagg : ∀ w, (isAgg t).run P w = .ok false w) (hm : cellB b vs ty ∈ H) (hv : vs[off]? = some v) : RV P n B l H o v :=
 rv_read ho hx (fun _ hw => run_load_agg0 hagg (cellB_get (hw.ok _ hm).1 hv))
theorem rv_agg {t : TypeId} {x : Operand} {b off : Nat} {cs vs : List Value} {ty : TypeId} (ho : o.op = .load t x) (hx : evl l x = some (.pointer (some ⟨b, off, none⟩))) (hagg : ∀ w, (isAgg t).run P w = .ok true w) (hsz : ∀ w, (sizeOf t).run P w = .ok cs.length w) (hm : cellB b vs ty ∈ H) (hv : (vs.drop off).take cs.length = cs) : RV P n B l H o (.agg cs.toArray) :=
 rv_read ho hx (fun _ hw => run_load_agg1 hagg hsz (fun j v hj => cellB_get (hw.ok _ hm).1 (by
  have hlt := (List.getElem?_eq_some_iff.1 hj).1
  rw [← hv, List.getElem?_take, if_pos hlt, List.getElem?_drop] at hj
  exact hj)))
/-- A cell that was there at the call's start. -/
theorem Wd.old {w : World} (hw : Wd B H w) {b off : Nat} {v : Value} (hm : ¬ B.m b) (hc : B.w.cell? ⟨b, off, none⟩ = some v) : w.cell? ⟨b, off, none⟩ = some v := by
 have hlt : b < B.w.heap.size := by
  rcases Nat.lt_or_ge b B.w.heap.size with h | h
  ·exact h
  ·simp [World.cell?, Array.getElem?_eq_none h] at hc
 have := hw.block b hlt hm
 simp only [World.cell?, this] at hc ⊢
 exact hc
theorem rv_old {t : TypeId} {x : Operand} {b off : Nat} {v : Value} (ho : o.op = .load t x) (hx : evl l x = some (.pointer (some ⟨b, off, none⟩))) (hagg : ∀ w, (isAgg t).run P w = .ok false w) (hm : ¬ B.m b) (hc : B.w.cell? ⟨b, off, none⟩ = some v) : RV P n B l H o v :=
 rv_read ho hx (fun _ hw => run_load_agg0 hagg (hw.old hm hc))
theorem rv_oldagg {t : TypeId} {x : Operand} {b off : Nat} {cs : List Value} (ho : o.op = .load t x) (hx : evl l x = some (.pointer (some ⟨b, off, none⟩))) (hagg : ∀ w, (isAgg t).run P w = .ok true w) (hsz : ∀ w, (sizeOf t).run P w = .ok cs.length w) (hm : ¬ B.m b) (hc : ∀ j v, cs[j]? = some v → B.w.cell? ⟨b, off + j, none⟩ = some v) : RV P n B l H o (.agg cs.toArray) :=
 rv_read ho hx (fun _ hw => run_load_agg1 hagg hsz (fun j v hj => hw.old hm (hc j v hj)))
theorem ownB_get {ty k m c : Nat} {A : Option Addr} {xs : List Value} {w : World} (h : (ownB ty k A m c xs).holds w) {b off : Nat} (hA : A = some ⟨b, 0, none⟩) {v : Value} (hv : xs[off]? = some v) : w.cell? ⟨b, off, none⟩ = some v := by
 have h' : w.ownsRow 0 ty k (.slice A m c) m xs := h
 have := h'.cells (g := b) (by rw [hA]; rfl) off v hv
 rwa [Addr.add_mid, Nat.zero_add] at this
theorem rv_own {t : TypeId} {x : Operand} {ty k m c b off : Nat} {v : Value} {xs : List Value} (ho : o.op = .load t x) (hx : evl l x = some (.pointer (some ⟨b, off, none⟩))) (hagg : ∀ w, (isAgg t).run P w = .ok false w) (hm : ownB ty k (some ⟨b, 0, none⟩) m c xs ∈ H) (hv : xs[off]? = some v) : RV P n B l H o v :=
 rv_read ho hx (fun _ hw => run_load_agg0 hagg (ownB_get (hw.ok _ hm).1 rfl hv))
theorem rv_ownagg {t : TypeId} {x : Operand} {ty k m c b off : Nat} {cs xs : List Value} (ho : o.op = .load t x) (hx : evl l x = some (.pointer (some ⟨b, off, none⟩))) (hagg : ∀ w, (isAgg t).run P w = .ok true w) (hsz : ∀ w, (sizeOf t).run P w = .ok cs.length w) (hm : ownB ty k (some ⟨b, 0, none⟩) m c xs ∈ H)
  (hv : ∀ j v, cs[j]? = some v → xs[off + j]? = some v) : RV P n B l H o (.agg cs.toArray) :=
 rv_read ho hx (fun _ hw => run_load_agg1 hagg hsz (fun j v hj => ownB_get (hw.ok _ hm).1 rfl (hv j v hj)))

/-! ### New blocks, stores, calls -/
theorem Fr.putN {a : Act} (h : Fr n l a) (o : Oper) (hd : o.dst = none) (v : Value) : Fr n l (a.put o.dst v) := by rw [hd]; exact h
theorem OpW.of_run {m : Option It} {T : Type} {φ : T → Prop} {V : T → Value} {G : T → List It} {d : Nat} (hd : o.dst = some d) (hn : Nat.ble n d = false)
  (h : ∀ a w, Fr n l a → Wd B H w → ∃ t w', φ t ∧ (execOp a.eval o).run P w = .ok (.value (V t)) w' ∧ Wd B (G t) w' ∧ Rl m w w') : OpW P n B m l H o φ (fun t => (d, V t) :: l) G := fun a w K Q ha hw k => by
 obtain ⟨t, w', h1, h2, h3, h4⟩ := h a w ha hw
 unfold Oper.wp
 rw [h2]
 show K (a.put o.dst (V t)) w'
 rw [hd]
 exact k t _ _ h1 (ha.put d _ hn) h3 h4
theorem OpW.of_skip {m : Option It} {T : Type} {φ : T → Prop} {G : T → List It} (hd : o.dst = none)
  (h : ∀ a w, Fr n l a → Wd B H w → ∃ t w', φ t ∧ (execOp a.eval o).run P w = .ok .skip w' ∧ Wd B (G t) w' ∧ Rl m w w') : OpW P n B m l H o φ (fun _ => l) G := fun a w K Q ha hw k => by
 obtain ⟨t, w', h1, h2, h3, h4⟩ := h a w ha hw
 unfold Oper.wp
 rw [h2]
 show K (a.put o.dst undef) w'
 exact k t _ _ h1 (ha.putN o hd _) h3 h4
/-- A new block of cells, at a pointer. -/
theorem ow_new {d : Nat} {vs : List Value} {ty : TypeId} (hd : o.dst = some d) (hn : Nat.ble n d = false) (h : ∀ a w, Fr n l a → (execOp a.eval o).run P w = .ok (.value (.pointer (some ⟨w.heap.size, 0, none⟩))) (w.alloc (.cells vs.toArray ty))) :
  OpW P n B none l H o (fun b : Nat => B.w.heap.size ≤ b) (fun b => (d, .pointer (some ⟨b, 0, none⟩)) :: l) (fun b => cellB b vs ty :: H) :=
 OpW.of_run hd hn (fun a w ha hw => ⟨w.heap.size, _, hw.size, h a w ha, hw.new ((Below.refl _ _).alloc (Nat.le_refl _) _) (heap_alloc_new w _) (fun b e => by cases e; simp), (show Below _ _ _ from (Below.refl _ _).alloc (Nat.le_refl _) _)⟩)
/-- A new array behind a slice. -/
theorem ow_newS {d k c : Nat} {vs : List Value} {ty : TypeId} (hd : o.dst = some d) (hn : Nat.ble n d = false) (h : ∀ a w, Fr n l a → (execOp a.eval o).run P w = .ok (.value (.slice (some ⟨w.heap.size, 0, none⟩) k c)) (w.alloc (.cells vs.toArray ty))) :
  OpW P n B none l H o (fun b : Nat => B.w.heap.size ≤ b) (fun b => (d, .slice (some ⟨b, 0, none⟩) k c) :: l) (fun b => cellB b vs ty :: H) :=
 OpW.of_run hd hn (fun a w ha hw => ⟨w.heap.size, _, hw.size, h a w ha, hw.new ((Below.refl _ _).alloc (Nat.le_refl _) _) (heap_alloc_new w _) (fun b e => by cases e; simp), (show Below _ _ _ from (Below.refl _ _).alloc (Nat.le_refl _) _)⟩)
theorem run_box {ty : TypeId} {v : Value} (w : World) : (Instr.box ty v).run P w = .ok (.pointer (some ⟨w.heap.size, 0, none⟩)) (w.alloc (.cells v.cells ty)) := rfl
theorem ow_box {d : Nat} {x : Operand} {v : Value} {vs : List Value} {ty : TypeId} (ho : o.op = .box ty x) (hx : evl l x = some v) (hv : v.cells = vs.toArray) (hd : o.dst = some d) (hn : Nat.ble n d = false) :
  OpW P n B none l H o (fun b : Nat => B.w.heap.size ≤ b) (fun b => (d, .pointer (some ⟨b, 0, none⟩)) :: l) (fun b => cellB b vs ty :: H) :=
 ow_new hd hn (fun a w ha => by unfold execOp; rw [ho]; simp only [ha.ev hx, Sem.run_bind, run_box, hv, Result.andThen_ok, Sem.run_pure])
theorem run_alloc {ty : TypeId} {v : Value} (hz : ∀ w, (zeroValue ty).run P w = .ok v w) (w : World) : (Instr.alloc ty true (.tuple #[])).run P w = .ok (.pointer (some ⟨w.heap.size, 0, none⟩)) (w.alloc (.cells v.cells ty)) := by
 unfold Instr.alloc
 rw [Sem.run_bind, hz]
 rfl
theorem ow_alloc {d : Nat} {v : Value} {vs : List Value} {ty : TypeId} (ho : o.op = .alloc ty) (hd : o.dst = some d) (hz : ∀ w, (zeroValue ty).run P w = .ok v w) (hv : v.cells = vs.toArray) (hn : Nat.ble n d = false) :
  OpW P n B none l H o (fun b : Nat => B.w.heap.size ≤ b) (fun b => (d, .pointer (some ⟨b, 0, none⟩)) :: l) (fun b => cellB b vs ty :: H) :=
 ow_new hd hn (fun a w _ => by unfold execOp; rw [ho]; simp only [Sem.run_bind, run_alloc hz, hv, Result.andThen_ok, Sem.run_pure])
theorem ow_slice {d len : Nat} {t ty : TypeId} {ps : List (Nat × Operand)} {us : List (Nat × Value)} {vs : List Value} (ho : o.op = .buildSlice t len ps.toArray) (hx : evp l ps = some us) (hd : o.dst = some d) (hf : ∀ w, (Instr.buildSlice t len us.toArray).run P w = .ok (.slice (some ⟨w.heap.size, 0, none⟩) len len) (w.alloc (.cells vs.toArray ty))) (hn : Nat.ble n d = false) :
  OpW P n B none l H o (fun b : Nat => B.w.heap.size ≤ b) (fun b => (d, .slice (some ⟨b, 0, none⟩) len len) :: l) (fun b => cellB b vs ty :: H) :=
 ow_newS hd hn (fun a w ha => by
  unfold execOp; rw [ho]
  have e : ps.toArray.map (fun x => (x.1, a.eval x.2)) = us.toArray := by rw [← ha.evp hx]; simp
  show Sem.run P (Instr.buildSlice t len (ps.toArray.map (fun x => (x.1, a.eval x.2))) >>= _) w = _
  rw [e, Sem.run_bind, hf]; rfl)
theorem run_storeAt {t ty : TypeId} {b off : Nat} {v : Value} {cs : List Value} {cur : Array Value} {w : World} (hcs : v.cells = cs.toArray) (hsz : ∀ w, (sizeOf t).run P w = .ok cs.length w) (h1 : ∀ u ∈ cs, u.oneCell' = true) (hb : w.heap[b]? = some (.cells cur ty (0, 0))) (hl : off + cs.length ≤ cur.size) :
  (Instr.storeAt t (.pointer (some ⟨b, off, none⟩)) v).run P w = .ok () (w.setRow b (cur.toList.take off ++ cs ++ cur.toList.drop (off + cs.length)).toArray) := by
 show (storeVar t ⟨b, off, none⟩ v).run P w = _
 unfold storeVar
 rw [Sem.run_bind, hsz w]
 have e : ¬ v.cells.size ≠ cs.length := by rw [hcs]; simp
 simp only [Result.andThen_ok, if_neg e]
 have := run_storeCells_at (P := P) b off ty cs 0 cur w hb (by omega) h1
 rw [Nat.add_zero] at this
 rw [hcs]
 exact this
/-- A store into a block that is known whole. -/
theorem ow_store {t ty : TypeId} {x y : Operand} {b off : Nat} {v : Value} {cs vs vs' : List Value} (ho : o.op = .store t x y) (hd : o.dst = none) (hx : evl l x = some (.pointer (some ⟨b, off, none⟩))) (hy : evl l y = some v) (hcs : v.cells = cs.toArray) (hsz : ∀ w, (sizeOf t).run P w = .ok cs.length w) (h1 : cs.all (·.oneCell') = true)
  (hat : At (cellB b vs ty) (cellB b vs' ty) H H') (hl : Nat.ble (off + cs.length) vs.length = true) (hv : vs.take off ++ cs ++ vs.drop (off + cs.length) = vs') :
  OpW P n B (some (cellB b vs ty)) l H o (fun _ : Unit => True) (fun _ => l) (fun _ => H') :=
 OpW.of_skip hd (fun a w ha hw => by
  have hb : w.heap[b]? = some (.cells vs.toArray ty (0, 0)) := (hw.ok _ hat.mem).1
  have hr := run_storeAt (P := P) hcs hsz (List.all_eq_true.1 h1) hb (by have := Nat.le_of_ble_eq_true hl; simpa using this)
  rw [hv] at hr
  have hc : Chg (cellB b vs ty) w (w.setRow b vs'.toArray) := ⟨rfl, rfl, rfl, by simp [World.setRow], fun k _ hk => setRow_other w b k _ hk⟩
  refine ⟨(), w.setRow b vs'.toArray, trivial, ?_, hw.chg (C := cellB b vs' ty) hat rfl rfl hc (setRow_heap w b _ _ ty _ hb) (fun k hk => ⟨.inl hk, ?_⟩), hc⟩
  ·unfold execOp; rw [ho]; simp only [ha.ev hx, ha.ev hy, Sem.run_bind, hr, Result.andThen_ok, Sem.run_pure]
  ·have : k = b := hk
   subst this
   have := (Array.getElem?_eq_some_iff.1 hb).1
   simpa [World.setRow] using this)
/-- A call's end: one of the states. -/
def CR {T : Type} (B : Bs) (φ : T → Prop) (V : T → Value) (G : T → List It) (m : Option It) (w : World) (e : Ending) (w' : World) : Prop := ∃ t, φ t ∧ e = .returned (V t) ∧ Wd B (G t) w' ∧ Rl m w w'
def EC (P : Program) (n : Nat) (l : Sl) (o : Oper) (f : FuncId) (args : Array Value) : Prop := ∀ a w, Fr n l a → (execOp a.eval o).run P w = .ok (.enter f args) w
theorem ec_fn {f : FuncId} {xs : List Operand} {ts : Array TypeId} {vs : List Value} (ho : o.op = .call { callee := .value (.func f), args := xs.toArray, argTypes := ts }) (hx : evs l xs = some vs) (hf : ∀ args w, (callFunc f args).run P w = .ok (.enter f args) w) : EC P n l o f vs.toArray := fun a w ha => by
 unfold execOp; rw [ho]
 simp only [resolve, List.map_toArray, ha.evs hx]
 have : (do let d ← Deferred.ofValue (a.eval (.func f)) vs.toArray; invoke d.target d.args) = callFunc f (vs.toArray ++ #[]) := by
  simp [Deferred.ofValue, Act.eval, invoke]
 rw [this, hf]
 simp
theorem ec_val {f : FuncId} {g : Operand} {fs cs : Array Value} {xs : List Operand} {ts : Array TypeId} {vs : List Value} (ho : o.op = .call { callee := .value g, args := xs.toArray, argTypes := ts }) (hg : evl l g = some (.func (.func f) fs cs)) (hx : evs l xs = some vs) (hf : ∀ args w, (callFunc f args).run P w = .ok (.enter f args) w) : EC P n l o f (fs ++ vs.toArray ++ cs) := fun a w ha => by
 unfold execOp; rw [ho]
 simp only [resolve, List.map_toArray, ha.evs hx, ha.ev hg]
 have : (do let d ← Deferred.ofValue (.func (.func f) fs cs) vs.toArray; invoke d.target d.args) = callFunc f (fs ++ vs.toArray ++ cs) := by
  simp [Deferred.ofValue, invoke]
 rw [this, hf]
theorem ow_call {m : Option It} {T : Type} {φ : T → Prop} {V : T → Value} {G : T → List It} {d : Nat} {f : FuncId} {args : Array Value} (he : EC P n l o f args) (hd : o.dst = some d) (hn : Nat.ble n d = false) (hC : ∀ w, Wd B H w → Calls P f args w (CR B φ V G m w)) : OpW P n B m l H o φ (fun t => (d, V t) :: l) G := fun a w K Q ha hw k => by
 unfold Oper.wp
 rw [he a w ha]
 refine (hC w hw).mono ?_
 rintro e w' ⟨t, h1, rfl, h3, h4⟩
 show K (a.put o.dst (V t)) w'
 rw [hd]
 exact k t _ _ h1 (ha.put d _ hn) h3 h4
/-- A call that leaves all as it lay. -/
theorem ow_callB {v : Value} {d : Nat} {f : FuncId} {args : Array Value} (he : EC P n l o f args) (hd : o.dst = some d) (hn : Nat.ble n d = false) (hC : ∀ w, Wd B H w → Calls P f args w (fun e w' => e = .returned v ∧ Below w.heap.size w w')) : OpW P n B none l H o (fun _ : Unit => True) (fun _ => (d, v) :: l) (fun _ => H) :=
 ow_call he hd hn (V := fun _ => v) (G := fun _ => H) (fun w hw => (hC w hw).mono fun _ _ ⟨h1, h2⟩ => ⟨(), trivial, h1, hw.up h2, h2⟩)
end

/- The walk by live slots: rules for this program's operations. -/

section
variable {P : Program} {n : Nat} {B : Bs} {Q : Exit → Act → World → Prop} {l l' : Sl} {H H' : List It} {ops : Array Oper} {rest : List Oper} {o : Oper} {ld lx : List Nat} {H0 Hx : List It} {fuel : Nat} {listed : Array Bool}
theorem Fr.known {d : Nat} {b : Bool} {p : Prop} [Decidable p] {a : Act} (hb : decide p = b) (h : Fr n ((d, .bool (decide p)) :: l) a) : Fr n ((d, .bool b) :: l) a := by rw [← hb]; exact h
theorem JL_dec {d : Nat} {p : Prop} [Decidable p] (h1 : p → JL P n B ops Q rest ((d, .bool true) :: l) H) (h2 : ¬ p → JL P n B ops Q rest ((d, .bool false) :: l) H) : JL P n B ops Q rest ((d, .bool (decide p)) :: l) H := fun a w ha hw => by
 by_cases hp : p
 ·exact h1 hp a w (ha.known (decide_eq_true hp)) hw
 ·exact h2 hp a w (ha.known (decide_eq_false hp)) hw
theorem Fr.knownB {d : Nat} {b c : Bool} {a : Act} (hb : b = c) (h : Fr n ((d, .bool b) :: l) a) : Fr n ((d, .bool c) :: l) a := by rw [← hb]; exact h
theorem JL_bool {d : Nat} {b : Bool} (h1 : b = true → JL P n B ops Q rest ((d, .bool true) :: l) H) (h2 : b = false → JL P n B ops Q rest ((d, .bool false) :: l) H) : JL P n B ops Q rest ((d, .bool b) :: l) H := fun a w ha hw => by
 cases hp : b
 ·exact h2 hp a w (ha.knownB hp) hw
 ·exact h1 hp a w (ha.knownB hp) hw
theorem JL_boolF {d : Nat} {b : Bool} (hb : b = false) (h1 : JL P n B ops Q rest ((d, .bool false) :: l) H) : JL P n B ops Q rest ((d, .bool b) :: l) H := fun a w ha hw => h1 a w (ha.knownB hb) hw
theorem JL_decT {d : Nat} {p : Prop} [Decidable p] (hp : p) (h1 : JL P n B ops Q rest ((d, .bool true) :: l) H) : JL P n B ops Q rest ((d, .bool (decide p)) :: l) H := fun a w ha hw => h1 a w (ha.known (decide_eq_true hp)) hw
theorem JL_decF {d : Nat} {p : Prop} [Decidable p] (hp : ¬ p) (h1 : JL P n B ops Q rest ((d, .bool false) :: l) H) : JL P n B ops Q rest ((d, .bool (decide p)) :: l) H := fun a w ha hw => h1 a w (ha.known (decide_eq_false hp)) hw
theorem JA_dec {d : Nat} {p : Prop} [Decidable p] (h1 : p → JA P n B ops Q ld H0 lx Hx fuel listed ((d, .bool true) :: l) H) (h2 : ¬ p → JA P n B ops Q ld H0 lx Hx fuel listed ((d, .bool false) :: l) H) : JA P n B ops Q ld H0 lx Hx fuel listed ((d, .bool (decide p)) :: l) H := fun a w ha hw => by
 by_cases hp : p
 ·exact h1 hp a w (ha.known (decide_eq_true hp)) hw
 ·exact h2 hp a w (ha.known (decide_eq_false hp)) hw
theorem JA_decT {d : Nat} {p : Prop} [Decidable p] (hp : p) (h1 : JA P n B ops Q ld H0 lx Hx fuel listed ((d, .bool true) :: l) H) : JA P n B ops Q ld H0 lx Hx fuel listed ((d, .bool (decide p)) :: l) H := fun a w ha hw => h1 a w (ha.known (decide_eq_true hp)) hw
theorem JA_decF {d : Nat} {p : Prop} [Decidable p] (hp : ¬ p) (h1 : JA P n B ops Q ld H0 lx Hx fuel listed ((d, .bool false) :: l) H) : JA P n B ops Q ld H0 lx Hx fuel listed ((d, .bool (decide p)) :: l) H := fun a w ha hw => h1 a w (ha.known (decide_eq_false hp)) hw
theorem rp_pickT {c x y : Operand} {v : Value} (ho : o.op = .pick c x y) (hc : evl l c = some (.bool true)) (hx : evl l x = some v) : RP P n l o v := fun a w ha => by
 unfold execOp; rw [ho]; simp only [ha.ev hc, ha.ev hx]; rfl
theorem rp_pickF {c x y : Operand} {v : Value} (ho : o.op = .pick c x y) (hc : evl l c = some (.bool false)) (hx : evl l y = some v) : RP P n l o v := fun a w ha => by
 unfold execOp; rw [ho]; simp only [ha.ev hc, ha.ev hx]; rfl
def flc (us : List Value) : List Value := us.flatMap fun v => v.cells.toList
theorem rp_buildC {t : TypeId} {ps : List (Nat × Operand)} {us : List (Nat × Value)} (C : List Value → List Value) (ho : o.op = .build t ps.toArray) (hx : evp l ps = some us) (hf : ∀ w, (Instr.build t us.toArray).run P w = .ok (.agg (flc (C (us.map (·.2)))).toArray) w) : RP P n l o (.agg (flc (C (us.map (·.2)))).toArray) := rp_build ho hx hf
theorem ow_sliceC {d len : Nat} {t ty : TypeId} {ps : List (Nat × Operand)} {us : List (Nat × Value)} {vs : List Value} (ho : o.op = .buildSlice t len ps.toArray) (hx : evp l ps = some us) (hv : flc (us.map (·.2)) = vs) (hd : o.dst = some d) (hn : Nat.ble n d = false) (hf : ∀ w, (Instr.buildSlice t len us.toArray).run P w = .ok (.slice (some ⟨w.heap.size, 0, none⟩) len len) (w.alloc (.cells vs.toArray ty))) :
  OpW P n B none l H o (fun b : Nat => B.w.heap.size ≤ b) (fun b => (d, .slice (some ⟨b, 0, none⟩) len len) :: l) (fun b => cellB b vs ty :: H) := by
 subst hv; exact ow_slice ho hx hd hf hn
theorem rp_fieldE {s f : Nat} {x : Operand} {b X i i' k : Nat} (ho : o.op = .fieldAddr s x f) (hx : evl l x = some (.pointer (some ⟨b, X + i, none⟩))) (hf : ∀ b off w, (Instr.fieldAt s (.pointer (some ⟨b, off, none⟩)) f).run P w = .ok (.pointer (some ⟨b, off + k, none⟩)) w) (he : i + k = i') :
  RP P n l o (.pointer (some ⟨b, X + i', none⟩)) := by
 subst he; rw [← Nat.add_assoc]; exact rp_field ho hx hf
theorem rp_arr {t : Nat} {x y : Operand} {b off k : Nat} {u : Value} (ho : o.op = .indexAddr t x y) (hx : evl l x = some (.pointer (some ⟨b, off, none⟩))) (hy : evl l y = some u) (hf : ∀ b off w, (Instr.indexAt t (.pointer (some ⟨b, off, none⟩)) u).run P w = .ok (.pointer (some ⟨b, off + k, none⟩)) w) :
  RP P n l o (.pointer (some ⟨b, off + k, none⟩)) := fun a w ha => by
 unfold execOp; rw [ho]; simp only [ha.ev hx, ha.ev hy, Sem.run_bind, hf, Result.andThen_ok, Sem.run_pure]
theorem rp_arrC {t : Nat} {x y : Operand} {b off off' k : Nat} {u : Value} (ho : o.op = .indexAddr t x y) (hx : evl l x = some (.pointer (some ⟨b, off, none⟩))) (hy : evl l y = some u) (hf : ∀ b off w, (Instr.indexAt t (.pointer (some ⟨b, off, none⟩)) u).run P w = .ok (.pointer (some ⟨b, off + k, none⟩)) w) (he : off + k = off') :
  RP P n l o (.pointer (some ⟨b, off', none⟩)) := by subst he; exact rp_arr ho hx hy hf
/-- x[:k]. -/
theorem rp_sliceTo {t e : TypeId} {x y : Operand} {A : Option Addr} {m c k sz : Nat} {i : Int} (ho : o.op = .slice t x none (some y) none) (hx : evl l x = some (.slice A m c)) (hy : evl l y = some (.int .i64 i)) (ht : P.underlying t = some (.slice e)) (hs : ∀ w, (sizeOf e).run P w = .ok sz w) (hi : i = (k : Nat)) (hk : k ≤ c) : RP P n l o (.slice A k c) := fun a w ha => by
 subst hi
 have h1 : ((k : Int) ≤ (c : Int)) := by omega
 have h2 : (0 : Int) ≤ (k : Int) := by omega
 have hA : (if c = 0 then A else A.map (·.add (0 * sz))) = A := by
  split
  ·rfl
  ·cases A with
   | none => rfl
   | some a => simp [Addr.add]
 have h3 : (underlying t).run P w = .ok (.slice e) w := by simp [underlying, ht]
 have hr : (Instr.sliceAt t (.slice A m c) none (some (.int .i64 k)) none).run P w = .ok (.slice A k c) w := by
  unfold Instr.sliceAt
  simp only [Sem.run_bind, h3, Result.andThen_ok]
  unfold Instr.slice
  simp only [Sem.run_bind, h3, Result.andThen_ok]
  unfold Instr.sliceBounds Instr.sliceBound
  simp only [Sem.run_bind, Sem.run_pure, Result.andThen_ok, asIntOf, h1, h2, and_self, if_true, hs, Int.toNat_natCast, Nat.sub_zero, hA]
 unfold execOp; rw [ho]
 simp only [ha.ev hx, ha.ev hy, Option.map_some, Option.map_none, Sem.run_bind, hr, Result.andThen_ok, Sem.run_pure]
/-- x[k:]. -/
theorem rp_sliceFrom {t e : TypeId} {x y : Operand} {A : Option Addr} {m c k sz : Nat} {i : Int} (ho : o.op = .slice t x (some y) none none) (hx : evl l x = some (.slice A m c)) (hy : evl l y = some (.int .i64 i)) (ht : P.underlying t = some (.slice e)) (hs : ∀ w, (sizeOf e).run P w = .ok sz w) (hi : i = (k : Nat)) (hk : k ≤ m) : RP P n l o (.slice (if c = k then A else A.map (·.add (k * sz))) (m - k) (c - k)) := fun a w ha => by
 subst hi
 have h1 : ((k : Int) ≤ (m : Int)) := by omega
 have h2 : (0 : Int) ≤ (k : Int) := by omega
 have h3 : (underlying t).run P w = .ok (.slice e) w := by simp [underlying, ht]
 have hr : (Instr.sliceAt t (.slice A m c) (some (.int .i64 k)) none none).run P w = .ok (.slice (if c = k then A else A.map (·.add (k * sz))) (m - k) (c - k)) w := by
  unfold Instr.sliceAt
  simp only [Sem.run_bind, h3, Result.andThen_ok]
  unfold Instr.slice
  simp only [Sem.run_bind, h3, Result.andThen_ok]
  unfold Instr.sliceBounds Instr.sliceBound
  simp only [Sem.run_bind, Sem.run_pure, Result.andThen_ok, asIntOf, h1, h2, and_self, if_true, hs, Int.toNat_natCast]
 unfold execOp; rw [ho]
 simp only [ha.ev hx, ha.ev hy, Option.map_some, Option.map_none, Sem.run_bind, hr, Result.andThen_ok, Sem.run_pure]
/-- The elements of a slice of the caller's. -/
theorem rv_hold {α : Type} {enc : α → List Value} {t : TypeId} {x : Operand} {b p j k i : Nat} {L : List α} {v : Value} (ho : o.op = .load t x) (hx : evl l x = some (.pointer (some ⟨b, p + j * k + i, none⟩))) (hagg : ∀ w, (isAgg t).run P w = .ok false w) (hm : ¬ B.m b) (hc : HoldL k enc B.w b p L) (hj : j < L.length) (hi : i < k) (hv : (enc (L[j]'hj))[i]? = some v) : RV P n B l H o v :=
 rv_old ho hx hagg hm (by rw [hc j hj i hi]; exact hv)
theorem rv_holdagg {α : Type} {enc : α → List Value} {k : Nat} (E : Enc k enc) {t : TypeId} {x : Operand} {b p j : Nat} {L : List α} {cs : List Value} (ho : o.op = .load t x) (hx : evl l x = some (.pointer (some ⟨b, p + j * k + 0, none⟩))) (hagg : ∀ w, (isAgg t).run P w = .ok true w) (hsz : ∀ w, (sizeOf t).run P w = .ok k w) (hm : ¬ B.m b) (hc : HoldL k enc B.w b p L) (hj : j < L.length) (hv : enc (L[j]'hj) = cs) : RV P n B l H o (.agg cs.toArray) := by
 subst hv
 refine rv_oldagg ho hx hagg (by rw [E.len]; exact hsz) hm (fun i v hi => ?_)
 have h := (List.getElem?_eq_some_iff.1 hi).1
 rw [E.len] at h
 rw [Nat.add_zero, hc j hj i h]; exact hi
theorem rr_cell {t c b : Nat} {v : Value} {vs : List Value} {ty : TypeId} (hx : lk l c = some (.pointer (some ⟨b, 0, none⟩))) (hagg : ∀ w, (isAgg t).run P w = .ok false w) (hm : cellB b vs ty ∈ H) (hv : vs[0]? = some v) : RR P n B l H (.cell c t) v := fun a w ha hw => by
 have e := ha.get c _ hx
 show (do loadVar t (← asAddr (a.tmps.getD c undef))).run P w = _
 rw [e]
 exact run_load_agg0 (P := P) hagg (cellB_get (hw.ok _ hm).1 hv)
theorem rr_agg {t c b : Nat} {cs : List Value} {vs : List Value} {ty : TypeId} (hx : lk l c = some (.pointer (some ⟨b, 0, none⟩))) (hagg : ∀ w, (isAgg t).run P w = .ok true w) (hsz : ∀ w, (sizeOf t).run P w = .ok cs.length w) (hm : cellB b vs ty ∈ H) (hv : vs = cs) : RR P n B l H (.cell c t) (.agg cs.toArray) := fun a w ha hw => by
 have e := ha.get c _ hx
 show (do loadVar t (← asAddr (a.tmps.getD c undef))).run P w = _
 rw [e]
 subst hv
 exact run_load_agg1 (P := P) hagg hsz (fun j v hj => cellB_get (hw.ok _ hm).1 (by rw [Nat.zero_add]; exact hj))
end
section
variable {P : Program} {ρ : Operand → Value} {o : Oper} {w : World} {x y : Operand} {t : TypeId}
theorem ex_eqlD {a b : Int} {ty : TypeId} (ho : o.op = .binOp .eql t x y ty) (hx : ρ x = .int .i64 a) (hy : ρ y = .int .i64 b) : (execOp ρ o).run P w = .ok (.value (.bool (decide (a = b)))) w := by
 rw [ex_eql ho hx hy]; congr
theorem ex_neqD {a b : Int} {ty : TypeId} (ho : o.op = .binOp .neq t x y ty) (hx : ρ x = .int .i64 a) (hy : ρ y = .int .i64 b) : (execOp ρ o).run P w = .ok (.value (.bool (decide (a ≠ b)))) w := by
 rw [ex_neq ho hx hy]
 have : (a != b) = decide (a ≠ b) := by by_cases h : a = b <;> simp [h]
 rw [this]
theorem ex_not {b : Bool} (ho : o.op = .unOp .not t x) (hx : ρ x = .bool b) : (execOp ρ o).run P w = .ok (.value (.bool (!b))) w := by
 unfold execOp
 simp only [ho, hx]
 go_simp
theorem ex_quo {a b : Int} {ty : TypeId} (ho : o.op = .binOp .quo t x y ty) (hx : ρ x = .int .i64 a) (hy : ρ y = .int .i64 b) (h1 : 0 ≤ a ∧ a ≤ 9223372036854775807) (h2 : 0 < b) : (execOp ρ o).run P w = .ok (.value (.int .i64 (a / b))) w := by
 have hb : ¬ b = 0 := by omega
 have h3 : a.tdiv b = a / b := Int.tdiv_eq_ediv_of_nonneg h1.1
 have h4 : 0 ≤ a / b := Int.ediv_nonneg h1.1 (by omega)
 have h5 : a / b ≤ a := Int.ediv_le_self b h1.1
 unfold execOp
 simp only [ho, hx, hy]
 go_simp
 exact IntWalk.i64_in _ (by omega)
theorem ex_rem {a b : Int} {ty : TypeId} (ho : o.op = .binOp .rem t x y ty) (hx : ρ x = .int .i64 a) (hy : ρ y = .int .i64 b) (h1 : 0 ≤ a ∧ a ≤ 9223372036854775807) (h2 : 0 < b) : (execOp ρ o).run P w = .ok (.value (.int .i64 (a % b))) w := by
 have hb : ¬ b = 0 := by omega
 have h3 : a.tmod b = a % b := Int.tmod_eq_emod_of_nonneg h1.1
 unfold execOp
 simp only [ho, hx, hy]
 go_simp
/-- An index into a slice. -/
theorem ex_indexE {b off n c k sz : Nat} {e : TypeId} (ho : o.op = .indexAddr t x y) (hx : ρ x = .slice (some ⟨b, off, none⟩) n c) (hy : ρ y = .int .i64 (k : Nat)) (ht : P.underlying t = some (.slice e)) (hs : ∀ w, (sizeOf e).run P w = .ok sz w) (hk : k < n) :
  (execOp ρ o).run P w = .ok (.value (.pointer (some ⟨b, off + k * sz + 0, none⟩))) w := ex_index ho hx hy ht hs hk rfl
theorem ex_indexI {b off n c k sz : Nat} {i : Int} {e : TypeId} (ho : o.op = .indexAddr t x y) (hx : ρ x = .slice (some ⟨b, off, none⟩) n c) (hy : ρ y = .int .i64 i) (hi : i = (k : Nat)) (ht : P.underlying t = some (.slice e)) (hs : ∀ w, (sizeOf e).run P w = .ok sz w) (hk : k < n) :
  (execOp ρ o).run P w = .ok (.value (.pointer (some ⟨b, off + k * sz + 0, none⟩))) w := by subst hi; exact ex_index ho hx hy ht hs hk rfl
end
/-! Reads of the call's own slices. -/
section
variable {P : Program} {n : Nat} {B : Bs} {l : Sl} {H : List It} {o : Oper}
theorem rv_ownE {α : Type} {k : Nat} {enc : α → List Value} (E : Enc k enc) {t : TypeId} {x : Operand} {ty m c b j i : Nat} {v : Value} {L : List α} (ho : o.op = .load t x) (hx : evl l x = some (.pointer (some ⟨b, 0 + j * k + i, none⟩))) (hagg : ∀ w, (isAgg t).run P w = .ok false w) (hm : ownB ty k (some ⟨b, 0, none⟩) m c (L.flatMap enc) ∈ H) (hj : j < L.length) (hi : i < k) (hv : (enc (L[j]'hj))[i]? = some v) : RV P n B l H o v :=
 rv_own ho hx hagg hm (by rw [Nat.zero_add, flat_get E hj i hi]; exact hv)
end

/- The walk by live slots: slices of the call's own, maps, calls that give memory. -/

section
variable {P : Program} {n : Nat} {B : Bs} {Q : Exit → Act → World → Prop} {l l' : Sl} {H H' : List It} {ops : Array Oper} {rest : List Oper} {o : Oper} {ld lx : List Nat} {H0 Hx : List It} {fuel : Nat} {listed : Array Bool} {c : Code} {w w' : World}
theorem Wd.own0 (h : Wd B H w) (ty k : Nat) : Wd B (ownB ty k none 0 0 [] :: H) w :=
 h.new (Below.refl _ _) (World.ownsRow_nil _ _ _ _) (fun b e => by cases e)
theorem J_own0 (ty k : Nat) (h : J P n B c Q l (ownB ty k none 0 0 [] :: H)) : J P n B c Q l H := fun a w ha hw => h a w ha (hw.own0 ty k)
theorem own_some {ty k m c : Nat} {A : Option Addr} {xs : List Value} (hw : ∃ w, Wd B H w) (hm : ownB ty k A m c xs ∈ H) (h : 0 < m) : ∃ g, A = some ⟨g, 0, none⟩ := by
 obtain ⟨w, hw⟩ := hw
 have h1 : w.ownsRow 0 ty k (.slice A m c) m xs := (hw.ok _ hm).1
 rcases h1.2 with ⟨-, h0⟩ | ⟨g, cap, cur, hv, -⟩
 ·omega
 ·injection hv with hv; exact ⟨g, hv⟩
/-- What a call gives back: the callee speaks of its own world. -/
theorem Wd.retR {G : List It} (h : Wd B H w) (hg : Wd (bs w) G w') (hro : ∀ A ∈ G, A.ro = true → ∀ C ∈ H, C.ro = false → ∀ b, A.foot b → C.foot b → False) : Wd B (G ++ H) w' := by
 have h' := h.up hg.bel
 refine ⟨h'.os, h'.tape, h'.output, h'.size, h'.block, fun A hA => ?_, List.pairwise_append.2 ⟨hg.sep, h.sep, fun A hA C hC => ?_⟩⟩
 ·rcases List.mem_append.1 hA with hA | hA
  ·refine ⟨(hg.ok A hA).1, fun b hb => ?_⟩
   obtain ⟨h1, h2⟩ := (hg.ok A hA).2 b hb
   rcases h1 with h1 | h1 | h1
   ·exact ⟨.inl h1, h2⟩
   ·exact h1.elim
   ·exact ⟨.inr (.inr (Nat.le_trans h.size h1)), h2⟩
  ·exact h'.ok A hA
 ·cases hAr : A.ro with
  | true =>
   cases hCr : C.ro with
   | true => exact .inl ⟨rfl, rfl⟩
   | false => exact .inr (hro A hA hAr C hC hCr)
  | false =>
   refine .inr (fun b h1 h2 => ?_)
   obtain ⟨h3, -⟩ := (hg.ok A hA).2 b h1
   have h4 := ((h.ok C hC).2 b h2).2
   rcases h3 with h3 | h3 | h3
   ·rw [hAr] at h3; cases h3
   ·exact h3
   ·have h3' : w.heap.size ≤ b := h3
    omega
theorem Wd.ret {G : List It} (h : Wd B H w) (hg : Wd (bs w) G w') (hn : (G.all fun A => !A.ro) = true) : Wd B (G ++ H) w' := h.retR hg (fun A hA hr => by
 have := List.all_eq_true.1 hn A hA
 rw [hr] at this; cases this)
/-- A function's end, with new memory. -/
def Ret {T : Type} (w : World) (φ : T → Prop) (V : T → Value) (G : T → List It) (e : Ending) (w' : World) : Prop := ∃ t, φ t ∧ e = .returned (V t) ∧ Wd (bs w) (G t) w'
def OpS (P : Program) (n : Nat) (B : Bs) (m : Option It) (l : Sl) (H : List It) (o : Oper) (D : Option Addr → Nat → Sl) (G : Option Addr → Nat → List It) : Prop :=
 OpW P n B m l H o (T := Option Addr × Nat) (fun _ => True) (fun t => D t.1 t.2) (fun t => G t.1 t.2)
theorem JL_opS {m : Option It} {D : Option Addr → Nat → Sl} {G : Option Addr → Nat → List It} (hW : WN ops n l o true) (h : OpS P n B m l H o D G) (k : ∀ A c, JL P n B ops Q rest (D A c) (G A c)) : JL P n B ops Q (o :: rest) l H :=
 JL_op hW h (fun t _ => k t.1 t.2)
theorem JA_oneS {i : Nat} {m : Option It} {D : Option Addr → Nat → Sl} {G : Option Addr → Nat → List It} (hr : Region.ready .any ops listed = [i]) (hi : ops[i]? = some o) (hW : WN ops n l o true) (h : OpS P n B m l H o D G) (hm : Kp ops ld lx Hx H i m)
  (k : ∀ A c, JA P n B ops Q ld H0 lx Hx fuel (listed.setIfInBounds i true) (D A c) (G A c)) : JA P n B ops Q ld H0 lx Hx (fuel + 1) listed l H :=
 JA_one hr hi hW h hm (fun t _ => k t.1 t.2)
theorem ow_callR {T : Type} {φ : T → Prop} {V : T → Value} {G : T → List It} {d : Nat} {f : FuncId} {args : Array Value} (he : EC P n l o f args) (hd : o.dst = some d) (hn : Nat.ble n d = false) (hr : ∀ t, ((G t).all fun A => !A.ro) = true) (hC : ∀ w, Wd B H w → Calls P f args w (Ret w φ V G)) : OpW P n B none l H o φ (fun t => (d, V t) :: l) (fun t => G t ++ H) :=
 ow_call (m := none) he hd hn (V := V) (fun w hw => (hC w hw).mono fun _ _ ⟨t, h0, h1, h2⟩ => ⟨t, h0, h1, hw.ret h2 (hr t), h2.bel⟩)
/-- Elements out of a block that is known whole. -/
theorem news_cell {b : Nat} {cs : List Value} {ty : TypeId} (hm : cellB b cs ty ∈ H) (hw : Wd B H w) : ∀ j u, cs[j]? = some u → w.cell? ((⟨b, 0, none⟩ : Addr).add j) = some u := fun j u hu => by
 rw [Addr.add_mid, Nat.zero_add]; exact cellB_get (hw.ok _ hm).1 hu
end

section
variable {P : Program} {n : Nat} {B : Bs} {Q : Exit → Act → World → Prop} {l l' : Sl} {H H' : List It} {ops : Array Oper} {rest : List Oper} {o : Oper}
theorem ow_app {α : Type} {k : Nat} {enc : α → List Value} (E : Enc k enc) (hk : 0 < k) {sl e : TypeId} {z : Value} {bytes d : Nat} {x y : Operand} {A : Option Addr} {c m c' : Nat} {a : Addr} {L M : List α} {G : Option Addr → Nat → List It}
  (ht : P.underlying sl = some (.slice e)) (hinf : (P.info? e).map (fun i => (i.zero, i.size, i.bytes)) = some (some z, k, bytes)) (hzs : z.cells.size = k) (hby : bytes ≤ 128)
  (ho : o.op = .call { callee := .builtin .append, args := #[x, y], argTypes := #[sl, sl] }) (hd : o.dst = some d) (hn : Nat.ble n d = false) (hx : evl l x = some (.slice A L.length c)) (hy : evl l y = some (.slice (some a) m c')) (hm : m = M.length)
  (hnews : ∀ w, Wd B H w → ∀ j u, (M.flatMap enc)[j]? = some u → w.cell? (a.add j) = some u) (hl : L.length + M.length ≤ 1000000)
  (hat : ∀ A' c', At (ownB e k A L.length c (L.flatMap enc)) (ownB e k A' (L ++ M).length c' ((L ++ M).flatMap enc)) H (G A' c')) : OpS P n B (some (ownB e k A L.length c (L.flatMap enc))) l H o (fun A' c' => (d, .slice A' (L ++ M).length c') :: l) G :=
 OpW.of_run (T := Option Addr × Nat) (φ := fun _ => True) (G := fun t => G t.1 t.2) hd hn (V := fun t => .slice t.1 (L ++ M).length t.2) (fun a1 w ha hw => by
  have hown : Own 0 e k enc w (.slice A L.length c) L := (hw.ok _ (hat none 0).mem).1
  obtain ⟨v', w', h1, h2, h3, h4, A', c2, rfl⟩ := run_app (sl := sl) (ty := o.type) E hk ht hinf hzs hby hown (a := a) (m := m) (c := c') hm (hnews w hw) hl (Nat.zero_le _)
  rw [← List.length_append] at h1 h2 h4
  have hc : Chg (ownB e k A L.length c (L.flatMap enc)) w w' := ⟨h3.os, h3.tape, h3.output, h3.size, fun b hb hnb => h3.block b hb (fun e => hnb e.symm)⟩
  refine ⟨(A', c2), w', trivial, run_append_op ho (ha.ev hx) (ha.ev hy) h1, hw.chg (hat A' c2) rfl rfl hc ?_ (fun b hb => ?_), hc⟩
  ·exact h2
  ·have hb' : (Value.slice A' (L ++ M).length c2).ownBlock = some b := hb
   rw [hb'] at h4
   refine ⟨?_, (World.ownsRow.lt h2 b hb').2⟩
   rcases h4 with h4 | h4
   ·exact .inl h4.symm
   ·injection h4 with h4; exact .inr (Nat.le_of_eq h4.symm))
/-- append(s, x): the element lies in a block of its own. -/
theorem ow_app1 {α : Type} {k : Nat} {enc : α → List Value} (E : Enc k enc) (hk : 0 < k) {sl e ty' : TypeId} {z : Value} {bytes d : Nat} {x y : Operand} {A : Option Addr} {c c' b : Nat} {L : List α} {cs : List Value} {G : Option Addr → Nat → List It} (r : α)
  (ht : P.underlying sl = some (.slice e)) (hinf : (P.info? e).map (fun i => (i.zero, i.size, i.bytes)) = some (some z, k, bytes)) (hzs : z.cells.size = k) (hby : bytes ≤ 128)
  (ho : o.op = .call { callee := .builtin .append, args := #[x, y], argTypes := #[sl, sl] }) (hd : o.dst = some d) (hn : Nat.ble n d = false) (hx : evl l x = some (.slice A L.length c)) (hy : evl l y = some (.slice (some ⟨b, 0, none⟩) 1 c')) (hm : cellB b cs ty' ∈ H) (hcs : cs = enc r) (hl : L.length + 1 ≤ 1000000)
  (hat : ∀ A' c', At (ownB e k A L.length c (L.flatMap enc)) (ownB e k A' (L ++ [r]).length c' ((L ++ [r]).flatMap enc)) H (G A' c')) : OpS P n B (some (ownB e k A L.length c (L.flatMap enc))) l H o (fun A' c' => (d, .slice A' (L ++ [r]).length c') :: l) G :=
 ow_app (M := [r]) E hk ht hinf hzs hby ho hd hn hx hy rfl (fun w hw j u hu => news_cell hm hw j u (by rw [hcs]; simpa using hu)) hl hat
/-- A store into an element of an own slice. -/
theorem ow_storeE {α : Type} {k : Nat} {enc : α → List Value} (E : Enc k enc) {P : Program} {t ty : TypeId} {x y : Operand} {b j i m c : Nat} {L : List α} {v : Value} {cs : List Value} (r : α) (ho : o.op = .store t x y) (hd : o.dst = none) (hx : evl l x = some (.pointer (some ⟨b, 0 + j * k + i, none⟩))) (hy : evl l y = some v) (hcs : v.cells = cs.toArray) (hsz : ∀ w, (sizeOf t).run P w = .ok cs.length w) (h1 : cs.all (·.oneCell') = true)
  (hat : At (ownB ty k (some ⟨b, 0, none⟩) m c (L.flatMap enc)) (ownB ty k (some ⟨b, 0, none⟩) m c ((L.set j r).flatMap enc)) H H')
  (hj : j < L.length) (hi : i + cs.length ≤ k) (hr : enc r = (enc (L[j]'hj)).take i ++ cs ++ (enc (L[j]'hj)).drop (i + cs.length)) :
  OpW P n B (some (ownB ty k (some ⟨b, 0, none⟩) m c (L.flatMap enc))) l H o (fun _ : Unit => True) (fun _ => l) (fun _ => H') :=
 OpW.of_skip hd (fun a w ha hw => by
  have hown : w.ownsRow 0 ty k (.slice (some ⟨b, 0, none⟩) m c) m (L.flatMap enc) := (hw.ok _ hat.mem).1
  obtain ⟨q1, q2⟩ := hown
  rcases q2 with ⟨e, -⟩ | ⟨g, cap, cur, e, q3, q4, q5, q6, q7, q8⟩
  ·cases e
  ·injection e with e1 e2 e3
   injection e1 with e1
   injection e1 with e1 _ _
   subst e1 e3
   have hlen := flat_len E L
   have hLm : L.length * k = m * k := by rw [← hlen, q1]
   have hjk : (j + 1) * k ≤ L.length * k := Nat.mul_le_mul_right k hj
   rw [Nat.succ_mul] at hjk
   have hmc : m * k ≤ c * k := Nat.mul_le_mul_right k q5
   have hsz' : 0 + j * k + i + cs.length ≤ cur.size := by rw [q7]; omega
   have hr' := run_storeAt (P := P) (t := t) hcs hsz (List.all_eq_true.1 h1) q4 hsz'
   have hch : Chg (ownB ty k (some ⟨b, 0, none⟩) m c (L.flatMap enc)) w (w.setRow b (cur.toList.take (0 + j * k + i) ++ cs ++ cur.toList.drop (0 + j * k + i + cs.length)).toArray) := ⟨rfl, rfl, rfl, by simp [World.setRow], fun k _ hk => setRow_other w b k _ (fun e => hk (by rw [e]; rfl))⟩
   refine ⟨(), w.setRow b (cur.toList.take (0 + j * k + i) ++ cs ++ cur.toList.drop (0 + j * k + i + cs.length)).toArray, trivial, ?_, hw.chg (C := ownB ty k (some ⟨b, 0, none⟩) m c ((L.set j r).flatMap enc)) hat rfl rfl hch ?_ (fun k' hk => ⟨.inl hk, ?_⟩), hch⟩
   ·unfold execOp; rw [ho]; simp only [ha.ev hx, ha.ev hy, Sem.run_bind, hr', Result.andThen_ok, Sem.run_pure]
   ·refine ⟨by rw [flat_len E, List.length_set]; exact hLm, .inr ⟨b, c, _, rfl, Nat.zero_le _, setRow_heap w b _ _ ty _ q4, q5, q6, ?_, ?_⟩⟩
    ·simp; omega
    ·have hset : ∀ q, q < m * k → ((L.set j r).flatMap enc)[q]? = (if j * k + i ≤ q ∧ q < j * k + i + cs.length then cs[q - (j * k + i)]? else (L.flatMap enc)[q]?) := by
      intro q hq
      have hk0 : 0 < k := by rcases Nat.eq_zero_or_pos k with h | h; subst h; omega; exact h
      have hqd : q / k < L.length := by rw [Nat.div_lt_iff_lt_mul hk0]; omega
      have hqm : q % k < k := Nat.mod_lt _ hk0
      have hqq : q / k * k + q % k = q := Nat.div_add_mod' q k
      have e1 := flat_get E (L := L.set j r) (j := q / k) (by rw [List.length_set]; exact hqd) (q % k) hqm
      have e2 := flat_get E (L := L) (j := q / k) hqd (q % k) hqm
      rw [hqq] at e1 e2
      rw [e1, e2, List.getElem_set]
      by_cases hjq : j = q / k
      ·subst hjq
       rw [if_pos rfl, hr]
       have hel : (enc (L[q / k]'hqd)).length = k := E.len _
       by_cases hin : q / k * k + i ≤ q ∧ q < q / k * k + i + cs.length
       ·rw [if_pos hin, List.append_assoc, List.getElem?_append_right (by rw [List.length_take]; omega), List.getElem?_append_left (by rw [List.length_take]; omega), List.length_take]
        congr 1; omega
       ·rw [if_neg hin]
        by_cases hlo : q < q / k * k + i
        ·rw [List.append_assoc, List.getElem?_append_left (by rw [List.length_take]; omega), List.getElem?_take, if_pos (by omega)]
        ·rw [List.append_assoc, List.getElem?_append_right (by rw [List.length_take]; omega), List.getElem?_append_right (by rw [List.length_take]; omega), List.length_take, List.getElem?_drop]
         congr 1; omega
      ·rw [if_neg hjq, if_neg]
       rintro ⟨h3, h4⟩
       apply hjq
       have h5 : j * k ≤ q := by omega
       have h6 : q < (j + 1) * k := by rw [Nat.succ_mul]; omega
       have h7 : j ≤ q / k := (Nat.le_div_iff_mul_le hk0).2 h5
       have h8 : q / k < j + 1 := (Nat.div_lt_iff_lt_mul hk0).2 h6
       omega
     refine List.ext_getElem? (fun q => ?_)
     rw [List.getElem?_take]
     by_cases hq : q < m * k
     ·rw [if_pos hq, hset q hq, ← q8]
      rw [Nat.zero_add]
      have hcl : cur.toList.length = cur.size := by simp
      by_cases hin : j * k + i ≤ q ∧ q < j * k + i + cs.length
      ·rw [if_pos hin, List.append_assoc, List.getElem?_append_right (by rw [List.length_take]; omega), List.getElem?_append_left (by rw [List.length_take]; omega), List.length_take]
       congr 1; omega
      ·rw [if_neg hin, List.getElem?_take, if_pos hq]
       by_cases hlo : q < j * k + i
       ·rw [List.append_assoc, List.getElem?_append_left (by rw [List.length_take]; omega), List.getElem?_take, if_pos hlo]
       ·rw [List.append_assoc, List.getElem?_append_right (by rw [List.length_take]; omega), List.getElem?_append_right (by rw [List.length_take]; omega), List.length_take, List.getElem?_drop]
        congr 1; omega
     ·rw [if_neg hq, List.getElem?_eq_none]
      rw [flat_len E, List.length_set]; omega
   ·have hk' : (Value.slice (some ⟨b, 0, none⟩) m c).ownBlock = some k' := hk
    injection hk' with hk'
    subst hk'
    have := (Array.getElem?_eq_some_iff.1 q4).1
    simpa [World.setRow] using this)
/-! Maps. -/
end
section
open Go
variable {P : Program} {n : Nat} {B : Bs} {Q : Exit → Act → World → Prop} {ops : Array Oper} {rest : List Oper} {l : Sl} {H : List It} {o : Oper}
end
end Go.Proofs.YtmcpnoailbmkkaaGreat
