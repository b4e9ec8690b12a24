/- Layers of the proofs, joined: G13 G14 Rq Rr Rs Rt Ru Rv G15 Rw Rx Ry Rz G16 G17 G18 G19 G20 G21. -/
import Derived.Test.YtmcpnoailbmkkaaPk2
import Derived.ProofKit
import Derived.OpenShut
import Derived.Deep.Slices
import Derived.Deep.Strs
import Derived.ChangeSame
import Derived.ChangeMaps5
/- Parameters: what their reading gives, and that they are read again as they were. Over any program. -/
namespace Go.Proofs.Ytmcpnoailbmkkaa
open Go Go.ChangeShapes Go.WideShapes Go.ChangeAt Go.RowKit Go.Deep
section
variable {P : Program} {H : Type} {enc : TypeId × Value → H}
/-- What an element's reading gives, by its cells. -/
def ElC (P : Program) (enc : TypeId × Value → H) (e : TypeId) (R : World → List Value → Prop) : Prop :=
 ∀ (W : World) (n : Nat) (cs : List Value) (y : DataW H × List MemPlace), DataW.trod enc P W 0 (fun _ => true) true n e cs = some y → R W cs ∧ ∀ W' : World, Below W.heap.size W W' → ∀ sp : Nat → Bool, (∀ q ∈ y.2, sp q.block = true) → ∃ m, DataW.trod enc P W' 0 sp true m e cs = some y
theorem elInt {e : TypeId} {k : IntKind} (ht : P.underlying e = some (.int k)) : ElC P enc e (fun _ cs => ∃ x, cs = [.int k x] ∧ (Lit.int k x).wf = true) := fun W n cs y h => by
 obtain ⟨x, rfl, rfl, w⟩ := DataW.trod_int ht h
 exact ⟨⟨x, rfl, w⟩, fun W' _ sp _ => ⟨1, by simp [DataW.trod, ht, w]⟩⟩
theorem elBool {e : TypeId} (ht : P.underlying e = some .bool) : ElC P enc e (fun _ cs => ∃ x, cs = [.bool x]) := fun W n cs y h => by
 obtain ⟨x, rfl, rfl⟩ := DataW.trod_bool ht h
 exact ⟨⟨x, rfl⟩, fun W' _ sp _ => ⟨1, by simp [DataW.trod, ht]⟩⟩
theorem elStr {e : TypeId} (ht : P.underlying e = some .string) : ElC P enc e (fun _ cs => ∃ x : ByteArray, cs = [.string x] ∧ x.size ≤ maxLen) := fun W n cs y h => by
 obtain ⟨x, rfl, rfl, w⟩ := DataW.trod_string ht h
 exact ⟨⟨x, rfl, w⟩, fun W' _ sp _ => ⟨1, by simp [DataW.trod, ht, w]⟩⟩
theorem ElC.imp {e : TypeId} {R R' : World → List Value → Prop} (h : ElC P enc e R) (hr : ∀ W cs, R W cs → R' W cs) : ElC P enc e R' := fun W n cs y hy => ⟨hr _ _ (h W n cs y hy).1, (h W n cs y hy).2⟩
theorem cells_below {W W' : World} (hb : Below W.heap.size W W') {b n : Nat} {a : Addr} {cs : List Value} (h : W.cells? b a n = some cs) (ha : a.block < W.heap.size) : W'.cells? b a n = some cs := by
 have e : ∀ i, W'.cell? (a.add i) = W.cell? (a.add i) := fun i => by
  have hbk : (a.add i).block = a.block := by unfold Addr.add; split <;> rfl
  exact World.cell?_of_block (by rw [hbk]; exact hb.block _ ha)
 unfold World.cells? at h ⊢
 simp only [e]
 exact h
theorem cell_spot {W : World} {a : Addr} {v : Value} (h : W.cell? a = some v) : a.spot = none ∧ a.block < W.heap.size := by
 unfold World.cell? at h
 split at h
 ·rename_i c t fz hh
  split at h
  ·cases h
  ·rename_i hs
   exact ⟨by simpa using hs, (Array.getElem?_eq_some_iff.1 hh).1⟩
 ·cases h
theorem add_mod (a : Addr) (i j : Nat) : (a.add i).add j = a.add (i + j) := by
 unfold Addr.add
 by_cases h1 : i = 0
 ·by_cases h2 : j = 0 <;> simp [h1, h2]
 ·by_cases h2 : j = 0
  ·simp [h1, h2]
  ·simp [h1, h2, Nat.add_assoc]
/-- A slice whose elements are of k cells. -/
theorem elRow {α : Type} {t e k : Nat} {ec : α → List Value} {wf : World → α → Prop} (ht : P.underlying t = some (.slice e)) (hsz : P.cellsOf e = k) (E : Enc k ec) (h0k : 0 < k) (he : ElC P enc e (fun W cs => ∃ x, cs = ec x ∧ wf W x)) :
  ElC P enc t (fun W cs => ∃ p : Dv α, cs = [p.v] ∧ Arr k ec W p.v p.l ∧ p.n = p.l.length ∧ ∀ x ∈ p.l, wf W x) := fun W n cs y h => by
 rcases open_slice ht h with ⟨rfl, rfl⟩ | ⟨a, len, cap, m, n', D, Pl, rfl, hb, hl, hm, hmm, rfl, hi⟩
 ·exact ⟨⟨⟨none, 0, 0, []⟩, rfl, Arr.nil W, rfl, fun _ h => by cases h⟩, fun W' _ sp _ => ⟨1, by simp [DataW.trod, ht]⟩⟩
 ·simp only [if_true] at hmm
  subst hmm
  rw [hsz] at hi
  have each : ∀ i, i < m → ∃ cs', ∃ s : α, W.cells? 0 (a.add (i * k)) k = some cs' ∧ cs' = ec s ∧ wf W s ∧ DataW.trod enc P W 0 (fun _ => true) true n' e cs' = some (D i, Pl i) := by
   intro i hic
   obtain ⟨cs', h3, h4⟩ := hi i hic
   obtain ⟨⟨s, h5, h6⟩, -⟩ := he W n' cs' _ h4
   exact ⟨cs', s, h3, h5, h6, h4⟩
  have each2 : ∀ i, i < m → ∃ s : α, W.cells? 0 (a.add (i * k)) k = some (ec s) ∧ wf W s ∧ DataW.trod enc P W 0 (fun _ => true) true n' e (ec s) = some (D i, Pl i) := fun i hic => by
   obtain ⟨cs', s, h3, rfl, h6, h4⟩ := each i hic
   exact ⟨s, h3, h6, h4⟩
  clear each
  have first : ∀ i, i < m → ∃ v, W.cell? (a.add (i * k)) = some v := by
   intro i hi
   obtain ⟨s, h3, -⟩ := each2 i hi
   have hc := (World.cells?_some h3).2.2 0 h0k
   rw [List.getElem?_eq_getElem (by rw [E.1]; exact h0k)] at hc
   exact ⟨_, by simpa [Addr.add] using hc⟩
  have re : ∀ W' : World, Below W.heap.size W W' → ∀ sp : Nat → Bool, (∀ q ∈ MemPlace.row a (m * P.cellsOf e) ++ (List.range m).flatMap Pl, sp q.block = true) → ∃ f, DataW.trod enc P W' 0 sp true f t [.slice (some a) len m] = some (.slice ((List.range len).map D) ((List.range (m - len)).map fun j => D (len + j)), MemPlace.row a (m * P.cellsOf e) ++ (List.range m).flatMap Pl) := by
   intro W' hb' sp hsp
   rcases Nat.eq_zero_or_pos m with h0 | h0
   ·subst h0
    obtain rfl : len = 0 := by omega
    cases hs : sp a.block with
    | true => exact shut_slice_whole_cells (enc := enc) (w := W') (held := true) (base := 0) (P := P) (a := a) (len := 0) (cap := 0) ht (Nat.zero_le _) (Nat.le_refl _) (Nat.zero_le _) hs D Pl (fun i hi => absurd hi (Nat.not_lt_zero _))
    | false =>
     have := shut_slice_cells (enc := enc) (w := W') (held := true) (base := 0) (P := P) (a := a) (len := 0) (cap := 0) ht (Nat.zero_le _) (Nat.le_refl _) (Nat.zero_le _) hs D Pl (fun i hi => absurd hi (Nat.not_lt_zero _))
     simpa using this
   ·obtain ⟨v0, c0⟩ := first 0 h0
    have hblk := (cell_spot (by simpa [Addr.add] using c0)).2
    have hs : sp a.block = true := hsp (.cell a.block (a.off + 0)) (by
     unfold MemPlace.row
     simp only [List.mem_append, List.mem_map, List.mem_range]
     exact .inl ⟨0, by rw [hsz]; exact Nat.mul_pos h0 h0k, rfl⟩)
    refine shut_slice_whole_cells (enc := enc) (w := W') (held := true) (base := 0) (P := P) (a := a) (len := len) (cap := m) ht (Nat.zero_le _) hl hm hs D Pl (fun i hi => ?_)
    obtain ⟨s, h3, -, h4⟩ := each2 i hi
    obtain ⟨-, hre⟩ := he W n' _ _ h4
    obtain ⟨f, hf⟩ := hre W' hb' sp (fun q hq => hsp q (List.mem_append_right _ (List.mem_flatMap.2 ⟨i, List.mem_range.2 hi, hq⟩)))
    refine ⟨ec s, f, ?_, hf⟩
    rw [hsz]
    refine cells_below hb' h3 ?_
    have : (a.add (i * k)).block = a.block := by unfold Addr.add; split <;> rfl
    rw [this]; exact hblk
  refine ⟨?_, re⟩
  have each3 : ∀ i, i < m → ∃ s : α, W.cells? 0 (a.add (i * k)) k = some (ec s) ∧ wf W s := fun i hic => by
   obtain ⟨s, h3, h4, -⟩ := each2 i hic
   exact ⟨s, h3, h4⟩
  rcases Nat.eq_zero_or_pos len with h0 | h0
  ·subst h0
   exact ⟨⟨some a, 0, m, []⟩, rfl, ⟨some a, m, rfl, Nat.zero_le _, ⟨Nat.zero_le _, hm⟩, fun h => absurd rfl h⟩, rfl, fun _ h => by cases h⟩
  ·obtain ⟨s0, -⟩ := each3 0 (by omega)
   haveI : Inhabited α := ⟨s0⟩
   obtain ⟨S, hS⟩ := choose_lt each3
   obtain ⟨v0, c0⟩ := first 0 (by omega)
   have hsp := (cell_spot (by simpa [Addr.add] using c0)).1
   obtain ⟨b, o, sp⟩ := a
   simp only at hsp
   subst hsp
   refine ⟨⟨some ⟨b, o, none⟩, len, m, (List.range len).map S⟩, rfl, ⟨some ⟨b, o, none⟩, m, by simp, by simpa using hl, ⟨by simp only [List.length_map, List.length_range]; unfold maxLen at hm; omega, hm⟩, fun hne => ⟨b, o, rfl, fun j hj i hi => ?_⟩⟩, by simp, fun x hx => ?_⟩
   ·have hj' : j < len := by simpa using hj
    have hc := (World.cells?_some (hS j (by omega)).1).2.2
    have e : ((List.range len).map S)[j]'hj = S j := by simp
    rw [e, ← hc i hi, add_mod]
    unfold Addr.add
    by_cases h0 : j * k + i = 0
    ·rw [if_pos h0]; have h1 : j * k = 0 := by omega
     have : i = 0 := by omega
     subst this; rw [h1]; rfl
    ·rw [if_neg h0, Nat.add_assoc]
   ·obtain ⟨i, hi, rfl⟩ := List.mem_map.1 hx
    exact (hS i (by have := List.mem_range.1 hi; omega)).2
/-- A struct, by its fields. -/
theorem elStruct {t : TypeId} {fs : Array Field} {Rs : Nat → World → List Value → Prop} (ht : P.underlying t = some (.struct fs)) (hf : ∀ (i : Nat) (f : Field), fs[i]? = some f → ElC P enc f.type (Rs i)) :
  ElC P enc t (fun W cs => cs.length = P.cellsOf t ∧ ∀ (i : Nat) (f : Field), fs[i]? = some f → Rs i W ((cs.drop f.offset).take (P.cellsOf f.type))) := fun W n cs y h => by
 obtain ⟨xs, m, -, rfl, hl, hxl, hx⟩ := DataW.trod_struct ht h
 have hxi : ∀ (i : Nat) (f : Field), fs[i]? = some f → ∃ yi, xs[i]? = some yi := fun i f hi => by
  have hlt : i < fs.size := (Array.getElem?_eq_some_iff.1 hi).1
  exact ⟨_, List.getElem?_eq_getElem (by omega)⟩
 refine ⟨⟨hl, fun i f hi => ?_⟩, fun W' hb sp hsp => ?_⟩
 ·obtain ⟨yi, hyi⟩ := hxi i f hi
  exact (hf i f hi W m _ yi (by rw [hx i f hi, hyi])).1
 ·have hre : ∀ i, i < fs.size → ∃ q, ∀ f, fs[i]? = some f → DataW.trod enc P W' 0 sp true q f.type ((cs.drop f.offset).take (P.cellsOf f.type)) = xs[i]? := fun i hi => by
   have hfi : fs[i]? = some (fs[i]'hi) := Array.getElem?_eq_getElem hi
   obtain ⟨yi, hyi⟩ := hxi i _ hfi
   obtain ⟨q, hq⟩ := (hf i _ hfi W m _ yi (by rw [hx i _ hfi, hyi])).2 W' hb sp (fun q hq => hsp q (List.mem_flatMap.2 ⟨yi, List.mem_of_getElem? hyi, hq⟩))
   exact ⟨q, fun f hf' => by rw [hfi] at hf'; cases hf'; rw [hq, hyi]⟩
  obtain ⟨Q, hQ⟩ : ∃ Q, ∀ i, i < fs.size → ∀ f, fs[i]? = some f → DataW.trod enc P W' 0 sp true Q f.type ((cs.drop f.offset).take (P.cellsOf f.type)) = xs[i]? := by
   have key : ∀ k, k ≤ fs.size → ∃ Q, ∀ i, i < k → ∀ f, fs[i]? = some f → DataW.trod enc P W' 0 sp true Q f.type ((cs.drop f.offset).take (P.cellsOf f.type)) = xs[i]? := by
    intro k
    induction k with
    | zero => exact fun _ => ⟨0, fun i hi => absurd hi (Nat.not_lt_zero _)⟩
    | succ k ih =>
     intro hk
     obtain ⟨Q1, h1⟩ := ih (by omega)
     obtain ⟨q, h2⟩ := hre k (by omega)
     refine ⟨Q1 + q, fun i hi f hf' => ?_⟩
     obtain ⟨yi, hyi⟩ := hxi i f hf'
     rw [hyi]
     by_cases e : i = k
     ·subst e
      exact DataW.trod_le (Nat.le_add_left _ _) (by rw [h2 f hf', hyi])
     ·exact DataW.trod_le (Nat.le_add_right _ _) (by rw [h1 i (by omega) f hf', hyi])
   exact key _ (Nat.le_refl _)
  refine ⟨Q + 1, trod_struct_mk ht hl ?_⟩
  have hmm : ∀ (l : List Field) (zs : List (DataW H × List MemPlace)), l.length = zs.length → (∀ (i : Nat) (f : Field), l[i]? = some f → DataW.trod enc P W' 0 sp true Q f.type ((cs.drop f.offset).take (P.cellsOf f.type)) = zs[i]?) → l.mapM (fun f : Field => DataW.trod enc P W' 0 sp true Q f.type ((cs.drop f.offset).take (P.cellsOf f.type))) = some zs := by
   intro l
   induction l with
   | nil => intro zs hl _; cases zs with | nil => rfl | cons => cases hl
   | cons f l ih =>
    intro zs hl h
    cases zs with
    | nil => cases hl
    | cons z zs =>
     have h0 := h 0 f rfl
     rw [List.mapM_cons, h0]
     rw [ih zs (by simpa using hl) (fun i f hi => h (i + 1) f hi)]
     rfl
  exact hmm _ _ (by rw [Array.length_toList]; exact hxl.symm) (fun i f hi => by
   rw [Array.getElem?_toList] at hi
   exact hQ i (Array.getElem?_eq_some_iff.1 hi).1 f hi)
/-- An array, by its elements. -/
theorem elArr {t e : TypeId} {k : Nat} {R : World → List Value → Prop} (ht : P.underlying t = some (.array k e)) (hr : ElC P enc e R) :
  ElC P enc t (fun W cs => cs.length = P.cellsOf t ∧ ∀ i, i < k → R W ((cs.drop (i * P.cellsOf e)).take (P.cellsOf e))) := fun W n cs y h => by
 obtain ⟨xs, m, -, rfl, hl, hxl, hx⟩ := DataW.trod_array ht h
 have hxi : ∀ i, i < k → ∃ yi, xs[i]? = some yi := fun i hi => ⟨_, List.getElem?_eq_getElem (by omega)⟩
 refine ⟨⟨hl, fun i hi => ?_⟩, fun W' hb sp hsp => ?_⟩
 ·obtain ⟨yi, hyi⟩ := hxi i hi
  exact (hr W m _ yi (by rw [hx i hi, hyi])).1
 ·obtain ⟨Q, hQ⟩ : ∃ Q, ∀ i, i < k → DataW.trod enc P W' 0 sp true Q e ((cs.drop (i * P.cellsOf e)).take (P.cellsOf e)) = xs[i]? := by
   have key : ∀ j, j ≤ k → ∃ Q, ∀ i, i < j → DataW.trod enc P W' 0 sp true Q e ((cs.drop (i * P.cellsOf e)).take (P.cellsOf e)) = xs[i]? := by
    intro j
    induction j with
    | zero => exact fun _ => ⟨0, fun i hi => absurd hi (Nat.not_lt_zero _)⟩
    | succ j ih =>
     intro hj
     obtain ⟨Q1, h1⟩ := ih (by omega)
     obtain ⟨yj, hyj⟩ := hxi j (by omega)
     obtain ⟨q, h2⟩ := (hr W m _ yj (by rw [hx j (by omega), hyj])).2 W' hb sp (fun q hq => hsp q (List.mem_flatMap.2 ⟨yj, List.mem_of_getElem? hyj, hq⟩))
     refine ⟨Q1 + q, fun i hi => ?_⟩
     obtain ⟨yi, hyi⟩ := hxi i (by omega)
     rw [hyi]
     by_cases e' : i = j
     ·subst e'
      rw [hyj] at hyi; cases hyi
      exact DataW.trod_le (Nat.le_add_left _ _) h2
     ·exact DataW.trod_le (Nat.le_add_right _ _) (by rw [h1 i (by omega), hyi])
   exact key _ (Nat.le_refl _)
  refine ⟨Q + 1, ?_⟩
  unfold DataW.trod
  rw [ht]
  have hmm : ∀ (l : List Nat) (zs : List (DataW H × List MemPlace)), l.length = zs.length → (∀ (j i : Nat), l[j]? = some i → DataW.trod enc P W' 0 sp true Q e ((cs.drop (i * P.cellsOf e)).take (P.cellsOf e)) = zs[j]?) → l.mapM (fun i => DataW.trod enc P W' 0 sp true Q e ((cs.drop (i * P.cellsOf e)).take (P.cellsOf e))) = some zs := by
   intro l
   induction l with
   | nil => intro zs hl _; cases zs with | nil => rfl | cons => cases hl
   | cons f l ih =>
    intro zs hl h
    cases zs with
    | nil => cases hl
    | cons z zs =>
     have h0 := h 0 f rfl
     rw [List.mapM_cons, h0]
     rw [ih zs (by simpa using hl) (fun j i hi => h (j + 1) i hi)]
     rfl
  have h2 := hmm (List.range k) xs (by rw [List.length_range]; exact hxl.symm) (fun j i hi => by
   obtain ⟨h3, h4⟩ := List.getElem?_eq_some_iff.1 hi
   rw [List.getElem_range] at h4
   subst h4
   exact hQ j (by simpa using h3))
  simp [hl, h2]
/-- A parameter read, by its cells. -/
theorem ElC.trod {t : TypeId} {R : World → List Value → Prop} (h : ElC P enc t R) {W : World} {v : Value} {d : DataW H} {p : List MemPlace} (hd : DataW.Trod enc P W 0 (fun _ => true) true t v d p) : R W v.cells.toList ∧ ∀ W' : World, Below W.heap.size W W' → ∀ sp : Nat → Bool, (∀ q ∈ p, sp q.block = true) → DataW.Trod enc P W' 0 sp true t v d p := by
 obtain ⟨n, hn⟩ := hd
 obtain ⟨h1, h2⟩ := h W n _ _ hn
 exact ⟨h1, h2⟩
end
end Go.Proofs.Ytmcpnoailbmkkaa
/- Groups of items; elements of own rows, whole. Over any program. -/
namespace Go.Proofs.Ytmcpnoailbmkkaa
open Go Go.RowKit Go.Proofs Go.Shelf
section
variable {P : Program} {n : Nat} {B : Bs} {Q : Exit → Act → World → Prop} {l : Sl} {H H1 HA HS rows : List It} {ops : Array Oper} {rest : List Oper} {o : Oper} {c : Code} {w w' : World} {x : Operand} {t : TypeId}
/-- An element of an own row, whole. -/
theorem vOwnA {α : Type} {k : Nat} {enc : α → List Value} (E : Enc k enc) {m c b j : Nat} {cs : List Value} {L : List α} {ty : TypeId} [g : Agg P t true] [z : Siz P t k] (ho : o.op = .load t x) (hx : evl l x = some (.pointer (some ⟨b, 0 + j * k + 0, none⟩))) (hm : ownB ty k (some ⟨b, 0, none⟩) m c (L.flatMap enc) ∈ H) (hj : j < L.length) (hv : enc (L[j]'hj) = cs) : RV P n B l H o (.agg cs.toArray) := by
 subst hv
 refine rv_ownagg ho hx g.h (by rw [E.len]; exact z.h) hm (fun i v hi => ?_)
 have h := (List.getElem?_eq_some_iff.1 hi).1
 rw [E.len] at h
 rw [Nat.zero_add, Nat.add_zero, flat_get E hj i h]; exact hi
/-- A part of an element of an own row. -/
theorem vOwnP {α : Type} {k p q : Nat} {enc : α → List Value} (E : Enc k enc) {m c b j : Nat} {cs : List Value} {L : List α} {ty : TypeId} [g : Agg P t true] [z : Siz P t p] (ho : o.op = .load t x) (hx : evl l x = some (.pointer (some ⟨b, 0 + j * k + q, none⟩))) (hm : ownB ty k (some ⟨b, 0, none⟩) m c (L.flatMap enc) ∈ H) (hj : j < L.length) (hl : cs.length = p) (hq : q + p ≤ k) (hv : ((enc (L[j]'hj)).drop q).take p = cs) : RV P n B l H o (.agg cs.toArray) := by
 refine rv_ownagg ho hx g.h (by rw [hl]; exact z.h) hm (fun i v hi => ?_)
 have h := (List.getElem?_eq_some_iff.1 hi).1
 have h1 : i < p := by omega
 rw [← hv, List.getElem?_take, if_pos h1, List.getElem?_drop] at hi
 rw [Nat.zero_add, Nat.add_assoc, flat_get E hj (q + i) (by omega)]; exact hi
theorem Wd.newA {A : It} {w0 w : World} {H : List It} (h : Wd (bs w0) H w) (hA : A ∈ H) (hr : A.ro = false) : (∀ b, A.foot b → w0.heap.size ≤ b) ∧ ∀ b, A.foot b → b < w.heap.size := by
 have o := (h.ok A hA).2
 refine ⟨fun b hb => ?_, fun b hb => (o b hb).2⟩
 rcases (o b hb).1 with h1 | h1 | h1
 ·rw [hr] at h1; cases h1
 ·exact h1.elim
 ·exact h1
theorem Wd.belO {A : It} {w0 W w : World} {H : List It} {d : List Deferred} (h : Wd ⟨W, A.foot, none, d⟩ H w) (hb : Below w0.heap.size w0 W) (hA : ∀ b, A.foot b → w0.heap.size ≤ b) : Below w0.heap.size w0 w :=
 ⟨h.os.trans hb.os, h.tape.trans hb.tape, h.output.trans hb.output, Nat.le_trans hb.size h.size, fun b hlt => (h.block b (Nat.lt_of_lt_of_le hlt hb.size) (fun hf => by have := hA b hf; omega)).trans (hb.block b hlt)⟩
theorem all_nro {HA : List It} (h : (HA.all fun A => !A.ro) = true) : ∀ A ∈ HA, A.ro = false := fun A hA => by
 have := List.all_eq_true.1 h A hA
 cases e : A.ro
 ·rfl
 ·rw [e] at this; cases this
/-- One item in the place of some, in their blocks. -/
theorem Wd.gather {C : It} (h : Wd B H w) (hk : Pk (rows ++ H1) H) (hr : (rows.all fun A => !A.ro) = true) (hC : C.holds w) (hf : ∀ b, C.foot b → ∃ A ∈ rows, A.foot b) : Wd B (C :: H1) w := by
 have h0 := h.pick hk
 have hr' := all_nro hr
 obtain ⟨s1, s2, s3⟩ := List.pairwise_append.1 h0.sep
 refine ⟨h0.os, h0.tape, h0.output, h0.size, h0.block, fun D hD => ?_, List.pairwise_cons.2 ⟨fun D hD => .inr (fun b h1 h2 => ?_), s2⟩⟩
 ·rcases List.mem_cons.1 hD with rfl | hD
  ·refine ⟨hC, fun b hb => ?_⟩
   obtain ⟨A, hA, hAb⟩ := hf b hb
   have o := (h0.ok A (by simp [hA])).2 b hAb
   exact ⟨o.1.imp_left (fun h => by rw [hr' A hA] at h; cases h), o.2⟩
  ·exact h0.ok D (by simp [hD])
 ·obtain ⟨A, hA, hAb⟩ := hf b h1
  exact sepR.out (s3 A hA D hD) (hr' A hA) b hAb h2
/-- Items as one. -/
def grpB (HA : List It) : It where
 foot b := ∃ A ∈ HA, A.foot b
 holds w := (∀ A ∈ HA, A.holds w) ∧ HA.Pairwise (fun (A C : It) => ∀ b : Nat, A.foot b → C.foot b → False)
 st w w' hb h := ⟨fun A hA => A.st w w' (fun b hf => hb b ⟨A, hA, hf⟩) (h.1 A hA), h.2⟩
theorem pw_out (hr : (HA.all fun A => !A.ro) = true) (h : HA.Pairwise sepR) : HA.Pairwise (fun (A C : It) => ∀ b : Nat, A.foot b → C.foot b → False) :=
 h.imp_of_mem (fun hA _ hs => sepR.out hs (all_nro hr _ hA))
theorem Wd.close (h : Wd B H w) (hk : Pk (HA ++ H1) H) (hr : (HA.all fun A => !A.ro) = true) : Wd B (grpB HA :: H1) w := by
 have h0 := h.pick hk
 exact h.gather hk hr ⟨fun A hA => (h0.ok A (by simp [hA])).1, pw_out hr (List.pairwise_append.1 h0.sep).1⟩ (fun b hb => hb)
theorem Wd.closeS (h : Wd B H w) (hk : Pk (HA ++ H1) H) (hr : (HA.all fun A => !A.ro) = true) (hs : HS.Sublist HA) : Wd B (grpB HS :: H1) w := by
 have h0 := h.pick hk
 exact h.gather hk hr ⟨fun A hA => (h0.ok A (by simp [hs.subset hA])).1, (pw_out hr (List.pairwise_append.1 h0.sep).1).sublist hs⟩ (fun b ⟨A, hA, hb⟩ => ⟨A, hs.subset hA, hb⟩)
theorem Wd.opn (h : Wd B H w) (hk : Pk (grpB HA :: H1) H) : Wd B (HA ++ H1) w := by
 have h0 := h.pick hk
 have hs := List.pairwise_cons.1 h0.sep
 have o := h0.ok (grpB HA) (by simp)
 refine ⟨h0.os, h0.tape, h0.output, h0.size, h0.block, fun D hD => ?_, List.pairwise_append.2 ⟨o.1.2.imp (fun h => .inr h), hs.2, fun A hA D hD => .inr (fun b h1 h2 => sepR.out (hs.1 D hD) rfl b ⟨A, hA, h1⟩ h2)⟩⟩
 rcases List.mem_append.1 hD with hD | hD
 ·refine ⟨o.1.1 D hD, fun b hb => ?_⟩
  have o2 := o.2 b ⟨D, hD, hb⟩
  exact ⟨o2.1.imp_left (fun h => by cases h), o2.2⟩
 ·exact h0.ok D (by simp [hD])
theorem J_close (HA : List It) (h : J P n B c Q l (grpB HA :: H1)) (hk : Pk (HA ++ H1) H := by repeat constructor) (hr : (HA.all fun A => !A.ro) = true := by rfl) : J P n B c Q l H := fun a w ha hw => h a w ha (hw.close hk hr)
theorem JL_close (HA : List It) (h : JL P n B ops Q rest l (grpB HA :: H1)) (hk : Pk (HA ++ H1) H := by repeat constructor) (hr : (HA.all fun A => !A.ro) = true := by rfl) : JL P n B ops Q rest l H := fun a w ha hw => h a w ha (hw.close hk hr)
theorem J_opn (HA : List It) (h : J P n B c Q l (HA ++ H1)) (hk : Pk (grpB HA :: H1) H := by repeat constructor) : J P n B c Q l H := fun a w ha hw => h a w ha (hw.opn hk)
theorem JL_opn (HA : List It) (h : JL P n B ops Q rest l (HA ++ H1)) (hk : Pk (grpB HA :: H1) H := by repeat constructor) : JL P n B ops Q rest l H := fun a w ha hw => h a w ha (hw.opn hk)
theorem J_gather {C : It} (rows : List It) (h : J P n B c Q l (C :: H1)) (hC : ∀ w, Wd B H w → C.holds w) (hf : ∀ b, C.foot b → ∃ A ∈ rows, A.foot b) (hk : Pk (rows ++ H1) H := by repeat constructor) (hr : (rows.all fun A => !A.ro) = true := by rfl) : J P n B c Q l H := fun a w ha hw => h a w ha (hw.gather hk hr (hC w hw) hf)
theorem JL_gather {C : It} (rows : List It) (h : JL P n B ops Q rest l (C :: H1)) (hC : ∀ w, Wd B H w → C.holds w) (hf : ∀ b, C.foot b → ∃ A ∈ rows, A.foot b) (hk : Pk (rows ++ H1) H := by repeat constructor) (hr : (rows.all fun A => !A.ro) = true := by rfl) : JL P n B ops Q rest l H := fun a w ha hw => h a w ha (hw.gather hk hr (hC w hw) hf)
theorem grp_foot (HA : List It) : (allI [grpB HA]).foot = (allI HA).foot := by
 funext b
 apply propext
 constructor
 ·rintro ⟨A, hA, hb⟩
  rw [List.mem_singleton] at hA
  subst hA
  exact hb
 ·intro hb
  exact ⟨grpB HA, by simp, hb⟩
theorem one_foot (A : It) : (allI [A]).foot = A.foot := by
 funext b
 apply propext
 constructor
 ·rintro ⟨C, hC, hb⟩
  rw [List.mem_singleton] at hC
  subst hC
  exact hb
 ·intro hb
  exact ⟨A, by simp, hb⟩
/-- What a call does to items, told of their group. -/
theorem Pk.refl : ∀ H : List It, Pk H H
 | [] => .nil _
 | _ :: H => .pick (.here H) (Pk.refl H)
theorem RetL.grp {T : Type} {φ : T → Prop} {V : T → Value} {HC HN : T → List It} {e : Ending} (h : RetL HA φ V (fun t => HC t ++ HN t) w e w') (hr : ∀ t, ((HC t).all fun A => !A.ro) = true) : RetL [grpB HA] φ V (fun t => grpB (HC t) :: HN t) w e w' := by
 obtain ⟨t, h1, h2, h3⟩ := h
 refine ⟨t, h1, h2, ?_⟩
 rw [grp_foot]
 exact h3.close (Pk.refl _) (hr t)
theorem RetL.toM {A : It} {T : Type} {φ : T → Prop} {V : T → Value} {C : T → It} {e : Ending} (h : RetL [A] φ V (fun t => [C t]) w e w') : RetM A φ V C w e w' := by
 obtain ⟨t, h1, h2, h3⟩ := h
 rw [one_foot] at h3
 exact ⟨t, h1, h2, h3⟩
theorem RetM.toL {A : It} {T : Type} {φ : T → Prop} {V : T → Value} {C : T → It} {e : Ending} (h : RetM A φ V C w e w') : RetL [A] φ V (fun t => [C t]) w e w' := by
 obtain ⟨t, h1, h2, h3⟩ := h
 refine ⟨t, h1, h2, ?_⟩
 rw [one_foot]
 exact h3
/-- A call's new items alone. -/
theorem Wd.stL (h : Wd B H w) (hk : Pk HA H) : Wd ⟨w, (allI HA).foot, none, []⟩ HA w := (h.pick hk).startL
/-- One of a group turns. -/
theorem RetM.inGrp {A : It} {pre post : List It} {T : Type} {φ : T → Prop} {V : T → Value} {C : T → It} {e : Ending} (hg : (grpB (pre ++ A :: post)).holds w) (hlt : ∀ b, (grpB (pre ++ A :: post)).foot b → b < w.heap.size) (hC : ∀ t, (C t).ro = false) (h : RetM A φ V C w e w') : RetM (grpB (pre ++ A :: post)) φ V (fun t => grpB (pre ++ C t :: post)) w e w' := by
 obtain ⟨t, h1, h2, h3⟩ := h
 have hc := Wd.chgOf h3
 have hC' := h3.ok (C t) (by simp)
 have hCf : ∀ b, (C t).foot b → A.foot b ∨ w.heap.size ≤ b := fun b hb => by
  rcases (hC'.2 b hb).1 with h | h | h
  ·rw [hC t] at h; cases h
  ·exact .inl h
  ·exact .inr h
 obtain ⟨g1, g2⟩ := hg
 obtain ⟨p1, p2, p3⟩ := List.pairwise_append.1 g2
 obtain ⟨p4, p5⟩ := List.pairwise_cons.1 p2
 have kp : ∀ D ∈ pre ++ post, D.holds w' ∧ ∀ b, D.foot b → ¬ A.foot b ∧ b < w.heap.size := fun D hD => by
  have hm : D ∈ pre ++ A :: post := by
   rcases List.mem_append.1 hD with h | h
   ·simp [h]
   ·simp [h]
  have hd : ∀ b, D.foot b → ¬ A.foot b := fun b hb ha => by
   rcases List.mem_append.1 hD with h | h
   ·exact p3 D h A (by simp) b hb ha
   ·exact p4 D h b ha hb
  exact ⟨D.st w w' (fun b hb => hc.block b (hlt b ⟨D, hm, hb⟩) (hd b hb)) (g1 D hm), fun b hb => ⟨hd b hb, hlt b ⟨D, hm, hb⟩⟩⟩
 have ap : ∀ D ∈ pre ++ post, ∀ b, D.foot b → (C t).foot b → False := fun D hD b hb hcb => by
  have := (kp D hD).2 b hb
  rcases hCf b hcb with h | h
  ·exact this.1 h
  ·omega
 refine ⟨t, h1, h2, h3.os, h3.tape, h3.output, h3.size, fun b hb hn => hc.block b hb (fun hA => hn ⟨A, by simp, hA⟩), fun D hD => ?_, List.pairwise_singleton _ _⟩
 rw [List.mem_singleton] at hD
 subst hD
 refine ⟨⟨fun D hD => ?_, ?_⟩, fun b ⟨D, hD, hb⟩ => ?_⟩
 ·rcases List.mem_append.1 hD with h | h
  ·exact (kp D (by simp [h])).1
  ·rcases List.mem_cons.1 h with rfl | h
   ·exact hC'.1
   ·exact (kp D (by simp [h])).1
 ·refine List.pairwise_append.2 ⟨p1, List.pairwise_cons.2 ⟨fun D hD b hb hd => ap D (by simp [hD]) b hd hb, p5⟩, fun D hD E hE => ?_⟩
  rcases List.mem_cons.1 hE with rfl | hE
  ·exact ap D (by simp [hD])
  ·exact p3 D hD E (by simp [hE])
 ·rcases List.mem_append.1 hD with h | h
  ·exact ⟨.inr (.inl ⟨D, by simp [h], hb⟩), Nat.lt_of_lt_of_le ((kp D (by simp [h])).2 b hb).2 hc.size⟩
  ·rcases List.mem_cons.1 h with rfl | h
   ·refine ⟨.inr ?_, (hC'.2 b hb).2⟩
    rcases hCf b hb with h | h
    ·exact .inl ⟨A, by simp, h⟩
    ·exact .inr h
   ·exact ⟨.inr (.inl ⟨D, by simp [h], hb⟩), Nat.lt_of_lt_of_le ((kp D (by simp [h])).2 b hb).2 hc.size⟩
/-- In a drawn region: a new block of cells is an own row. -/
theorem dAsOwn {ord : List Nat} {ld lx : List Nat} {H0 Hx H' : List It} {fuel : Nat} {listed : Array Bool} {b m kk ty : Nat} {vs : List Value} (ha : At (cellB b vs ty) (ownB ty kk (some ⟨b, 0, none⟩) m m vs) H H') (hl : vs.length = m * kk) (hm : m ≤ 1000000) (h : JD ord P n B ops Q ld H0 lx Hx fuel listed l H') : JD ord P n B ops Q ld H0 lx Hx fuel listed l H := fun a w h1 h2 => h a w h1 (h2.asOwn ha hl hm)
/-- append(s, t...), where s is not nil: nor is what comes of it. -/
theorem oAppG {α : Type} {k : Nat} {enc : α → List Value} (E : Enc k enc) {sl e : TypeId} {z : Value} {bytes d : Nat} {x y : Operand} {Y : Option Addr} {g c m c' : Nat} (L M : List α) {G : Nat × Nat → List It} [u : Und P sl (.slice e)] [i : Inf P e z k bytes] [s : Siz P e k]
 (hnews : ∀ w, Wd B H w → Arr k enc w (.slice Y m c') M) (hm : m = M.length) (hLc : L.length ≤ c) (ho : o.op = .call { callee := .builtin .append, args := #[x, y], argTypes := #[sl, sl] } := by rfl) (hk : 0 < k := by decide) (hzs : z.cells.size = k := by rfl) (hby : bytes ≤ 128 := by decide) (hd : o.dst = some d := by rfl) (hn : Nat.ble n d = false := by rfl)
 (hx : evl l x = some (.slice (some ⟨g, 0, none⟩) L.length c) := by rfl) (hy : evl l y = some (.slice Y m c') := by rfl) (hl : L.length + M.length ≤ 1000000 := by omega)
 (hat : ∀ t : Nat × Nat, At (ownB e k (some ⟨g, 0, none⟩) L.length c (L.flatMap enc)) (ownB e k (some ⟨t.1, 0, none⟩) (L ++ M).length t.2 ((L ++ M).flatMap enc)) H (G t) := by intro t; repeat constructor) : OpW P n B (some (ownB e k (some ⟨g, 0, none⟩) L.length c (L.flatMap enc))) l H o (fun _ : Nat × Nat => True) (fun t => (d, .slice (some ⟨t.1, 0, none⟩) (L ++ M).length t.2) :: l) G := by
 subst hm
 cases Y with
 | some a =>
  exact OpW.of_run (T := Nat × Nat) (φ := fun _ => True) (G := G) hd hn (V := fun t => .slice (some ⟨t.1, 0, none⟩) (L ++ M).length t.2) (fun a1 w ha hw => by
   have hown : Own 0 e k enc w (.slice (some ⟨g, 0, none⟩) L.length c) L := (hw.ok _ (hat (0, 0)).mem).1
   have hnw : ∀ j v, (M.flatMap enc)[j]? = some v → w.cell? (a.add j) = some v := fun j v hu => by
    have hne : M ≠ [] := by intro e; subst e; simp at hu
    obtain ⟨A', cap, e, -, -, h4⟩ := hnews w hw
    injection e with e1
    obtain ⟨b, q, e2, hh⟩ := h4 hne
    rw [← e1] at e2
    injection e2 with e2
    subst e2
    exact hh.news E hk j v hu
   obtain ⟨v', w', h1, h2, h3, h4, A', c2, rfl⟩ := run_app (sl := sl) (ty := o.type) E hk u.h i.h hzs hby hown (a := a) (m := M.length) (c := c') rfl hnw hl (Nat.zero_le _)
   rw [← List.length_append] at h1 h2 h4
   obtain ⟨g', hg'⟩ : ∃ g', (Value.slice A' (L ++ M).length c2).ownBlock = some g' := by
    rcases h4 with h | h
    ·exact ⟨g, h⟩
    ·exact ⟨_, h⟩
   obtain rfl : A' = some ⟨g', 0, none⟩ := by
    obtain ⟨A2, c3, e, -, h6⟩ := row_form h2
    injection e with e1 _ e3
    subst e1 e3
    exact (h6 g').1 hg'
   have hc : Chg (ownB e k (some ⟨g, 0, none⟩) L.length c (L.flatMap enc)) w w' := ⟨h3.os, h3.tape, h3.output, h3.size, fun b hb hnb => h3.block b hb (fun e => hnb e.symm)⟩
   refine ⟨(g', c2), w', trivial, run_append_op ho (ha.ev hx) (ha.ev hy) h1, hw.chg (hat (g', c2)) rfl rfl hc ?_ (fun b hb => ?_), hc⟩
   ·exact h2
   ·have hb' : (Value.slice (some ⟨g', 0, none⟩) (L ++ M).length c2).ownBlock = some b := hb
    rw [hb'] at h4
    refine ⟨?_, (World.ownsRow.lt h2 b hb').2⟩
    rcases h4 with h4 | h4
    ·exact .inl h4.symm
    ·injection h4 with h4; exact .inr (Nat.le_of_eq h4.symm))
 | none =>
  refine OpW.of_run (T := Nat × Nat) (φ := fun _ => True) (G := G) hd hn (V := fun t => .slice (some ⟨t.1, 0, none⟩) (L ++ M).length t.2) (fun a1 w ha hw => ?_)
  have hM : M = [] := by
   obtain ⟨A', cap, e, -, -, h4⟩ := hnews w hw
   injection e with e1
   cases M with
   | nil => rfl
   | cons u M =>
    obtain ⟨b, q, e2, -⟩ := h4 (by simp)
    rw [← e1] at e2; cases e2
  subst hM
  have hat' := hat (g, c)
  rw [List.append_nil] at hat'
  refine ⟨(g, c), w, trivial, ?_, ?_, ⟨rfl, rfl, rfl, Nat.le_refl _, fun _ _ _ => rfl⟩⟩
  ·rw [List.append_nil]
   exact run_append_op ho (ha.ev hx) (ha.ev hy) (run_append0' sl e o.type (some ⟨g, 0, none⟩) L.length c c' k u.h s.h hLc)
  ·rw [← hat'.same]; exact hw
end
end Go.Proofs.Ytmcpnoailbmkkaa
/- Layer 7: sorted. -/
namespace Go.Proofs.Ytmcpnoailbmkkaa
open Go Go.RowKit Go.Proofs Go.Shelf Go.Sort
/-- A stone with a valid name. -/
structure SN where
 st : St
 ok : bnd st
instance : Inhabited SN := ⟨⟨⟨0, 0, 0, 0⟩, by unfold bnd; decide⟩⟩
def encS (x : SN) : List Value := eT x.1
def cfS (x y : SN) : Int := kyS x.1 - kyS y.1
set_option maxHeartbeats 1000000 in
theorem closure_sN (x y : SN) (W : World) : Calls Try.prog 46 #[.agg (encS x).toArray, .agg (encS y).toArray] W fun e w' => e = .returned (.int .i64 (cfS x y)) ∧ ∃ q os', w' = grow (W.drewN q) os' := by
 obtain ⟨⟨t1, n1, x1, y1⟩, ⟨⟨a1, a2⟩, a3, a4⟩⟩ := x
 obtain ⟨⟨t2, n2, x2, y2⟩, ⟨⟨b1, b2⟩, b3, b4⟩⟩ := y
 simp only at a1 a2 a3 a4 b1 b2 b3 b4
 show Calls Try.prog 46 #[Stv ⟨t1, n1, x1, y1⟩, Stv ⟨t2, n2, x2, y2⟩] W _
 have e : cfS ⟨⟨t1, n1, x1, y1⟩, ⟨⟨a1, a2⟩, a3, a4⟩⟩ ⟨⟨t2, n2, x2, y2⟩, ⟨⟨b1, b2⟩, b3, b4⟩⟩ = (t1 - t2) * 8 + n1 - n2 := by
  show (t1 * 8 + n1) - (t2 * 8 + n2) = _
  omega
 rw [e]
 clear e
 go_enter Try.func46, Try.ntmps46
 go_wp2_with fail
 go_ret
 exact ⟨rfl, 0, _, by rw [alloc_eq_grow, alloc_eq_grow, grow_grow]; rfl⟩
theorem lt_sN (x y : SN) : ltOf cfS x y = decide (kyS x.1 < kyS y.1) := by
 unfold ltOf cfS
 by_cases h : kyS x.1 < kyS y.1
 ·simp [h]; omega
 ·simp [h]; omega
theorem swo_sN : SWO (ltOf cfS) where
 irrefl x := by rw [lt_sN]; simp
 trans x y z h1 h2 := by rw [lt_sN] at *; simp at *; omega
 ntrans x y z h1 h2 := by rw [lt_sN] at *; simp at *; omega
theorem grown_sN {w : World} {g n : Nat} {os : Array Obj} (d : Array SN) : w.grownBy (sortWorldK encS 4 w g 0 n d os) (some g) := by
 refine ⟨rfl, rfl, rfl, by simp [sortWorldK, putRowK, putRow, mapBlock, grow, Sort.ahead], fun k hk hne => ?_⟩
 unfold sortWorldK putRowK
 rw [heap_grow_old _ _ (by simpa [putRow, mapBlock, Sort.ahead] using hk)]
 have : g ≠ k := fun e => hne (by rw [e])
 simp [putRow, mapBlock, Sort.ahead, Array.getElem?_modify, this]
/-- Stones with valid names, as the sort's elements. -/
def toSN (l : List St) (h : ∀ s ∈ l, bnd s) : List SN := l.attach.map fun s => ⟨s.1, h s.1 s.2⟩
theorem toSN_val (l : List St) (h : ∀ s ∈ l, bnd s) : (toSN l h).map SN.st = l := by
 unfold toSN
 rw [List.map_map]
 show l.attach.map (fun s => s.1) = l
 exact List.attach_map_subtype_val l
theorem flat_sN (d : Array SN) (l : List St) (hd : d.toList.map SN.st = l) (j : Nat) (hj : j < l.length * 4) : (l.flatMap eT)[j]? = some (flatK encS 4 d)[j]! := by
 have hs : d.size = l.length := by rw [← hd]; simp
 rw [get_flatK _ _ _ _ (by rw [hs]; exact hj)]
 have hq : j / 4 < l.length := by omega
 have hqd : j / 4 < d.size := by omega
 have h1 := flat_get ET hq (j % 4) (by omega)
 have e : j / 4 * 4 + j % 4 = j := by omega
 rw [e] at h1
 have h2 : (d[j / 4]!).1 = l[j / 4]'hq := by
  rw [getElem!_pos d (j / 4) hqd]
  have : (d.toList.map SN.st)[j / 4]? = l[j / 4]? := by rw [hd]
  rw [List.getElem?_map, Array.getElem?_toList, Array.getElem?_eq_getElem hqd, List.getElem?_eq_getElem hq] at this
  simpa using this
 rw [h1]
 show _ = some (eT (d[j / 4]!).1)[j % 4]!
 rw [h2, List.getElem!_eq_getElem?_getD]
 have hlt : j % 4 < (eT (l[j / 4]'hq)).length := by rw [ET.len]; omega
 rw [List.getElem?_eq_getElem hlt]; rfl
theorem row_sN {w : World} {g cap m : Nat} {d d' : Array SN} {l l' : List St} {os : Array Obj} (h : w.ownsRow 0 49 4 (.slice (some ⟨g, 0, none⟩) l.length cap) l.length (l.flatMap eT)) (hd : d.toList.map SN.st = l) (hd' : d'.toList.map SN.st = l') (hs : d'.size = d.size) :
  HoldsK encS 4 w g 0 d ∧ (sortWorldK encS 4 w g 0 m d' os).ownsRow 0 49 4 (.slice (some ⟨g, 0, none⟩) l'.length cap) l'.length (l'.flatMap eT) := by
 have hn : d.size = l.length := by rw [← hd]; simp
 have hn' : d'.size = l'.length := by rw [← hd']; simp
 have hH : HoldsK encS 4 w g 0 d := by
  intro j hj
  rw [size_flatK, hn] at hj
  rw [Nat.zero_add]
  have hlen := flat_len ET l
  have h1 := flat_sN d l hd j hj
  rw [List.getElem?_eq_getElem (by omega)] at h1
  refine ⟨?_, h.frozenAt j⟩
  rw [h.cellAt j hj, List.getElem?_eq_getElem (by omega), h1]; rfl
 refine ⟨hH, ?_⟩
 obtain ⟨h1, h2⟩ := h
 rcases h2 with ⟨h2, -⟩ | ⟨g', cap', cur, e, -, hg, hc1, hc2, hc3, hc4⟩
 ·cases h2
 injection e with e1 _ e3
 injection e1 with e1
 injection e1 with e1
 subst e1 e3
 have hgl := (Array.getElem?_eq_some_iff.1 hg).1
 have hheap : (sortWorldK encS 4 w g 0 m d' os).heap[g]? = some (.cells (putCells id 0 (flatK encS 4 d') cur) 49 (0, 0)) := by
  unfold sortWorldK putRowK
  rw [heap_grow_old _ _ (by simpa [putRow, mapBlock, Sort.ahead] using hgl)]
  simp [putRow, mapBlock, Sort.ahead, Array.getElem?_modify, hg, onCells]
 refine ⟨by rw [flat_len ET], .inr ⟨g, cap, _, rfl, Nat.zero_le _, hheap, by omega, hc2, by simp [putCells, hc3], ?_⟩⟩
 apply List.ext_getElem?
 intro j
 rw [List.getElem?_take]
 by_cases hj : j < l'.length * 4
 ·rw [if_pos hj, flat_sN d' l' hd' j hj]
  have hjc : j < cur.size := by omega
  simp [putCells, hjc, hn', hj]
 ·rw [if_neg hj, List.getElem?_eq_none (by rw [flat_len ET]; omega)]
theorem sorted_sN {l : List St} {d d' : Array SN} (hd : d.toList.map SN.st = l) (hp : Go.Sort.PermIn 0 d.size d d') (hs : Go.Sort.SortedIn (ltOf cfS) 0 d.size d') :
  (d'.toList.map SN.st).Perm l ∧ (d'.toList.map SN.st).Pairwise (fun a b => kyS a ≤ kyS b) := by
 obtain ⟨h1, -, h2⟩ := hp
 constructor
 ·rw [← hd]
  have e1 : d'.extract 0 d.size = d' := by rw [← h1]; exact Array.extract_size
  have e2 : d.extract 0 d.size = d := Array.extract_size
  rw [e1, e2] at h2
  exact h2.map _
 ·rw [List.pairwise_map, List.pairwise_iff_getElem]
  intro i j hi hj hij
  have hi' : i < d'.size := by simpa using hi
  have hj' : j < d'.size := by simpa using hj
  have h3 := hs i j (Nat.zero_le _) hij (by omega)
  rw [lt_sN] at h3
  rw [getElem!_pos d' j hj', getElem!_pos d' i hi'] at h3
  simp only [decide_eq_false_iff_not] at h3
  simp only [Array.getElem_toList]
  omega
theorem SortFuncT (l : List St) (g c : Nat) (w : World) (hA : (ownB 49 4 (some ⟨g, 0, none⟩) l.length c (l.flatMap eT)).holds w) (hAf : ∀ b, (ownB 49 4 (some ⟨g, 0, none⟩) l.length c (l.flatMap eT)).foot b → b < w.heap.size) (hb : ∀ s ∈ l, bnd s) (hd : dis l) (hl : l.length ≤ 1000) :
  Calls Try.prog 45 #[.slice (some ⟨g, 0, none⟩) l.length c, .func (.func 46) #[] #[]] w (RetM (ownB 49 4 (some ⟨g, 0, none⟩) l.length c (l.flatMap eT)) (fun _ : Unit => True) (fun _ => .tuple #[]) (fun _ => ownB 49 4 (some ⟨g, 0, none⟩) (srt l).length c ((srt l).flatMap eT)) w) := by
 have hA' : w.ownsRow 0 49 4 (.slice (some ⟨g, 0, none⟩) l.length c) l.length (l.flatMap eT) := hA
 have hst := Wd.startM hA hAf
 rcases hA'.2 with ⟨h1, -⟩ | ⟨g', cap, cur, h1, -, hg, hlc, hcm, -⟩
 ·cases h1
 injection h1 with e1 _ e3
 injection e1 with e1
 injection e1 with e1
 subst e1 e3
 obtain ⟨d, hdd⟩ : ∃ d : Array SN, d.toList.map SN.st = l := ⟨(toSN l hb).toArray, toSN_val l hb⟩
 have hds : d.size = l.length := by rw [← hdd]; simp
 have eg : ∀ args w, (callFunc 46 args).run Try.prog w = .ok (.enter 46 args) w := enters_of Try.func46 (by kernel_rfl) rfl
 have hgl := (Array.getElem?_eq_some_iff.1 hg).1
 have h70 := AnyQ.slices_SortFunc Try.sortSt 4 (fun w => by kernel_rfl) (fun w => by kernel_rfl) encS (fun _ => rfl) (fun x v hv => ET.one x.1 v hv) cfS swo_sN 46 #[] g 0 c d w eg (fun _ _ _ _ x y => closure_sN x y _) (row_sN (m := 0) (os := #[]) hA' hdd hdd rfl).1 hgl (by omega)
 rw [hds] at h70
 refine h70.mono ?_
 rintro e w' ⟨rfl, d', n, os, hp, hs, rfl⟩
 have hsz : d'.size = d.size := hp.1
 rw [← hds] at hp hs
 obtain ⟨o1, o2⟩ := sorted_sN hdd hp hs
 have e := srt_uniq hb hd o1 o2
 have hrow := (row_sN (m := n) (os := os) hA' hdd e hsz).2
 have hgr := grown_sN (w := w) (g := g) (n := n) (os := os) d'
 refine ⟨(), trivial, rfl, hst.chg (At.here _) rfl rfl ⟨hgr.os, hgr.tape, hgr.output, hgr.size, fun b hb hn => hgr.block b hb (fun e => hn (by injection e with e; rw [← e]; rfl))⟩ hrow (fun b hb => ?_)⟩
 obtain rfl : g = b := by simpa [ownB, Value.ownBlock] using hb
 exact ⟨.inl rfl, Nat.lt_of_lt_of_le hgl hgr.size⟩

attribute [local irreducible] J JQ JL JA JD
set_option maxRecDepth 100000 in
set_option maxHeartbeats 4000000 in
theorem sortedT (l : List St) (v : Value) (w : World) (hrow : Arr 4 eT w v l) (hl : l.length ≤ 1000) (hb : ∀ s ∈ l, bnd s) (hd : dis l) : Calls Try.prog 30 #[v] w (RetS 49 4 eT (srt l) w) := by
 have hrow0 := hrow
 obtain ⟨A, cap, rfl, -, ⟨hl9, -⟩, hA⟩ := hrow
 have hsl := srt_len l
 refine J_enter (fun _ => False) (vs := [.slice A l.length cap]) (k := 9) (l := [(0, .slice A l.length cap)]) Try.func30 rfl rfl Try.ntmps30 rfl rfl (Wd.start _) ?_
 refine s7 ?_
 refine aW (ow_slice0 (k := 4) (ty := 49) rfl rfl rfl (fun _ => by kernel_rfl)) (fun b4 hb4 => ?_)
 refine s1 ?_
 refine aW (oAppG (sl := 32) ET ([] : List St) l (fun w hw => hrow0.up ET hw.bel) rfl (Nat.le_refl _) (hl := by rw [List.length_nil]; omega)) (fun t6 _ => ?_)
 obtain ⟨g6, c6⟩ := t6
 dsimp only
 rw [List.nil_append]
 refine s4 ?_
 refine kJ [(3, _)] ?_
 refine s2 ?_
 refine aW (oM (fun w hw => SortFuncT l g6 c6 w (hw.ok (ownB 49 4 (some ⟨g6, 0, none⟩) (l).length c6 ((l).flatMap eT)) (by repeat constructor)).1 (hw.newA (A := ownB 49 4 (some ⟨g6, 0, none⟩) (l).length c6 ((l).flatMap eT)) (by repeat constructor) rfl).2 hb hd hl)) (fun _ _ => ?_)
 refine s9 ?_
 refine JR_one rfl (rr_tmp rfl) ?_
 intro w' hw
 exact ⟨some ⟨g6, 0, none⟩, c6, by rw [hsl], hw.pick (by repeat constructor)⟩
end Go.Proofs.Ytmcpnoailbmkkaa
/- Layer 7: CheckThrow. -/
namespace Go.Proofs.Ytmcpnoailbmkkaa
open Go Go.RowKit Go.Proofs
attribute [local irreducible] J JQ JL JA JD

/-- A stone of a throw has a name that it may have. -/
def mayB (l : List St) (x : Th) (s : St) : Bool := (lookT l s.t s.n).isSome || eqK s.t s.n x.team x.n
theorem thr_no1 {l m : List St} {x : Th} (h : thrA l m x = false) : thrB l m x = false := by unfold thrB; rw [h]; rfl
theorem thr_no2 {l m : List St} {x : Th} {y : St} (h : lookT l x.team x.n = some y) : thrB l m x = false := by unfold thrB; rw [h]; simp
theorem thr_no3 {l m : List St} {x : Th} {k : Nat} (hk : k < m.length) (h : mayB l x (m[k]'hk) = false) : thrB l m x = false := by
 have : m.all (fun s => (lookT l s.t s.n).isSome || eqK s.t s.n x.team x.n) = false := by
  rw [← Bool.not_eq_true, List.all_eq_true]
  intro h1
  have := h1 _ (List.getElem_mem hk)
  unfold mayB at h
  rw [h] at this; cases this
 unfold thrB; rw [this]; simp
theorem thr_yes {l m : List St} {x : Th} (h : thrA l m x = true) (h2 : lookT l x.team x.n = none) (h3 : ∀ j (hj : j < m.length), mayB l x (m[j]'hj) = true) : thrB l m x = (!x.short || decide (srt l = srt m)) := by
 have h4 : m.all (fun s => (lookT l s.t s.n).isSome || eqK s.t s.n x.team x.n) = true := by
  rw [List.all_eq_true]
  intro s hs
  obtain ⟨j, hj, rfl⟩ := List.getElem_of_mem hs
  exact h3 j hj
 have h5 : eqL (srt l) (srt m) = decide (srt l = srt m) := by
  by_cases e : srt l = srt m
  ·rw [decide_eq_true e, (eqL_iff _ _).2 e]
  ·rw [decide_eq_false e, eqL_no e]
 unfold thrB; rw [h, h2, h4, h5]; rfl
abbrev Thv (x : Th) (A : Option Addr) (n c : Nat) : Value := .agg #[.int .i64 x.team, .int .i64 x.n, .bool x.late, .bool x.short, .int .i64 x.how, .slice A n c]
theorem bnd64 {s : St} (h : bnd s) : W64 s.t ∧ W64 s.n := by unfold bnd at h; unfold W64; omega
set_option maxRecDepth 100000 in
set_option maxHeartbeats 4000000 in
theorem CheckThrow_any (l m : List St) (x : Th) (v : Value) (A2 : Option Addr) (cap2 : Nat) (w : World) (hrow : Arr 4 eT w v l) (hrow2 : Arr 4 eT w (.slice A2 m.length cap2) m) : Calls Try.prog 32 #[v, Thv x A2 m.length cap2] w (Back (.bool (thrB l m x)) w) := by
 obtain ⟨xteam, xnn, xlate, xshort, xhow⟩ := x
 have hrow0 := hrow
 obtain ⟨A, cap, rfl, -, ⟨hl9, -⟩, hA⟩ := hrow
 have hrow20 := hrow2
 obtain ⟨A2', cap2', e2, -, ⟨hl92, -⟩, hA2⟩ := hrow2
 obtain ⟨rfl, -, rfl⟩ : A2 = A2' ∧ True ∧ cap2 = cap2' := by injection e2 with e1 _ e3; exact ⟨e1, trivial, e3⟩
 dsimp only [Thv]
 refine J_enter (fun _ => False) (vs := [.slice A l.length cap, .agg #[.int .i64 xteam, .int .i64 xnn, .bool xlate, .bool xshort, .int .i64 xhow, .slice A2 m.length cap2]]) (k := 86) (l := [(0, .slice A l.length cap), (1, .agg #[.int .i64 xteam, .int .i64 xnn, .bool xlate, .bool xshort, .int .i64 xhow, .slice A2 m.length cap2])]) Try.func32 rfl rfl Try.ntmps32 rfl rfl (Wd.start _) ?_
 refine s2 ?_
 refine aW (oX [_, _, _, _, _, _]) (fun b3 hb3 => ?_)
 refine s7 ?_
 refine aCB (fun w hw => Check_any l _ w (hrow0.up ET hw.bel)) ?_
 refine JL_bool (fun h14 => ?_) (fun h14 => ?_)
 ·refine s4 ?_
  refine aCB (fun w hw => Check_any m _ w (hrow20.up ET hw.bel)) ?_
  refine JL_bool (fun h19 => ?_) (fun h19 => ?_)
  ·refine s5 ?_
   refine aCB (fun w hw => rwithin _ _ _ w) ?_
   refine JL_dec (fun h25 => ?_) (fun h25 => ?_)
   ·refine s5 ?_
    refine aCB (fun w hw => rwithin _ _ _ w) ?_
    refine JL_dec (fun h31 => ?_) (fun h31 => ?_)
    ·refine s5 ?_
     refine aCB (fun w hw => rwithin _ _ _ w) ?_
     refine JL_dec (fun h37 => ?_) (fun h37 => ?_)
     ·refine s7 ?_
      have hA0 : thrA l m (⟨xteam, xnn, xlate, xshort, xhow⟩ : Th) = true := by unfold thrA; rw [h14, h19, decide_eq_true h25, decide_eq_true h31, decide_eq_true h37]; rfl
      have hbl := chk_bnd h14
      have hbm := chk_bnd h19
      have hdl := chk_dis h14
      have hdm := chk_dis h19
      have hl16 := (chk_facts h14).1
      have hm16 := (chk_facts h19).1
      have h640 : okN2 (xteam, xnn) := by unfold okN2 W64; dsimp only; omega
      refine xC (T := Nat × Nat) (fun q => True) (fun q => [(0, .slice A l.length cap), (3, .pointer (some ⟨b3, 0, none⟩)), (5, .pointer (some ⟨q.1, 0, none⟩)), (6, .map (some q.2))]) (fun q => [cellB b3 [.int .i64 xteam, .int .i64 xnn, .bool xlate, .bool xshort, .int .i64 xhow, .slice A2 m.length cap2] 42, cellB q.1 [.int .i64 xteam, .int .i64 xnn] 102, mapK Try.prog 102 49 kN okN2 dT q.2 l.length (tblF l)]) ?_ ?_
      ·refine kJ [(0, _), (3, _)] ?_
       refine xD [0, 1, 2, 3, 4, 5] [1, 3] ?_
       refine s4 ?_
       refine dP rfl (rp_buildC (fun us => [us.getD 0 undef, us.getD 1 undef]) rfl rfl (fun w => by kernel_rfl)) ?_
       refine s1 ?_
       refine dPair (i := 6) (j := 7) (by kernel_rfl) ?_ ?_
       ·refine St1_mk rfl wAny (oR (fun w hw => table_any l _ w (hrow0.up ET hw.bel) (fun s hs => bnd64 (hbl s hs)) (by omega))) (by first | exact trivial | exact ⟨by kernel_rfl, .inl (rfl : waitsB _ [] _ = true)⟩ | exact ⟨by kernel_rfl, .inr ⟨rfl, by repeat constructor⟩⟩) (fun b46 _ => ?_)
        refine dOA [7, 8, 9] ?_
        refine dW rfl oA (fun b5 hb5 => ?_)
        refine s3 ?_
        exact xE (b5, b46) trivial
       ·refine St1_mk rfl wAny oA (by first | exact trivial | exact ⟨by kernel_rfl, .inl (rfl : waitsB _ [] _ = true)⟩ | exact ⟨by kernel_rfl, .inr ⟨rfl, by repeat constructor⟩⟩) (fun b5 hb5 => ?_)
        refine dOA [6, 8, 9] ?_
        refine dW rfl (oR (fun w hw => table_any l _ w (hrow0.up ET hw.bel) (fun s hs => bnd64 (hbl s hs)) (by omega))) (fun b46 _ => ?_)
        refine s3 ?_
        exact xE (b5, b46) trivial
      ·rintro ⟨b5, b46⟩ -
       dsimp only
       refine s2 ?_
       rcases hr0 : tblF l (xteam, xnn) with _ | y0
       ·refine s3 ?_
        refine aV (rv_lookK2 KNR LSt (xteam, xnn) Und.h rfl rfl rfl (by repeat constructor) rfl h640 hr0) ?_
        refine s3 ?_
        refine aW oA (fun b7 hb7 => ?_)
        refine s5 ?_
        refine kJ [(0, _), (3, _), (5, _), (6, _), (8, _)] ?_
        refine s17 ?_
        refine xL (T := Nat) (fun k => k ≤ m.length ∧ ∀ j (hj : j < m.length), j < k → mayB l (⟨xteam, xnn, xlate, xshort, xhow⟩ : Th) (m[j]'hj) = true) (fun k => [(0, .slice A l.length cap), (3, .pointer (some ⟨b3, 0, none⟩)), (5, .pointer (some ⟨b5, 0, none⟩)), (6, .map (some b46)), (55, .slice A2 m.length cap2), (56, .int .i64 (m.length : Nat)), (57, .int .i64 (k : Nat))]) (fun k => [cellB b3 [.int .i64 xteam, .int .i64 xnn, .bool xlate, .bool xshort, .int .i64 xhow, .slice A2 m.length cap2] 42, cellB b5 [.int .i64 xteam, .int .i64 xnn] 102, mapK Try.prog 102 49 kN okN2 dT b46 l.length (tblF l)]) (fun k => m.length - k) 0 ⟨Nat.zero_le _, fun j _ h => absurd h (Nat.not_lt_zero _)⟩ ?_
        rintro k ⟨hk, hall0⟩
        refine s3 ?_
        refine JL_dec (fun h58 => ?_) (fun h58 => ?_)
        ·refine s9 ?_
         have hltx : k < m.length := by omega
         obtain ⟨bx, qx, rfl, hh2⟩ := hA2 (by intro e; subst e; simp at hltx)
         obtain ⟨⟨xt, xn, xx, xy⟩, hx⟩ : ∃ y, m[k]'hltx = y := ⟨_, rfl⟩
         have hmx : (⟨xt, xn, xx, xy⟩ : St) ∈ m := by rw [← hx]; exact List.getElem_mem _
         refine s2 ?_
         refine aV (vHoldA (cs := [.int .i64 xt, .int .i64 xn, .int .i64 xx, .int .i64 xy]) ET rfl rfl (fun h => h) hh2 hltx (by rw [hx]; rfl)) ?_
         refine aW oA (fun b10 hb10 => ?_)
         refine s4 ?_
         have h64x : okN2 (xt, xn) := bnd64 (hbm _ hmx)
         rcases hr1 : tblF l (xt, xn) with _ | y1
         ·refine s3 ?_
          refine aCB (fun w hw => of_any (⟨xt, xn, xx, xy⟩ : St) w) ?_
          refine aV (rv_lookK2 KNR LSt (xt, xn) Und.h rfl rfl rfl (by repeat constructor) rfl h64x hr1) ?_
          refine s3 ?_
          refine aW oA (fun b11 hb11 => ?_)
          refine s5 ?_
          refine kJ [(0, _), (3, _), (5, _), (6, _), (10, _), (12, _), (55, _), (56, _), (57, _)] ?_
          refine xD [0, 1, 2, 3, 5, 4, 6] [3, 5] ?_
          refine s5 ?_
          refine dCB rfl (fun w hw => of_any (⟨xt, xn, xx, xy⟩ : St) w) ?_
          refine dP rfl (pNeqN xt xn xteam xnn rfl rfl rfl) ?_
          refine dBool (fun h74 => ?_) (fun h74 => ?_)
          ·refine dO [7] ?_
           refine s5 ?_
           refine kJ [] ?_
           refine s10 ?_
           refine JR_one rfl (rr_tmp rfl) ?_
           intro w' hw
           exact ⟨by rw [thr_no3 (x := (⟨xteam, xnn, xlate, xshort, xhow⟩ : Th)) (k := k) hltx (by unfold mayB; rw [hx]; dsimp only; unfold tblF at hr1; dsimp only at hr1; rw [hr1]; cases h0 : eqK xt xn xteam xnn with | true => rw [h0] at h74; cases h74 | false => rfl)], hw.bel⟩
          ·refine dO [7] ?_
           refine s7 ?_
           refine kJ [(0, _), (3, _), (5, _), (6, _), (55, _), (56, _), (57, _)] ?_
           refine s4 ?_
           have hn : ∀ j (hj : j < m.length), j < k + 1 → mayB l (⟨xteam, xnn, xlate, xshort, xhow⟩ : Th) (m[j]'hj) = true := fun j hj hjk => by
            rcases Nat.lt_or_ge j k with h | h
            ·exact hall0 j hj h
            ·obtain rfl : j = k := by omega
             rw [hx]; unfold mayB; dsimp only; cases h0 : eqK xt xn xteam xnn with | true => simp | false => rw [h0] at h74; cases h74
           exact xR (k + 1) ⟨by omega, hn⟩ (by omega) (hl := ⟨rfl, rfl, rfl, rfl, rfl, rfl, (congrArg some (by go_num)), trivial⟩)
         ·refine s3 ?_
          refine aCB (fun w hw => of_any (⟨xt, xn, xx, xy⟩ : St) w) ?_
          refine aV (rv_lookK2 KNR LSt (xt, xn) Und.h rfl rfl rfl (by repeat constructor) rfl h64x hr1) ?_
          refine s3 ?_
          refine aW oA (fun b11 hb11 => ?_)
          refine s5 ?_
          refine kJ [(0, _), (3, _), (5, _), (6, _), (10, _), (12, _), (55, _), (56, _), (57, _)] ?_
          refine xD [0, 1, 2, 3, 4, 5, 6, 7] [3, 5] ?_
          refine s14 ?_
          refine kJ [(0, _), (3, _), (5, _), (6, _), (55, _), (56, _), (57, _)] ?_
          refine s4 ?_
          have hn : ∀ j (hj : j < m.length), j < k + 1 → mayB l (⟨xteam, xnn, xlate, xshort, xhow⟩ : Th) (m[j]'hj) = true := fun j hj hjk => by
           rcases Nat.lt_or_ge j k with h | h
           ·exact hall0 j hj h
           ·obtain rfl : j = k := by omega
            rw [hx]; unfold mayB; unfold tblF at hr1; dsimp only at hr1; rw [hr1]; rfl
          exact xR (k + 1) ⟨by omega, hn⟩ (by omega) (hl := ⟨rfl, rfl, rfl, rfl, rfl, rfl, (congrArg some (by go_num)), trivial⟩)
        ·refine s10 ?_
         have hall : ∀ j (hj : j < m.length), mayB l (⟨xteam, xnn, xlate, xshort, xhow⟩ : Th) (m[j]'hj) = true := fun j hj => hall0 j hj (by omega)
         refine kJ [(0, _), (3, _)] ?_
         refine xD [0, 1] [1, 7] ?_
         refine s2 ?_
         refine dBool (fun h78 => ?_) (fun h78 => ?_)
         ·refine dO [2, 3, 4, 6, 7, 5, 8, 9, 10, 11] ?_
          refine s5 ?_
          refine dS rfl (oS (fun w hw => sortedT l _ w (hrow0.up ET hw.bel) (by omega) hbl hdl)) (fun A82 c82 => ?_)
          refine dS rfl (oS (fun w hw => sortedT m _ w (hrow20.up ET hw.bel) (by omega) hbm hdm)) (fun A85 c85 => ?_)
          refine dCB rfl (fun w hw => EqualT (srt l) (srt m) _ _ w (own_arr (A := A82) (c := c82) ET hw (by repeat constructor) (by rw [srt_len]; omega)) (own_arr (A := A85) (c := c85) ET hw (by repeat constructor) (by rw [srt_len]; omega))) ?_
          refine s5 ?_
          refine JR_one rfl (rr_tmp rfl) ?_
          intro w' hw
          obtain rfl : k = m.length := by omega
          exact ⟨by rw [thr_yes (x := (⟨xteam, xnn, xlate, xshort, xhow⟩ : Th)) hA0 hr0 hall]; dsimp only; rw [h78]; rfl, hw.bel⟩
         ·refine dO [2, 3, 4, 5, 6, 7, 8, 9, 10, 11] ?_
          refine s13 ?_
          refine JR_one rfl (rr_tmp rfl) ?_
          intro w' hw
          obtain rfl : k = m.length := by omega
          exact ⟨by rw [thr_yes (x := (⟨xteam, xnn, xlate, xshort, xhow⟩ : Th)) hA0 hr0 hall]; dsimp only; rw [h78]; rfl, hw.bel⟩
       ·refine s3 ?_
        refine aV (rv_lookK2 KNR LSt (xteam, xnn) Und.h rfl rfl rfl (by repeat constructor) rfl h640 hr0) ?_
        refine s3 ?_
        refine aW oA (fun b7 hb7 => ?_)
        refine s5 ?_
        refine kJ [(0, _), (3, _), (5, _), (6, _), (8, _)] ?_
        refine s6 ?_
        refine kJ [] ?_
        refine s6 ?_
        refine JR_one rfl (rr_tmp rfl) ?_
        intro w' hw
        exact ⟨by rw [thr_no2 (x := (⟨xteam, xnn, xlate, xshort, xhow⟩ : Th)) (y := y0) hr0], hw.bel⟩
     ·refine s6 ?_
      refine kJ [] ?_
      refine s6 ?_
      refine JR_one rfl (rr_tmp rfl) ?_
      intro w' hw
      exact ⟨by rw [thr_no1 (by unfold thrA; rw [decide_eq_false h37]; simp)], hw.bel⟩
    ·refine s12 ?_
     refine kJ [] ?_
     refine s6 ?_
     refine JR_one rfl (rr_tmp rfl) ?_
     intro w' hw
     exact ⟨by rw [thr_no1 (by unfold thrA; rw [decide_eq_false h31]; simp)], hw.bel⟩
   ·refine s18 ?_
    refine kJ [] ?_
    refine s6 ?_
    refine JR_one rfl (rr_tmp rfl) ?_
    intro w' hw
    exact ⟨by rw [thr_no1 (by unfold thrA; rw [decide_eq_false h25]; simp)], hw.bel⟩
  ·refine s24 ?_
   refine kJ [] ?_
   refine s6 ?_
   refine JR_one rfl (rr_tmp rfl) ?_
   intro w' hw
   exact ⟨by rw [thr_no1 (by unfold thrA; rw [h19]; simp)], hw.bel⟩
 ·refine s29 ?_
  refine kJ [] ?_
  refine s6 ?_
  refine JR_one rfl (rr_tmp rfl) ?_
  intro w' hw
  exact ⟨by rw [thr_no1 (by unfold thrA; rw [h14]; simp)], hw.bel⟩
end Go.Proofs.Ytmcpnoailbmkkaa
/- Layer 7: seen; the lines. -/
namespace Go.Proofs.Ytmcpnoailbmkkaa
open Go Go.RowKit Go.Proofs
attribute [local irreducible] J JQ JL JA JD

/-- What happened, in memory. -/
abbrev evC (x : Th) (A : Option Addr) (n c : Nat) (rm mv sf : Bool) : List Value := [.int .i64 x.team, .int .i64 x.n, .bool x.late, .bool x.short, .int .i64 x.how, .slice A n c, .bool rm, .bool mv, .bool sf]
abbrev Evv (x : Th) (A : Option Addr) (n c : Nat) (rm mv sf : Bool) : Value := .agg #[.int .i64 x.team, .int .i64 x.n, .bool x.late, .bool x.short, .int .i64 x.how, .slice A n c, .bool rm, .bool mv, .bool sf]
theorem rem_s1 {c : Cd} {n team : Int} {m l : List St} {k : Nat} (h : k < l.length) (h1 : remB c n team m (l.take k) = true) : remB c n team m (l.take (k + 1)) = true := by rw [remB_step c n team m h, h1]; rfl
theorem rem_s2 {c : Cd} {n team : Int} {m l : List St} {k : Nat} {x y : St} (h : k < l.length) (hx : l[k]'h = x) (h1 : remB c n team m (l.take k) = false) (h2 : tblF m (x.t, x.n) = some y) : remB c n team m (l.take (k + 1)) = false := by
 unfold tblF at h2; dsimp only at h2
 rw [remB_step c n team m h, h1, hx, h2]; rfl
theorem rem_s3 {c : Cd} {n team : Int} {m l : List St} {k : Nat} {x : St} (h : k < l.length) (hx : l[k]'h = x) (h1 : remB c n team m (l.take k) = false) (h2 : tblF m (x.t, x.n) = none) : remB c n team m (l.take (k + 1)) = kpB c n team x := by
 unfold tblF at h2; dsimp only at h2
 rw [remB_step c n team m h, h1, hx, h2]; simp
theorem mov_s1 {c : Cd} {n team : Int} {m l : List St} {k : Nat} (h : k < l.length) (h1 : movB c n team m (l.take k) = true) : movB c n team m (l.take (k + 1)) = true := by rw [movB_step c n team m h, h1]; rfl
theorem mov_s2 {c : Cd} {n team : Int} {m l : List St} {k : Nat} {x : St} (h : k < l.length) (hx : l[k]'h = x) (h1 : movB c n team m (l.take k) = false) (h2 : tblF m (x.t, x.n) = none) : movB c n team m (l.take (k + 1)) = false := by
 unfold tblF at h2; dsimp only at h2
 rw [movB_step c n team m h, h1, hx, h2]; rfl
theorem mov_s3 {c : Cd} {n team : Int} {m l : List St} {k : Nat} {x : St} (h : k < l.length) (hx : l[k]'h = x) (h1 : movB c n team m (l.take k) = false) (h2 : fxB c n team x = false) : movB c n team m (l.take (k + 1)) = false := by
 rw [movB_step c n team m h, h1, hx, h2]; simp
theorem mov_s4 {c : Cd} {n team : Int} {m l : List St} {k : Nat} {x y : St} (h : k < l.length) (hx : l[k]'h = x) (h1 : movB c n team m (l.take k) = false) (h2 : fxB c n team x = true) (h3 : tblF m (x.t, x.n) = some y) : movB c n team m (l.take (k + 1)) = !cen y := by
 unfold tblF at h3; dsimp only at h3
 rw [movB_step c n team m h, h1, hx, h2, h3]; simp
set_option maxRecDepth 100000 in
set_option maxHeartbeats 4000000 in
theorem seen_any (c : Cd) (n team : Int) (l m : List St) (x : Th) (v : Value) (A2 : Option Addr) (cap2 : Nat) (w : World) (hrow : Arr 4 eT w v l) (hrow2 : Arr 4 eT w (.slice A2 m.length cap2) m) (hok : ∀ s ∈ l, W64 s.t ∧ W64 s.n) (hokm : ∀ s ∈ m, W64 s.t ∧ W64 s.n) (hm9 : m.length ≤ 1000) : Calls Try.prog 50 #[Tnv c n team, v, Thv x A2 m.length cap2] w (Back (Evv x A2 m.length cap2 (remB c n team m l) (movB c n team m l) (decide (n < c.s))) w) := by
 obtain ⟨kf, kt, ks, ke, kp⟩ := c
 obtain ⟨xteam, xnn, xlate, xshort, xhow⟩ := x
 have hrow0 := hrow
 obtain ⟨A, cap, rfl, -, ⟨hl9, -⟩, hA⟩ := hrow
 have hrow20 := hrow2
 dsimp only [Thv, Tnv]
 refine J_enter (fun _ => False) (vs := [.agg #[.int .i64 kf, .int .i64 kt, .int .i64 ks, .int .i64 ke, .bool kp, .int .i64 n, .int .i64 team], .slice A l.length cap, .agg #[.int .i64 xteam, .int .i64 xnn, .bool xlate, .bool xshort, .int .i64 xhow, .slice A2 m.length cap2]]) (k := 64) (l := [(0, .agg #[.int .i64 kf, .int .i64 kt, .int .i64 ks, .int .i64 ke, .bool kp, .int .i64 n, .int .i64 team]), (1, .slice A l.length cap), (2, .agg #[.int .i64 xteam, .int .i64 xnn, .bool xlate, .bool xshort, .int .i64 xhow, .slice A2 m.length cap2])]) Try.func50 rfl rfl Try.ntmps50 rfl rfl (Wd.start _) ?_
 refine s2 ?_
 refine aW (oX [_, _, _, _, _, _, _]) (fun b3 hb3 => ?_)
 refine aW (oX [_, _, _, _, _, _]) (fun b5 hb5 => ?_)
 refine aW oA (fun b6 hb6 => ?_)
 refine s11 ?_
 refine aP (rp_buildC (fun us => [us.getD 0 undef, .bool false, .bool false, us.getD 1 undef]) rfl rfl (fun w => by kernel_rfl)) ?_
 refine aW oA (fun b7 hb7 => ?_)
 refine aW0 (wStore (cs := [_, _, _, _, _, _, _, _, _]) rfl rfl rfl rfl rfl rfl rfl (by repeat constructor) rfl rfl) ?_
 refine s3 ?_
 refine kJ [(1, _), (3, _), (5, _), (6, _), (7, _)] ?_
 refine s3 ?_
 refine aW (oR (fun w hw => table_any m _ w (hrow20.up ET hw.bel) hokm hm9)) (fun b23 _ => ?_)
 refine s5 ?_
 refine kJ [(1, _), (3, _), (6, _), (7, _), (8, _)] ?_
 refine s7 ?_
 refine xL (T := Nat) (fun k => k ≤ l.length) (fun k => [(3, .pointer (some ⟨b3, 0, none⟩)), (6, .pointer (some ⟨b6, 0, none⟩)), (7, .pointer (some ⟨b7, 0, none⟩)), (8, .map (some b23)), (24, .slice A l.length cap), (25, .int .i64 (l.length : Nat)), (26, .int .i64 (k : Nat))]) (fun k => [cellB b3 [.int .i64 kf, .int .i64 kt, .int .i64 ks, .int .i64 ke, .bool kp, .int .i64 n, .int .i64 team] 82, cellB b6 (evC ⟨0, 0, false, false, 0⟩ none 0 0 false false false) 108, cellB b7 (evC (⟨xteam, xnn, xlate, xshort, xhow⟩ : Th) A2 m.length cap2 (remB (⟨kf, kt, ks, ke, kp⟩ : Cd) n team m (l.take k)) (movB (⟨kf, kt, ks, ke, kp⟩ : Cd) n team m (l.take k)) (decide (n < ks))) 108, mapK Try.prog 102 49 kN okN2 dT b23 m.length (tblF m)]) (fun k => l.length - k) 0 (Nat.zero_le _) ?_ (hH := by (try dsimp only); rw [show remB (⟨kf, kt, ks, ke, kp⟩ : Cd) n team m (l.take 0) = false from rfl, show movB (⟨kf, kt, ks, ke, kp⟩ : Cd) n team m (l.take 0) = false from rfl]; repeat constructor)
 rintro k hk
 refine s3 ?_
 refine JL_dec (fun h27 => ?_) (fun h27 => ?_)
 ·refine s9 ?_
  have hltx : k < l.length := by omega
  obtain ⟨bx, qx, rfl, hh⟩ := hA (by intro e; subst e; simp at hltx)
  obtain ⟨⟨xt, xn, xx, xy⟩, hx⟩ : ∃ y, l[k]'hltx = y := ⟨_, rfl⟩
  have hmx : (⟨xt, xn, xx, xy⟩ : St) ∈ l := by rw [← hx]; exact List.getElem_mem _
  refine s2 ?_
  refine aV (vHoldA (cs := [.int .i64 xt, .int .i64 xn, .int .i64 xx, .int .i64 xy]) ET rfl rfl (fun h => h) hh hltx (by rw [hx]; rfl)) ?_
  refine aW oA (fun b10 hb10 => ?_)
  refine s4 ?_
  have h64x : okN2 (xt, xn) := hok _ hmx
  rcases hr1 : tblF m (xt, xn) with _ | ⟨yt, yn, yx, yy⟩
  ·refine s3 ?_
   refine aCB (fun w hw => of_any (⟨xt, xn, xx, xy⟩ : St) w) ?_
   refine aV (rv_lookK2 KNR LSt (xt, xn) Und.h rfl rfl rfl (by repeat constructor) rfl h64x hr1) ?_
   refine s3 ?_
   refine aW oA (fun b11 hb11 => ?_)
   refine s5 ?_
   refine kJ [(3, _), (6, _), (7, _), (8, _), (10, _), (11, _), (12, _), (24, _), (25, _), (26, _)] ?_
   refine s3 ?_
   refine JL_bool (fun h38 => ?_) (fun h38 => ?_)
   ·have hrm := h38
    refine s13 ?_
    refine kJ [(3, _), (6, _), (7, _), (8, _), (10, _), (11, _), (12, _), (24, _), (25, _), (26, _)] ?_
    refine s3 ?_
    refine JL_bool (fun h50 => ?_) (fun h50 => ?_)
    ·have hmv := h50
     refine s18 ?_
     refine kJ [(3, _), (6, _), (7, _), (8, _), (24, _), (25, _), (26, _)] ?_
     refine s4 ?_
     have hs1 := rem_s1 hltx hrm
     have hs2 := mov_s1 hltx hmv
     (try dsimp only at hs1 hs2)
     exact xR (k + 1) (by omega) (by omega) (hl := ⟨rfl, rfl, rfl, rfl, rfl, rfl, (congrArg some (by go_num)), trivial⟩) (hH := by (try dsimp only); rw [hs1, hs2]; repeat constructor)
    ·have hmv := h50
     refine s18 ?_
     refine kJ [(3, _), (6, _), (7, _), (8, _), (24, _), (25, _), (26, _)] ?_
     refine s4 ?_
     have hs1 := rem_s1 hltx hrm
     have hs2 := mov_s2 hltx hx hmv hr1
     (try dsimp only at hs1 hs2)
     exact xR (k + 1) (by omega) (by omega) (hl := ⟨rfl, rfl, rfl, rfl, rfl, rfl, (congrArg some (by go_num)), trivial⟩) (hH := by (try dsimp only); rw [hs1, hs2]; repeat constructor)
   ·have hrm := h38
    refine s6 ?_
    refine aCB (fun w hw => keeps_any (⟨kf, kt, ks, ke, kp⟩ : Cd) n team (⟨xt, xn, xx, xy⟩ : St) w) ?_
    refine s6 ?_
    refine kJ [(3, _), (6, _), (7, _), (8, _), (10, _), (11, _), (12, _), (24, _), (25, _), (26, _)] ?_
    refine s3 ?_
    refine JL_bool (fun h50 => ?_) (fun h50 => ?_)
    ·have hmv := h50
     refine s18 ?_
     refine kJ [(3, _), (6, _), (7, _), (8, _), (24, _), (25, _), (26, _)] ?_
     refine s4 ?_
     have hs1 := rem_s3 hltx hx hrm hr1
     have hs2 := mov_s1 hltx hmv
     (try dsimp only at hs1 hs2)
     exact xR (k + 1) (by omega) (by omega) (hl := ⟨rfl, rfl, rfl, rfl, rfl, rfl, (congrArg some (by go_num)), trivial⟩) (hH := by (try dsimp only); rw [hs1, hs2]; repeat constructor)
    ·have hmv := h50
     refine s18 ?_
     refine kJ [(3, _), (6, _), (7, _), (8, _), (24, _), (25, _), (26, _)] ?_
     refine s4 ?_
     have hs1 := rem_s3 hltx hx hrm hr1
     have hs2 := mov_s2 hltx hx hmv hr1
     (try dsimp only at hs1 hs2)
     exact xR (k + 1) (by omega) (by omega) (hl := ⟨rfl, rfl, rfl, rfl, rfl, rfl, (congrArg some (by go_num)), trivial⟩) (hH := by (try dsimp only); rw [hs1, hs2]; repeat constructor)
  ·refine s3 ?_
   refine aCB (fun w hw => of_any (⟨xt, xn, xx, xy⟩ : St) w) ?_
   refine aV (rv_lookK2 KNR LSt (xt, xn) Und.h rfl rfl rfl (by repeat constructor) rfl h64x hr1) ?_
   refine s3 ?_
   refine aW oA (fun b11 hb11 => ?_)
   refine s5 ?_
   refine kJ [(3, _), (6, _), (7, _), (8, _), (10, _), (11, _), (12, _), (24, _), (25, _), (26, _)] ?_
   refine s3 ?_
   refine JL_bool (fun h38 => ?_) (fun h38 => ?_)
   ·have hrm := h38
    refine s13 ?_
    refine kJ [(3, _), (6, _), (7, _), (8, _), (10, _), (11, _), (12, _), (24, _), (25, _), (26, _)] ?_
    refine s3 ?_
    refine JL_bool (fun h50 => ?_) (fun h50 => ?_)
    ·have hmv := h50
     refine s18 ?_
     refine kJ [(3, _), (6, _), (7, _), (8, _), (24, _), (25, _), (26, _)] ?_
     refine s4 ?_
     have hs1 := rem_s1 hltx hrm
     have hs2 := mov_s1 hltx hmv
     (try dsimp only at hs1 hs2)
     exact xR (k + 1) (by omega) (by omega) (hl := ⟨rfl, rfl, rfl, rfl, rfl, rfl, (congrArg some (by go_num)), trivial⟩) (hH := by (try dsimp only); rw [hs1, hs2]; repeat constructor)
    ·have hmv := h50
     refine s5 ?_
     refine aCB (fun w hw => fixes_any (⟨kf, kt, ks, ke, kp⟩ : Cd) n team (⟨xt, xn, xx, xy⟩ : St) w) ?_
     refine JL_bool (fun h56 => ?_) (fun h56 => ?_)
     ·refine s3 ?_
      refine aCB (fun w hw => central_any ⟨yt, yn, yx, yy⟩ w) ?_
      refine s8 ?_
      refine kJ [(3, _), (6, _), (7, _), (8, _), (24, _), (25, _), (26, _)] ?_
      refine s4 ?_
      have hs1 := rem_s1 hltx hrm
      have hs2 := mov_s4 hltx hx hmv h56 hr1
      (try dsimp only at hs1 hs2)
      exact xR (k + 1) (by omega) (by omega) (hl := ⟨rfl, rfl, rfl, rfl, rfl, rfl, (congrArg some (by go_num)), trivial⟩) (hH := by (try dsimp only); rw [hs1, hs2]; repeat constructor)
     ·refine s12 ?_
      refine kJ [(3, _), (6, _), (7, _), (8, _), (24, _), (25, _), (26, _)] ?_
      refine s4 ?_
      have hs1 := rem_s1 hltx hrm
      have hs2 := mov_s3 hltx hx hmv h56
      (try dsimp only at hs1 hs2)
      exact xR (k + 1) (by omega) (by omega) (hl := ⟨rfl, rfl, rfl, rfl, rfl, rfl, (congrArg some (by go_num)), trivial⟩) (hH := by (try dsimp only); rw [hs1, hs2]; repeat constructor)
   ·have hrm := h38
    refine s13 ?_
    refine kJ [(3, _), (6, _), (7, _), (8, _), (10, _), (11, _), (12, _), (24, _), (25, _), (26, _)] ?_
    refine s3 ?_
    refine JL_bool (fun h50 => ?_) (fun h50 => ?_)
    ·have hmv := h50
     refine s18 ?_
     refine kJ [(3, _), (6, _), (7, _), (8, _), (24, _), (25, _), (26, _)] ?_
     refine s4 ?_
     have hs1 := rem_s2 hltx hx hrm hr1
     have hs2 := mov_s1 hltx hmv
     (try dsimp only at hs1 hs2)
     exact xR (k + 1) (by omega) (by omega) (hl := ⟨rfl, rfl, rfl, rfl, rfl, rfl, (congrArg some (by go_num)), trivial⟩) (hH := by (try dsimp only); rw [hs1, hs2]; repeat constructor)
    ·have hmv := h50
     refine s5 ?_
     refine aCB (fun w hw => fixes_any (⟨kf, kt, ks, ke, kp⟩ : Cd) n team (⟨xt, xn, xx, xy⟩ : St) w) ?_
     refine JL_bool (fun h56 => ?_) (fun h56 => ?_)
     ·refine s3 ?_
      refine aCB (fun w hw => central_any ⟨yt, yn, yx, yy⟩ w) ?_
      refine s8 ?_
      refine kJ [(3, _), (6, _), (7, _), (8, _), (24, _), (25, _), (26, _)] ?_
      refine s4 ?_
      have hs1 := rem_s2 hltx hx hrm hr1
      have hs2 := mov_s4 hltx hx hmv h56 hr1
      (try dsimp only at hs1 hs2)
      exact xR (k + 1) (by omega) (by omega) (hl := ⟨rfl, rfl, rfl, rfl, rfl, rfl, (congrArg some (by go_num)), trivial⟩) (hH := by (try dsimp only); rw [hs1, hs2]; repeat constructor)
     ·refine s12 ?_
      refine kJ [(3, _), (6, _), (7, _), (8, _), (24, _), (25, _), (26, _)] ?_
      refine s4 ?_
      have hs1 := rem_s2 hltx hx hrm hr1
      have hs2 := mov_s3 hltx hx hmv h56
      (try dsimp only at hs1 hs2)
      exact xR (k + 1) (by omega) (by omega) (hl := ⟨rfl, rfl, rfl, rfl, rfl, rfl, (congrArg some (by go_num)), trivial⟩) (hH := by (try dsimp only); rw [hs1, hs2]; repeat constructor)
 ·refine s10 ?_
  refine kJ [(6, _), (7, _)] ?_
  refine s1 ?_
  refine aV (vAgg [_, _, _, _, _, _, _, _, _] rfl rfl rfl (by repeat constructor) rfl) ?_
  refine aW0 (wStore (cs := [_, _, _, _, _, _, _, _, _]) rfl rfl rfl rfl rfl rfl rfl (by repeat constructor) rfl rfl) ?_
  refine s3 ?_
  refine JR_one rfl (rr_agg (cs := [_, _, _, _, _, _, _, _, _]) rfl Agg.h (Siz.h (k := 9)) (by repeat constructor) (by rfl)) ?_
  intro w' hw
  obtain rfl : k = l.length := by omega
  rw [List.take_length] at *
  exact ⟨rfl, hw.bel⟩
set_option maxRecDepth 100000 in
set_option maxHeartbeats 4000000 in
theorem line69 (x : Th) (A2 : Option Addr) (m : List St) (cap2 : Nat) (rm mv sf : Bool) (w : World) : Calls Try.prog 69 #[Evv x A2 m.length cap2 rm mv sf] w (Back (.bool x.late) w) := by
 obtain ⟨xteam, xnn, xlate, xshort, xhow⟩ := x
 refine J_enter (fun _ => False) (vs := [.agg #[.int .i64 xteam, .int .i64 xnn, .bool xlate, .bool xshort, .int .i64 xhow, .slice A2 m.length cap2, .bool rm, .bool mv, .bool sf]]) (k := 5) (l := [(0, .agg #[.int .i64 xteam, .int .i64 xnn, .bool xlate, .bool xshort, .int .i64 xhow, .slice A2 m.length cap2, .bool rm, .bool mv, .bool sf])]) Try.func69 rfl rfl Try.ntmps69 rfl rfl (Wd.start _) ?_
 refine s2 ?_
 refine aW (oX [_, _, _, _, _, _, _, _, _]) (fun b1 hb1 => ?_)
 refine s12 ?_
 refine JR_one rfl (rr_tmp rfl) ?_
 intro w' hw
 exact ⟨rfl, hw.bel⟩
set_option maxRecDepth 100000 in
set_option maxHeartbeats 4000000 in
theorem line70 (x : Th) (A2 : Option Addr) (m : List St) (cap2 : Nat) (rm mv sf : Bool) (w : World) : Calls Try.prog 70 #[Evv x A2 m.length cap2 rm mv sf] w (Back (.bool x.short) w) := by
 obtain ⟨xteam, xnn, xlate, xshort, xhow⟩ := x
 refine J_enter (fun _ => False) (vs := [.agg #[.int .i64 xteam, .int .i64 xnn, .bool xlate, .bool xshort, .int .i64 xhow, .slice A2 m.length cap2, .bool rm, .bool mv, .bool sf]]) (k := 5) (l := [(0, .agg #[.int .i64 xteam, .int .i64 xnn, .bool xlate, .bool xshort, .int .i64 xhow, .slice A2 m.length cap2, .bool rm, .bool mv, .bool sf])]) Try.func70 rfl rfl Try.ntmps70 rfl rfl (Wd.start _) ?_
 refine s2 ?_
 refine aW (oX [_, _, _, _, _, _, _, _, _]) (fun b1 hb1 => ?_)
 refine s12 ?_
 refine JR_one rfl (rr_tmp rfl) ?_
 intro w' hw
 exact ⟨rfl, hw.bel⟩
set_option maxRecDepth 100000 in
set_option maxHeartbeats 4000000 in
theorem line71 (x : Th) (A2 : Option Addr) (m : List St) (cap2 : Nat) (rm mv sf : Bool) (w : World) : Calls Try.prog 71 #[Evv x A2 m.length cap2 rm mv sf] w (Back (.bool (rm && !sf)) w) := by
 obtain ⟨xteam, xnn, xlate, xshort, xhow⟩ := x
 refine J_enter (fun _ => False) (vs := [.agg #[.int .i64 xteam, .int .i64 xnn, .bool xlate, .bool xshort, .int .i64 xhow, .slice A2 m.length cap2, .bool rm, .bool mv, .bool sf]]) (k := 9) (l := [(0, .agg #[.int .i64 xteam, .int .i64 xnn, .bool xlate, .bool xshort, .int .i64 xhow, .slice A2 m.length cap2, .bool rm, .bool mv, .bool sf])]) Try.func71 rfl rfl Try.ntmps71 rfl rfl (Wd.start _) ?_
 refine s2 ?_
 refine aW (oX [_, _, _, _, _, _, _, _, _]) (fun b1 hb1 => ?_)
 refine s7 ?_
 refine JL_bool (fun h4 => ?_) (fun h4 => ?_)
 ·refine s9 ?_
  refine JR_one rfl (rr_tmp rfl) ?_
  intro w' hw
  exact ⟨by rw [h4]; first | rfl | simp, hw.bel⟩
 ·refine s9 ?_
  refine JR_one rfl (rr_tmp rfl) ?_
  intro w' hw
  exact ⟨by rw [h4]; first | rfl | simp, hw.bel⟩
set_option maxRecDepth 100000 in
set_option maxHeartbeats 4000000 in
theorem line72 (x : Th) (A2 : Option Addr) (m : List St) (cap2 : Nat) (rm mv sf : Bool) (w : World) : Calls Try.prog 72 #[Evv x A2 m.length cap2 rm mv sf] w (Back (.bool rm) w) := by
 obtain ⟨xteam, xnn, xlate, xshort, xhow⟩ := x
 refine J_enter (fun _ => False) (vs := [.agg #[.int .i64 xteam, .int .i64 xnn, .bool xlate, .bool xshort, .int .i64 xhow, .slice A2 m.length cap2, .bool rm, .bool mv, .bool sf]]) (k := 4) (l := [(0, .agg #[.int .i64 xteam, .int .i64 xnn, .bool xlate, .bool xshort, .int .i64 xhow, .slice A2 m.length cap2, .bool rm, .bool mv, .bool sf])]) Try.func72 rfl rfl Try.ntmps72 rfl rfl (Wd.start _) ?_
 refine s2 ?_
 refine aW (oX [_, _, _, _, _, _, _, _, _]) (fun b1 hb1 => ?_)
 refine s11 ?_
 refine JR_one rfl (rr_tmp rfl) ?_
 intro w' hw
 exact ⟨rfl, hw.bel⟩
set_option maxRecDepth 100000 in
set_option maxHeartbeats 4000000 in
theorem line73 (x : Th) (A2 : Option Addr) (m : List St) (cap2 : Nat) (rm mv sf : Bool) (w : World) : Calls Try.prog 73 #[Evv x A2 m.length cap2 rm mv sf] w (Back (.bool mv) w) := by
 obtain ⟨xteam, xnn, xlate, xshort, xhow⟩ := x
 refine J_enter (fun _ => False) (vs := [.agg #[.int .i64 xteam, .int .i64 xnn, .bool xlate, .bool xshort, .int .i64 xhow, .slice A2 m.length cap2, .bool rm, .bool mv, .bool sf]]) (k := 4) (l := [(0, .agg #[.int .i64 xteam, .int .i64 xnn, .bool xlate, .bool xshort, .int .i64 xhow, .slice A2 m.length cap2, .bool rm, .bool mv, .bool sf])]) Try.func73 rfl rfl Try.ntmps73 rfl rfl (Wd.start _) ?_
 refine s2 ?_
 refine aW (oX [_, _, _, _, _, _, _, _, _]) (fun b1 hb1 => ?_)
 refine s11 ?_
 refine JR_one rfl (rr_tmp rfl) ?_
 intro w' hw
 exact ⟨rfl, hw.bel⟩
set_option maxRecDepth 100000 in
set_option maxHeartbeats 4000000 in
theorem line68 (b : Nat) (how : Int) (x : Th) (A2 : Option Addr) (m : List St) (cap2 : Nat) (rm mv sf : Bool) (w : World) (hc : (cellB b [.int .i64 how] 3).holds w) : Calls Try.prog 68 #[Evv x A2 m.length cap2 rm mv sf, .pointer (some ⟨b, 0, none⟩)] w (Back (.bool (decide (x.how = how))) w) := by
 obtain ⟨xteam, xnn, xlate, xshort, xhow⟩ := x
 refine J_enter (fun _ => False) (vs := [.agg #[.int .i64 xteam, .int .i64 xnn, .bool xlate, .bool xshort, .int .i64 xhow, .slice A2 m.length cap2, .bool rm, .bool mv, .bool sf], .pointer (some ⟨b, 0, none⟩)]) (k := 7) (l := [(0, .agg #[.int .i64 xteam, .int .i64 xnn, .bool xlate, .bool xshort, .int .i64 xhow, .slice A2 m.length cap2, .bool rm, .bool mv, .bool sf]), (1, .pointer (some ⟨b, 0, none⟩))]) Try.func68 rfl rfl Try.ntmps68 rfl rfl (Wd.start _) ?_
 refine s2 ?_
 refine aW (oX [_, _, _, _, _, _, _, _, _]) (fun b2 hb2 => ?_)
 refine s8 ?_
 refine aV (vOld rfl rfl (fun h => h) (cellB_get hc rfl)) ?_
 refine s5 ?_
 refine JR_one rfl (rr_tmp rfl) ?_
 intro w' hw
 exact ⟨rfl, hw.bel⟩
set_option maxRecDepth 100000 in
set_option maxHeartbeats 4000000 in
theorem line67 (how : Int) (w : World) : Calls Try.prog 67 #[.int .i64 how] w (Ret w (fun _ : Nat => True) (fun b => .func (.func 68) #[] #[.pointer (some ⟨b, 0, none⟩)]) (fun b => [cellB b [.int .i64 how] 3])) := by
 refine J_enter (fun _ => False) (vs := [.int .i64 how]) (k := 3) (l := [(0, .int .i64 how)]) Try.func67 rfl rfl Try.ntmps67 rfl rfl (Wd.start _) ?_
 refine s2 ?_
 refine aW (oX [_]) (fun b1 hb1 => ?_)
 refine s10 ?_
 refine JR_one rfl (rr_tmp rfl) ?_
 intro w' hw
 exact ⟨b1, trivial, rfl, hw.pick (by repeat constructor)⟩
/-- A line: its number, and the function that asks. -/
structure Ln where
 r : Int
 f : Value
def eL (p : Ln) : List Value := [.int .i64 p.r, p.f]
/-- The lines, with the cells of those that ask what was touched. -/
abbrev linL (b1 b2 b3 b4 : Nat) : List Ln := [⟨1, .func (.func 69) #[] #[]⟩, ⟨2, .func (.func 68) #[] #[.pointer (some ⟨b1, 0, none⟩)]⟩, ⟨3, .func (.func 70) #[] #[]⟩, ⟨4, .func (.func 68) #[] #[.pointer (some ⟨b2, 0, none⟩)]⟩, ⟨5, .func (.func 68) #[] #[.pointer (some ⟨b3, 0, none⟩)]⟩, ⟨6, .func (.func 68) #[] #[.pointer (some ⟨b4, 0, none⟩)]⟩, ⟨7, .func (.func 71) #[] #[]⟩, ⟨8, .func (.func 72) #[] #[]⟩, ⟨9, .func (.func 73) #[] #[]⟩]
instance : Cf Try.prog 67 := ⟨fun _ _ => by kernel_rfl⟩
set_option maxRecDepth 100000 in
set_option maxHeartbeats 4000000 in
theorem lines_any (w : World) : Calls Try.prog 51 #[] w (Ret w (fun _ : Nat × Nat × Nat × Nat × Nat => True) (fun t => .slice (some ⟨t.2.2.2.2, 0, none⟩) 9 9) (fun t => [cellB t.2.2.2.2 ((linL t.1 t.2.1 t.2.2.1 t.2.2.2.1).flatMap eL) 114, cellB t.1 [.int .i64 1] 3, cellB t.2.1 [.int .i64 3] 3, cellB t.2.2.1 [.int .i64 2] 3, cellB t.2.2.2.1 [.int .i64 4] 3])) := by
 refine J_enter (fun _ => False) (vs := []) (k := 20) (l := []) Try.func51 rfl rfl Try.ntmps51 rfl rfl (Wd.start _) ?_
 refine s12 ?_
 refine aP (rp_buildC (fun us => [us.getD 0 undef, us.getD 1 undef]) rfl rfl (fun w => by kernel_rfl)) ?_
 refine s1 ?_
 refine aW (ow_callR (ec_val rfl rfl rfl Cf.h) rfl rfl (fun _ => rfl) (fun w hw => line67 _ w)) (fun b4 _ => ?_)
 refine aP (rp_buildC (fun us => [us.getD 0 undef, us.getD 1 undef]) rfl rfl (fun w => by kernel_rfl)) ?_
 refine aP (rp_buildC (fun us => [us.getD 0 undef, us.getD 1 undef]) rfl rfl (fun w => by kernel_rfl)) ?_
 refine s1 ?_
 refine aW (ow_callR (ec_val rfl rfl rfl Cf.h) rfl rfl (fun _ => rfl) (fun w hw => line67 _ w)) (fun b8 _ => ?_)
 refine aP (rp_buildC (fun us => [us.getD 0 undef, us.getD 1 undef]) rfl rfl (fun w => by kernel_rfl)) ?_
 refine s1 ?_
 refine aW (ow_callR (ec_val rfl rfl rfl Cf.h) rfl rfl (fun _ => rfl) (fun w hw => line67 _ w)) (fun b11 _ => ?_)
 refine aP (rp_buildC (fun us => [us.getD 0 undef, us.getD 1 undef]) rfl rfl (fun w => by kernel_rfl)) ?_
 refine s1 ?_
 refine aW (ow_callR (ec_val rfl rfl rfl Cf.h) rfl rfl (fun _ => rfl) (fun w hw => line67 _ w)) (fun b14 _ => ?_)
 refine aP (rp_buildC (fun us => [us.getD 0 undef, us.getD 1 undef]) rfl rfl (fun w => by kernel_rfl)) ?_
 refine aP (rp_buildC (fun us => [us.getD 0 undef, us.getD 1 undef]) rfl rfl (fun w => by kernel_rfl)) ?_
 refine aP (rp_buildC (fun us => [us.getD 0 undef, us.getD 1 undef]) rfl rfl (fun w => by kernel_rfl)) ?_
 refine aP (rp_buildC (fun us => [us.getD 0 undef, us.getD 1 undef]) rfl rfl (fun w => by kernel_rfl)) ?_
 refine aW (ow_sliceC (vs := [_, _, _, _, _, _, _, _, _, _, _, _, _, _, _, _, _, _]) (ty := 114) rfl rfl (by rfl) rfl rfl (fun _ => by kernel_rfl)) (fun b19 hb19 => ?_)
 refine s4 ?_
 refine JR_one rfl (rr_tmp rfl) ?_
 intro w' hw
 exact ⟨(b4, b8, b11, b14, b19), trivial, rfl, hw.pick (by repeat constructor)⟩
end Go.Proofs.Ytmcpnoailbmkkaa
/- Layer 7: DeleteFunc; distinct. -/
namespace Go.Proofs.Ytmcpnoailbmkkaa
open Go Go.RowKit Go.Proofs
attribute [local irreducible] J JQ JL JA JD

theorem fidx_cs (p : St → Bool) (l : List St) : (fidx p l = -1 ∧ l.filter (fun x => !p x) = l) ∨ ∃ j, j < l.length ∧ fidx p l = (j : Int) ∧ l.take j = (l.take (j + 1)).filter (fun x => !p x) := by
 by_cases h : 0 ≤ fidx p l
 ·obtain ⟨k, hk, e, h1, h2⟩ := fidx_in h
  refine .inr ⟨k, hk, e, ?_⟩
  rw [List.take_succ_eq_append_getElem hk, List.filter_append]
  have e1 : [l[k]'hk].filter (fun x => !p x) = [] := by simp [h1]
  rw [e1, List.append_nil]
  refine (List.filter_eq_self.2 (fun s hs => ?_)).symm
  obtain ⟨j, hj, rfl⟩ := List.getElem_of_mem hs
  rw [List.length_take] at hj
  rw [List.getElem_take, h2 j (by omega)]; rfl
 ·refine .inl ⟨by have := fidx_le p l; omega, List.filter_eq_self.2 (fun s hs => by rw [fidx_out h s hs]; rfl)⟩
set_option maxRecDepth 100000 in
set_option maxHeartbeats 4000000 in
theorem DeleteFuncT (f : FuncId) (caps : Array Value) (p : St → Bool) (l : List St) (A : Option Addr) (c : Nat) (w : World) [hf : Cf Try.prog f] (hl : l.length ≤ 1000) (hA : (ownB 49 4 A l.length c (l.flatMap eT)).holds w) (hAf : ∀ b, (ownB 49 4 A l.length c (l.flatMap eT)).foot b → b < w.heap.size) (hcl : ∀ x ∈ l, ∀ W, Wd ⟨w, (ownB 49 4 A l.length c (l.flatMap eT)).foot, none, []⟩ [] W → Calls Try.prog f (#[] ++ #[Stv x] ++ caps) W (Back (.bool (p x)) W)) : Calls Try.prog 55 #[.slice A l.length c, .func (.func f) #[] caps] w (RetM (ownB 49 4 A l.length c (l.flatMap eT)) (fun _ : Unit => True) (fun _ => .slice A (l.filter (fun x => !p x)).length c) (fun _ => ownB 49 4 A (l.filter (fun x => !p x)).length c ((l.filter (fun x => !p x)).flatMap eT)) w) := by
 refine J_start (B := ⟨w, (ownB 49 4 A l.length c (l.flatMap eT)).foot, none, []⟩) rfl rfl (vs := [.slice A l.length c, .func (.func f) #[] caps]) (k := 40) (l := [(0, .slice A l.length c), (1, .func (.func f) #[] caps)]) Try.func55 rfl rfl Try.ntmps55 rfl rfl (Wd.startM hA hAf) ?_
 refine s9 ?_
 refine aCB (fun w hw => IndexFuncT f caps p l _ w (fun x hx W hW => hcl x hx W ((hw.up hW).pick (Pk.nil _))) (own_arr ET hw (by repeat constructor) (by omega))) ?_
 refine s5 ?_
 rcases fidx_cs p l with ⟨hk1, hk2⟩ | ⟨k0, hk1, hk2, hk3⟩
 ·rw [hk1]
  refine kJ [(0, _), (1, _), (5, _)] ?_
  refine s3 ?_
  refine aDecT ?_
  refine s4 ?_
  refine kJ [(0, _)] ?_
  refine s7 ?_
  refine JR_one rfl (rr_tmp rfl) ?_
  intro w' hw
  exact ⟨(), trivial, by rw [hk2], by dsimp only; rw [hk2]; exact hw.pick (by repeat constructor)⟩
 ·rw [hk2]
  refine J_fact (fun hw => ?_)
  obtain ⟨g, rfl⟩ := own_some hw (ty := 49) (k := 4) (m := l.length) (c := c) (A := A) (xs := l.flatMap eT) (by repeat constructor) (by omega)
  clear hw
  refine kJ [(0, _), (1, _), (5, _)] ?_
  refine s3 ?_
  refine aDecF ?_
  refine s14 ?_
  refine xL (T := Nat × Nat × List St) (fun q => (q.1 < q.2.1 ∧ q.2.1 ≤ l.length) ∧ q.2.2.length = l.length ∧ q.2.2.take q.1 = (l.take q.2.1).filter (fun x => !p x) ∧ q.2.2.drop q.2.1 = l.drop q.2.1) (fun q => [(0, .slice (some ⟨g, 0, none⟩) l.length c), (1, .func (.func f) #[] caps), (5, .int .i64 (q.1 : Nat)), (6, .int .i64 (q.2.1 : Nat))]) (fun q => [ownB 49 4 (some ⟨g, 0, none⟩) l.length c (q.2.2.flatMap eT)]) (fun q => l.length - q.2.1) (k0, k0 + 1, l) ⟨⟨by dsimp only; omega, by dsimp only; omega⟩, rfl, hk3, rfl⟩ ?_
  rintro ⟨i, j, Mm⟩ ⟨⟨hij, hj⟩, hML, hM1, hM2⟩
  dsimp only at hij hj hML hM1 hM2 ⊢
  refine s7 ?_
  refine JL_dec (fun h19 => ?_) (fun h19 => ?_)
  ·refine s8 ?_
   have hjl : j < l.length := by omega
   have hjM : j < Mm.length := by omega
   obtain ⟨⟨zt, zn, zx, zy⟩, hz⟩ : ∃ z, l[j]'hjl = z := ⟨_, rfl⟩
   have hmz : (⟨zt, zn, zx, zy⟩ : St) ∈ l := by rw [← hz]; exact List.getElem_mem _
   have hjz : Mm[j]'hjM = (⟨zt, zn, zx, zy⟩ : St) := by
    have h1 : (Mm.drop j)[0]? = (l.drop j)[0]? := by rw [hM2]
    rw [List.getElem?_drop, List.getElem?_drop, Nat.add_zero, List.getElem?_eq_getElem hjl, List.getElem?_eq_getElem hjM] at h1
    rw [← hz]; exact Option.some.inj h1
   refine kJ [(0, _), (1, _), (5, _), (6, _)] ?_
   refine s4 ?_
   refine aV (vOwnA (cs := [.int .i64 zt, .int .i64 zn, .int .i64 zx, .int .i64 zy]) ET rfl rfl (by repeat constructor) hjM (by rw [hjz]; rfl)) ?_
   refine aW oA (fun b7 hb7 => ?_)
   refine s4 ?_
   refine kJ [(0, _), (1, _), (5, _), (6, _), (7, _)] ?_
   refine s3 ?_
   refine aW (ow_callB (ec_val rfl rfl rfl Cf.h) rfl rfl (fun w hw => hcl _ hmz w (hw.pick (Pk.nil _)))) (fun _ _ => ?_)
   refine JL_bool (fun h28 => ?_) (fun h28 => ?_)
   ·refine s7 ?_
    refine kJ [(0, _), (1, _), (5, _), (6, _)] ?_
    refine s5 ?_
    have hst : (l.take (j + 1)).filter (fun x => !p x) = (l.take j).filter (fun x => !p x) := by rw [List.take_succ_eq_append_getElem hjl, List.filter_append, hz]; simp [h28]
    have hdr : Mm.drop (j + 1) = l.drop (j + 1) := by rw [List.drop_eq_getElem_cons hjl, List.drop_eq_getElem_cons hjM] at hM2; injection hM2
    exact xR (i, j + 1, Mm) ⟨⟨by dsimp only; omega, by dsimp only; omega⟩, hML, by dsimp only; rw [hst]; exact hM1, hdr⟩ (by dsimp only; omega) (hl := ⟨rfl, rfl, rfl, (congrArg some (by go_num)), trivial⟩)
   ·refine s5 ?_
    refine kJ [(0, _), (1, _), (5, _), (6, _), (7, _)] ?_
    refine s4 ?_
    refine aP (pIdxI (i) rfl rfl rfl) ?_
    refine aW0 (oStE ET [_, _, _, _] (⟨zt, zn, zx, zy⟩ : St) (show i < Mm.length by omega) (hi := Nat.le_refl _)) ?_
    refine s2 ?_
    refine kJ [(0, _), (1, _), (5, _), (6, _)] ?_
    refine s12 ?_
    have hst : (l.take (j + 1)).filter (fun x => !p x) = (l.take j).filter (fun x => !p x) ++ [(⟨zt, zn, zx, zy⟩ : St)] := by rw [List.take_succ_eq_append_getElem hjl, List.filter_append, hz]; simp [h28]
    have hdr : Mm.drop (j + 1) = l.drop (j + 1) := by rw [List.drop_eq_getElem_cons hjl, List.drop_eq_getElem_cons hjM] at hM2; injection hM2
    have htk : (Mm.set i (⟨zt, zn, zx, zy⟩ : St)).take (i + 1) = Mm.take i ++ [(⟨zt, zn, zx, zy⟩ : St)] := by
     rw [List.take_succ_eq_append_getElem (by rw [List.length_set]; omega), List.getElem_set_self, List.take_set_of_le (Nat.le_refl i)]
    have hds : (Mm.set i (⟨zt, zn, zx, zy⟩ : St)).drop (j + 1) = Mm.drop (j + 1) := List.drop_set_of_lt (by omega)
    exact xR (i + 1, j + 1, Mm.set i (⟨zt, zn, zx, zy⟩ : St)) ⟨⟨by dsimp only; omega, by dsimp only; omega⟩, by dsimp only; rw [List.length_set]; exact hML, by dsimp only; rw [htk, hM1, hst], by dsimp only; rw [hds, hdr]⟩ (by dsimp only; omega) (hl := ⟨rfl, rfl, (congrArg some (by go_num)), (congrArg some (by go_num)), trivial⟩)
  ·refine s9 ?_
   obtain rfl : j = l.length := by omega
   refine J_fact (fun hw => ?_)
   obtain ⟨hc1, hc2⟩ := (own_cn hw (ty := 49) (k := 4) (m := l.length) (c := c) (A := some ⟨g, 0, none⟩) (xs := Mm.flatMap eT) (by repeat constructor)).1
   clear hw
   have hfi : Mm.take i = l.filter (fun x => !p x) := by rw [hM1, List.take_length]
   have hil : (Mm.take i).length = i := by rw [List.length_take]; omega
   refine kJ [(0, _), (5, _)] ?_
   refine s3 ?_
   refine aP (rp_sliceFrom (k := i) rfl rfl rfl Und.h Siz.h rfl (by omega)) ?_
   refine aW0 (oClr (t := 32) ET Mm [.int .i64 0, .int .i64 0, .int .i64 0, .int .i64 0] hML.symm (show i ≤ Mm.length by omega)) ?_
   refine s6 ?_
   refine aP (rp_sliceTo (k := i) rfl rfl rfl Und.h Siz.h rfl (by omega)) ?_
   refine s4 ?_
   refine JR_one rfl (rr_tmp rfl) ?_
   intro w' hw
   exact ⟨(), trivial, by rw [← hfi, hil], by dsimp only; rw [← hfi, hil]; exact hw.pick (by repeat constructor)⟩
theorem fidx_any {α : Type} (p : α → Bool) (l : List α) : decide (0 ≤ fidx p l) = l.any p := by
 by_cases h : 0 ≤ fidx p l
 ·obtain ⟨k, hk, -, h1, -⟩ := fidx_in h
  rw [decide_eq_true h, List.any_eq_true.2 ⟨_, List.getElem_mem hk, h1⟩]
 ·rw [decide_eq_false h]
  have : ¬ l.any p = true := fun h1 => by
   obtain ⟨x, hx, hp⟩ := List.any_eq_true.1 h1
   rw [fidx_out h x hx] at hp; cases hp
  simpa using this
/-- Outcomes without those that are there already. -/
def ddO (L : List Oc) : List Oc := L.foldl (fun r o => if r.any (fun p => decide (oP p = oP o)) = true then r else r ++ [o]) []
def ddP (L : List (List St × Bool)) : List (List St × Bool) := L.foldl (fun r o => if r.any (fun p => decide (p = o)) = true then r else r ++ [o]) []
theorem dd_s {L : List Oc} {k : Nat} {x : Oc} (hk : k < L.length) (hx : L[k]'hk = x) : ddO (L.take (k + 1)) = if (ddO (L.take k)).any (fun p => decide (oP p = oP x)) = true then ddO (L.take k) else ddO (L.take k) ++ [x] := by
 rw [List.take_succ_eq_append_getElem hk, hx]; unfold ddO; rw [List.foldl_append]; rfl
theorem dd_sub : ∀ (L r R : List Oc), r.Sublist R → (L.foldl (fun r o => if r.any (fun p => decide (oP p = oP o)) = true then r else r ++ [o]) r).Sublist (R ++ L)
 | [], r, R, h => by simpa using h
 | o :: L, r, R, h => by
  rw [List.foldl_cons]
  have e : R ++ o :: L = (R ++ [o]) ++ L := by simp
  rw [e]
  refine dd_sub L _ (R ++ [o]) ?_
  split
  ·exact h.trans (List.sublist_append_left _ _)
  ·exact h.append (List.Sublist.refl _)
theorem ddO_sub (L : List Oc) : (ddO L).Sublist L := dd_sub L [] [] (List.Sublist.refl _)
theorem ddO_len (L : List Oc) : (ddO L).length ≤ L.length := (ddO_sub L).length_le
theorem ddO_map (L : List Oc) : (ddO L).map oP = ddP (L.map oP) := by
 have H : ∀ (L r : List Oc), (L.foldl (fun r o => if r.any (fun p => decide (oP p = oP o)) = true then r else r ++ [o]) r).map oP = (L.map oP).foldl (fun r o => if r.any (fun p => decide (p = o)) = true then r else r ++ [o]) (r.map oP) := by
  intro L
  induction L with
  | nil => intro r; rfl
  | cons o L ih =>
   intro r
   rw [List.foldl_cons, List.map_cons, List.foldl_cons, ih]
   congr 1
   have e : (r.map oP).any (fun p => decide (p = oP o)) = r.any (fun p => decide (oP p = oP o)) := by rw [List.any_map]; rfl
   rw [e]
   split <;> simp
 exact H L []
/-- A predicate of outcomes, as a closure. -/
def PrO (f : FuncId) (caps : Array Value) (p : Oc → Bool) (l : List Oc) (w0 : World) : Prop := ∀ x ∈ l, ∀ W, Below w0.heap.size w0 W → Calls Try.prog f (#[] ++ #[Ocv x] ++ caps) W (Back (.bool (p x)) W)
theorem PrO.up {f : FuncId} {caps : Array Value} {p : Oc → Bool} {l : List Oc} {w w1 : World} (h : PrO f caps p l w) (hb : Below w.heap.size w w1) : PrO f caps p l w1 := fun x hx W hW => h x hx W (hb.trans (hW.mono hb.size))
set_option maxRecDepth 100000 in
set_option maxHeartbeats 4000000 in
theorem IndexFuncO (f : FuncId) (caps : Array Value) (p : Oc → Bool) (l : List Oc) (v : Value) (w : World) [hf : Cf Try.prog f] (hcl : PrO f caps p l w) (hrow : Arr 2 eO w v l) : Calls Try.prog 92 #[v, .func (.func f) #[] caps] w (Back (.int .i64 (fidx p l)) w) := by
 have hrow0 := hrow
 obtain ⟨A, cap, rfl, -, ⟨hl9, -⟩, hA⟩ := hrow
 refine J_enter (fun _ => False) (vs := [.slice A l.length cap, .func (.func f) #[] caps]) (k := 17) (l := [(0, .slice A l.length cap), (1, .func (.func f) #[] caps)]) Try.func92 rfl rfl Try.ntmps92 rfl rfl (Wd.start _) ?_
 refine s14 ?_
 refine xL (T := Nat) (fun k => k ≤ l.length ∧ ∀ j (hj : j < l.length), j < k → p (l[j]'hj) = false) (fun k => [(0, .slice A l.length cap), (1, .func (.func f) #[] caps), (7, .int .i64 (l.length : Nat)), (8, .int .i64 (k : Nat))]) (fun k => []) (fun k => l.length - k) 0 ⟨Nat.zero_le _, fun j _ h => absurd h (Nat.not_lt_zero _)⟩ ?_
 rintro k ⟨hk, hall⟩
 refine s3 ?_
 refine JL_dec (fun h9 => ?_) (fun h9 => ?_)
 ·refine s15 ?_
  have hltx : k < l.length := by omega
  obtain ⟨bkx, qx, rfl, hh⟩ := hA (by intro e; rw [e] at hltx; simp at hltx)
  obtain ⟨⟨⟨xA, xn, xk, xl⟩, xg⟩, hx⟩ : ∃ y, l[k]'hltx = y := ⟨_, rfl⟩
  have hmx : (⟨⟨xA, xn, xk, xl⟩, xg⟩ : Oc) ∈ l := by rw [← hx]; exact List.getElem_mem _
  refine s5 ?_
  refine aV (vHoldA (cs := [.slice xA xn xk, .bool xg]) EO rfl rfl (fun h => h) hh hltx (by rw [hx]; rfl)) ?_
  refine aW (ow_callB (ec_val rfl rfl rfl Cf.h) rfl rfl (fun w hw => hcl (⟨⟨xA, xn, xk, xl⟩, xg⟩ : Oc) hmx w hw.bel)) (fun _ _ => ?_)
  refine JL_bool (fun h16 => ?_) (fun h16 => ?_)
  ·refine s4 ?_
   refine kJ [(5, _)] ?_
   refine s11 ?_
   refine JR_one rfl (rr_tmp rfl) ?_
   intro w' hw
   exact ⟨by rw [fidx_at hltx (by rw [hx]; exact h16) (fun j hj => hall j (by omega) hj)], hw.bel⟩
  ·refine s6 ?_
   refine kJ [(0, _), (1, _), (7, _), (8, _)] ?_
   refine s4 ?_
   have hn : ∀ j (hj : j < l.length), j < k + 1 → p (l[j]'hj) = false := fun j hj hjk => by
    rcases Nat.lt_or_ge j k with h | h
    ·exact hall j hj h
    ·obtain rfl : j = k := by omega
     rw [hx]; exact h16
   exact xR (k + 1) ⟨by omega, hn⟩ (by omega) (hl := ⟨rfl, rfl, rfl, (congrArg some (by go_num)), trivial⟩)
 ·refine s10 ?_
  refine kJ [] ?_
  refine s5 ?_
  refine JR_one rfl (rr_tmp rfl) ?_
  intro w' hw
  exact ⟨by rw [fidx_none (fun j hj => hall j hj (by omega))], hw.bel⟩
set_option maxRecDepth 100000 in
set_option maxHeartbeats 4000000 in
theorem ContainsFuncO (f : FuncId) (caps : Array Value) (p : Oc → Bool) (l : List Oc) (v : Value) (w : World) [hf : Cf Try.prog f] (hcl : PrO f caps p l w) (hrow : Arr 2 eO w v l) : Calls Try.prog 74 #[v, .func (.func f) #[] caps] w (Back (.bool (l.any p)) w) := by
 have hrow0 := hrow
 obtain ⟨A, cap, rfl, -, ⟨hl9, -⟩, hA⟩ := hrow
 refine J_enter (fun _ => False) (vs := [.slice A l.length cap, .func (.func f) #[] caps]) (k := 7) (l := [(0, .slice A l.length cap), (1, .func (.func f) #[] caps)]) Try.func74 rfl rfl Try.ntmps74 rfl rfl (Wd.start _) ?_
 refine s9 ?_
 refine aCB (fun w hw => IndexFuncO f caps p l _ w (hcl.up hw.bel) (hrow0.up EO hw.bel)) ?_
 refine s5 ?_
 refine JR_one rfl (rr_tmp rfl) ?_
 intro w' hw
 exact ⟨by rw [fidx_any], hw.bel⟩
set_option maxRecDepth 100000 in
set_option maxHeartbeats 4000000 in
theorem dis1_any (a b : Oc) (c : Nat) (w : World) (ha : OcW w a) (hb : OcW w b) (hc : (cellB c (eO b) 85).holds w) : Calls Try.prog 75 (#[] ++ #[Ocv a] ++ #[.pointer (some ⟨c, 0, none⟩)]) w (Back (.bool (decide (oP a = oP b))) w) := by
 obtain ⟨⟨Aa, na, ka, la⟩, ga⟩ := a
 obtain ⟨⟨Ab, nb, kb, lb⟩, gb⟩ := b
 unfold OcW at ha hb
 unfold eO at hc
 dsimp only [Dv.v] at ha hb hc
 refine J_enter (fun _ => False) (vs := [.agg #[.slice Aa na ka, .bool ga], .pointer (some ⟨c, 0, none⟩)]) (k := 14) (l := [(0, .agg #[.slice Aa na ka, .bool ga]), (1, .pointer (some ⟨c, 0, none⟩))]) Try.func75 rfl rfl Try.ntmps75 rfl rfl (Wd.start _) ?_
 refine s2 ?_
 refine aW (oX [_, _]) (fun b2 hb2 => ?_)
 refine s7 ?_
 refine JL_bool (fun h5 => ?_) (fun h5 => ?_)
 ·refine s1 ?_
  refine aV (vOld rfl rfl (fun h => h) (cellB_get hc rfl)) ?_
  refine JL_bool (fun h7 => ?_) (fun h7 => ?_)
  ·refine aP (pEqlB rfl rfl rfl) ?_
   refine aDecT ?_ (by decide)
   refine s4 ?_
   refine aV (vOld rfl rfl (fun h => h) (cellB_get hc rfl)) ?_
   refine aCB (fun w hw => EqualT la lb _ _ w (ha.up ET hw.bel) (hb.up ET hw.bel)) ?_
   refine s5 ?_
   refine JR_one rfl (rr_tmp rfl) ?_
   intro w' hw
   exact ⟨by congr 2; rw [decide_eq_decide]; unfold oP; simp [h5, h7], hw.bel⟩
  ·refine aP (pEqlB rfl rfl rfl) ?_
   refine aDecF ?_ (by decide)
   refine s11 ?_
   refine JR_one rfl (rr_tmp rfl) ?_
   intro w' hw
   exact ⟨by congr 2; exact (decide_eq_false (fun h => by have := congrArg Prod.snd h; unfold oP at this; dsimp only at this; rw [h5, h7] at this; cases this)).symm, hw.bel⟩
 ·refine s1 ?_
  refine aV (vOld rfl rfl (fun h => h) (cellB_get hc rfl)) ?_
  refine JL_bool (fun h7 => ?_) (fun h7 => ?_)
  ·refine aP (pEqlB rfl rfl rfl) ?_
   refine aDecF ?_ (by decide)
   refine s11 ?_
   refine JR_one rfl (rr_tmp rfl) ?_
   intro w' hw
   exact ⟨by congr 2; exact (decide_eq_false (fun h => by have := congrArg Prod.snd h; unfold oP at this; dsimp only at this; rw [h5, h7] at this; cases this)).symm, hw.bel⟩
  ·refine aP (pEqlB rfl rfl rfl) ?_
   refine aDecT ?_ (by decide)
   refine s4 ?_
   refine aV (vOld rfl rfl (fun h => h) (cellB_get hc rfl)) ?_
   refine aCB (fun w hw => EqualT la lb _ _ w (ha.up ET hw.bel) (hb.up ET hw.bel)) ?_
   refine s5 ?_
   refine JR_one rfl (rr_tmp rfl) ?_
   intro w' hw
   exact ⟨by congr 2; rw [decide_eq_decide]; unfold oP; simp [h5, h7], hw.bel⟩
set_option maxRecDepth 100000 in
set_option maxHeartbeats 4000000 in
theorem distinct_any (l : List Oc) (v : Value) (w : World) (hrow : Arr 2 eO w v l) (ho : ∀ p ∈ l, OcW w p) (hl : l.length ≤ 1000) : Calls Try.prog 53 #[v] w (RetS 85 2 eO (ddO l) w) := by
 have hrow0 := hrow
 obtain ⟨A, cap, rfl, -, ⟨hl9, -⟩, hA⟩ := hrow
 refine J_enter (fun _ => False) (vs := [.slice A l.length cap]) (k := 21) (l := [(0, .slice A l.length cap)]) Try.func53 rfl rfl Try.ntmps53 rfl rfl (Wd.start _) ?_
 refine s12 ?_
 refine J_own0 85 2 ?_
 refine s7 ?_
 refine xL (T := Nat × Option Addr × Nat) (fun q => q.1 ≤ l.length) (fun q => [(3, .slice q.2.1 (ddO (l.take q.1)).length q.2.2), (6, .slice A l.length cap), (7, .int .i64 (l.length : Nat)), (8, .int .i64 (q.1 : Nat))]) (fun q => [ownB 85 2 q.2.1 (ddO (l.take q.1)).length q.2.2 ((ddO (l.take q.1)).flatMap eO)]) (fun q => l.length - q.1) (0, none, 0) (Nat.zero_le _) ?_
 rintro ⟨k, vA, vc⟩ hk
 dsimp only at hk ⊢
 have hdl := ddO_len (l.take k)
 rw [List.length_take] at hdl
 refine s3 ?_
 refine JL_dec (fun h9 => ?_) (fun h9 => ?_)
 ·refine s9 ?_
  have hltx : k < l.length := by omega
  obtain ⟨bkx, qx, rfl, hh⟩ := hA (by intro e; rw [e] at hltx; simp at hltx)
  obtain ⟨⟨⟨xA, xn, xk, xl⟩, xg⟩, hx⟩ : ∃ y, l[k]'hltx = y := ⟨_, rfl⟩
  have hmx : (⟨⟨xA, xn, xk, xl⟩, xg⟩ : Oc) ∈ l := by rw [← hx]; exact List.getElem_mem _
  refine s2 ?_
  refine aV (vHoldA (cs := [.slice xA xn xk, .bool xg]) EO rfl rfl (fun h => h) hh hltx (by rw [hx]; rfl)) ?_
  refine aW oA (fun b5 hb5 => ?_)
  refine s7 ?_
  refine aCB (fun w hw => ContainsFuncO 75 #[.pointer (some ⟨b5, 0, none⟩)] (fun p => decide (oP p = oP (⟨⟨xA, xn, xk, xl⟩, xg⟩ : Oc))) (ddO (l.take k)) _ w (fun a ha W hW => dis1_any a (⟨⟨xA, xn, xk, xl⟩, xg⟩ : Oc) b5 W ((ho a ((List.take_subset _ _) ((ddO_sub _).subset ha))).up (hw.up hW).bel) ((ho _ hmx).up (hw.up hW).bel) ((hw.up hW).ok (cellB b5 [.slice xA xn xk, .bool xg] 85) (by repeat constructor)).1) (own_arr (A := vA) (c := vc) EO hw (by repeat constructor) (by omega))) ?_
  refine JL_bool (fun h14 => ?_) (fun h14 => ?_)
  ·refine s7 ?_
   refine kJ [(3, _), (6, _), (7, _), (8, _)] ?_
   refine s4 ?_
   have hs := dd_s hltx hx
   rw [if_pos h14] at hs
   exact xR (k + 1, vA, vc) (by dsimp only; omega) (by dsimp only; omega) (hl := ⟨(by dsimp only; rw [hs]; rfl), rfl, rfl, (congrArg some (by go_num)), trivial⟩) (hH := by (try dsimp only); rw [hs]; repeat constructor)
  ·refine s4 ?_
   refine kJ [(3, _), (5, _), (6, _), (7, _), (8, _)] ?_
   refine s3 ?_
   refine aW (ow_sliceC (vs := [_, _]) (ty := 85) rfl rfl (by rfl) rfl rfl (fun _ => by kernel_rfl)) (fun b18 hb18 => ?_)
   refine aS (oApp (sl := 55) EO ((⟨⟨xA, xn, xk, xl⟩, xg⟩ : Oc))) (fun A19 c19 => ?_)
   refine s4 ?_
   refine kJ [(3, _), (6, _), (7, _), (8, _)] ?_
   refine s4 ?_
   have hs := dd_s hltx hx
   rw [if_neg (by rw [h14]; simp)] at hs
   exact xR (k + 1, A19, c19) (by dsimp only; omega) (by dsimp only; omega) (hl := ⟨(by dsimp only; rw [hs]; rfl), rfl, rfl, (congrArg some (by go_num)), trivial⟩) (hH := by (try dsimp only); rw [hs]; repeat constructor)
 ·refine s10 ?_
  refine kJ [(3, _)] ?_
  refine s6 ?_
  refine JR_one rfl (rr_tmp rfl) ?_
  intro w' hw
  obtain rfl : k = l.length := by omega
  rw [List.take_length] at *
  exact ⟨vA, vc, rfl, hw.pick (by repeat constructor)⟩
set_option maxRecDepth 100000 in
set_option maxHeartbeats 4000000 in
theorem as_any (l : List St) (v : Value) (w : World) (hrow : Arr 4 eT w v l) (hl : l.length ≤ 1000) (hb : ∀ s ∈ l, bnd s) (hd : dis l) : Calls Try.prog 52 #[v] w (Ret w (fun _ : Option Addr × Nat => True) (fun t => .agg #[.slice t.1 (srt l).length t.2, .bool false]) (fun t => [ownB 49 4 t.1 (srt l).length t.2 ((srt l).flatMap eT)])) := by
 have hrow0 := hrow
 obtain ⟨A, cap, rfl, -, ⟨hl9, -⟩, hA⟩ := hrow
 refine J_enter (fun _ => False) (vs := [.slice A l.length cap]) (k := 5) (l := [(0, .slice A l.length cap)]) Try.func52 rfl rfl Try.ntmps52 rfl rfl (Wd.start _) ?_
 refine s2 ?_
 refine aW oA (fun b2 hb2 => ?_)
 refine s5 ?_
 refine aS (oS (fun w hw => sortedT l _ w (hrow0.up ET hw.bel) hl hb hd)) (fun A4 c4 => ?_)
 refine aP (rp_buildC (fun us => [us.getD 0 undef, .bool false]) rfl rfl (fun w => by kernel_rfl)) ?_
 refine s4 ?_
 refine JR_one rfl (rr_agg (cs := [_, _]) rfl Agg.h (Siz.h (k := 2)) (by repeat constructor) (by rfl)) ?_
 intro w' hw
 exact ⟨(A4, c4), trivial, rfl, hw.pick (by repeat constructor)⟩
set_option maxRecDepth 100000 in
set_option maxHeartbeats 4000000 in
theorem own_any (s : St) (x : Th) (A : Option Addr) (n c b : Nat) (w : World) (hc : (cellB b [.int .i64 x.team, .int .i64 x.n, .bool x.late, .bool x.short, .int .i64 x.how, .slice A n c] 42).holds w) : Calls Try.prog 54 (#[] ++ #[Stv s] ++ #[.pointer (some ⟨b, 0, none⟩)]) w (Back (.bool (isB x.team x.n s)) w) := by
 obtain ⟨st_, sn, sx, sy⟩ := s
 obtain ⟨xteam, xnn, xlate, xshort, xhow⟩ := x
 refine J_enter (fun _ => False) (vs := [.agg #[.int .i64 st_, .int .i64 sn, .int .i64 sx, .int .i64 sy], .pointer (some ⟨b, 0, none⟩)]) (k := 14) (l := [(0, .agg #[.int .i64 st_, .int .i64 sn, .int .i64 sx, .int .i64 sy]), (1, .pointer (some ⟨b, 0, none⟩))]) Try.func54 rfl rfl Try.ntmps54 rfl rfl (Wd.start _) ?_
 refine s2 ?_
 refine aW (oX [_, _, _, _]) (fun b2 hb2 => ?_)
 refine s8 ?_
 refine aV (vOld rfl rfl (fun h => h) (cellB_get hc rfl)) ?_
 refine s1 ?_
 refine JL_dec (fun h8 => ?_) (fun h8 => ?_)
 ·refine s4 ?_
  refine aV (vOld rfl rfl (fun h => h) (cellB_get hc rfl)) ?_
  refine s6 ?_
  refine JR_one rfl (rr_tmp rfl) ?_
  intro w' hw
  exact ⟨by unfold isB; dsimp only; rw [h8, beq_self_eq_true, Bool.true_and]; congr 2, hw.bel⟩
 ·refine s11 ?_
  refine JR_one rfl (rr_tmp rfl) ?_
  intro w' hw
  exact ⟨by unfold isB; dsimp only; rw [beq_eq_false_iff_ne.2 h8]; rfl, hw.bel⟩
end Go.Proofs.Ytmcpnoailbmkkaa
/- Layer 7: judge. -/
namespace Go.Proofs.Ytmcpnoailbmkkaa
open Go Go.RowKit Go.Proofs
attribute [local irreducible] J JQ JL JA JD

/-- Does line k (from 0) ask so? -/
def askB (x : Th) (rm mv sf : Bool) : Nat → Bool
 | 0 => x.late
 | 1 => decide (x.how = 1)
 | 2 => x.short
 | 3 => decide (x.how = 3)
 | 4 => decide (x.how = 2)
 | 5 => decide (x.how = 4)
 | 6 => rm && !sf
 | 7 => rm
 | 8 => mv
 | _ => false
def rulG (p : Nat → Bool) : Nat → Nat → Int
 | 0, _ => 0
 | n + 1, k => if p k = true then (k : Int) + 1 else rulG p n (k + 1)
/-- The rule's number. -/
def rulF (x : Th) (rm mv sf : Bool) : Int := rulG (askB x rm mv sf) 9 0
theorem rul_y {p : Nat → Bool} {R : Int} (n k : Nat) (h : R = rulG p (n + 1) k) (hp : p k = true) : (k : Int) + 1 = R := by rw [h]; unfold rulG; rw [if_pos hp]
theorem rul_n {p : Nat → Bool} {R : Int} (n k : Nat) (h : R = rulG p (n + 1) k) (hp : p k = false) : R = rulG p n (k + 1) := by rw [h]; show (if _ then _ else _) = _; rw [if_neg (by rw [hp]; decide)]
/-- The outcomes by a rule; who chooses. -/
def outF (l m : List St) (x : Th) (r : Int) : List (List St × Bool) :=
 if r = 0 then ddP [(srt m, false)] else if r = 4 then ddP [(srt l, true)] else if r = 5 then ddP [(srt l, false), (srt m, false), (srt (m.filter (fun s => !isB x.team x.n s)), false)] else if r = 6 then ddP [(srt m, false), (srt l, true)] else if r = 9 then ddP [(srt m, false), (srt l, false)] else ddP [(srt l, false)]
def choF (x : Th) (r : Int) : Int := if r = 5 then 1 - x.team else if r = 6 then x.team else if r = 9 then 1 - x.team else -1
/-- An outcome's row. -/
abbrev rwB (p : Oc) : It := ownB 49 4 p.d.A p.d.n p.d.c (p.d.l.flatMap eT)
/-- Outcomes in memory. -/
structure OcT where
 A : Option Addr
 c : Nat
 L : List Oc
abbrev ocI (t : OcT) : List It := [ownB 85 2 t.A t.L.length t.c (t.L.flatMap eO), grpB (t.L.map rwB)]
/-- The outcomes are such, with rows of at most 16 stones. -/
def OcP (os : List (List St × Bool)) (t : OcT) : Prop := t.L.map oP = os ∧ ∀ p ∈ t.L, p.d.n = p.d.l.length ∧ p.d.l.length ≤ 16
abbrev Ruv (r h : Int) (t : OcT) : Value := .agg #[.int .i64 r, .int .i64 h, .slice t.A t.L.length t.c]
theorem map_nro {α : Type} {f : α → It} (h : ∀ x, (f x).ro = false) (L : List α) : ((L.map f).all fun A => !A.ro) = true := by rw [List.all_map]; exact List.all_eq_true.2 (fun x _ => by simp [h])
theorem dis_flt {l : List St} (p : St → Bool) (h : dis l) : dis (l.filter p) := fun a ha b hb h1 h2 => h a (List.mem_filter.1 ha).1 b (List.mem_filter.1 hb).1 h1 h2
theorem jud_out {w w' : World} {L0 : List Oc} {A : Option Addr} {c : Nat} {os : List (List St × Bool)} {H : List It} (hw : Wd (bs w) H w') (hk : Pk (L0.map rwB ++ [ownB 85 2 A (ddO L0).length c ((ddO L0).flatMap eO)]) H) (hL : ddP (L0.map oP) = os) (hn : ∀ p ∈ L0, p.d.n = p.d.l.length ∧ p.d.l.length ≤ 16) :
  OcP os ⟨A, c, ddO L0⟩ ∧ Wd (bs w) (ocI ⟨A, c, ddO L0⟩) w' := by
 refine ⟨⟨by rw [ddO_map]; exact hL, fun p hp => hn p ((ddO_sub L0).subset hp)⟩, ?_⟩
 have h := hw.closeS hk (map_nro (fun _ => rfl) L0) ((ddO_sub L0).map rwB)
 exact h.pick (.pick (.there _ (.here _)) (.pick (.here _) (.nil _)))
instance : Cf Try.prog 69 := ⟨fun _ _ => by kernel_rfl⟩
instance : Cf Try.prog 70 := ⟨fun _ _ => by kernel_rfl⟩
instance : Cf Try.prog 71 := ⟨fun _ _ => by kernel_rfl⟩
instance : Cf Try.prog 72 := ⟨fun _ _ => by kernel_rfl⟩
instance : Cf Try.prog 73 := ⟨fun _ _ => by kernel_rfl⟩
instance : Cf Try.prog 52 := ⟨fun _ _ => by kernel_rfl⟩
set_option maxRecDepth 100000 in
set_option maxHeartbeats 4000000 in
theorem judge_any (c : Cd) (n team : Int) (l m : List St) (x : Th) (v : Value) (A2 : Option Addr) (cap2 : Nat) (w : World) (hrow : Arr 4 eT w v l) (hrow2 : Arr 4 eT w (.slice A2 m.length cap2) m) (hcl : chkB l = true) (hcm : chkB m = true) (hxt : 0 ≤ x.team ∧ x.team ≤ 1) : Calls Try.prog 33 #[Tnv c n team, v, Thv x A2 m.length cap2] w (Ret w (OcP (outF l m x (rulF x (remB c n team m l) (movB c n team m l) (decide (n < c.s))))) (Ruv (rulF x (remB c n team m l) (movB c n team m l) (decide (n < c.s))) (choF x (rulF x (remB c n team m l) (movB c n team m l) (decide (n < c.s))))) ocI) := by
 obtain ⟨kf, kt, ks, ke, kp⟩ := c
 obtain ⟨xteam, xnn, xlate, xshort, xhow⟩ := x
 have hrow0 := hrow
 obtain ⟨A, cap, rfl, -, ⟨hl9, -⟩, hA⟩ := hrow
 have hrow20 := hrow2
 have hbl := chk_bnd hcl
 have hbm := chk_bnd hcm
 have hdl := chk_dis hcl
 have hdm := chk_dis hcm
 have hl16 := (chk_facts hcl).1
 have hm16 := (chk_facts hcm).1
 have hbf : ∀ s ∈ m.filter (fun s => !isB xteam xnn s), bnd s := fun s hs => hbm s (List.mem_filter.1 hs).1
 have hdf := dis_flt (fun s => !isB xteam xnn s) hdm
 have hfl := List.length_filter_le (fun s => !isB xteam xnn s) m
 dsimp only at hxt
 dsimp only [Thv, Tnv]
 refine J_enter (fun _ => False) (vs := [.agg #[.int .i64 kf, .int .i64 kt, .int .i64 ks, .int .i64 ke, .bool kp, .int .i64 n, .int .i64 team], .slice A l.length cap, .agg #[.int .i64 xteam, .int .i64 xnn, .bool xlate, .bool xshort, .int .i64 xhow, .slice A2 m.length cap2]]) (k := 110) (l := [(0, .agg #[.int .i64 kf, .int .i64 kt, .int .i64 ks, .int .i64 ke, .bool kp, .int .i64 n, .int .i64 team]), (1, .slice A l.length cap), (2, .agg #[.int .i64 xteam, .int .i64 xnn, .bool xlate, .bool xshort, .int .i64 xhow, .slice A2 m.length cap2])]) Try.func33 rfl rfl Try.ntmps33 rfl rfl (Wd.start _) ?_
 refine s2 ?_
 refine aW (oX [_, _, _, _, _, _, _]) (fun b3 hb3 => ?_)
 refine aW (oX [_, _, _, _, _, _]) (fun b5 hb5 => ?_)
 refine aW oA (fun b6 hb6 => ?_)
 refine s2 ?_
 refine J_scope ?_
 refine s5 ?_
 refine aCB (fun w hw => seen_any (⟨kf, kt, ks, ke, kp⟩ : Cd) n team l m (⟨xteam, xnn, xlate, xshort, xhow⟩ : Th) _ A2 cap2 w (hrow0.up ET hw.bel) (hrow20.up ET hw.bel) (fun s hs => bnd64 (hbl s hs)) (fun s hs => bnd64 (hbm s hs)) (by omega)) ?_
 obtain ⟨rm, hrm⟩ : ∃ b, b = remB (⟨kf, kt, ks, ke, kp⟩ : Cd) n team m l := ⟨_, rfl⟩
 obtain ⟨mv, hmv⟩ : ∃ b, b = movB (⟨kf, kt, ks, ke, kp⟩ : Cd) n team m l := ⟨_, rfl⟩
 obtain ⟨sf, hsf⟩ : ∃ b, b = decide (n < ks) := ⟨_, rfl⟩
 rw [← hrm, ← hmv, ← hsf]
 refine aW oA (fun b7 hb7 => ?_)
 refine aW0 (wStore (cs := [_, _, _, _, _, _, _, _, _]) rfl rfl rfl rfl rfl rfl rfl (by repeat constructor) rfl rfl) ?_
 refine s3 ?_
 refine kJ [(1, _), (5, _), (6, _), (7, _)] ?_
 refine s1 ?_
 refine aP (rp_buildC (fun us => [us.getD 0 undef, us.getD 1 undef, .slice none 0 0]) rfl rfl (fun w => by kernel_rfl)) ?_
 refine aW oA (fun b8 hb8 => ?_)
 refine s6 ?_
 refine xC (T := Int) (fun r => r = rulF (⟨xteam, xnn, xlate, xshort, xhow⟩ : Th) rm mv sf) (fun r => [(1, .slice A l.length cap), (5, .pointer (some ⟨b5, 0, none⟩)), (6, .pointer (some ⟨b6, 0, none⟩)), (8, .pointer (some ⟨b8, 0, none⟩))]) (fun r => [cellB b5 [.int .i64 xteam, .int .i64 xnn, .bool xlate, .bool xshort, .int .i64 xhow, .slice A2 m.length cap2] 42, cellB b6 [.int .i64 0, .int .i64 0, .slice none 0 0] 57, cellB b8 [.int .i64 r, .int .i64 (-1), .slice none 0 0] 57]) ?_ ?_
 ·refine s2 ?_
  refine aW (oR (fun w hw => lines_any w)) (fun t19 _ => ?_)
  obtain ⟨g1, g2, g3, g4, g9⟩ := t19
  dsimp only
  refine s5 ?_
  refine xL (T := Nat) (fun k => k ≤ 9 ∧ rulF (⟨xteam, xnn, xlate, xshort, xhow⟩ : Th) rm mv sf = rulG (askB (⟨xteam, xnn, xlate, xshort, xhow⟩ : Th) rm mv sf) (9 - k) k) (fun k => [(1, .slice A l.length cap), (5, .pointer (some ⟨b5, 0, none⟩)), (6, .pointer (some ⟨b6, 0, none⟩)), (7, .pointer (some ⟨b7, 0, none⟩)), (8, .pointer (some ⟨b8, 0, none⟩)), (19, .slice (some ⟨g9, 0, none⟩) 9 9), (20, .int .i64 (9 : Nat)), (21, .int .i64 (k : Nat))]) (fun k => [cellB b5 [.int .i64 xteam, .int .i64 xnn, .bool xlate, .bool xshort, .int .i64 xhow, .slice A2 m.length cap2] 42, cellB b6 [.int .i64 0, .int .i64 0, .slice none 0 0] 57, cellB b7 (evC (⟨xteam, xnn, xlate, xshort, xhow⟩ : Th) A2 m.length cap2 rm mv sf) 108, cellB b8 [.int .i64 0, .int .i64 (-1), .slice none 0 0] 57, cellB g9 ((linL g1 g2 g3 g4).flatMap eL) 114, cellB g1 [.int .i64 1] 3, cellB g2 [.int .i64 3] 3, cellB g3 [.int .i64 2] 3, cellB g4 [.int .i64 4] 3]) (fun k => 9 - k) 0 ⟨by omega, rfl⟩ ?_
  rintro k ⟨hk, hru⟩
  refine s3 ?_
  refine JL_dec (fun h22 => ?_) (fun h22 => ?_)
  ·refine s9 ?_
   rcases (show k = 0 ∨ k = 1 ∨ k = 2 ∨ k = 3 ∨ k = 4 ∨ k = 5 ∨ k = 6 ∨ k = 7 ∨ k = 8 by omega) with rfl | rfl | rfl | rfl | rfl | rfl | rfl | rfl | rfl
   ·refine s2 ?_
    refine aV (vAgg [_, _] rfl rfl rfl (by repeat constructor) rfl) ?_
    refine aW oA (fun b10 hb10 => ?_)
    refine s7 ?_
    refine aV (vAgg [_, _, _, _, _, _, _, _, _] rfl rfl rfl (by repeat constructor) rfl) ?_
    refine aW (ow_callB (ec_valE (args := #[Evv (⟨xteam, xnn, xlate, xshort, xhow⟩ : Th) A2 m.length cap2 rm mv sf]) rfl rfl rfl Cf.h rfl) rfl rfl (fun w hw => line69 (⟨xteam, xnn, xlate, xshort, xhow⟩ : Th) A2 m cap2 rm mv sf w)) (fun _ _ => ?_)
    refine JL_bool (fun h28 => ?_) (fun h28 => ?_)
    ·refine s4 ?_
     refine kJ [(1, _), (5, _), (6, _), (8, _), (10, _)] ?_
     refine s12 ?_
     exact xE (1 : Int) (rul_y 8 0 hru h28)
    ·refine s6 ?_
     refine kJ [(1, _), (5, _), (6, _), (7, _), (8, _), (19, _), (20, _), (21, _)] ?_
     refine s4 ?_
     exact xR (1) ⟨by omega, rul_n 8 0 hru h28⟩ (by omega) (hl := ⟨rfl, rfl, rfl, rfl, rfl, rfl, rfl, (congrArg some (by go_num)), trivial⟩)
   ·refine s2 ?_
    refine aV (vAgg [_, _] rfl rfl rfl (by repeat constructor) rfl) ?_
    refine aW oA (fun b10 hb10 => ?_)
    refine s7 ?_
    refine aV (vAgg [_, _, _, _, _, _, _, _, _] rfl rfl rfl (by repeat constructor) rfl) ?_
    refine aW (ow_callB (ec_valE (args := #[Evv (⟨xteam, xnn, xlate, xshort, xhow⟩ : Th) A2 m.length cap2 rm mv sf, .pointer (some ⟨g1, 0, none⟩)]) rfl rfl rfl Cf.h rfl) rfl rfl (fun w hw => line68 g1 1 (⟨xteam, xnn, xlate, xshort, xhow⟩ : Th) A2 m cap2 rm mv sf w (hw.ok (cellB g1 [.int .i64 1] 3) (by repeat constructor)).1)) (fun _ _ => ?_)
    refine JL_dec (fun h28 => ?_) (fun h28 => ?_)
    ·refine s4 ?_
     refine kJ [(1, _), (5, _), (6, _), (8, _), (10, _)] ?_
     refine s12 ?_
     exact xE (2 : Int) (rul_y 7 1 hru (decide_eq_true h28))
    ·refine s6 ?_
     refine kJ [(1, _), (5, _), (6, _), (7, _), (8, _), (19, _), (20, _), (21, _)] ?_
     refine s4 ?_
     exact xR (2) ⟨by omega, rul_n 7 1 hru (decide_eq_false h28)⟩ (by omega) (hl := ⟨rfl, rfl, rfl, rfl, rfl, rfl, rfl, (congrArg some (by go_num)), trivial⟩)
   ·refine s2 ?_
    refine aV (vAgg [_, _] rfl rfl rfl (by repeat constructor) rfl) ?_
    refine aW oA (fun b10 hb10 => ?_)
    refine s7 ?_
    refine aV (vAgg [_, _, _, _, _, _, _, _, _] rfl rfl rfl (by repeat constructor) rfl) ?_
    refine aW (ow_callB (ec_valE (args := #[Evv (⟨xteam, xnn, xlate, xshort, xhow⟩ : Th) A2 m.length cap2 rm mv sf]) rfl rfl rfl Cf.h rfl) rfl rfl (fun w hw => line70 (⟨xteam, xnn, xlate, xshort, xhow⟩ : Th) A2 m cap2 rm mv sf w)) (fun _ _ => ?_)
    refine JL_bool (fun h28 => ?_) (fun h28 => ?_)
    ·refine s4 ?_
     refine kJ [(1, _), (5, _), (6, _), (8, _), (10, _)] ?_
     refine s12 ?_
     exact xE (3 : Int) (rul_y 6 2 hru h28)
    ·refine s6 ?_
     refine kJ [(1, _), (5, _), (6, _), (7, _), (8, _), (19, _), (20, _), (21, _)] ?_
     refine s4 ?_
     exact xR (3) ⟨by omega, rul_n 6 2 hru h28⟩ (by omega) (hl := ⟨rfl, rfl, rfl, rfl, rfl, rfl, rfl, (congrArg some (by go_num)), trivial⟩)
   ·refine s2 ?_
    refine aV (vAgg [_, _] rfl rfl rfl (by repeat constructor) rfl) ?_
    refine aW oA (fun b10 hb10 => ?_)
    refine s7 ?_
    refine aV (vAgg [_, _, _, _, _, _, _, _, _] rfl rfl rfl (by repeat constructor) rfl) ?_
    refine aW (ow_callB (ec_valE (args := #[Evv (⟨xteam, xnn, xlate, xshort, xhow⟩ : Th) A2 m.length cap2 rm mv sf, .pointer (some ⟨g2, 0, none⟩)]) rfl rfl rfl Cf.h rfl) rfl rfl (fun w hw => line68 g2 3 (⟨xteam, xnn, xlate, xshort, xhow⟩ : Th) A2 m cap2 rm mv sf w (hw.ok (cellB g2 [.int .i64 3] 3) (by repeat constructor)).1)) (fun _ _ => ?_)
    refine JL_dec (fun h28 => ?_) (fun h28 => ?_)
    ·refine s4 ?_
     refine kJ [(1, _), (5, _), (6, _), (8, _), (10, _)] ?_
     refine s12 ?_
     exact xE (4 : Int) (rul_y 5 3 hru (decide_eq_true h28))
    ·refine s6 ?_
     refine kJ [(1, _), (5, _), (6, _), (7, _), (8, _), (19, _), (20, _), (21, _)] ?_
     refine s4 ?_
     exact xR (4) ⟨by omega, rul_n 5 3 hru (decide_eq_false h28)⟩ (by omega) (hl := ⟨rfl, rfl, rfl, rfl, rfl, rfl, rfl, (congrArg some (by go_num)), trivial⟩)
   ·refine s2 ?_
    refine aV (vAgg [_, _] rfl rfl rfl (by repeat constructor) rfl) ?_
    refine aW oA (fun b10 hb10 => ?_)
    refine s7 ?_
    refine aV (vAgg [_, _, _, _, _, _, _, _, _] rfl rfl rfl (by repeat constructor) rfl) ?_
    refine aW (ow_callB (ec_valE (args := #[Evv (⟨xteam, xnn, xlate, xshort, xhow⟩ : Th) A2 m.length cap2 rm mv sf, .pointer (some ⟨g3, 0, none⟩)]) rfl rfl rfl Cf.h rfl) rfl rfl (fun w hw => line68 g3 2 (⟨xteam, xnn, xlate, xshort, xhow⟩ : Th) A2 m cap2 rm mv sf w (hw.ok (cellB g3 [.int .i64 2] 3) (by repeat constructor)).1)) (fun _ _ => ?_)
    refine JL_dec (fun h28 => ?_) (fun h28 => ?_)
    ·refine s4 ?_
     refine kJ [(1, _), (5, _), (6, _), (8, _), (10, _)] ?_
     refine s12 ?_
     exact xE (5 : Int) (rul_y 4 4 hru (decide_eq_true h28))
    ·refine s6 ?_
     refine kJ [(1, _), (5, _), (6, _), (7, _), (8, _), (19, _), (20, _), (21, _)] ?_
     refine s4 ?_
     exact xR (5) ⟨by omega, rul_n 4 4 hru (decide_eq_false h28)⟩ (by omega) (hl := ⟨rfl, rfl, rfl, rfl, rfl, rfl, rfl, (congrArg some (by go_num)), trivial⟩)
   ·refine s2 ?_
    refine aV (vAgg [_, _] rfl rfl rfl (by repeat constructor) rfl) ?_
    refine aW oA (fun b10 hb10 => ?_)
    refine s7 ?_
    refine aV (vAgg [_, _, _, _, _, _, _, _, _] rfl rfl rfl (by repeat constructor) rfl) ?_
    refine aW (ow_callB (ec_valE (args := #[Evv (⟨xteam, xnn, xlate, xshort, xhow⟩ : Th) A2 m.length cap2 rm mv sf, .pointer (some ⟨g4, 0, none⟩)]) rfl rfl rfl Cf.h rfl) rfl rfl (fun w hw => line68 g4 4 (⟨xteam, xnn, xlate, xshort, xhow⟩ : Th) A2 m cap2 rm mv sf w (hw.ok (cellB g4 [.int .i64 4] 3) (by repeat constructor)).1)) (fun _ _ => ?_)
    refine JL_dec (fun h28 => ?_) (fun h28 => ?_)
    ·refine s4 ?_
     refine kJ [(1, _), (5, _), (6, _), (8, _), (10, _)] ?_
     refine s12 ?_
     exact xE (6 : Int) (rul_y 3 5 hru (decide_eq_true h28))
    ·refine s6 ?_
     refine kJ [(1, _), (5, _), (6, _), (7, _), (8, _), (19, _), (20, _), (21, _)] ?_
     refine s4 ?_
     exact xR (6) ⟨by omega, rul_n 3 5 hru (decide_eq_false h28)⟩ (by omega) (hl := ⟨rfl, rfl, rfl, rfl, rfl, rfl, rfl, (congrArg some (by go_num)), trivial⟩)
   ·refine s2 ?_
    refine aV (vAgg [_, _] rfl rfl rfl (by repeat constructor) rfl) ?_
    refine aW oA (fun b10 hb10 => ?_)
    refine s7 ?_
    refine aV (vAgg [_, _, _, _, _, _, _, _, _] rfl rfl rfl (by repeat constructor) rfl) ?_
    refine aW (ow_callB (ec_valE (args := #[Evv (⟨xteam, xnn, xlate, xshort, xhow⟩ : Th) A2 m.length cap2 rm mv sf]) rfl rfl rfl Cf.h rfl) rfl rfl (fun w hw => line71 (⟨xteam, xnn, xlate, xshort, xhow⟩ : Th) A2 m cap2 rm mv sf w)) (fun _ _ => ?_)
    refine JL_bool (fun h28 => ?_) (fun h28 => ?_)
    ·refine s4 ?_
     refine kJ [(1, _), (5, _), (6, _), (8, _), (10, _)] ?_
     refine s12 ?_
     exact xE (7 : Int) (rul_y 2 6 hru h28)
    ·refine s6 ?_
     refine kJ [(1, _), (5, _), (6, _), (7, _), (8, _), (19, _), (20, _), (21, _)] ?_
     refine s4 ?_
     exact xR (7) ⟨by omega, rul_n 2 6 hru h28⟩ (by omega) (hl := ⟨rfl, rfl, rfl, rfl, rfl, rfl, rfl, (congrArg some (by go_num)), trivial⟩)
   ·refine s2 ?_
    refine aV (vAgg [_, _] rfl rfl rfl (by repeat constructor) rfl) ?_
    refine aW oA (fun b10 hb10 => ?_)
    refine s7 ?_
    refine aV (vAgg [_, _, _, _, _, _, _, _, _] rfl rfl rfl (by repeat constructor) rfl) ?_
    refine aW (ow_callB (ec_valE (args := #[Evv (⟨xteam, xnn, xlate, xshort, xhow⟩ : Th) A2 m.length cap2 rm mv sf]) rfl rfl rfl Cf.h rfl) rfl rfl (fun w hw => line72 (⟨xteam, xnn, xlate, xshort, xhow⟩ : Th) A2 m cap2 rm mv sf w)) (fun _ _ => ?_)
    refine JL_bool (fun h28 => ?_) (fun h28 => ?_)
    ·refine s4 ?_
     refine kJ [(1, _), (5, _), (6, _), (8, _), (10, _)] ?_
     refine s12 ?_
     exact xE (8 : Int) (rul_y 1 7 hru h28)
    ·refine s6 ?_
     refine kJ [(1, _), (5, _), (6, _), (7, _), (8, _), (19, _), (20, _), (21, _)] ?_
     refine s4 ?_
     exact xR (8) ⟨by omega, rul_n 1 7 hru h28⟩ (by omega) (hl := ⟨rfl, rfl, rfl, rfl, rfl, rfl, rfl, (congrArg some (by go_num)), trivial⟩)
   ·refine s2 ?_
    refine aV (vAgg [_, _] rfl rfl rfl (by repeat constructor) rfl) ?_
    refine aW oA (fun b10 hb10 => ?_)
    refine s7 ?_
    refine aV (vAgg [_, _, _, _, _, _, _, _, _] rfl rfl rfl (by repeat constructor) rfl) ?_
    refine aW (ow_callB (ec_valE (args := #[Evv (⟨xteam, xnn, xlate, xshort, xhow⟩ : Th) A2 m.length cap2 rm mv sf]) rfl rfl rfl Cf.h rfl) rfl rfl (fun w hw => line73 (⟨xteam, xnn, xlate, xshort, xhow⟩ : Th) A2 m cap2 rm mv sf w)) (fun _ _ => ?_)
    refine JL_bool (fun h28 => ?_) (fun h28 => ?_)
    ·refine s4 ?_
     refine kJ [(1, _), (5, _), (6, _), (8, _), (10, _)] ?_
     refine s12 ?_
     exact xE (9 : Int) (rul_y 0 8 hru h28)
    ·refine s6 ?_
     refine kJ [(1, _), (5, _), (6, _), (7, _), (8, _), (19, _), (20, _), (21, _)] ?_
     refine s4 ?_
     exact xR (9) ⟨by omega, rul_n 0 8 hru h28⟩ (by omega) (hl := ⟨rfl, rfl, rfl, rfl, rfl, rfl, rfl, (congrArg some (by go_num)), trivial⟩)
  ·refine s8 ?_
   obtain rfl : k = 9 := by omega
   exact xE 0 (show (0 : Int) = rulF (⟨xteam, xnn, xlate, xshort, xhow⟩ : Th) rm mv sf from hru.symm)
 ·rintro r hr
  refine s8 ?_
  refine aS (oS (fun w hw => sortedT l _ w (hrow0.up ET hw.bel) (by omega) hbl hdl)) (fun A34 c34 => ?_)
  refine aP (rp_buildC (fun us => [us.getD 0 undef, us.getD 1 undef]) rfl rfl (fun w => by kernel_rfl)) ?_
  refine aW oA (fun b12 hb12 => ?_)
  refine s12 ?_
  refine kJ [(1, _), (5, _), (6, _), (8, _), (11, _), (12, _), (37, _)] ?_
  refine s2 ?_
  refine JL_dec (fun h45 => ?_) (fun h45 => ?_)
  ·refine s4 ?_
   refine kJ [(5, _), (6, _), (8, _), (11, _)] ?_
   refine s4 ?_
   refine aW (ow_callR (ec_valE (args := #[.slice A2 m.length cap2]) rfl rfl rfl Cf.h rfl) rfl rfl (fun _ => rfl) (fun w hw => as_any m _ w (hrow20.up ET hw.bel) (by omega) hbm hdm)) (fun t49 _ => ?_)
   obtain ⟨A49, c49⟩ := t49
   dsimp only
   refine aW (ow_sliceC (vs := [_, _]) (ty := 85) rfl rfl (by rfl) rfl rfl (fun _ => by kernel_rfl)) (fun b50 hb50 => ?_)
   refine JL_asOwn (b := b50) (kk := 2) (m := 1) (by repeat constructor) rfl (by omega) ?_
   refine aS (oS (fun w hw => distinct_any [(⟨⟨A49, (srt m).length, c49, srt m⟩, false⟩ : Oc)] (.slice (some ⟨b50, 0, none⟩) 1 1) w (own_arr (A := some ⟨b50, 0, none⟩) (c := 1) (ty := 85) (L := [(⟨⟨A49, (srt m).length, c49, srt m⟩, false⟩ : Oc)]) EO hw (by repeat constructor) (Nat.le_of_ble_eq_true rfl)) (fun p hp => by
     simp only [List.mem_cons, List.not_mem_nil, or_false] at hp
     rcases hp with rfl
     ·exact own_arr (A := A49) (c := c49) ET hw (by repeat constructor) (by rw [srt_len]; omega)) (Nat.le_of_ble_eq_true rfl))) (fun A51 c51 => ?_)
   refine s6 ?_
   refine kJ [(6, _), (8, _)] ?_
   refine s6 ?_
   refine JQ_ngR ?_
   refine JR_one rfl (rr_agg (cs := [_, _, _]) rfl Agg.h (Siz.h (k := 3)) (by repeat constructor) (by rfl)) ?_
   have hos : ddP (List.map oP [(⟨⟨A49, (srt m).length, c49, srt m⟩, false⟩ : Oc)]) = outF l m (⟨xteam, xnn, xlate, xshort, xhow⟩ : Th) r := by unfold outF; rw [if_pos h45]; rfl
   have hch : choF (⟨xteam, xnn, xlate, xshort, xhow⟩ : Th) r = -1 := by unfold choF; rw [if_neg (by omega), if_neg (by omega), if_neg (by omega)]
   have hn : ∀ p ∈ [(⟨⟨A49, (srt m).length, c49, srt m⟩, false⟩ : Oc)], p.d.n = p.d.l.length ∧ p.d.l.length ≤ 16 := fun p hp => by
    simp only [List.mem_cons, List.not_mem_nil, or_false] at hp
    rcases hp with rfl <;> exact ⟨rfl, by dsimp only; rw [srt_len]; omega⟩
   intro w' hw
   obtain ⟨h1, h2⟩ := jud_out (L0 := [(⟨⟨A49, (srt m).length, c49, srt m⟩, false⟩ : Oc)]) (A := A51) (c := c51) hw (by repeat constructor) hos hn
   exact ⟨⟨A51, c51, ddO [(⟨⟨A49, (srt m).length, c49, srt m⟩, false⟩ : Oc)]⟩, by rw [← hr]; exact h1, by rw [← hr, hch], h2⟩
  ·refine s7 ?_
   refine JL_dec (fun h54 => ?_) (fun h54 => ?_)
   ·refine s4 ?_
    refine kJ [(6, _), (8, _), (12, _)] ?_
    refine s2 ?_
    refine aW (ow_sliceC (vs := [_, _]) (ty := 85) rfl rfl (by rfl) rfl rfl (fun _ => by kernel_rfl)) (fun b56 hb56 => ?_)
    refine JL_asOwn (b := b56) (kk := 2) (m := 1) (by repeat constructor) rfl (by omega) ?_
    refine aS (oS (fun w hw => distinct_any [(⟨⟨A34, (srt l).length, c34, srt l⟩, true⟩ : Oc)] (.slice (some ⟨b56, 0, none⟩) 1 1) w (own_arr (A := some ⟨b56, 0, none⟩) (c := 1) (ty := 85) (L := [(⟨⟨A34, (srt l).length, c34, srt l⟩, true⟩ : Oc)]) EO hw (by repeat constructor) (Nat.le_of_ble_eq_true rfl)) (fun p hp => by
      simp only [List.mem_cons, List.not_mem_nil, or_false] at hp
      rcases hp with rfl
      ·exact own_arr (A := A34) (c := c34) ET hw (by repeat constructor) (by rw [srt_len]; omega)) (Nat.le_of_ble_eq_true rfl))) (fun A57 c57 => ?_)
    refine s6 ?_
    refine kJ [(6, _), (8, _)] ?_
    refine s6 ?_
    refine JQ_ngR ?_
    refine JR_one rfl (rr_agg (cs := [_, _, _]) rfl Agg.h (Siz.h (k := 3)) (by repeat constructor) (by rfl)) ?_
    have hos : ddP (List.map oP [(⟨⟨A34, (srt l).length, c34, srt l⟩, true⟩ : Oc)]) = outF l m (⟨xteam, xnn, xlate, xshort, xhow⟩ : Th) r := by unfold outF; rw [if_neg h45, if_pos h54]; rfl
    have hch : choF (⟨xteam, xnn, xlate, xshort, xhow⟩ : Th) r = -1 := by unfold choF; rw [if_neg (by omega), if_neg (by omega), if_neg (by omega)]
    have hn : ∀ p ∈ [(⟨⟨A34, (srt l).length, c34, srt l⟩, true⟩ : Oc)], p.d.n = p.d.l.length ∧ p.d.l.length ≤ 16 := fun p hp => by
     simp only [List.mem_cons, List.not_mem_nil, or_false] at hp
     rcases hp with rfl <;> exact ⟨rfl, by dsimp only; rw [srt_len]; omega⟩
    intro w' hw
    obtain ⟨h1, h2⟩ := jud_out (L0 := [(⟨⟨A34, (srt l).length, c34, srt l⟩, true⟩ : Oc)]) (A := A57) (c := c57) hw (by repeat constructor) hos hn
    exact ⟨⟨A57, c57, ddO [(⟨⟨A34, (srt l).length, c34, srt l⟩, true⟩ : Oc)]⟩, by rw [← hr]; exact h1, by rw [← hr, hch], h2⟩
   ·refine s5 ?_
    refine kJ [(1, _), (5, _), (6, _), (8, _), (11, _), (12, _), (37, _)] ?_
    refine s2 ?_
    refine JL_dec (fun h60 => ?_) (fun h60 => ?_)
    ·refine s5 ?_
     refine kJ [(1, _), (5, _), (6, _), (8, _), (11, _)] ?_
     refine s5 ?_
     refine xDx [0, 1, 2, 3, 4, 6, 7, 8, 10, 11, 12, 14, 19, 5, 9, 13, 15, 16, 17, 18, 20, 21, 22] [] [1, 8, 12] [cellB b5 [.int .i64 xteam, .int .i64 xnn, .bool xlate, .bool xshort, .int .i64 xhow, .slice A2 m.length cap2] 42] ?_
     refine s13 ?_
     refine dW rfl (ow_callR (ec_valE (args := #[.slice A l.length cap]) rfl rfl rfl Cf.h rfl) rfl rfl (fun _ => rfl) (fun w hw => as_any l _ w (hrow0.up ET hw.bel) (by omega) hbl hdl)) (fun t67 _ => ?_)
     obtain ⟨A67, c67⟩ := t67
     dsimp only
     refine dW rfl (ow_callR (ec_valE (args := #[.slice A2 m.length cap2]) rfl rfl rfl Cf.h rfl) rfl rfl (fun _ => rfl) (fun w hw => as_any m _ w (hrow20.up ET hw.bel) (by omega) hbm hdm)) (fun t71 _ => ?_)
     obtain ⟨A71, c71⟩ := t71
     dsimp only
     refine dS rfl (oS (fun w hw => CloneT m _ w (hrow20.up ET hw.bel) (by omega))) (fun A75 c75 => ?_)
     refine dW rfl (oM (fun w hw => DeleteFuncT 54 #[.pointer (some ⟨b5, 0, none⟩)] (isB xteam xnn) m A75 c75 w (by omega) (hw.ok (ownB 49 4 A75 m.length c75 (m.flatMap eT)) (by repeat constructor)).1 (hw.newA (A := ownB 49 4 A75 m.length c75 (m.flatMap eT)) (by repeat constructor) rfl).2 (fun s hs W hW => own_any s (⟨xteam, xnn, xlate, xshort, xhow⟩ : Th) A2 m.length cap2 b5 W (hw.keepO (A := ownB 49 4 A75 m.length c75 (m.flatMap eT)) (C := cellB b5 [.int .i64 xteam, .int .i64 xnn, .bool xlate, .bool xshort, .int .i64 xhow, .slice A2 m.length cap2] 42) hW (by repeat constructor) rfl).1))) (fun _ _ => ?_)
     refine dW rfl (ow_callR (ec_valE (args := #[.slice A75 (m.filter (fun s => !isB xteam xnn s)).length c75]) rfl rfl rfl Cf.h rfl) rfl rfl (fun _ => rfl) (fun w hw => as_any (m.filter (fun s => !isB xteam xnn s)) _ w (own_arr (A := A75) (c := c75) ET hw (by repeat constructor) (by omega)) (by omega) hbf hdf)) (fun t78 _ => ?_)
     obtain ⟨A78, c78⟩ := t78
     dsimp only
     refine dW rfl (ow_sliceC (vs := [_, _, _, _, _, _]) (ty := 85) rfl rfl (by rfl) rfl rfl (fun _ => by kernel_rfl)) (fun b79 hb79 => ?_)
     refine dAsOwn (b := b79) (kk := 2) (m := 3) (by repeat constructor) rfl (by omega) ?_
     refine dS rfl (oS (fun w hw => distinct_any [(⟨⟨A67, (srt l).length, c67, srt l⟩, false⟩ : Oc), (⟨⟨A71, (srt m).length, c71, srt m⟩, false⟩ : Oc), (⟨⟨A78, (srt (m.filter (fun s => !isB xteam xnn s))).length, c78, srt (m.filter (fun s => !isB xteam xnn s))⟩, false⟩ : Oc)] (.slice (some ⟨b79, 0, none⟩) 3 3) w (own_arr (A := some ⟨b79, 0, none⟩) (c := 3) (ty := 85) (L := [(⟨⟨A67, (srt l).length, c67, srt l⟩, false⟩ : Oc), (⟨⟨A71, (srt m).length, c71, srt m⟩, false⟩ : Oc), (⟨⟨A78, (srt (m.filter (fun s => !isB xteam xnn s))).length, c78, srt (m.filter (fun s => !isB xteam xnn s))⟩, false⟩ : Oc)]) EO hw (by repeat constructor) (Nat.le_of_ble_eq_true rfl)) (fun p hp => by
       simp only [List.mem_cons, List.not_mem_nil, or_false] at hp
       rcases hp with rfl | rfl | rfl
       ·exact own_arr (A := A67) (c := c67) ET hw (by repeat constructor) (by rw [srt_len]; omega)
       ·exact own_arr (A := A71) (c := c71) ET hw (by repeat constructor) (by rw [srt_len]; omega)
       ·exact own_arr (A := A78) (c := c78) ET hw (by repeat constructor) (by rw [srt_len]; omega)) (Nat.le_of_ble_eq_true rfl))) (fun A80 c80 => ?_)
     refine s7 ?_
     refine kJ [(6, _), (8, _)] ?_
     refine s6 ?_
     refine JQ_ngR ?_
     refine JR_one rfl (rr_agg (cs := [_, _, _]) rfl Agg.h (Siz.h (k := 3)) (by repeat constructor) (by rfl)) ?_
     have hos : ddP (List.map oP [(⟨⟨A67, (srt l).length, c67, srt l⟩, false⟩ : Oc), (⟨⟨A71, (srt m).length, c71, srt m⟩, false⟩ : Oc), (⟨⟨A78, (srt (m.filter (fun s => !isB xteam xnn s))).length, c78, srt (m.filter (fun s => !isB xteam xnn s))⟩, false⟩ : Oc)]) = outF l m (⟨xteam, xnn, xlate, xshort, xhow⟩ : Th) r := by unfold outF; rw [if_neg h45, if_neg h54, if_pos h60]; rfl
     have hch : choF (⟨xteam, xnn, xlate, xshort, xhow⟩ : Th) r = 1 - xteam := by unfold choF; rw [if_pos h60]
     have hn : ∀ p ∈ [(⟨⟨A67, (srt l).length, c67, srt l⟩, false⟩ : Oc), (⟨⟨A71, (srt m).length, c71, srt m⟩, false⟩ : Oc), (⟨⟨A78, (srt (m.filter (fun s => !isB xteam xnn s))).length, c78, srt (m.filter (fun s => !isB xteam xnn s))⟩, false⟩ : Oc)], p.d.n = p.d.l.length ∧ p.d.l.length ≤ 16 := fun p hp => by
      simp only [List.mem_cons, List.not_mem_nil, or_false] at hp
      rcases hp with rfl | rfl | rfl <;> exact ⟨rfl, by dsimp only; rw [srt_len]; omega⟩
     intro w' hw
     obtain ⟨h1, h2⟩ := jud_out (L0 := [(⟨⟨A67, (srt l).length, c67, srt l⟩, false⟩ : Oc), (⟨⟨A71, (srt m).length, c71, srt m⟩, false⟩ : Oc), (⟨⟨A78, (srt (m.filter (fun s => !isB xteam xnn s))).length, c78, srt (m.filter (fun s => !isB xteam xnn s))⟩, false⟩ : Oc)]) (A := A80) (c := c80) hw (by repeat constructor) hos hn
     exact ⟨⟨A80, c80, ddO [(⟨⟨A67, (srt l).length, c67, srt l⟩, false⟩ : Oc), (⟨⟨A71, (srt m).length, c71, srt m⟩, false⟩ : Oc), (⟨⟨A78, (srt (m.filter (fun s => !isB xteam xnn s))).length, c78, srt (m.filter (fun s => !isB xteam xnn s))⟩, false⟩ : Oc)]⟩, by rw [← hr]; exact h1, by rw [← hr, hch], h2⟩
    ·refine s7 ?_
     refine JL_dec (fun h84 => ?_) (fun h84 => ?_)
     ·refine s4 ?_
      refine kJ [(5, _), (6, _), (8, _), (11, _), (12, _)] ?_
      refine xDx [0, 1, 2, 3, 4, 6, 9, 5, 7, 8, 10, 11, 12] [] [1, 4, 6] [cellB b5 [.int .i64 xteam, .int .i64 xnn, .bool xlate, .bool xshort, .int .i64 xhow, .slice A2 m.length cap2] 42, cellB b12 [.slice A34 (srt l).length c34, .bool true] 85] ?_
      refine s7 ?_
      refine dW rfl (ow_callR (ec_valE (args := #[.slice A2 m.length cap2]) rfl rfl rfl Cf.h rfl) rfl rfl (fun _ => rfl) (fun w hw => as_any m _ w (hrow20.up ET hw.bel) (by omega) hbm hdm)) (fun t90 _ => ?_)
      obtain ⟨A90, c90⟩ := t90
      dsimp only
      refine dW rfl (ow_sliceC (vs := [_, _, _, _]) (ty := 85) rfl rfl (by rfl) rfl rfl (fun _ => by kernel_rfl)) (fun b92 hb92 => ?_)
      refine dAsOwn (b := b92) (kk := 2) (m := 2) (by repeat constructor) rfl (by omega) ?_
      refine dS rfl (oS (fun w hw => distinct_any [(⟨⟨A90, (srt m).length, c90, srt m⟩, false⟩ : Oc), (⟨⟨A34, (srt l).length, c34, srt l⟩, true⟩ : Oc)] (.slice (some ⟨b92, 0, none⟩) 2 2) w (own_arr (A := some ⟨b92, 0, none⟩) (c := 2) (ty := 85) (L := [(⟨⟨A90, (srt m).length, c90, srt m⟩, false⟩ : Oc), (⟨⟨A34, (srt l).length, c34, srt l⟩, true⟩ : Oc)]) EO hw (by repeat constructor) (Nat.le_of_ble_eq_true rfl)) (fun p hp => by
        simp only [List.mem_cons, List.not_mem_nil, or_false] at hp
        rcases hp with rfl | rfl
        ·exact own_arr (A := A90) (c := c90) ET hw (by repeat constructor) (by rw [srt_len]; omega)
        ·exact own_arr (A := A34) (c := c34) ET hw (by repeat constructor) (by rw [srt_len]; omega)) (Nat.le_of_ble_eq_true rfl))) (fun A93 c93 => ?_)
      refine s7 ?_
      refine kJ [(6, _), (8, _)] ?_
      refine s6 ?_
      refine JQ_ngR ?_
      refine JR_one rfl (rr_agg (cs := [_, _, _]) rfl Agg.h (Siz.h (k := 3)) (by repeat constructor) (by rfl)) ?_
      have hos : ddP (List.map oP [(⟨⟨A90, (srt m).length, c90, srt m⟩, false⟩ : Oc), (⟨⟨A34, (srt l).length, c34, srt l⟩, true⟩ : Oc)]) = outF l m (⟨xteam, xnn, xlate, xshort, xhow⟩ : Th) r := by unfold outF; rw [if_neg h45, if_neg h54, if_neg h60, if_pos h84]; rfl
      have hch : choF (⟨xteam, xnn, xlate, xshort, xhow⟩ : Th) r = xteam := by unfold choF; rw [if_neg h60, if_pos h84]
      have hn : ∀ p ∈ [(⟨⟨A90, (srt m).length, c90, srt m⟩, false⟩ : Oc), (⟨⟨A34, (srt l).length, c34, srt l⟩, true⟩ : Oc)], p.d.n = p.d.l.length ∧ p.d.l.length ≤ 16 := fun p hp => by
       simp only [List.mem_cons, List.not_mem_nil, or_false] at hp
       rcases hp with rfl | rfl <;> exact ⟨rfl, by dsimp only; rw [srt_len]; omega⟩
      intro w' hw
      obtain ⟨h1, h2⟩ := jud_out (L0 := [(⟨⟨A90, (srt m).length, c90, srt m⟩, false⟩ : Oc), (⟨⟨A34, (srt l).length, c34, srt l⟩, true⟩ : Oc)]) (A := A93) (c := c93) hw (by repeat constructor) hos hn
      exact ⟨⟨A93, c93, ddO [(⟨⟨A90, (srt m).length, c90, srt m⟩, false⟩ : Oc), (⟨⟨A34, (srt l).length, c34, srt l⟩, true⟩ : Oc)]⟩, by rw [← hr]; exact h1, by rw [← hr, hch], h2⟩
     ·refine s5 ?_
      refine kJ [(1, _), (5, _), (6, _), (8, _), (11, _), (37, _)] ?_
      refine s2 ?_
      refine JL_dec (fun h97 => ?_) (fun h97 => ?_)
      ·refine s4 ?_
       refine xDx [0, 1, 2, 3, 4, 5, 7, 8, 12, 6, 9, 10, 11, 13, 14, 15] [] [1, 5] [cellB b5 [.int .i64 xteam, .int .i64 xnn, .bool xlate, .bool xshort, .int .i64 xhow, .slice A2 m.length cap2] 42] ?_
       refine s9 ?_
       refine dW rfl (ow_callR (ec_valE (args := #[.slice A2 m.length cap2]) rfl rfl rfl Cf.h rfl) rfl rfl (fun _ => rfl) (fun w hw => as_any m _ w (hrow20.up ET hw.bel) (by omega) hbm hdm)) (fun t104 _ => ?_)
       obtain ⟨A104, c104⟩ := t104
       dsimp only
       refine dW rfl (ow_callR (ec_valE (args := #[.slice A l.length cap]) rfl rfl rfl Cf.h rfl) rfl rfl (fun _ => rfl) (fun w hw => as_any l _ w (hrow0.up ET hw.bel) (by omega) hbl hdl)) (fun t107 _ => ?_)
       obtain ⟨A107, c107⟩ := t107
       dsimp only
       refine dW rfl (ow_sliceC (vs := [_, _, _, _]) (ty := 85) rfl rfl (by rfl) rfl rfl (fun _ => by kernel_rfl)) (fun b108 hb108 => ?_)
       refine dAsOwn (b := b108) (kk := 2) (m := 2) (by repeat constructor) rfl (by omega) ?_
       refine dS rfl (oS (fun w hw => distinct_any [(⟨⟨A104, (srt m).length, c104, srt m⟩, false⟩ : Oc), (⟨⟨A107, (srt l).length, c107, srt l⟩, false⟩ : Oc)] (.slice (some ⟨b108, 0, none⟩) 2 2) w (own_arr (A := some ⟨b108, 0, none⟩) (c := 2) (ty := 85) (L := [(⟨⟨A104, (srt m).length, c104, srt m⟩, false⟩ : Oc), (⟨⟨A107, (srt l).length, c107, srt l⟩, false⟩ : Oc)]) EO hw (by repeat constructor) (Nat.le_of_ble_eq_true rfl)) (fun p hp => by
         simp only [List.mem_cons, List.not_mem_nil, or_false] at hp
         rcases hp with rfl | rfl
         ·exact own_arr (A := A104) (c := c104) ET hw (by repeat constructor) (by rw [srt_len]; omega)
         ·exact own_arr (A := A107) (c := c107) ET hw (by repeat constructor) (by rw [srt_len]; omega)) (Nat.le_of_ble_eq_true rfl))) (fun A109 c109 => ?_)
       refine s7 ?_
       refine kJ [(6, _), (8, _)] ?_
       refine s6 ?_
       refine JQ_ngR ?_
       refine JR_one rfl (rr_agg (cs := [_, _, _]) rfl Agg.h (Siz.h (k := 3)) (by repeat constructor) (by rfl)) ?_
       have hos : ddP (List.map oP [(⟨⟨A104, (srt m).length, c104, srt m⟩, false⟩ : Oc), (⟨⟨A107, (srt l).length, c107, srt l⟩, false⟩ : Oc)]) = outF l m (⟨xteam, xnn, xlate, xshort, xhow⟩ : Th) r := by unfold outF; rw [if_neg h45, if_neg h54, if_neg h60, if_neg h84, if_pos h97]; rfl
       have hch : choF (⟨xteam, xnn, xlate, xshort, xhow⟩ : Th) r = 1 - xteam := by unfold choF; rw [if_neg h60, if_neg h84, if_pos h97]
       have hn : ∀ p ∈ [(⟨⟨A104, (srt m).length, c104, srt m⟩, false⟩ : Oc), (⟨⟨A107, (srt l).length, c107, srt l⟩, false⟩ : Oc)], p.d.n = p.d.l.length ∧ p.d.l.length ≤ 16 := fun p hp => by
        simp only [List.mem_cons, List.not_mem_nil, or_false] at hp
        rcases hp with rfl | rfl <;> exact ⟨rfl, by dsimp only; rw [srt_len]; omega⟩
       intro w' hw
       obtain ⟨h1, h2⟩ := jud_out (L0 := [(⟨⟨A104, (srt m).length, c104, srt m⟩, false⟩ : Oc), (⟨⟨A107, (srt l).length, c107, srt l⟩, false⟩ : Oc)]) (A := A109) (c := c109) hw (by repeat constructor) hos hn
       exact ⟨⟨A109, c109, ddO [(⟨⟨A104, (srt m).length, c104, srt m⟩, false⟩ : Oc), (⟨⟨A107, (srt l).length, c107, srt l⟩, false⟩ : Oc)]⟩, by rw [← hr]; exact h1, by rw [← hr, hch], h2⟩
      ·refine s4 ?_
       refine kJ [(1, _), (6, _), (8, _), (11, _)] ?_
       refine s3 ?_
       refine aW (ow_callR (ec_valE (args := #[.slice A l.length cap]) rfl rfl rfl Cf.h rfl) rfl rfl (fun _ => rfl) (fun w hw => as_any l _ w (hrow0.up ET hw.bel) (by omega) hbl hdl)) (fun t40 _ => ?_)
       obtain ⟨A40, c40⟩ := t40
       dsimp only
       refine aW (ow_sliceC (vs := [_, _]) (ty := 85) rfl rfl (by rfl) rfl rfl (fun _ => by kernel_rfl)) (fun b41 hb41 => ?_)
       refine JL_asOwn (b := b41) (kk := 2) (m := 1) (by repeat constructor) rfl (by omega) ?_
       refine aS (oS (fun w hw => distinct_any [(⟨⟨A40, (srt l).length, c40, srt l⟩, false⟩ : Oc)] (.slice (some ⟨b41, 0, none⟩) 1 1) w (own_arr (A := some ⟨b41, 0, none⟩) (c := 1) (ty := 85) (L := [(⟨⟨A40, (srt l).length, c40, srt l⟩, false⟩ : Oc)]) EO hw (by repeat constructor) (Nat.le_of_ble_eq_true rfl)) (fun p hp => by
         simp only [List.mem_cons, List.not_mem_nil, or_false] at hp
         rcases hp with rfl
         ·exact own_arr (A := A40) (c := c40) ET hw (by repeat constructor) (by rw [srt_len]; omega)) (Nat.le_of_ble_eq_true rfl))) (fun A42 c42 => ?_)
       refine s6 ?_
       refine kJ [(6, _), (8, _)] ?_
       refine s6 ?_
       refine JQ_ngR ?_
       refine JR_one rfl (rr_agg (cs := [_, _, _]) rfl Agg.h (Siz.h (k := 3)) (by repeat constructor) (by rfl)) ?_
       have hos : ddP (List.map oP [(⟨⟨A40, (srt l).length, c40, srt l⟩, false⟩ : Oc)]) = outF l m (⟨xteam, xnn, xlate, xshort, xhow⟩ : Th) r := by unfold outF; rw [if_neg h45, if_neg h54, if_neg h60, if_neg h84, if_neg h97]; rfl
       have hch : choF (⟨xteam, xnn, xlate, xshort, xhow⟩ : Th) r = -1 := by unfold choF; rw [if_neg h60, if_neg h84, if_neg h97]
       have hn : ∀ p ∈ [(⟨⟨A40, (srt l).length, c40, srt l⟩, false⟩ : Oc)], p.d.n = p.d.l.length ∧ p.d.l.length ≤ 16 := fun p hp => by
        simp only [List.mem_cons, List.not_mem_nil, or_false] at hp
        rcases hp with rfl <;> exact ⟨rfl, by dsimp only; rw [srt_len]; omega⟩
       intro w' hw
       obtain ⟨h1, h2⟩ := jud_out (L0 := [(⟨⟨A40, (srt l).length, c40, srt l⟩, false⟩ : Oc)]) (A := A42) (c := c42) hw (by repeat constructor) hos hn
       exact ⟨⟨A42, c42, ddO [(⟨⟨A40, (srt l).length, c40, srt l⟩, false⟩ : Oc)]⟩, by rw [← hr]; exact h1, by rw [← hr, hch], h2⟩
end Go.Proofs.Ytmcpnoailbmkkaa
/- Layer 7: Protected, Judge, Named. -/
namespace Go.Proofs.Ytmcpnoailbmkkaa
open Go Go.RowKit Go.Proofs
attribute [local irreducible] J JQ JL JA JD

/-- Where p holds. -/
def whL (p : St → Bool) (l : List St) : List Int := ((List.range l.length).filter (fun i => p (l.getD i ⟨0, 0, 0, 0⟩))).map (fun i => ((i : Nat) : Int))
def whN (p : St → Bool) (l : List St) (k : Nat) : List Int := ((List.range k).filter (fun i => p (l.getD i ⟨0, 0, 0, 0⟩))).map (fun i => ((i : Nat) : Int))
theorem whN_s {p : St → Bool} {l : List St} {k : Nat} {x : St} (hk : k < l.length) (hx : l[k]'hk = x) : whN p l (k + 1) = if p x = true then whN p l k ++ [((k : Nat) : Int)] else whN p l k := by
 unfold whN
 rw [List.range_succ, List.filter_append, List.map_append]
 have e : l.getD k ⟨0, 0, 0, 0⟩ = x := by rw [List.getD_eq_getElem?_getD, List.getElem?_eq_getElem hk, hx]; rfl
 cases h : p x with
 | true => rw [if_pos rfl]; congr 1; rw [List.filter_cons, e, h, if_pos rfl]; rfl
 | false => rw [if_neg (by decide), List.filter_cons, e, h, if_neg (by decide)]; simp
theorem whN_len (p : St → Bool) (l : List St) (k : Nat) : (whN p l k).length ≤ k := by
 unfold whN; rw [List.length_map]; exact Nat.le_trans (List.length_filter_le _ _) (by rw [List.length_range]; exact Nat.le_refl _)
/-- A predicate of stones with what it holds bound ahead of its parameter. -/
def PrF (f : FuncId) (fs : Array Value) (p : St → Bool) (l : List St) (w0 : World) : Prop := ∀ x ∈ l, ∀ W, Below w0.heap.size w0 W → Calls Try.prog f (fs ++ #[Stv x] ++ #[]) W (Back (.bool (p x)) W)
/-- What Protected says: no answer, or where stones are protected and fixed. -/
def proE (c : Cd) (n team : Int) (l : List St) : Int := if ccB c = true ∧ chkB l = true ∧ (0 ≤ team ∧ team ≤ 1) then (if 0 ≤ n ∧ n ≤ 16 then 0 else 4) else 2
def RetPr (c : Cd) (n team : Int) (l : List St) (w : World) (e : Ending) (w' : World) : Prop := if proE c n team l = 0 then Ret w (fun _ : Option Addr × Nat × Option Addr × Nat => True) (fun t => .tuple #[.slice t.1 (whN (kpB c n team) l l.length).length t.2.1, .slice t.2.2.1 (whN (fxB c n team) l l.length).length t.2.2.2, .int .i64 0]) (fun t => [ownB 3 1 t.1 (whN (kpB c n team) l l.length).length t.2.1 ((whN (kpB c n team) l l.length).flatMap eI), ownB 3 1 t.2.2.1 (whN (fxB c n team) l l.length).length t.2.2.2 ((whN (fxB c n team) l l.length).flatMap eI)]) e w'
 else Back (.tuple #[.slice none 0 0, .slice none 0 0, .int .i64 (proE c n team l)]) w e w'
/-- The rule of a valid throw. -/
def ruleF (c : Cd) (n : Int) (l m : List St) (x : Th) : Int := rulF x (remB c n x.team m l) (movB c n x.team m l) (decide (n < c.s))
def judE (c : Cd) (n : Int) (l m : List St) (x : Th) : Int := if ccB c = true ∧ thrB l m x = true then (if 0 ≤ n ∧ n ≤ 16 then 0 else 4) else 2
def RetJu (c : Cd) (n : Int) (l m : List St) (x : Th) (w : World) (e : Ending) (w' : World) : Prop := if judE c n l m x = 0 then Ret w (OcP (outF l m x (ruleF c n l m x))) (fun t => .tuple #[Ruv (ruleF c n l m x) (choF x (ruleF c n l m x)) t, .int .i64 0]) ocI e w'
 else Back (.tuple #[.agg #[.int .i64 0, .int .i64 0, .slice none 0 0], .int .i64 (judE c n l m x)]) w e w'
theorem thr_parts {l m : List St} {x : Th} (h : thrB l m x = true) : chkB l = true ∧ chkB m = true ∧ (0 ≤ x.team ∧ x.team ≤ 1) ∧ (0 ≤ x.n ∧ x.n ≤ 7) ∧ (0 ≤ x.how ∧ x.how ≤ 4) := by
 unfold thrB thrA at h
 simp only [Bool.and_eq_true, decide_eq_true_eq] at h
 exact ⟨h.1.1.1.1.1.1.1, h.1.1.1.1.1.1.2, h.1.1.1.1.1.2, h.1.1.1.1.2, h.1.1.1.2⟩
end Go.Proofs.Ytmcpnoailbmkkaa
/- Groups that grow. Over any program. -/
namespace Go.Proofs.Ytmcpnoailbmkkaa
open Go Go.RowKit Go.Proofs Go.Shelf
section
variable {P : Program} {n : Nat} {B : Bs} {Q : Exit → Act → World → Prop} {l : Sl} {H H1 HA HS rows : List It} {ops : Array Oper} {rest : List Oper} {o : Oper} {c : Code} {w w' : World} {x : Operand} {t : TypeId}
theorem Wd.push {A : It} (h : Wd B H w) (hk : Pk (grpB HA :: A :: H1) H) (hr : (HA.all fun A => !A.ro) = true) (hA : A.ro = false) : Wd B (grpB (HA ++ [A]) :: H1) w := by
 have h1 := (h.pick hk).opn (Pk.refl _)
 have e : HA ++ A :: H1 = (HA ++ [A]) ++ H1 := by simp
 rw [e] at h1
 exact h1.close (HA := HA ++ [A]) (H1 := H1) (Pk.refl _) (by rw [List.all_append, hr]; simp [hA])
theorem JQ_push {e : Exit} (HA : List It) (A : It) (hr : (HA.all fun A => !A.ro) = true) (h : JQ n B Q e l (grpB (HA ++ [A]) :: H1)) (hk : Pk (grpB HA :: A :: H1) H := by repeat constructor) (hA : A.ro = false := by rfl) : JQ n B Q e l H := fun a w ha hw => h a w ha (hw.push hk hr hA)
theorem J_grp0 (h : J P n B c Q l (grpB [] :: H)) : J P n B c Q l H := fun a w ha hw => h a w ha (hw.new (Below.refl _ _) ⟨fun _ h => (by cases h), List.Pairwise.nil⟩ (fun _ ⟨_, h, _⟩ => by cases h))
/-- What a call that writes the items HA leaves of another one. -/
theorem Wd.keepL {C : It} {HH : List It} {w0 : World} (hw : Wd B H w0) (hW : Wd ⟨w0, (allI HA).foot, none, []⟩ HH w) (hk : Pk (C :: HA) H) (hr : (HA.all fun A => !A.ro) = true) : C.holds w := by
 have h2 := hw.pick hk
 have hs := (List.pairwise_cons.1 h2.sep).1
 have o := h2.ok C (by simp)
 refine C.st w0 w (fun b hb => hW.block b (o.2 b hb).2 ?_) o.1
 rintro ⟨A, hA, hAb⟩
 rcases hs A hA with h | h
 ·rw [all_nro hr A hA] at h; cases h.2
 ·exact h b hb hAb
theorem Wd.belL {HH : List It} {w0 w1 : World} (hw : Wd (bs w0) H w1) (hk : Pk HA H) (hr : (HA.all fun A => !A.ro) = true) (hW : Wd ⟨w1, (allI HA).foot, none, []⟩ HH w) : Below w0.heap.size w0 w := by
 have hb := hw.bel
 refine ⟨hW.os.trans hb.os, hW.tape.trans hb.tape, hW.output.trans hb.output, Nat.le_trans hb.size hW.size, fun b hlt => (hW.block b (Nat.lt_of_lt_of_le hlt hb.size) ?_).trans (hb.block b hlt)⟩
 rintro ⟨A, hA, hAb⟩
 have := (hw.newA (hk.sub A hA) (all_nro hr A hA)).1 b hAb
 omega
end
end Go.Proofs.Ytmcpnoailbmkkaa
/- Layer 7: copied. -/
namespace Go.Proofs.Ytmcpnoailbmkkaa
open Go Go.RowKit Go.Proofs
attribute [local irreducible] J JQ JL JA JD

set_option maxRecDepth 100000 in
set_option maxHeartbeats 4000000 in
theorem CloneO (l : List Oc) (v : Value) (w : World) (hrow : Arr 2 eO w v l) (hl9 : l.length ≤ 1000) : Calls Try.prog 56 #[v] w (RetS 85 2 eO l w) := by
 have hrow0 := hrow
 obtain ⟨A, cap, rfl, -, ⟨hl, -⟩, hA⟩ := hrow
 refine J_enter (fun _ => False) (vs := [.slice A l.length cap]) (k := 7) (l := [(0, .slice A l.length cap)]) Try.func56 rfl rfl Try.ntmps56 rfl rfl (Wd.start _) ?_
 refine s9 ?_
 refine aP (pSlNil rfl rfl) ?_
 refine JL_bool (fun h4 => ?_) (fun h4 => ?_)
 ·refine s4 ?_
  refine J_own0 85 2 ?_
  refine kJ [] ?_
  refine s6 ?_
  refine JR_one rfl (rr_tmp rfl) ?_
  intro w' hw
  obtain rfl : l = [] := by
   cases l with
   | nil => rfl
   | cons y l =>
    obtain ⟨b, o, h, -⟩ := hA (by intro h; cases h)
    rw [h] at h4; cases h4
  exact ⟨none, 0, rfl, hw.pick (by repeat constructor)⟩
 ·refine s7 ?_
  refine aW (ow_slice0 (k := 2) (ty := 85) rfl rfl rfl (fun _ => by kernel_rfl)) (fun b5 hb5 => ?_)
  refine s1 ?_
  refine aS (oAppX (sl := 55) EO ([] : List Oc) l (fun w hw => hrow0.up EO hw.bel) rfl (Nat.le_refl _) (hl := by rw [List.length_nil]; omega)) (fun A7 c7 => ?_)
  rw [List.nil_append]
  refine s4 ?_
  refine JR_one rfl (rr_tmp rfl) ?_
  intro w' hw
  exact ⟨A7, c7, rfl, hw.pick (by repeat constructor)⟩
theorem cop_s {L : List Oc} {l : List Oc} {k : Nat} {x y : Oc} (hk : k < l.length) (hx : l[k]'hk = x) (hL : L.length = l.length) (h1 : L.drop k = l.drop k) (h2 : (L.take k).map oP = (l.take k).map oP) (hy : oP y = oP x) :
  (L.set k y).take (k + 1) = L.take k ++ [y] ∧ (L.set k y).drop (k + 1) = l.drop (k + 1) ∧ ((L.set k y).take (k + 1)).map oP = (l.take (k + 1)).map oP := by
 have hkL : k < L.length := by omega
 have e1 : (L.set k y).take (k + 1) = L.take k ++ [y] := by rw [List.take_succ_eq_append_getElem (by rw [List.length_set]; exact hkL), List.getElem_set_self, List.take_set_of_le (Nat.le_refl k)]
 refine ⟨e1, ?_, ?_⟩
 ·rw [List.drop_set_of_lt (by omega)]
  rw [List.drop_eq_getElem_cons hk, List.drop_eq_getElem_cons hkL] at h1
  injection h1
 ·rw [e1, List.map_append, h2, List.take_succ_eq_append_getElem hk, List.map_append, hx]
  simp [hy]
set_option maxRecDepth 100000 in
set_option maxHeartbeats 4000000 in
theorem copied_any (r h : Int) (l : List Oc) (A : Option Addr) (cap : Nat) (w : World) (hrow : Arr 2 eO w (.slice A l.length cap) l) (ho : ∀ p ∈ l, OcW w p ∧ p.d.l.length ≤ 16) (hl9 : l.length ≤ 1000) : Calls Try.prog 35 #[.agg #[.int .i64 r, .int .i64 h, .slice A l.length cap]] w (Ret w (OcP (l.map oP)) (Ruv r h) ocI) := by
 have hrow0 := hrow
 refine J_enter (fun _ => False) (vs := [.agg #[.int .i64 r, .int .i64 h, .slice A l.length cap]]) (k := 26) (l := [(0, .agg #[.int .i64 r, .int .i64 h, .slice A l.length cap])]) Try.func35 rfl rfl Try.ntmps35 rfl rfl (Wd.start _) ?_
 refine s2 ?_
 refine aW (oX [_, _, _]) (fun b1 hb1 => ?_)
 refine aW oA (fun b2 hb2 => ?_)
 refine s6 ?_
 refine aS (oS (fun w hw => CloneO l _ w (hrow0.up EO hw.bel) hl9)) (fun A7 c7 => ?_)
 refine s6 ?_
 refine J_grp0 ?_
 refine kJ [(1, _), (2, _)] ?_
 refine s8 ?_
 refine xL (T := Nat × List Oc) (fun q => q.1 ≤ l.length ∧ q.2.length = l.length ∧ q.2.drop q.1 = l.drop q.1 ∧ (q.2.take q.1).map oP = (l.take q.1).map oP ∧ ∀ p ∈ q.2.take q.1, p.d.n = p.d.l.length ∧ p.d.l.length ≤ 16) (fun q => [(1, .pointer (some ⟨b1, 0, none⟩)), (2, .pointer (some ⟨b2, 0, none⟩)), (10, .slice A7 l.length c7), (11, .int .i64 (l.length : Nat)), (12, .int .i64 (q.1 : Nat))]) (fun q => [cellB b1 [.int .i64 r, .int .i64 h, .slice A7 l.length c7] 57, cellB b2 [.int .i64 0, .int .i64 0, .slice none 0 0] 57, ownB 85 2 A7 l.length c7 (q.2.flatMap eO), grpB ((q.2.take q.1).map rwB)]) (fun q => l.length - q.1) (0, l) ⟨Nat.zero_le _, rfl, rfl, rfl, fun p hp => (by cases hp)⟩ ?_
 rintro ⟨k, L⟩ ⟨hk, hL, hd, ht, hn⟩
 dsimp only at hk hL hd ht hn ⊢
 refine s3 ?_
 refine JL_dec (fun h13 => ?_) (fun h13 => ?_)
 ·refine s9 ?_
  have hltx : k < l.length := by omega
  obtain ⟨⟨⟨xA, xn, xk, xl⟩, xg⟩, hx⟩ : ∃ y, l[k]'hltx = y := ⟨_, rfl⟩
  have hmx : (⟨⟨xA, xn, xk, xl⟩, xg⟩ : Oc) ∈ l := by rw [← hx]; exact List.getElem_mem _
  have hkL : k < L.length := by omega
  have hxL : L[k]'hkL = (⟨⟨xA, xn, xk, xl⟩, xg⟩ : Oc) := by
   rw [List.drop_eq_getElem_cons hltx, List.drop_eq_getElem_cons hkL] at hd
   rw [← hx]; injection hd
  refine J_fact (fun hw => ?_)
  obtain ⟨g, rfl⟩ := own_some hw (ty := 85) (k := 2) (m := l.length) (c := c7) (A := A7) (xs := L.flatMap eO) (by repeat constructor) (by omega)
  clear hw
  refine s3 ?_
  refine aV (vOwnA (cs := [.slice xA xn xk, .bool xg]) EO rfl rfl (by repeat constructor) hkL (by rw [hxL]; rfl)) ?_
  refine aW oA (fun b4 hb4 => ?_)
  refine s4 ?_
  refine kJ [(1, _), (2, _), (3, _), (4, _), (10, _), (11, _), (12, _)] ?_
  refine xDx [0, 1, 2, 3, 4, 5, 6, 7, 8] [] [1, 4] [cellB b1 [.int .i64 r, .int .i64 h, .slice (some ⟨g, 0, none⟩) l.length c7] 57, cellB b4 [.slice xA xn xk, .bool xg] 85] ?_
  refine s5 ?_
  refine dS rfl (oS (fun w hw => CloneT xl _ w ((ho _ hmx).1.up hw.bel) (by have := (ho _ hmx).2; dsimp only at this; omega))) (fun A22 c22 => ?_)
  refine s2 ?_
  refine dW0 rfl (oStE EO [_] (⟨⟨A22, xl.length, c22, xl⟩, xg⟩ : Oc) hkL (hi := Nat.le_of_ble_eq_true rfl) (hr := by rw [hxL]; rfl)) ?_
  refine s3 ?_
  refine kJ [(1, _), (2, _), (10, _), (11, _), (12, _)] ?_
  refine s4 ?_
  obtain ⟨s1, s2, s3⟩ := cop_s hltx hx hL hd ht (y := (⟨⟨A22, xl.length, c22, xl⟩, xg⟩ : Oc)) rfl
  refine JQ_push ((L.take k).map rwB) (rwB (⟨⟨A22, xl.length, c22, xl⟩, xg⟩ : Oc)) (map_nro (fun _ => rfl) _) ?_ (hk := (by repeat (first | exact Pk.refl _ | (apply Pk.pick; (repeat (first | exact Rm.here _ | apply Rm.there))))))
  have e : (L.take k).map rwB ++ [rwB (⟨⟨A22, xl.length, c22, xl⟩, xg⟩ : Oc)] = ((L.set k (⟨⟨A22, xl.length, c22, xl⟩, xg⟩ : Oc)).take (k + 1)).map rwB := by rw [s1, List.map_append]; rfl
  rw [e]
  exact xR (k + 1, L.set k (⟨⟨A22, xl.length, c22, xl⟩, xg⟩ : Oc)) ⟨by dsimp only; omega, by dsimp only; rw [List.length_set]; exact hL, s2, s3, fun p hp => by
   dsimp only at hp
   rw [s1] at hp
   rcases List.mem_append.1 hp with h | h
   ·exact hn p h
   ·rw [List.mem_singleton] at h; subst h; exact ⟨rfl, (ho _ hmx).2⟩⟩ (by dsimp only; omega) (hl := ⟨rfl, rfl, rfl, rfl, (congrArg some (by go_num)), trivial⟩)
 ·refine s10 ?_
  refine kJ [(1, _), (2, _)] ?_
  refine s6 ?_
  refine JR_one rfl (rr_agg (cs := [_, _, _]) rfl Agg.h (Siz.h (k := 3)) (by repeat constructor) (by rfl)) ?_
  intro w' hw
  obtain rfl : k = l.length := by omega
  have e : L.take l.length = L := by rw [← hL]; exact List.take_length
  rw [e] at ht hn hw
  rw [List.take_length] at ht
  exact ⟨⟨A7, c7, L⟩, ⟨ht, hn⟩, by rw [← hL], by rw [← hL] at hw; exact hw.pick (by repeat constructor)⟩
end Go.Proofs.Ytmcpnoailbmkkaa
/- Layer 7: an end in memory; Next, take, Pending. -/
namespace Go.Proofs.Ytmcpnoailbmkkaa
open Go Go.RowKit Go.Proofs
attribute [local irreducible] J JQ JL JA JD

/-- An end: its code, who throws first, its stones, how many are thrown, the ruling that waits. -/
structure En where
 c : Cd
 fr : Int
 l : List St
 tn : Int
 p : Option (Int × Int × List (List St × Bool))
/-- A ruling that waits, in memory; an end in memory. -/
structure PdM where
 b : Nat
 r : Int
 h : Int
 t : OcT
structure EnM where
 c : Cd
 fr : Int
 l : List St
 sA : Option Addr
 sk : Nat
 tn : Int
 p : Option PdM
def pdA : Option PdM → Option Addr
 | none => none
 | some m => some ⟨m.b, 0, none⟩
def EnM.pl (e : EnM) : En := ⟨e.c, e.fr, e.l, e.tn, e.p.map (fun m => (m.r, m.h, m.t.L.map oP))⟩
abbrev endC (b : Nat) (e : EnM) : It := cellB b [.int .i64 e.c.f, .int .i64 e.c.t, .int .i64 e.c.s, .int .i64 e.c.e, .bool e.c.p, .bool true, .int .i64 e.fr, .slice e.sA e.l.length e.sk, .int .i64 e.tn, .pointer (pdA e.p)] 78
abbrev pdC (m : PdM) : It := cellB m.b [.int .i64 m.r, .int .i64 m.h, .slice m.t.A m.t.L.length m.t.c] 57
def pdI : Option PdM → List It
 | none => []
 | some m => pdC m :: ocI m.t
abbrev endI (b : Nat) (e : EnM) : List It := endC b e :: ownB 49 4 e.sA e.l.length e.sk (e.l.flatMap eT) :: pdI e.p
theorem endI_nro (b : Nat) (e : EnM) : ((endI b e).all fun A => !A.ro) = true := by
 unfold endI
 cases h : e.p <;> rfl
/-- It is such an end. -/
def EnP (E : En) (e : EnM) : Prop := e.pl = E ∧ ∀ m, e.p = some m → ∀ p ∈ m.t.L, p.d.n = p.d.l.length ∧ p.d.l.length ≤ 16
/-- What an end's numbers keep to. -/
structure EnOk (E : En) : Prop where
 e : 1 ≤ E.c.e ∧ E.c.e ≤ 8
 fr : 0 ≤ E.fr ∧ E.fr ≤ 1
 tn : 0 ≤ E.tn ∧ E.tn ≤ 2 * E.c.e
 l : E.l.length ≤ 16
 p : ∀ r, E.p = some r → E.tn < 2 * E.c.e ∧ (1 < r.2.2.length ∧ r.2.2.length ≤ 3) ∧ ∀ o ∈ r.2.2, o.1.length ≤ 16
/-- What is read of it. -/
structure EndW (w : World) (b : Nat) (e : EnM) : Prop where
 cell : (endC b e).holds w
 row : Arr 4 eT w (.slice e.sA e.l.length e.sk) e.l
 pd : ∀ m, e.p = some m → (pdC m).holds w ∧ Arr 2 eO w (.slice m.t.A m.t.L.length m.t.c) m.t.L ∧ ∀ p ∈ m.t.L, OcW w p
theorem ocI_w {w : World} {t : OcT} (h : ∀ A ∈ ocI t, A.holds w) (hn : ∀ p ∈ t.L, p.d.n = p.d.l.length ∧ p.d.l.length ≤ 16) (hl : t.L.length ≤ 1000) : Arr 2 eO w (.slice t.A t.L.length t.c) t.L ∧ ∀ p ∈ t.L, OcW w p := by
 refine ⟨Arr.of_own EO (h (ownB 85 2 t.A t.L.length t.c (t.L.flatMap eO)) (by simp)) (by omega), fun p hp => ?_⟩
 have h1 : (grpB (t.L.map rwB)).holds w := h _ (by simp)
 have h2 : (rwB p).holds w := h1.1 _ (List.mem_map.2 ⟨p, hp, rfl⟩)
 have h3 : w.ownsRow 0 49 4 (.slice p.d.A p.d.n p.d.c) p.d.n (p.d.l.flatMap eT) := h2
 have h4 := (hn p hp).1
 unfold OcW Dv.v
 rw [h4] at h3 ⊢
 exact Arr.of_own ET h3 (by have := (hn p hp).2; omega)
theorem EndW.of {w : World} {b : Nat} {e : EnM} {E : En} (h : ∀ A ∈ endI b e, A.holds w) (hp : EnP E e) (hok : EnOk E) : EndW w b e := by
 obtain ⟨rfl, hn⟩ := hp
 refine ⟨h (endC b e) (by simp), Arr.of_own ET (h (ownB 49 4 e.sA e.l.length e.sk (e.l.flatMap eT)) (by simp)) (by have := hok.l; dsimp only [EnM.pl] at this; omega), fun m hm => ?_⟩
 have h1 : ∀ A ∈ pdC m :: ocI m.t, A.holds w := fun A hA => h A (List.mem_cons_of_mem _ (List.mem_cons_of_mem _ (by rw [hm]; exact hA)))
 have h2 := (hok.p (m.r, m.h, m.t.L.map oP) (by unfold EnM.pl; rw [hm]; rfl)).2.1
 rw [List.length_map] at h2
 exact ⟨h1 (pdC m) (by simp), ocI_w (fun A hA => h1 A (List.mem_cons_of_mem _ hA)) (hn m hm) (by omega)⟩
theorem EndW.up {w w' : World} {b : Nat} {e : EnM} (h : EndW w b e) (hb : Below w.heap.size w w') : EndW w' b e :=
 ⟨It.up_cell h.cell hb, h.row.up ET hb, fun m hm => ⟨It.up_cell (h.pd m hm).1 hb, (h.pd m hm).2.1.up EO hb, fun p hp => ((h.pd m hm).2.2 p hp).up hb⟩⟩
/-- Which stone comes next; the error. -/
def nextF (E : En) : Int × Int × Int := if E.p.isSome = true ∨ E.tn = 2 * E.c.e then (0, 0, 9) else ((E.fr + E.tn) % 2, E.tn / 2, 0)
/-- An end with an outcome. -/
def tookE (E : En) (o : List St × Bool) : En := { E with p := none, l := o.1, tn := if o.2 = true then E.tn else E.tn + 1 }
theorem tup3 {a b : Int × Int × Int} (h : a = b) : Value.tuple #[.int .i64 a.1, .int .i64 a.2.1, .int .i64 a.2.2] = .tuple #[.int .i64 b.1, .int .i64 b.2.1, .int .i64 b.2.2] := by rw [h]
set_option maxRecDepth 100000 in
set_option maxHeartbeats 4000000 in
theorem Next_any (b : Nat) (e : EnM) (w : World) (h : EndW w b e) (hok : EnOk e.pl) : Calls Try.prog 31 #[.pointer (some ⟨b, 0, none⟩)] w (Back (.tuple #[.int .i64 (nextF e.pl).1, .int .i64 (nextF e.pl).2.1, .int .i64 (nextF e.pl).2.2]) w) := by
 obtain ⟨⟨kf, kt, ks, ke, kp⟩, fr, l, sA, sk, tn, pd⟩ := e
 have he := hok.e
 have hf := hok.fr
 have ht := hok.tn
 dsimp only [EnM.pl] at he hf ht
 refine J_enter (fun _ => False) (vs := [.pointer (some ⟨b, 0, none⟩)]) (k := 33) (l := [(0, .pointer (some ⟨b, 0, none⟩))]) Try.func31 rfl rfl Try.ntmps31 rfl rfl (Wd.start _) ?_
 refine s1 ?_
 rcases pd with _ | pm
 ·have hc : (cellB b [.int .i64 kf, .int .i64 kt, .int .i64 ks, .int .i64 ke, .bool kp, .bool true, .int .i64 fr, .slice sA l.length sk, .int .i64 tn, .pointer none] 78).holds w := h.cell

  refine s11 ?_
  refine aCB (fun w hw => is_any b kf kt ks ke kp true fr sA l.length sk tn _ w (It.up_cell hc hw.bel)) ?_
  refine aBoolT ?_ rfl
  refine s6 ?_
  refine kJ [(0, _)] ?_
  refine s4 ?_
  refine aV (vOld rfl rfl (fun h => h) (cellB_get hc rfl)) ?_
  refine aP (pNeqP (by kernel_rfl) rfl rfl) ?_
  refine aBoolF ?_ rfl
  refine s2 ?_
  refine aCB (fun w hw => over_any b kf kt ks ke kp true fr sA l.length sk tn _ w (It.up_cell hc hw.bel) (by omega)) ?_
  refine JL_dec (fun h17 => ?_) (fun h17 => ?_)
  ·refine s6 ?_
   refine kJ [] ?_
   refine s9 ?_
   refine JR_three rfl (rr_tmp rfl) (rr_tmp rfl) (rr_tmp rfl) ?_
   intro w' hw
   exact ⟨congrArg Ending.returned (tup3 (a := (0, 0, 9)) (by unfold nextF EnM.pl; rw [if_pos (.inr h17)])), hw.bel⟩
  ·refine s9 ?_
   refine kJ [(0, _)] ?_
   refine xD [0, 1, 2, 3, 4, 5, 6, 7, 8, 9, 10, 11, 12, 13, 14, 15, 16, 17] [3, 7, 13] ?_
   refine s3 ?_
   refine dL rfl (vOld rfl rfl (fun h => h) (cellB_get hc rfl)) ?_
   refine s3 ?_
   refine dL rfl (vOld rfl rfl (fun h => h) (cellB_get hc rfl)) ?_
   refine s5 ?_
   refine dL rfl (vOld rfl rfl (fun h => h) (cellB_get hc rfl)) ?_
   refine s7 ?_
   refine JR_three rfl (rr_tmp rfl) (rr_tmp rfl) (rr_tmp rfl) ?_
   intro w' hw
   have e : nextF (EnM.pl (⟨⟨kf, kt, ks, ke, kp⟩, fr, l, sA, sk, tn, none⟩ : EnM)) = ((fr + tn) % 2, tn / 2, 0) := by unfold nextF EnM.pl; rw [if_neg (fun h => h.elim (fun h => by cases h) h17)]
   exact ⟨congrArg Ending.returned ((congrArg Value.tuple (by rw [e]))), hw.bel⟩
 ·have hc : (cellB b [.int .i64 kf, .int .i64 kt, .int .i64 ks, .int .i64 ke, .bool kp, .bool true, .int .i64 fr, .slice sA l.length sk, .int .i64 tn, .pointer (some ⟨pm.b, 0, none⟩)] 78).holds w := h.cell

  refine s11 ?_
  refine aCB (fun w hw => is_any b kf kt ks ke kp true fr sA l.length sk tn _ w (It.up_cell hc hw.bel)) ?_
  refine aBoolT ?_ rfl
  refine s6 ?_
  refine kJ [(0, _)] ?_
  refine s4 ?_
  refine aV (vOld rfl rfl (fun h => h) (cellB_get hc rfl)) ?_
  refine aP (pNeqP (by kernel_rfl) rfl rfl) ?_
  refine aBoolT ?_ rfl
  refine s9 ?_
  refine kJ [] ?_
  refine s9 ?_
  refine JR_three rfl (rr_tmp rfl) (rr_tmp rfl) (rr_tmp rfl) ?_
  intro w' hw
  exact ⟨congrArg Ending.returned (tup3 (a := (0, 0, 9)) (by unfold nextF EnM.pl; rw [if_pos (.inl rfl)])), hw.bel⟩
set_option maxRecDepth 100000 in
set_option maxHeartbeats 4000000 in
theorem take_any (b : Nat) (e : EnM) (oA : Option Addr) (ol : List St) (ok : Nat) (og : Bool) (w : World) (h0 : Wd ⟨w, (allI [endC b e]).foot, none, []⟩ [endC b e] w) (hx : ∀ W, Wd ⟨w, (allI [endC b e]).foot, none, []⟩ [] W → Arr 4 eT W (.slice oA ol.length ok) ol) (hl : ol.length ≤ 16) (ht : 0 ≤ e.tn ∧ e.tn ≤ 16) : Calls Try.prog 34 #[.pointer (some ⟨b, 0, none⟩), .agg #[.slice oA ol.length ok, .bool og]] w (RetL [endC b e] (fun _ : Option Addr × Nat => True) (fun _ => .tuple #[]) (fun t => [endC b { e with p := none, l := ol, sA := t.1, sk := t.2, tn := if og = true then e.tn else e.tn + 1 }, ownB 49 4 t.1 ol.length t.2 (ol.flatMap eT)]) w) := by
 obtain ⟨⟨kf, kt, ks, ke, kp⟩, fr, l, sA, sk, tn, pd⟩ := e
 dsimp only at ht
 refine J_start (B := ⟨w, (allI [endC b (⟨⟨kf, kt, ks, ke, kp⟩, fr, l, sA, sk, tn, pd⟩ : EnM)]).foot, none, []⟩) rfl rfl (vs := [.pointer (some ⟨b, 0, none⟩), .agg #[.slice oA ol.length ok, .bool og]]) (k := 21) (l := [(0, .pointer (some ⟨b, 0, none⟩)), (1, .agg #[.slice oA ol.length ok, .bool og])]) Try.func34 rfl rfl Try.ntmps34 rfl rfl ((show Wd ⟨w, (allI [endC b (⟨⟨kf, kt, ks, ke, kp⟩, fr, l, sA, sk, tn, pd⟩ : EnM)]).foot, none, []⟩ [cellB b [.int .i64 kf, .int .i64 kt, .int .i64 ks, .int .i64 ke, .bool kp, .bool true, .int .i64 fr, .slice sA l.length sk, .int .i64 tn, .pointer (pdA pd)] 78] w from h0)) ?_
 refine s2 ?_
 refine aW (oX [_, _]) (fun b3 hb3 => ?_)
 refine s8 ?_
 refine aS (oS (fun w hw => CloneT ol _ w (hx w (hw.pick (Pk.nil _))) (by omega))) (fun A8 c8 => ?_)
 refine s9 ?_
 refine kJ [(0, _), (3, _)] ?_
 refine s3 ?_
 refine JL_bool (fun h14 => ?_) (fun h14 => ?_)
 ·refine s5 ?_
  refine JR_end rfl ?_
  intro w' hw
  subst h14
  exact ⟨(A8, c8), trivial, rfl, hw.pick (by repeat constructor)⟩
 ·refine s4 ?_
  refine kJ [(0, _)] ?_
  refine s10 ?_
  refine JR_end rfl ?_
  intro w' hw
  subst h14
  exact ⟨(A8, c8), trivial, rfl, hw.pick (by repeat constructor)⟩
set_option maxRecDepth 100000 in
theorem pEqlP {n : Nat} {l : Sl} {o : Oper} {x : Operand} {ty t : TypeId} {p : Option Addr} (ht : Try.prog.underlying t = some (.pointer (Try.prog.pointee t))) (ho : o.op = .binOp .eql t x (.const (.pointer none)) ty) (hx : evl l x = some (.pointer p)) : RP Try.prog n l o (.bool p.isNone) := rp2 hx (y := .const (.pointer none)) rfl (fun ρ h1 h2 w => by
 have h := run_eql_pointer_nil (P := Try.prog) w t p ht
 unfold execOp
 simp only [ho, h1, h2]
 simp [h, eqGuard])
/-- What Pending says. -/
def RetPe (p : Option PdM) (w : World) (e : Ending) (w' : World) : Prop := match p with
 | none => Back (.tuple #[.agg #[.int .i64 0, .int .i64 0, .slice none 0 0], .int .i64 9]) w e w'
 | some m => Ret w (OcP (m.t.L.map oP)) (fun t => .tuple #[Ruv m.r m.h t, .int .i64 0]) ocI e w'
set_option maxRecDepth 100000 in
set_option maxHeartbeats 4000000 in
theorem Pending_any (b : Nat) (e : EnM) (w : World) (h : EndW w b e) (hok : EnOk e.pl) (hn : ∀ m, e.p = some m → ∀ p ∈ m.t.L, p.d.n = p.d.l.length ∧ p.d.l.length ≤ 16) : Calls Try.prog 15 #[.pointer (some ⟨b, 0, none⟩)] w (RetPe e.p w) := by
 obtain ⟨⟨kf, kt, ks, ke, kp⟩, fr, l, sA, sk, tn, pd⟩ := e
 refine J_enter (fun _ => False) (vs := [.pointer (some ⟨b, 0, none⟩)]) (k := 22) (l := [(0, .pointer (some ⟨b, 0, none⟩))]) Try.func15 rfl rfl Try.ntmps15 rfl rfl (Wd.start _) ?_
 refine s1 ?_
 rcases pd with _ | pm
 ·have hc : (cellB b [.int .i64 kf, .int .i64 kt, .int .i64 ks, .int .i64 ke, .bool kp, .bool true, .int .i64 fr, .slice sA l.length sk, .int .i64 tn, .pointer none] 78).holds w := h.cell

  refine s1 ?_
  refine aW oA (fun b2 hb2 => ?_)
  refine s8 ?_
  refine aCB (fun w hw => is_any b kf kt ks ke kp true fr sA l.length sk tn _ w (It.up_cell hc hw.bel)) ?_
  refine aBoolT ?_ rfl
  refine s6 ?_
  refine kJ [(0, _), (2, _)] ?_
  refine s4 ?_
  refine aV (vOld rfl rfl (fun h => h) (cellB_get hc rfl)) ?_
  refine aP (pEqlP (by kernel_rfl) rfl rfl) ?_
  refine aBoolT ?_ rfl
  refine s5 ?_
  refine kJ [(2, _)] ?_
  refine s1 ?_
  refine aP (rp_buildC (fun us => [.int .i64 0, .int .i64 0, .slice none 0 0]) rfl rfl (fun w => by kernel_rfl)) ?_
  refine s7 ?_
  refine JR_two rfl (rr_agg (cs := [_, _, _]) rfl Agg.h (Siz.h (k := 3)) (by repeat constructor) (by rfl)) (rr_tmp rfl) ?_
  intro w' hw
  exact ⟨rfl, hw.bel⟩
 ·have hc : (cellB b [.int .i64 kf, .int .i64 kt, .int .i64 ks, .int .i64 ke, .bool kp, .bool true, .int .i64 fr, .slice sA l.length sk, .int .i64 tn, .pointer (some ⟨pm.b, 0, none⟩)] 78).holds w := h.cell
  have hq := (hok.p (pm.r, pm.h, pm.t.L.map oP) rfl).2.1
  dsimp only at hq
  rw [List.length_map] at hq
  refine s1 ?_
  refine aW oA (fun b2 hb2 => ?_)
  refine s8 ?_
  refine aCB (fun w hw => is_any b kf kt ks ke kp true fr sA l.length sk tn _ w (It.up_cell hc hw.bel)) ?_
  refine aBoolT ?_ rfl
  refine s6 ?_
  refine kJ [(0, _), (2, _)] ?_
  refine s4 ?_
  refine aV (vOld rfl rfl (fun h => h) (cellB_get hc rfl)) ?_
  refine aP (pEqlP (by kernel_rfl) rfl rfl) ?_
  refine aBoolF ?_ rfl
  refine s8 ?_
  refine kJ [(0, _), (2, _)] ?_
  refine s4 ?_
  refine aV (vOld rfl rfl (fun h => h) (cellB_get hc rfl)) ?_
  refine s1 ?_
  refine aV (vOldC (cs := [.int .i64 pm.r, .int .i64 pm.h, .slice pm.t.A pm.t.L.length pm.t.c]) rfl rfl (fun h => h) (h.pd pm rfl).1 rfl) ?_
  refine aW (oR (fun w hw => copied_any pm.r pm.h pm.t.L pm.t.A pm.t.c w ((h.pd pm rfl).2.1.up EO hw.bel) (fun p hp => ⟨((h.pd pm rfl).2.2 p hp).up hw.bel, (hn pm rfl p hp).2⟩) (by omega))) (fun t22 ht22 => ?_)
  refine s5 ?_
  refine JR_two rfl (rr_agg (cs := [_, _, _]) rfl Agg.h (Siz.h (k := 3)) (by repeat constructor) (by rfl)) (rr_tmp rfl) ?_
  intro w' hw
  exact ⟨t22, ht22, rfl, hw.pick (by repeat constructor)⟩
end Go.Proofs.Ytmcpnoailbmkkaa
/- Layer 7: New, Throw, Choose. -/
namespace Go.Proofs.Ytmcpnoailbmkkaa
open Go Go.RowKit Go.Proofs
attribute [local irreducible] J JQ JL JA JD

/-- The end as it begins. -/
def newE (c : Cd) (first power : Int) : En := ⟨c, first, if c.p = true then srt [⟨first, 7, power * 72089600, -229376000⟩, ⟨1 - first, 7, power * 72089600, 39976960⟩] else [], 0, none⟩
def RetNew (c : Cd) (first power : Int) (w : World) (e : Ending) (w' : World) : Prop := if goodR c first power = 0 then Ret w (fun t : Nat × EnM => EnP (newE c first power) t.2) (fun t => .tuple #[.pointer (some ⟨t.1, 0, none⟩), .int .i64 0]) (fun t => endI t.1 t.2) e w' else Back (.tuple #[.pointer none, .int .i64 (goodR c first power)]) w e w'
set_option maxRecDepth 100000 in
set_option maxHeartbeats 4000000 in
theorem New_any (c : Cd) (first power : Int) (w : World) : Calls Try.prog 13 #[Cdv c, .int .i64 first, .int .i64 power] w (RetNew c first power w) := by
 obtain ⟨kf, kt, ks, ke, kp⟩ := c
 refine J_enter (fun _ => False) (vs := [.agg #[.int .i64 kf, .int .i64 kt, .int .i64 ks, .int .i64 ke, .bool kp], .int .i64 first, .int .i64 power]) (k := 52) (l := [(0, .agg #[.int .i64 kf, .int .i64 kt, .int .i64 ks, .int .i64 ke, .bool kp]), (1, .int .i64 first), (2, .int .i64 power)]) Try.func13 rfl rfl Try.ntmps13 rfl rfl (Wd.start _) ?_
 refine s2 ?_
 refine aW (oX [_, _, _, _, _]) (fun b3 hb3 => ?_)
 refine s9 ?_
 refine aCB (fun w hw => CheckCode_any (⟨kf, kt, ks, ke, kp⟩ : Cd) w) ?_
 refine JL_bool (fun h12 => ?_) (fun h12 => ?_)
 ·refine s3 ?_
  refine aCB (fun w hw => rwithin _ _ _ w) ?_
  refine JL_dec (fun h16 => ?_) (fun h16 => ?_)
  ·refine s7 ?_
   refine kJ [(1, _), (2, _), (3, _)] ?_
   refine s2 ?_
   refine aCB (fun w hw => rwithin _ _ _ w) ?_
   refine JL_dec (fun h21 => ?_) (fun h21 => ?_)
   ·refine s4 ?_
    refine JL_dec (fun h25 => ?_) (fun h25 => ?_)
    ·refine s3 ?_
     refine JL_bool (fun h28 => ?_) (fun h28 => ?_)
     ·refine s11 ?_
      refine kJ [(1, _), (2, _), (3, _)] ?_
      refine s3 ?_
      refine aP (rp_buildC (fun us => [us.getD 0 undef, us.getD 1 undef, us.getD 2 undef, .slice none 0 0, .int .i64 0, .pointer none]) rfl rfl (fun w => by kernel_rfl)) ?_
      refine aW (oX [_, _, _, _, _, _, _, _, _, _]) (fun b35 hb35 => ?_)
      refine s5 ?_
      refine kJ [(1, _), (2, _), (3, _), (8, _)] ?_
      refine s3 ?_
      refine JL_bool (fun h37 => ?_) (fun h37 => ?_)
      ·refine s10 ?_
       refine kJ [(1, _), (8, _), (9, _)] ?_
       refine s4 ?_
       refine aP (rp_buildC (fun us => [us.getD 0 undef, us.getD 1 undef]) rfl rfl (fun w => by kernel_rfl)) ?_
       refine aP (rp_buildC (fun us => [us.getD 0 undef, us.getD 1 undef, us.getD 2 undef]) rfl rfl (fun w => by kernel_rfl)) ?_
       refine s3 ?_
       refine aP (rp_buildC (fun us => [us.getD 0 undef, us.getD 1 undef]) rfl rfl (fun w => by kernel_rfl)) ?_
       refine aP (rp_buildC (fun us => [us.getD 0 undef, us.getD 1 undef, us.getD 2 undef]) rfl rfl (fun w => by kernel_rfl)) ?_
       refine aW (ow_sliceC (vs := [_, _, _, _, _, _, _, _]) (ty := 49) rfl rfl (by rfl) rfl rfl (fun _ => by kernel_rfl)) (fun b50 hb50 => ?_)
       refine JL_asOwn (b := b50) (kk := 4) (m := 2) (by repeat constructor) rfl (by omega) ?_
       refine aS (oS (fun w hw => sortedT [(⟨first, 7, power * 72089600, -229376000⟩ : St), ⟨1 - first, 7, power * 72089600, 39976960⟩] _ w (own_arr (A := some ⟨b50, 0, none⟩) (c := 2) (ty := 49) (L := [(⟨first, 7, power * 72089600, -229376000⟩ : St), ⟨1 - first, 7, power * 72089600, 39976960⟩]) ET hw (by repeat constructor) (Nat.le_of_ble_eq_true rfl)) (Nat.le_of_ble_eq_true rfl) (by intro s hs; simp only [List.mem_cons, List.not_mem_nil, or_false] at hs; unfold bnd; rcases hs with rfl | rfl <;> dsimp only <;> omega) (by intro a ha b hb h1 h2; simp only [List.mem_cons, List.not_mem_nil, or_false] at ha hb; rcases ha with rfl | rfl <;> rcases hb with rfl | rfl <;> first | rfl | (dsimp only at h1; omega)))) (fun A51 c51 => ?_)
       refine s6 ?_
       refine kJ [(8, _)] ?_
       refine s7 ?_
       refine JR_two rfl (rr_tmp rfl) (rr_tmp rfl) ?_
       intro w' hw
       have e : goodR (⟨kf, kt, ks, ke, kp⟩ : Cd) first power = 0 := by unfold goodR; rw [if_pos ⟨h12, h16⟩, if_pos ⟨h21, .inl h28⟩]
       unfold RetNew
       rw [e, if_pos rfl]
       exact ⟨(b35, ⟨(⟨kf, kt, ks, ke, kp⟩ : Cd), first, srt [(⟨first, 7, power * 72089600, -229376000⟩ : St), ⟨1 - first, 7, power * 72089600, 39976960⟩], A51, c51, 0, none⟩), ⟨by subst h37; rfl, fun m hm => by cases hm⟩, rfl, hw.pick (by repeat constructor)⟩
      ·refine s6 ?_
       refine J_own0 49 4 ?_
       refine kJ [(8, _)] ?_
       refine s7 ?_
       refine JR_two rfl (rr_tmp rfl) (rr_tmp rfl) ?_
       intro w' hw
       have e : goodR (⟨kf, kt, ks, ke, kp⟩ : Cd) first power = 0 := by unfold goodR; rw [if_pos ⟨h12, h16⟩, if_pos ⟨h21, .inl h28⟩]
       unfold RetNew
       rw [e, if_pos rfl]
       exact ⟨(b35, ⟨(⟨kf, kt, ks, ke, kp⟩ : Cd), first, [], none, 0, 0, none⟩), ⟨by subst h37; rfl, fun m hm => by cases hm⟩, rfl, hw.pick (by repeat constructor)⟩
     ·refine s8 ?_
      refine kJ [] ?_
      refine s8 ?_
      refine JR_two rfl (rr_tmp rfl) (rr_tmp rfl) ?_
      intro w' hw
      have e : goodR (⟨kf, kt, ks, ke, kp⟩ : Cd) first power = 4 := by unfold goodR; rw [if_pos ⟨h12, h16⟩, if_neg (fun h => h.2.elim (fun h => by rw [h28] at h; cases h) h25)]
      unfold RetNew
      rw [e, if_neg (by decide)]
      exact ⟨rfl, hw.bel⟩
    ·refine s14 ?_
     refine kJ [(1, _), (2, _), (3, _)] ?_
     refine s3 ?_
     refine aP (rp_buildC (fun us => [us.getD 0 undef, us.getD 1 undef, us.getD 2 undef, .slice none 0 0, .int .i64 0, .pointer none]) rfl rfl (fun w => by kernel_rfl)) ?_
     refine aW (oX [_, _, _, _, _, _, _, _, _, _]) (fun b35 hb35 => ?_)
     refine s5 ?_
     refine kJ [(1, _), (2, _), (3, _), (8, _)] ?_
     refine s3 ?_
     refine JL_bool (fun h37 => ?_) (fun h37 => ?_)
     ·refine s10 ?_
      refine kJ [(1, _), (8, _), (9, _)] ?_
      refine s4 ?_
      refine aP (rp_buildC (fun us => [us.getD 0 undef, us.getD 1 undef]) rfl rfl (fun w => by kernel_rfl)) ?_
      refine aP (rp_buildC (fun us => [us.getD 0 undef, us.getD 1 undef, us.getD 2 undef]) rfl rfl (fun w => by kernel_rfl)) ?_
      refine s3 ?_
      refine aP (rp_buildC (fun us => [us.getD 0 undef, us.getD 1 undef]) rfl rfl (fun w => by kernel_rfl)) ?_
      refine aP (rp_buildC (fun us => [us.getD 0 undef, us.getD 1 undef, us.getD 2 undef]) rfl rfl (fun w => by kernel_rfl)) ?_
      refine aW (ow_sliceC (vs := [_, _, _, _, _, _, _, _]) (ty := 49) rfl rfl (by rfl) rfl rfl (fun _ => by kernel_rfl)) (fun b50 hb50 => ?_)
      refine JL_asOwn (b := b50) (kk := 4) (m := 2) (by repeat constructor) rfl (by omega) ?_
      refine aS (oS (fun w hw => sortedT [(⟨first, 7, power * 72089600, -229376000⟩ : St), ⟨1 - first, 7, power * 72089600, 39976960⟩] _ w (own_arr (A := some ⟨b50, 0, none⟩) (c := 2) (ty := 49) (L := [(⟨first, 7, power * 72089600, -229376000⟩ : St), ⟨1 - first, 7, power * 72089600, 39976960⟩]) ET hw (by repeat constructor) (Nat.le_of_ble_eq_true rfl)) (Nat.le_of_ble_eq_true rfl) (by intro s hs; simp only [List.mem_cons, List.not_mem_nil, or_false] at hs; unfold bnd; rcases hs with rfl | rfl <;> dsimp only <;> omega) (by intro a ha b hb h1 h2; simp only [List.mem_cons, List.not_mem_nil, or_false] at ha hb; rcases ha with rfl | rfl <;> rcases hb with rfl | rfl <;> first | rfl | (dsimp only at h1; omega)))) (fun A51 c51 => ?_)
      refine s6 ?_
      refine kJ [(8, _)] ?_
      refine s7 ?_
      refine JR_two rfl (rr_tmp rfl) (rr_tmp rfl) ?_
      intro w' hw
      have e : goodR (⟨kf, kt, ks, ke, kp⟩ : Cd) first power = 0 := by unfold goodR; rw [if_pos ⟨h12, h16⟩, if_pos ⟨h21, .inr (by omega)⟩]
      unfold RetNew
      rw [e, if_pos rfl]
      exact ⟨(b35, ⟨(⟨kf, kt, ks, ke, kp⟩ : Cd), first, srt [(⟨first, 7, power * 72089600, -229376000⟩ : St), ⟨1 - first, 7, power * 72089600, 39976960⟩], A51, c51, 0, none⟩), ⟨by subst h37; rfl, fun m hm => by cases hm⟩, rfl, hw.pick (by repeat constructor)⟩
     ·refine s6 ?_
      refine J_own0 49 4 ?_
      refine kJ [(8, _)] ?_
      refine s7 ?_
      refine JR_two rfl (rr_tmp rfl) (rr_tmp rfl) ?_
      intro w' hw
      have e : goodR (⟨kf, kt, ks, ke, kp⟩ : Cd) first power = 0 := by unfold goodR; rw [if_pos ⟨h12, h16⟩, if_pos ⟨h21, .inr (by omega)⟩]
      unfold RetNew
      rw [e, if_pos rfl]
      exact ⟨(b35, ⟨(⟨kf, kt, ks, ke, kp⟩ : Cd), first, [], none, 0, 0, none⟩), ⟨by subst h37; rfl, fun m hm => by cases hm⟩, rfl, hw.pick (by repeat constructor)⟩
   ·refine s15 ?_
    refine kJ [] ?_
    refine s8 ?_
    refine JR_two rfl (rr_tmp rfl) (rr_tmp rfl) ?_
    intro w' hw
    have e : goodR (⟨kf, kt, ks, ke, kp⟩ : Cd) first power = 4 := by unfold goodR; rw [if_pos ⟨h12, h16⟩, if_neg (fun h => h21 h.1)]
    unfold RetNew
    rw [e, if_neg (by decide)]
    exact ⟨rfl, hw.bel⟩
  ·refine s7 ?_
   refine kJ [] ?_
   refine s8 ?_
   refine JR_two rfl (rr_tmp rfl) (rr_tmp rfl) ?_
   intro w' hw
   have e : goodR (⟨kf, kt, ks, ke, kp⟩ : Cd) first power = 2 := by unfold goodR; rw [if_neg (fun h => h16 h.2)]
   unfold RetNew
   rw [e, if_neg (by decide)]
   exact ⟨rfl, hw.bel⟩
 ·refine s11 ?_
  refine kJ [] ?_
  refine s8 ?_
  refine JR_two rfl (rr_tmp rfl) (rr_tmp rfl) ?_
  intro w' hw
  have e : goodR (⟨kf, kt, ks, ke, kp⟩ : Cd) first power = 2 := by unfold goodR; rw [if_neg (fun h => by rw [h.1] at h12; cases h12)]
  unfold RetNew
  rw [e, if_neg (by decide)]
  exact ⟨rfl, hw.bel⟩
/-- Why a throw is none, or 0; the ruling about it; the end behind it. -/
def thrE (E : En) (m : List St) (x : Th) : Int := if (nextF E).2.2 ≠ 0 then (nextF E).2.2 else if x.team = (nextF E).1 ∧ x.n = (nextF E).2.1 ∧ thrB E.l m x = true then 0 else 2
def rulE (E : En) (m : List St) (x : Th) : Int := ruleF E.c E.tn E.l m x
def outE (E : En) (m : List St) (x : Th) : List (List St × Bool) := outF E.l m x (rulE E m x)
def thrN (E : En) (m : List St) (x : Th) : En := if (outE E m x).length = 1 then tookE E (((outE E m x).head?).getD ([], false)) else { E with p := some (rulE E m x, choF x (rulE E m x), outE E m x) }
theorem next_iff {E : En} : (nextF E).2.2 = 0 ↔ E.p = none ∧ E.tn ≠ 2 * E.c.e := by
 unfold nextF
 by_cases h1 : E.p.isSome = true ∨ E.tn = 2 * E.c.e
 ·rw [if_pos h1]
  refine ⟨fun h => (by cases h), fun h => ?_⟩
  rcases h1 with h1 | h1
  ·rw [h.1] at h1; cases h1
  ·exact absurd h1 h.2
 ·rw [if_neg h1]
  refine ⟨fun _ => ⟨?_, fun h => h1 (.inr h)⟩, fun _ => rfl⟩
  cases hp : E.p with
  | none => rfl
  | some r => exact absurd (.inl (by rw [hp]; rfl)) h1
theorem thr_why {E : En} {m : List St} {x : Th} (h : thrE E m x ≠ 0) (h0 : ¬ (nextF E).2.2 ≠ 0) : x.team ≠ (nextF E).1 ∨ (x.team = (nextF E).1 ∧ x.n ≠ (nextF E).2.1) ∨ (x.team = (nextF E).1 ∧ x.n = (nextF E).2.1 ∧ thrB E.l m x = false) := by
 unfold thrE at h
 rw [if_neg h0] at h
 by_cases h1 : x.team = (nextF E).1
 ·by_cases h2 : x.n = (nextF E).2.1
  ·refine .inr (.inr ⟨h1, h2, ?_⟩)
   cases h3 : thrB E.l m x with
   | false => rfl
   | true => exact absurd (by rw [if_pos ⟨h1, h2, h3⟩]) h
  ·exact .inr (.inl ⟨h1, h2⟩)
 ·exact .inl h1
theorem thr_2 {E : En} {m : List St} {x : Th} (h : thrE E m x ≠ 0) (h0 : ¬ (nextF E).2.2 ≠ 0) : thrE E m x = 2 := by
 unfold thrE at h ⊢
 rw [if_neg h0] at h ⊢
 split at h
 ·exact absurd rfl h
 ·rename_i h1; rw [if_neg h1]
theorem thr_0 {E : En} {m : List St} {x : Th} (h : thrE E m x = 0) : (nextF E).2.2 = 0 ∧ x.team = (nextF E).1 ∧ x.n = (nextF E).2.1 ∧ thrB E.l m x = true := by
 unfold thrE at h
 by_cases h0 : (nextF E).2.2 ≠ 0
 ·rw [if_pos h0] at h; exact absurd h h0
 ·rw [if_neg h0] at h
  split at h
  ·rename_i h1; exact ⟨Decidable.not_not.1 h0, h1⟩
  ·cases h
theorem oc_arr {W : World} {L : List Oc} {p : Oc} (h : (grpB (L.map rwB)).holds W) (hp : p ∈ L) (hn : p.d.n = p.d.l.length) (hl : p.d.l.length ≤ 16) : Arr 4 eT W (.slice p.d.A p.d.l.length p.d.c) p.d.l := by
 have h2 : (rwB p).holds W := h.1 _ (List.mem_map.2 ⟨p, hp, rfl⟩)
 have h3 : W.ownsRow 0 49 4 (.slice p.d.A p.d.n p.d.c) p.d.n (p.d.l.flatMap eT) := h2
 rw [hn] at h3
 exact Arr.of_own ET h3 (by omega)
theorem thr_one {E : En} {m : List St} {x : Th} {q : List St × Bool} (h : outE E m x = [q]) : thrN E m x = tookE E q := by unfold thrN; rw [h]; rfl
theorem thr_many {E : En} {m : List St} {x : Th} (h : (outE E m x).length ≠ 1) : thrN E m x = { E with p := some (rulE E m x, choF x (rulE E m x), outE E m x) } := by unfold thrN; rw [if_neg h]
set_option maxRecDepth 100000 in
set_option maxHeartbeats 4000000 in
theorem Throw_no (b : Nat) (e : EnM) (m : List St) (x : Th) (A2 : Option Addr) (cap2 : Nat) (w : World) (h : EndW w b e) (hok : EnOk e.pl) (hrow2 : Arr 4 eT w (.slice A2 m.length cap2) m) (hq : thrE e.pl m x ≠ 0) : Calls Try.prog 14 #[.pointer (some ⟨b, 0, none⟩), Thv x A2 m.length cap2] w (Back (.tuple #[.agg #[.int .i64 0, .int .i64 0, .slice none 0 0], .int .i64 (thrE e.pl m x)]) w) := by
 obtain ⟨⟨kf, kt, ks, ke, kp⟩, fr, l, sA, sk, tn, pd⟩ := e
 obtain ⟨xteam, xnn, xlate, xshort, xhow⟩ := x
 dsimp only [Thv]
 have hrow20 := hrow2
 refine J_enter (fun _ => False) (vs := [.pointer (some ⟨b, 0, none⟩), .agg #[.int .i64 xteam, .int .i64 xnn, .bool xlate, .bool xshort, .int .i64 xhow, .slice A2 m.length cap2]]) (k := 74) (l := [(0, .pointer (some ⟨b, 0, none⟩)), (1, .agg #[.int .i64 xteam, .int .i64 xnn, .bool xlate, .bool xshort, .int .i64 xhow, .slice A2 m.length cap2])]) Try.func14 rfl rfl Try.ntmps14 rfl rfl (Wd.start _) ?_
 refine s1 ?_
 rcases pd with _ | pm
 ·have hc : (cellB b [.int .i64 kf, .int .i64 kt, .int .i64 ks, .int .i64 ke, .bool kp, .bool true, .int .i64 fr, .slice sA l.length sk, .int .i64 tn, .pointer none] 78).holds w := h.cell

  refine s1 ?_
  refine aW (oX [_, _, _, _, _, _]) (fun b3 hb3 => ?_)
  refine aW oA (fun b4 hb4 => ?_)
  refine s6 ?_
  refine aCB (fun w hw => Next_any b (⟨⟨kf, kt, ks, ke, kp⟩, fr, l, sA, sk, tn, none⟩ : EnM) w (h.up hw.bel) hok) ?_
  refine s12 ?_
  refine kJ [(0, _), (3, _), (4, _), (6, _), (7, _), (8, _)] ?_
  refine s3 ?_
  refine JL_dec (fun h19 => ?_) (fun h19 => ?_)
  ·refine s5 ?_
   refine kJ [(4, _), (8, _)] ?_
   refine s1 ?_
   refine aP (rp_buildC (fun us => [.int .i64 0, .int .i64 0, .slice none 0 0]) rfl rfl (fun w => by kernel_rfl)) ?_
   refine s8 ?_
   refine JR_two rfl (rr_agg (cs := [_, _, _]) rfl Agg.h (Siz.h (k := 3)) (by repeat constructor) (by rfl)) (rr_tmp rfl) ?_
   intro w' hw
   have e : thrE (EnM.pl (⟨⟨kf, kt, ks, ke, kp⟩, fr, l, sA, sk, tn, none⟩ : EnM)) m (⟨xteam, xnn, xlate, xshort, xhow⟩ : Th) = (nextF (EnM.pl (⟨⟨kf, kt, ks, ke, kp⟩, fr, l, sA, sk, tn, none⟩ : EnM))).2.2 := by unfold thrE; rw [if_pos h19]
   exact ⟨by rw [e], hw.bel⟩
  ·refine s5 ?_
   rcases thr_why hq h19 with h1 | ⟨h1, h2⟩ | ⟨h1, h2, h3⟩
   ·refine kJ [(0, _), (3, _), (4, _), (6, _), (7, _)] ?_
    refine xD [0, 1, 2, 3, 4, 5, 6, 7, 8, 9, 10, 11, 12, 13, 14, 15, 16, 17, 18, 19] [1, 6, 14, 15] ?_
    refine s4 ?_
    refine dDecT ?_ h1
    refine s20 ?_
    refine kJ [(4, _)] ?_
    refine s1 ?_
    refine aP (rp_buildC (fun us => [.int .i64 0, .int .i64 0, .slice none 0 0]) rfl rfl (fun w => by kernel_rfl)) ?_
    refine s7 ?_
    refine JR_two rfl (rr_agg (cs := [_, _, _]) rfl Agg.h (Siz.h (k := 3)) (by repeat constructor) (by rfl)) (rr_tmp rfl) ?_
    intro w' hw
    exact ⟨by rw [thr_2 hq h19], hw.bel⟩
   ·refine kJ [(0, _), (3, _), (4, _), (6, _), (7, _)] ?_
    refine xD [0, 1, 2, 3, 4, 5, 6, 7, 8, 9, 10, 11, 12, 13, 14, 15, 16, 17, 18, 19] [1, 6, 14, 15] ?_
    refine s4 ?_
    refine dDecF ?_ (fun h => h h1)
    refine s5 ?_
    refine dDecT ?_ h2
    refine s15 ?_
    refine kJ [(4, _)] ?_
    refine s1 ?_
    refine aP (rp_buildC (fun us => [.int .i64 0, .int .i64 0, .slice none 0 0]) rfl rfl (fun w => by kernel_rfl)) ?_
    refine s7 ?_
    refine JR_two rfl (rr_agg (cs := [_, _, _]) rfl Agg.h (Siz.h (k := 3)) (by repeat constructor) (by rfl)) (rr_tmp rfl) ?_
    intro w' hw
    exact ⟨by rw [thr_2 hq h19], hw.bel⟩
   ·refine kJ [(0, _), (3, _), (4, _), (6, _), (7, _)] ?_
    refine xD [0, 1, 2, 3, 4, 5, 6, 7, 8, 9, 10, 11, 12, 13, 14, 15, 16, 17, 18, 19] [1, 6, 14, 15] ?_
    refine s4 ?_
    refine dDecF ?_ (fun h => h h1)
    refine s5 ?_
    refine dDecF ?_ (fun h => h h2)
    refine s5 ?_
    refine dL rfl (vOld rfl rfl (fun h => h) (cellB_get hc rfl)) ?_
    refine s1 ?_
    refine dCB rfl (fun w hw => CheckThrow_any l m (⟨xteam, xnn, xlate, xshort, xhow⟩ : Th) _ A2 cap2 w (h.row.up ET hw.bel) (hrow20.up ET hw.bel)) ?_
    refine dBoolF ?_ h3
    refine s7 ?_
    refine kJ [(4, _)] ?_
    refine s1 ?_
    refine aP (rp_buildC (fun us => [.int .i64 0, .int .i64 0, .slice none 0 0]) rfl rfl (fun w => by kernel_rfl)) ?_
    refine s7 ?_
    refine JR_two rfl (rr_agg (cs := [_, _, _]) rfl Agg.h (Siz.h (k := 3)) (by repeat constructor) (by rfl)) (rr_tmp rfl) ?_
    intro w' hw
    exact ⟨by rw [thr_2 hq h19], hw.bel⟩
 ·have hc : (cellB b [.int .i64 kf, .int .i64 kt, .int .i64 ks, .int .i64 ke, .bool kp, .bool true, .int .i64 fr, .slice sA l.length sk, .int .i64 tn, .pointer (some ⟨pm.b, 0, none⟩)] 78).holds w := h.cell

  refine s1 ?_
  refine aW (oX [_, _, _, _, _, _]) (fun b3 hb3 => ?_)
  refine aW oA (fun b4 hb4 => ?_)
  refine s6 ?_
  refine aCB (fun w hw => Next_any b (⟨⟨kf, kt, ks, ke, kp⟩, fr, l, sA, sk, tn, (some pm)⟩ : EnM) w (h.up hw.bel) hok) ?_
  refine s12 ?_
  refine kJ [(0, _), (3, _), (4, _), (6, _), (7, _), (8, _)] ?_
  refine s3 ?_
  refine JL_dec (fun h19 => ?_) (fun h19 => ?_)
  ·refine s5 ?_
   refine kJ [(4, _), (8, _)] ?_
   refine s1 ?_
   refine aP (rp_buildC (fun us => [.int .i64 0, .int .i64 0, .slice none 0 0]) rfl rfl (fun w => by kernel_rfl)) ?_
   refine s8 ?_
   refine JR_two rfl (rr_agg (cs := [_, _, _]) rfl Agg.h (Siz.h (k := 3)) (by repeat constructor) (by rfl)) (rr_tmp rfl) ?_
   intro w' hw
   have e : thrE (EnM.pl (⟨⟨kf, kt, ks, ke, kp⟩, fr, l, sA, sk, tn, (some pm)⟩ : EnM)) m (⟨xteam, xnn, xlate, xshort, xhow⟩ : Th) = (nextF (EnM.pl (⟨⟨kf, kt, ks, ke, kp⟩, fr, l, sA, sk, tn, (some pm)⟩ : EnM))).2.2 := by unfold thrE; rw [if_pos h19]
   exact ⟨by rw [e], hw.bel⟩
  ·refine s5 ?_
   rcases thr_why hq h19 with h1 | ⟨h1, h2⟩ | ⟨h1, h2, h3⟩
   ·refine kJ [(0, _), (3, _), (4, _), (6, _), (7, _)] ?_
    refine xD [0, 1, 2, 3, 4, 5, 6, 7, 8, 9, 10, 11, 12, 13, 14, 15, 16, 17, 18, 19] [1, 6, 14, 15] ?_
    refine s4 ?_
    refine dDecT ?_ h1
    refine s20 ?_
    refine kJ [(4, _)] ?_
    refine s1 ?_
    refine aP (rp_buildC (fun us => [.int .i64 0, .int .i64 0, .slice none 0 0]) rfl rfl (fun w => by kernel_rfl)) ?_
    refine s7 ?_
    refine JR_two rfl (rr_agg (cs := [_, _, _]) rfl Agg.h (Siz.h (k := 3)) (by repeat constructor) (by rfl)) (rr_tmp rfl) ?_
    intro w' hw
    exact ⟨by rw [thr_2 hq h19], hw.bel⟩
   ·refine kJ [(0, _), (3, _), (4, _), (6, _), (7, _)] ?_
    refine xD [0, 1, 2, 3, 4, 5, 6, 7, 8, 9, 10, 11, 12, 13, 14, 15, 16, 17, 18, 19] [1, 6, 14, 15] ?_
    refine s4 ?_
    refine dDecF ?_ (fun h => h h1)
    refine s5 ?_
    refine dDecT ?_ h2
    refine s15 ?_
    refine kJ [(4, _)] ?_
    refine s1 ?_
    refine aP (rp_buildC (fun us => [.int .i64 0, .int .i64 0, .slice none 0 0]) rfl rfl (fun w => by kernel_rfl)) ?_
    refine s7 ?_
    refine JR_two rfl (rr_agg (cs := [_, _, _]) rfl Agg.h (Siz.h (k := 3)) (by repeat constructor) (by rfl)) (rr_tmp rfl) ?_
    intro w' hw
    exact ⟨by rw [thr_2 hq h19], hw.bel⟩
   ·refine kJ [(0, _), (3, _), (4, _), (6, _), (7, _)] ?_
    refine xD [0, 1, 2, 3, 4, 5, 6, 7, 8, 9, 10, 11, 12, 13, 14, 15, 16, 17, 18, 19] [1, 6, 14, 15] ?_
    refine s4 ?_
    refine dDecF ?_ (fun h => h h1)
    refine s5 ?_
    refine dDecF ?_ (fun h => h h2)
    refine s5 ?_
    refine dL rfl (vOld rfl rfl (fun h => h) (cellB_get hc rfl)) ?_
    refine s1 ?_
    refine dCB rfl (fun w hw => CheckThrow_any l m (⟨xteam, xnn, xlate, xshort, xhow⟩ : Th) _ A2 cap2 w (h.row.up ET hw.bel) (hrow20.up ET hw.bel)) ?_
    refine dBoolF ?_ h3
    refine s7 ?_
    refine kJ [(4, _)] ?_
    refine s1 ?_
    refine aP (rp_buildC (fun us => [.int .i64 0, .int .i64 0, .slice none 0 0]) rfl rfl (fun w => by kernel_rfl)) ?_
    refine s7 ?_
    refine JR_two rfl (rr_agg (cs := [_, _, _]) rfl Agg.h (Siz.h (k := 3)) (by repeat constructor) (by rfl)) (rr_tmp rfl) ?_
    intro w' hw
    exact ⟨by rw [thr_2 hq h19], hw.bel⟩
theorem ddP_len : ∀ (L r : List (List St × Bool)), (L.foldl (fun r o => if r.any (fun p => decide (p = o)) = true then r else r ++ [o]) r).length ≤ r.length + L.length
 | [], r => by simp
 | o :: L, r => by
  rw [List.foldl_cons]
  have h := ddP_len L (if r.any (fun p => decide (p = o)) = true then r else r ++ [o])
  refine Nat.le_trans h ?_
  split
  ·simp <;> omega
  ·simp <;> omega
theorem ddP_le (L : List (List St × Bool)) : (ddP L).length ≤ L.length := by have h := ddP_len L []; simpa [ddP] using h
theorem outF_len (l m : List St) (x : Th) (r : Int) : (outF l m x r).length ≤ 3 := by
 unfold outF
 repeat' split
 all_goals exact Nat.le_trans (ddP_le _) (by simp)
set_option maxRecDepth 100000 in
set_option maxHeartbeats 4000000 in
theorem Throw_yes (b : Nat) (e : EnM) (m : List St) (x : Th) (A2 : Option Addr) (cap2 : Nat) (w : World) (h0 : Wd ⟨w, (allI [grpB (endI b e)]).foot, none, []⟩ [grpB (endI b e)] w) (hok : EnOk e.pl) (hx : ∀ W, Wd ⟨w, (allI [grpB (endI b e)]).foot, none, []⟩ [] W → Arr 4 eT W (.slice A2 m.length cap2) m) (hq : thrE e.pl m x = 0) : Calls Try.prog 14 #[.pointer (some ⟨b, 0, none⟩), Thv x A2 m.length cap2] w (RetL [grpB (endI b e)] (fun t : EnM × OcT => EnP (thrN e.pl m x) t.1 ∧ OcP (outE e.pl m x) t.2) (fun t => .tuple #[Ruv (rulE e.pl m x) (choF x (rulE e.pl m x)) t.2, .int .i64 0]) (fun t => grpB (endI b t.1) :: ocI t.2) w) := by
 obtain ⟨z0, z1, z2, z3⟩ := thr_0 hq
 obtain ⟨⟨kf, kt, ks, ke, kp⟩, fr, l, sA, sk, tn, pd⟩ := e
 have hp := (next_iff.1 z0).1
 obtain rfl : pd = none := by
  cases pd with
  | none => rfl
  | some m => cases hp
 obtain ⟨xteam, xnn, xlate, xshort, xhow⟩ := x
 have hl16 := hok.l
 have htn := hok.tn
 have he := hok.e
 dsimp only [EnM.pl] at hl16 htn he
 dsimp only [Thv]
 refine J_start (B := ⟨w, (allI [grpB (endI b (⟨⟨kf, kt, ks, ke, kp⟩, fr, l, sA, sk, tn, none⟩ : EnM))]).foot, none, []⟩) rfl rfl (vs := [.pointer (some ⟨b, 0, none⟩), .agg #[.int .i64 xteam, .int .i64 xnn, .bool xlate, .bool xshort, .int .i64 xhow, .slice A2 m.length cap2]]) (k := 74) (l := [(0, .pointer (some ⟨b, 0, none⟩)), (1, .agg #[.int .i64 xteam, .int .i64 xnn, .bool xlate, .bool xshort, .int .i64 xhow, .slice A2 m.length cap2])]) Try.func14 rfl rfl Try.ntmps14 rfl rfl ((show Wd ⟨w, (allI [grpB (endI b (⟨⟨kf, kt, ks, ke, kp⟩, fr, l, sA, sk, tn, none⟩ : EnM))]).foot, none, []⟩ [cellB b [.int .i64 kf, .int .i64 kt, .int .i64 ks, .int .i64 ke, .bool kp, .bool true, .int .i64 fr, .slice sA l.length sk, .int .i64 tn, .pointer none] 78, ownB 49 4 sA l.length sk (l.flatMap eT)] w from h0.opn (Pk.refl _))) ?_
 refine s2 ?_
 refine aW (oX [_, _, _, _, _, _]) (fun b3 hb3 => ?_)
 refine aW oA (fun b4 hb4 => ?_)
 refine s6 ?_
 refine aCB (fun w hw => Next_any b (⟨⟨kf, kt, ks, ke, kp⟩, fr, l, sA, sk, tn, none⟩ : EnM) w ⟨(hw.ok (cellB b [.int .i64 kf, .int .i64 kt, .int .i64 ks, .int .i64 ke, .bool kp, .bool true, .int .i64 fr, .slice sA l.length sk, .int .i64 tn, .pointer none] 78) (by repeat constructor)).1, own_arr (A := sA) (c := sk) (L := l) ET hw (by repeat constructor) (by omega), fun m hm => by cases hm⟩ hok) ?_
 refine s12 ?_
 refine kJ [(0, _), (3, _), (4, _), (6, _), (7, _), (8, _)] ?_
 refine s3 ?_
 refine aDecF ?_ (fun h => h z0)
 refine s5 ?_
 refine kJ [(0, _), (3, _), (4, _), (6, _), (7, _)] ?_
 refine xD [0, 1, 2, 3, 4, 5, 6, 7, 8, 9, 10, 11, 12, 13, 14, 15, 16, 17, 18, 19] [1, 6, 14, 15] ?_
 refine s4 ?_
 refine dDecF ?_ (fun h => h z1)
 refine s5 ?_
 refine dDecF ?_ (fun h => h z2)
 refine s7 ?_
 refine dCB rfl (fun w hw => CheckThrow_any l m (⟨xteam, xnn, xlate, xshort, xhow⟩ : Th) _ A2 cap2 w (own_arr (A := sA) (c := sk) (L := l) ET hw (by repeat constructor) (by omega)) (hx w (hw.pick (Pk.nil _)))) ?_
 refine dBoolT ?_ z3
 refine s9 ?_
 refine xC (T := Nat × OcT) (fun q => OcP (outE (EnM.pl (⟨⟨kf, kt, ks, ke, kp⟩, fr, l, sA, sk, tn, none⟩ : EnM)) m (⟨xteam, xnn, xlate, xshort, xhow⟩ : Th)) q.2) (fun q => [(0, .pointer (some ⟨b, 0, none⟩)), (4, .pointer (some ⟨b4, 0, none⟩)), (9, .pointer (some ⟨q.1, 0, none⟩))]) (fun q => [cellB b [.int .i64 kf, .int .i64 kt, .int .i64 ks, .int .i64 ke, .bool kp, .bool true, .int .i64 fr, .slice sA l.length sk, .int .i64 tn, .pointer none] 78, ownB 49 4 sA l.length sk (l.flatMap eT), cellB b4 [.int .i64 0, .int .i64 0, .slice none 0 0] 57, cellB q.1 [.int .i64 (rulE (EnM.pl (⟨⟨kf, kt, ks, ke, kp⟩, fr, l, sA, sk, tn, none⟩ : EnM)) m (⟨xteam, xnn, xlate, xshort, xhow⟩ : Th)), .int .i64 (choF (⟨xteam, xnn, xlate, xshort, xhow⟩ : Th) (rulE (EnM.pl (⟨⟨kf, kt, ks, ke, kp⟩, fr, l, sA, sk, tn, none⟩ : EnM)) m (⟨xteam, xnn, xlate, xshort, xhow⟩ : Th))), .slice q.2.A q.2.L.length q.2.c] 57, ownB 85 2 q.2.A q.2.L.length q.2.c (q.2.L.flatMap eO), grpB (q.2.L.map rwB)]) ?_ ?_
 ·refine kJ [(0, _), (3, _), (4, _), (6, _)] ?_
  refine xDx [0, 1, 2, 3, 4, 5, 6, 7, 8, 9, 10, 11, 12, 13, 14] [] [3, 7, 13, 14] [cellB b [.int .i64 kf, .int .i64 kt, .int .i64 ks, .int .i64 ke, .bool kp, .bool true, .int .i64 fr, .slice sA l.length sk, .int .i64 tn, .pointer none] 78, cellB b3 [.int .i64 xteam, .int .i64 xnn, .bool xlate, .bool xshort, .int .i64 xhow, .slice A2 m.length cap2] 42] ?_
  refine s9 ?_
  refine dP rfl (rp_buildC (fun us => [us.getD 0 undef, us.getD 1 undef, us.getD 2 undef]) rfl rfl (fun w => by kernel_rfl)) ?_
  refine s5 ?_
  refine dPair (i := 15) (j := 16) (by kernel_rfl) ?_ ?_
  ·refine St1_mk rfl wAny (oR (fun w hw => (judge_any (⟨kf, kt, ks, ke, kp⟩ : Cd) tn (nextF (EnM.pl (⟨⟨kf, kt, ks, ke, kp⟩, fr, l, sA, sk, tn, none⟩ : EnM))).1 l m (⟨xteam, xnn, xlate, xshort, xhow⟩ : Th) _ A2 cap2 w (own_arr (A := sA) (c := sk) (L := l) ET hw (by repeat constructor) (by omega)) (hx w (hw.pick (Pk.nil _))) (thr_parts z3).1 (thr_parts z3).2.1 (thr_parts z3).2.2.1).mono (fun _ _ hh => by rw [← z1] at hh; exact hh))) (by first | exact trivial | exact ⟨by kernel_rfl, .inl (rfl : waitsB _ [] _ = true)⟩ | exact ⟨by kernel_rfl, .inr ⟨rfl, by repeat constructor⟩⟩) (fun t58 ht58 => ?_)
   dsimp only [ocI, List.cons_append, List.nil_append]
   refine dOA [16, 17] ?_
   refine dW rfl oA (fun b9 hb9 => ?_)
   refine s2 ?_
   exact xE (b9, t58) ht58
  ·refine St1_mk rfl wAny oA (by first | exact trivial | exact ⟨by kernel_rfl, .inl (rfl : waitsB _ [] _ = true)⟩ | exact ⟨by kernel_rfl, .inr ⟨rfl, by repeat constructor⟩⟩) (fun b9 hb9 => ?_)
   refine dOA [15, 17] ?_
   refine dW rfl (oR (fun w hw => (judge_any (⟨kf, kt, ks, ke, kp⟩ : Cd) tn (nextF (EnM.pl (⟨⟨kf, kt, ks, ke, kp⟩, fr, l, sA, sk, tn, none⟩ : EnM))).1 l m (⟨xteam, xnn, xlate, xshort, xhow⟩ : Th) _ A2 cap2 w (own_arr (A := sA) (c := sk) (L := l) ET hw (by repeat constructor) (by omega)) (hx w (hw.pick (Pk.nil _))) (thr_parts z3).1 (thr_parts z3).2.1 (thr_parts z3).2.2.1).mono (fun _ _ hh => by rw [← z1] at hh; exact hh))) (fun t58 ht58 => ?_)
   dsimp only [ocI, List.cons_append, List.nil_append]
   refine s2 ?_
   exact xE (b9, t58) ht58
 ·rintro ⟨b9, ⟨jA, jc, jL⟩⟩ ht58
  dsimp only at ht58 ⊢
  have hjl : jL.length ≤ 3 := by
   have h1 : jL.length = (outE (EnM.pl (⟨⟨kf, kt, ks, ke, kp⟩, fr, l, sA, sk, tn, none⟩ : EnM)) m (⟨xteam, xnn, xlate, xshort, xhow⟩ : Th)).length := by rw [← ht58.1, List.length_map]
   have h2 : (outE (EnM.pl (⟨⟨kf, kt, ks, ke, kp⟩, fr, l, sA, sk, tn, none⟩ : EnM)) m (⟨xteam, xnn, xlate, xshort, xhow⟩ : Th)).length ≤ 3 := outF_len _ _ _ _
   omega
  refine s7 ?_
  refine JL_dec (fun h62 => ?_) (fun h62 => ?_)
  ·refine s4 ?_
   obtain ⟨o, rfl⟩ := List.length_eq_one_iff.1 (show jL.length = 1 by omega)
   obtain ⟨⟨oA, on, ok, ol⟩, og⟩ := o
   obtain ⟨hon, hol⟩ := ht58.2 _ (List.mem_singleton.2 rfl)
   dsimp only at hon hol
   subst hon
   refine J_fact (fun hw => ?_)
   obtain ⟨g, rfl⟩ := own_some hw (ty := 85) (k := 2) (m := 1) (c := jc) (A := jA) (xs := [(⟨⟨oA, ol.length, ok, ol⟩, og⟩ : Oc)].flatMap eO) (by repeat constructor) (by omega)
   clear hw
   refine kJ [(0, _), (4, _), (9, _)] ?_
   refine s4 ?_
   refine aP (pIdxI (0) rfl rfl rfl rfl) ?_
   refine aV (vOwnA (cs := [.slice oA ol.length ok, .bool og]) EO (L := [(⟨⟨oA, ol.length, ok, ol⟩, og⟩ : Oc)]) (j := 0) rfl rfl (by repeat constructor) (Nat.le_of_ble_eq_true rfl) rfl) ?_
   refine aW (oL [cellB b [.int .i64 kf, .int .i64 kt, .int .i64 ks, .int .i64 ke, .bool kp, .bool true, .int .i64 fr, .slice sA l.length sk, .int .i64 tn, .pointer none] 78] [cellB b9 [.int .i64 (rulE (EnM.pl (⟨⟨kf, kt, ks, ke, kp⟩, fr, l, sA, sk, tn, none⟩ : EnM)) m (⟨xteam, xnn, xlate, xshort, xhow⟩ : Th)), .int .i64 (choF (⟨xteam, xnn, xlate, xshort, xhow⟩ : Th) (rulE (EnM.pl (⟨⟨kf, kt, ks, ke, kp⟩, fr, l, sA, sk, tn, none⟩ : EnM)) m (⟨xteam, xnn, xlate, xshort, xhow⟩ : Th))), .slice (some ⟨g, 0, none⟩) 1 jc] 57, ownB 85 2 (some ⟨g, 0, none⟩) 1 jc ([(⟨⟨oA, ol.length, ok, ol⟩, og⟩ : Oc)].flatMap eO), grpB ([(⟨⟨oA, ol.length, ok, ol⟩, og⟩ : Oc)].map rwB), cellB b4 [.int .i64 0, .int .i64 0, .slice none 0 0] 57] (fun w hw h0 => take_any b (⟨⟨kf, kt, ks, ke, kp⟩, fr, l, sA, sk, tn, none⟩ : EnM) oA ol ok og w h0.startL (fun W hW => oc_arr (p := ⟨⟨oA, ol.length, ok, ol⟩, og⟩) (hw.keepL (HA := [cellB b [.int .i64 kf, .int .i64 kt, .int .i64 ks, .int .i64 ke, .bool kp, .bool true, .int .i64 fr, .slice sA l.length sk, .int .i64 tn, .pointer none] 78]) (C := grpB ([(⟨⟨oA, ol.length, ok, ol⟩, og⟩ : Oc)].map rwB)) hW (by repeat constructor) rfl) (List.mem_singleton.2 rfl) rfl hol) hol (by dsimp only; omega))) (fun t68 _ => ?_)
   refine s3 ?_
   refine kJ [(4, _), (9, _)] ?_
   refine s8 ?_
   refine JR_two rfl (rr_agg (cs := [_, _, _]) rfl Agg.h (Siz.h (k := 3)) (by repeat constructor) (by rfl)) (rr_tmp rfl) ?_
   intro w' hw
   have ho := ht58.1
   exact ⟨(⟨⟨kf, kt, ks, ke, kp⟩, fr, ol, t68.1, t68.2, if og = true then tn else tn + 1, none⟩, ⟨some ⟨g, 0, none⟩, jc, [⟨⟨oA, ol.length, ok, ol⟩, og⟩]⟩), ⟨⟨by rw [thr_one (E := EnM.pl (⟨⟨kf, kt, ks, ke, kp⟩, fr, l, sA, sk, tn, none⟩ : EnM)) (m := m) (x := (⟨xteam, xnn, xlate, xshort, xhow⟩ : Th)) ho.symm]; rfl, fun m hm => by cases hm⟩, ht58⟩, rfl, hw.close (HA := endI b ⟨⟨kf, kt, ks, ke, kp⟩, fr, ol, t68.1, t68.2, if og = true then tn else tn + 1, none⟩) (H1 := ocI ⟨some ⟨g, 0, none⟩, jc, [⟨⟨oA, ol.length, ok, ol⟩, og⟩]⟩) (by repeat constructor) rfl⟩
  ·refine s6 ?_
   refine kJ [(0, _), (4, _), (9, _)] ?_
   refine s2 ?_
   refine aW (oR (fun w hw => (copied_any (rulE (EnM.pl (⟨⟨kf, kt, ks, ke, kp⟩, fr, l, sA, sk, tn, none⟩ : EnM)) m (⟨xteam, xnn, xlate, xshort, xhow⟩ : Th)) (choF (⟨xteam, xnn, xlate, xshort, xhow⟩ : Th) (rulE (EnM.pl (⟨⟨kf, kt, ks, ke, kp⟩, fr, l, sA, sk, tn, none⟩ : EnM)) m (⟨xteam, xnn, xlate, xshort, xhow⟩ : Th))) jL jA jc w (own_arr (A := jA) (c := jc) (L := jL) EO hw (by repeat constructor) (by omega)) (fun p hp => ⟨by unfold OcW Dv.v; rw [(ht58.2 p hp).1]; exact oc_arr (hw.ok (grpB (jL.map rwB)) (by repeat constructor)).1 hp (ht58.2 p hp).1 (ht58.2 p hp).2, (ht58.2 p hp).2⟩) (by omega)))) (fun t71 ht71 => ?_)
   refine aW oA (fun b10 hb10 => ?_)
   refine s12 ?_
   refine kJ [(4, _), (9, _)] ?_
   refine s7 ?_
   refine JR_two rfl (rr_agg (cs := [_, _, _]) rfl Agg.h (Siz.h (k := 3)) (by repeat constructor) (by rfl)) (rr_tmp rfl) ?_
   intro w' hw
   have ho : jL.map oP = outE (EnM.pl (⟨⟨kf, kt, ks, ke, kp⟩, fr, l, sA, sk, tn, none⟩ : EnM)) m (⟨xteam, xnn, xlate, xshort, xhow⟩ : Th) := ht58.1
   have hne : (outE (EnM.pl (⟨⟨kf, kt, ks, ke, kp⟩, fr, l, sA, sk, tn, none⟩ : EnM)) m (⟨xteam, xnn, xlate, xshort, xhow⟩ : Th)).length ≠ 1 := fun h => h62 (by rw [← ho, List.length_map] at h; omega)
   exact ⟨(⟨⟨kf, kt, ks, ke, kp⟩, fr, l, sA, sk, tn, some ⟨b10, (rulE (EnM.pl (⟨⟨kf, kt, ks, ke, kp⟩, fr, l, sA, sk, tn, none⟩ : EnM)) m (⟨xteam, xnn, xlate, xshort, xhow⟩ : Th)), choF (⟨xteam, xnn, xlate, xshort, xhow⟩ : Th) (rulE (EnM.pl (⟨⟨kf, kt, ks, ke, kp⟩, fr, l, sA, sk, tn, none⟩ : EnM)) m (⟨xteam, xnn, xlate, xshort, xhow⟩ : Th)), t71⟩⟩, ⟨jA, jc, jL⟩), ⟨⟨by rw [thr_many hne]; show (⟨_, _, _, _, some (_, _, t71.L.map oP)⟩ : En) = _; rw [ht71.1, ho]; rfl, fun m hm => by cases hm; exact ht71.2⟩, ht58⟩, rfl, hw.close (HA := endI b ⟨⟨kf, kt, ks, ke, kp⟩, fr, l, sA, sk, tn, some ⟨b10, (rulE (EnM.pl (⟨⟨kf, kt, ks, ke, kp⟩, fr, l, sA, sk, tn, none⟩ : EnM)) m (⟨xteam, xnn, xlate, xshort, xhow⟩ : Th)), choF (⟨xteam, xnn, xlate, xshort, xhow⟩ : Th) (rulE (EnM.pl (⟨⟨kf, kt, ks, ke, kp⟩, fr, l, sA, sk, tn, none⟩ : EnM)) m (⟨xteam, xnn, xlate, xshort, xhow⟩ : Th)), t71⟩⟩) (H1 := ocI ⟨jA, jc, jL⟩) (by repeat constructor) rfl⟩
end Go.Proofs.Ytmcpnoailbmkkaa
/- Layer 7: Choose; no end. -/
namespace Go.Proofs.Ytmcpnoailbmkkaa
open Go Go.RowKit Go.Proofs
attribute [local irreducible] J JQ JL JA JD

/-- Why nothing may be chosen, or 0. -/
def chsE (E : En) (i : Int) : Int := match E.p with | none => 9 | some r => if 0 ≤ i ∧ i ≤ (r.2.2.length : Int) - 1 then 0 else 7
def chsN (E : En) (i : Int) : En := match E.p with | none => E | some r => tookE E (r.2.2.getD i.toNat ([], false))
set_option maxRecDepth 100000 in
set_option maxHeartbeats 4000000 in
theorem Choose_no (b : Nat) (e : EnM) (i : Int) (w : World) (h : EndW w b e) (hok : EnOk e.pl) (hq : chsE e.pl i ≠ 0) : Calls Try.prog 16 #[.pointer (some ⟨b, 0, none⟩), .int .i64 i] w (Back (.int .i64 (chsE e.pl i)) w) := by
 obtain ⟨⟨kf, kt, ks, ke, kp⟩, fr, l, sA, sk, tn, pd⟩ := e
 refine J_enter (fun _ => False) (vs := [.pointer (some ⟨b, 0, none⟩), .int .i64 i]) (k := 38) (l := [(0, .pointer (some ⟨b, 0, none⟩)), (1, .int .i64 i)]) Try.func16 rfl rfl Try.ntmps16 rfl rfl (Wd.start _) ?_
 refine s1 ?_
 rcases pd with _ | pm
 ·have hc : (cellB b [.int .i64 kf, .int .i64 kt, .int .i64 ks, .int .i64 ke, .bool kp, .bool true, .int .i64 fr, .slice sA l.length sk, .int .i64 tn, .pointer none] 78).holds w := h.cell

  refine s9 ?_
  refine aCB (fun w hw => is_any b kf kt ks ke kp true fr sA l.length sk tn _ w (It.up_cell hc hw.bel)) ?_
  refine aBoolT ?_ rfl
  refine s6 ?_
  refine kJ [(0, _), (1, _)] ?_
  refine s4 ?_
  refine aV (vOld rfl rfl (fun h => h) (cellB_get hc rfl)) ?_
  refine aP (pEqlP (by kernel_rfl) rfl rfl) ?_
  refine aBoolT ?_ rfl
  refine s5 ?_
  refine kJ [] ?_
  refine s7 ?_
  refine JR_one rfl (rr_tmp rfl) ?_
  intro w' hw
  exact ⟨rfl, hw.bel⟩
 ·have hc : (cellB b [.int .i64 kf, .int .i64 kt, .int .i64 ks, .int .i64 ke, .bool kp, .bool true, .int .i64 fr, .slice sA l.length sk, .int .i64 tn, .pointer (some ⟨pm.b, 0, none⟩)] 78).holds w := h.cell
  have hni : ¬ (0 ≤ i ∧ i ≤ ((pm.t.L.length : Nat) : Int) - 1) := fun h => hq (by unfold chsE EnM.pl; dsimp only [Option.map]; rw [List.length_map, if_pos h])
  have hlen := (hok.p (pm.r, pm.h, pm.t.L.map oP) rfl).2.1
  dsimp only at hlen
  rw [List.length_map] at hlen
  refine s9 ?_
  refine aCB (fun w hw => is_any b kf kt ks ke kp true fr sA l.length sk tn _ w (It.up_cell hc hw.bel)) ?_
  refine aBoolT ?_ rfl
  refine s6 ?_
  refine kJ [(0, _), (1, _)] ?_
  refine s4 ?_
  refine aV (vOld rfl rfl (fun h => h) (cellB_get hc rfl)) ?_
  refine aP (pEqlP (by kernel_rfl) rfl rfl) ?_
  refine aBoolF ?_ rfl
  refine s5 ?_
  refine kJ [(0, _), (1, _)] ?_
  refine s5 ?_
  refine aV (vOld rfl rfl (fun h => h) (cellB_get hc rfl)) ?_
  refine s2 ?_
  refine aV (vOld rfl rfl (fun h => h) (cellB_get (h.pd pm rfl).1 rfl)) ?_
  refine s2 ?_
  refine aCB (fun w hw => rwithin _ _ _ w) ?_
  refine aDecF ?_ hni
  refine s6 ?_
  refine kJ [] ?_
  refine s7 ?_
  refine JR_one rfl (rr_tmp rfl) ?_
  intro w' hw
  have e : chsE (EnM.pl (⟨⟨kf, kt, ks, ke, kp⟩, fr, l, sA, sk, tn, (some pm)⟩ : EnM)) i = 7 := by unfold chsE EnM.pl; dsimp only [Option.map]; rw [List.length_map, if_neg hni]
  exact ⟨by rw [e], hw.bel⟩
set_option maxRecDepth 100000 in
set_option maxHeartbeats 4000000 in
theorem Choose_yes (b : Nat) (e : EnM) (i : Int) (w : World) (h0 : Wd ⟨w, (allI [grpB (endI b e)]).foot, none, []⟩ [grpB (endI b e)] w) (hok : EnOk e.pl) (hn : ∀ m, e.p = some m → ∀ p ∈ m.t.L, p.d.n = p.d.l.length ∧ p.d.l.length ≤ 16) (hq : chsE e.pl i = 0) : Calls Try.prog 16 #[.pointer (some ⟨b, 0, none⟩), .int .i64 i] w (RetL [grpB (endI b e)] (fun t : EnM => EnP (chsN e.pl i) t) (fun _ => .int .i64 0) (fun t => [grpB (endI b t)]) w) := by
 obtain ⟨⟨kf, kt, ks, ke, kp⟩, fr, l, sA, sk, tn, pd⟩ := e
 rcases pd with _ | ⟨pb, pr, ph, ⟨jA, jc, jL⟩⟩
 ·cases hq
 have hlen := (hok.p (pr, ph, jL.map oP) rfl).2.1
 dsimp only at hlen
 rw [List.length_map] at hlen
 have hin : 0 ≤ i ∧ i ≤ ((jL.length : Nat) : Int) - 1 := by
  unfold chsE EnM.pl at hq
  dsimp only [Option.map] at hq
  rw [List.length_map] at hq
  split at hq
  ·assumption
  ·cases hq
 obtain ⟨k, rfl⟩ : ∃ k : Nat, i = k := ⟨i.toNat, by omega⟩
 have hk : k < jL.length := by omega
 obtain ⟨⟨⟨oA, on, ok, ol⟩, og⟩, hx⟩ : ∃ y, jL[k]'hk = y := ⟨_, rfl⟩
 obtain ⟨hon, hol⟩ := hn _ rfl (⟨⟨oA, on, ok, ol⟩, og⟩ : Oc) (by rw [← hx]; exact List.getElem_mem _)
 dsimp only at hon hol
 subst hon
 have hmx : (⟨⟨oA, ol.length, ok, ol⟩, og⟩ : Oc) ∈ jL := by rw [← hx]; exact List.getElem_mem _
 have htn := hok.tn
 have he := hok.e
 dsimp only [EnM.pl] at htn he
 obtain ⟨g, rfl⟩ : ∃ g, jA = some ⟨g, 0, none⟩ := own_some ⟨_, h0.opn (Pk.refl _)⟩ (ty := 85) (k := 2) (m := jL.length) (c := jc) (A := jA) (xs := jL.flatMap eO) (by repeat constructor) (by omega)
 refine J_start (B := ⟨w, (allI [grpB (endI b (⟨⟨kf, kt, ks, ke, kp⟩, fr, l, sA, sk, tn, (some ⟨pb, pr, ph, ⟨some ⟨g, 0, none⟩, jc, jL⟩⟩)⟩ : EnM))]).foot, none, []⟩) rfl rfl (vs := [.pointer (some ⟨b, 0, none⟩), .int .i64 (k : Nat)]) (k := 38) (l := [(0, .pointer (some ⟨b, 0, none⟩)), (1, .int .i64 (k : Nat))]) Try.func16 rfl rfl Try.ntmps16 rfl rfl ((show Wd ⟨w, (allI [grpB (endI b (⟨⟨kf, kt, ks, ke, kp⟩, fr, l, sA, sk, tn, (some ⟨pb, pr, ph, ⟨some ⟨g, 0, none⟩, jc, jL⟩⟩)⟩ : EnM))]).foot, none, []⟩ [cellB b [.int .i64 kf, .int .i64 kt, .int .i64 ks, .int .i64 ke, .bool kp, .bool true, .int .i64 fr, .slice sA l.length sk, .int .i64 tn, .pointer (some ⟨pb, 0, none⟩)] 78, ownB 49 4 sA l.length sk (l.flatMap eT), cellB pb [.int .i64 pr, .int .i64 ph, .slice (some ⟨g, 0, none⟩) jL.length jc] 57, ownB 85 2 (some ⟨g, 0, none⟩) jL.length jc (jL.flatMap eO), grpB (jL.map rwB)] w from h0.opn (Pk.refl _))) ?_
 refine s10 ?_
 refine aCB (fun w hw => is_any b kf kt ks ke kp true fr sA l.length sk tn _ w (hw.ok (cellB b [.int .i64 kf, .int .i64 kt, .int .i64 ks, .int .i64 ke, .bool kp, .bool true, .int .i64 fr, .slice sA l.length sk, .int .i64 tn, .pointer (some ⟨pb, 0, none⟩)] 78) (by repeat constructor)).1) ?_
 refine aBoolT ?_ rfl
 refine s6 ?_
 refine kJ [(0, _), (1, _)] ?_
 refine s5 ?_
 refine aP (pEqlP (by kernel_rfl) rfl rfl) ?_
 refine aBoolF ?_ rfl
 refine s5 ?_
 refine kJ [(0, _), (1, _)] ?_
 refine s11 ?_
 refine aCB (fun w hw => rwithin _ _ _ w) ?_
 refine aDecT ?_ (by omega)
 refine s9 ?_
 refine kJ [(0, _), (1, _)] ?_
 refine s10 ?_
 refine aP (pIdxI (k) rfl rfl rfl) ?_
 refine aV (vOwnA (cs := [.slice oA ol.length ok, .bool og]) EO (L := jL) (j := k) rfl rfl (by repeat constructor) hk (by rw [hx]; rfl)) ?_
 refine aW (oL [cellB b [.int .i64 kf, .int .i64 kt, .int .i64 ks, .int .i64 ke, .bool kp, .bool true, .int .i64 fr, .slice sA l.length sk, .int .i64 tn, .pointer (some ⟨pb, 0, none⟩)] 78] [ownB 85 2 (some ⟨g, 0, none⟩) jL.length jc (jL.flatMap eO), grpB (jL.map rwB)] (fun w hw h0 => take_any b (⟨⟨kf, kt, ks, ke, kp⟩, fr, l, sA, sk, tn, (some ⟨pb, pr, ph, ⟨some ⟨g, 0, none⟩, jc, jL⟩⟩)⟩ : EnM) oA ol ok og w h0.startL (fun W hW => oc_arr (p := ⟨⟨oA, ol.length, ok, ol⟩, og⟩) (hw.keepL (HA := [cellB b [.int .i64 kf, .int .i64 kt, .int .i64 ks, .int .i64 ke, .bool kp, .bool true, .int .i64 fr, .slice sA l.length sk, .int .i64 tn, .pointer (some ⟨pb, 0, none⟩)] 78]) (C := grpB (jL.map rwB)) hW (by repeat constructor) rfl) hmx rfl hol) hol (by dsimp only; omega))) (fun t39 _ => ?_)
 refine s3 ?_
 refine kJ [] ?_
 refine s5 ?_
 refine JR_one rfl (rr_tmp rfl) ?_
 intro w' hw
 exact ⟨⟨⟨kf, kt, ks, ke, kp⟩, fr, ol, t39.1, t39.2, if og = true then tn else tn + 1, none⟩, ⟨by unfold chsN; dsimp only [EnM.pl, Option.map]; rw [show ((k : Nat) : Int).toNat = k from Int.toNat_natCast k, List.getD_eq_getElem?_getD, List.getElem?_map, List.getElem?_eq_getElem hk, hx]; rfl, fun m hm => by cases hm⟩, rfl, hw.close (HA := endI b ⟨⟨kf, kt, ks, ke, kp⟩, fr, ol, t39.1, t39.2, if og = true then tn else tn + 1, none⟩) (H1 := []) (by repeat constructor) rfl⟩
set_option maxRecDepth 100000 in
set_option maxHeartbeats 4000000 in
theorem Next_nil (w : World) : Calls Try.prog 31 #[.pointer none] w (Back (.tuple #[.int .i64 0, .int .i64 0, .int .i64 1]) w) := by
 refine J_enter (fun _ => False) (vs := [.pointer none]) (k := 33) (l := [(0, .pointer none)]) Try.func31 rfl rfl Try.ntmps31 rfl rfl (Wd.start _) ?_
 refine s12 ?_
 refine aCB (fun w hw => is_nil w) ?_
 refine aBoolF ?_ rfl
 refine s6 ?_
 refine kJ [] ?_
 refine s9 ?_
 refine JR_three rfl (rr_tmp rfl) (rr_tmp rfl) (rr_tmp rfl) ?_
 intro w' hw
 exact ⟨rfl, hw.bel⟩
set_option maxRecDepth 100000 in
set_option maxHeartbeats 4000000 in
theorem Next_un (b : Nat) (kf kt ks ke : Int) (kp : Bool) (fr : Int) (sA : Option Addr) (sn sk : Nat) (tn : Int) (pd : Option Addr) (w : World) (hc : (cellB b [.int .i64 kf, .int .i64 kt, .int .i64 ks, .int .i64 ke, .bool kp, .bool false, .int .i64 fr, .slice sA sn sk, .int .i64 tn, .pointer pd] 78).holds w) : Calls Try.prog 31 #[.pointer (some ⟨b, 0, none⟩)] w (Back (.tuple #[.int .i64 0, .int .i64 0, .int .i64 1]) w) := by
 refine J_enter (fun _ => False) (vs := [.pointer (some ⟨b, 0, none⟩)]) (k := 33) (l := [(0, .pointer (some ⟨b, 0, none⟩))]) Try.func31 rfl rfl Try.ntmps31 rfl rfl (Wd.start _) ?_
 refine s12 ?_
 refine aCB (fun w hw => is_any b kf kt ks ke kp false fr sA sn sk tn pd w (It.up_cell hc hw.bel)) ?_
 refine aBoolF ?_ rfl
 refine s6 ?_
 refine kJ [] ?_
 refine s9 ?_
 refine JR_three rfl (rr_tmp rfl) (rr_tmp rfl) (rr_tmp rfl) ?_
 intro w' hw
 exact ⟨rfl, hw.bel⟩
set_option maxRecDepth 100000 in
set_option maxHeartbeats 4000000 in
theorem Score_nil (w : World) : Calls Try.prog 18 #[.pointer none] w (Back (.tuple #[.int .i64 0, .int .i64 0, .int .i64 1]) w) := by
 refine J_enter (fun _ => False) (vs := [.pointer none]) (k := 20) (l := [(0, .pointer none)]) Try.func18 rfl rfl Try.ntmps18 rfl rfl (Wd.start _) ?_
 refine s12 ?_
 refine aCB (fun w hw => is_nil w) ?_
 refine aBoolF ?_ rfl
 refine s6 ?_
 refine kJ [] ?_
 refine s9 ?_
 refine JR_three rfl (rr_tmp rfl) (rr_tmp rfl) (rr_tmp rfl) ?_
 intro w' hw
 exact ⟨rfl, hw.bel⟩
set_option maxRecDepth 100000 in
set_option maxHeartbeats 4000000 in
theorem Score_un (b : Nat) (kf kt ks ke : Int) (kp : Bool) (fr : Int) (sA : Option Addr) (sn sk : Nat) (tn : Int) (pd : Option Addr) (w : World) (hc : (cellB b [.int .i64 kf, .int .i64 kt, .int .i64 ks, .int .i64 ke, .bool kp, .bool false, .int .i64 fr, .slice sA sn sk, .int .i64 tn, .pointer pd] 78).holds w) : Calls Try.prog 18 #[.pointer (some ⟨b, 0, none⟩)] w (Back (.tuple #[.int .i64 0, .int .i64 0, .int .i64 1]) w) := by
 refine J_enter (fun _ => False) (vs := [.pointer (some ⟨b, 0, none⟩)]) (k := 20) (l := [(0, .pointer (some ⟨b, 0, none⟩))]) Try.func18 rfl rfl Try.ntmps18 rfl rfl (Wd.start _) ?_
 refine s12 ?_
 refine aCB (fun w hw => is_any b kf kt ks ke kp false fr sA sn sk tn pd w (It.up_cell hc hw.bel)) ?_
 refine aBoolF ?_ rfl
 refine s6 ?_
 refine kJ [] ?_
 refine s9 ?_
 refine JR_three rfl (rr_tmp rfl) (rr_tmp rfl) (rr_tmp rfl) ?_
 intro w' hw
 exact ⟨rfl, hw.bel⟩
set_option maxRecDepth 100000 in
set_option maxHeartbeats 4000000 in
theorem Pending_nil (w : World) : Calls Try.prog 15 #[.pointer none] w (Back (.tuple #[.agg #[.int .i64 0, .int .i64 0, .slice none 0 0], .int .i64 1]) w) := by
 refine J_enter (fun _ => False) (vs := [.pointer none]) (k := 22) (l := [(0, .pointer none)]) Try.func15 rfl rfl Try.ntmps15 rfl rfl (Wd.start _) ?_
 refine s2 ?_
 refine aW oA (fun b2 hb2 => ?_)
 refine s8 ?_
 refine aCB (fun w hw => is_nil w) ?_
 refine aBoolF ?_ rfl
 refine s6 ?_
 refine kJ [(2, _)] ?_
 refine s1 ?_
 refine aP (rp_buildC (fun us => [.int .i64 0, .int .i64 0, .slice none 0 0]) rfl rfl (fun w => by kernel_rfl)) ?_
 refine s7 ?_
 refine JR_two rfl (rr_agg (cs := [_, _, _]) rfl Agg.h (Siz.h (k := 3)) (by repeat constructor) (by rfl)) (rr_tmp rfl) ?_
 intro w' hw
 exact ⟨rfl, hw.bel⟩
set_option maxRecDepth 100000 in
set_option maxHeartbeats 4000000 in
theorem Pending_un (b : Nat) (kf kt ks ke : Int) (kp : Bool) (fr : Int) (sA : Option Addr) (sn sk : Nat) (tn : Int) (pd : Option Addr) (w : World) (hc : (cellB b [.int .i64 kf, .int .i64 kt, .int .i64 ks, .int .i64 ke, .bool kp, .bool false, .int .i64 fr, .slice sA sn sk, .int .i64 tn, .pointer pd] 78).holds w) : Calls Try.prog 15 #[.pointer (some ⟨b, 0, none⟩)] w (Back (.tuple #[.agg #[.int .i64 0, .int .i64 0, .slice none 0 0], .int .i64 1]) w) := by
 refine J_enter (fun _ => False) (vs := [.pointer (some ⟨b, 0, none⟩)]) (k := 22) (l := [(0, .pointer (some ⟨b, 0, none⟩))]) Try.func15 rfl rfl Try.ntmps15 rfl rfl (Wd.start _) ?_
 refine s2 ?_
 refine aW oA (fun b2 hb2 => ?_)
 refine s8 ?_
 refine aCB (fun w hw => is_any b kf kt ks ke kp false fr sA sn sk tn pd w (It.up_cell hc hw.bel)) ?_
 refine aBoolF ?_ rfl
 refine s6 ?_
 refine kJ [(2, _)] ?_
 refine s1 ?_
 refine aP (rp_buildC (fun us => [.int .i64 0, .int .i64 0, .slice none 0 0]) rfl rfl (fun w => by kernel_rfl)) ?_
 refine s7 ?_
 refine JR_two rfl (rr_agg (cs := [_, _, _]) rfl Agg.h (Siz.h (k := 3)) (by repeat constructor) (by rfl)) (rr_tmp rfl) ?_
 intro w' hw
 exact ⟨rfl, hw.bel⟩
set_option maxRecDepth 100000 in
set_option maxHeartbeats 4000000 in
theorem Choose_nil (i : Int) (w : World) : Calls Try.prog 16 #[.pointer none, .int .i64 i] w (Back (.int .i64 1) w) := by
 refine J_enter (fun _ => False) (vs := [.pointer none, .int .i64 i]) (k := 38) (l := [(0, .pointer none), (1, .int .i64 i)]) Try.func16 rfl rfl Try.ntmps16 rfl rfl (Wd.start _) ?_
 refine s10 ?_
 refine aCB (fun w hw => is_nil w) ?_
 refine aBoolF ?_ rfl
 refine s6 ?_
 refine kJ [] ?_
 refine s7 ?_
 refine JR_one rfl (rr_tmp rfl) ?_
 intro w' hw
 exact ⟨rfl, hw.bel⟩
set_option maxRecDepth 100000 in
set_option maxHeartbeats 4000000 in
theorem Choose_un (i : Int) (b : Nat) (kf kt ks ke : Int) (kp : Bool) (fr : Int) (sA : Option Addr) (sn sk : Nat) (tn : Int) (pd : Option Addr) (w : World) (hc : (cellB b [.int .i64 kf, .int .i64 kt, .int .i64 ks, .int .i64 ke, .bool kp, .bool false, .int .i64 fr, .slice sA sn sk, .int .i64 tn, .pointer pd] 78).holds w) : Calls Try.prog 16 #[.pointer (some ⟨b, 0, none⟩), .int .i64 i] w (Back (.int .i64 1) w) := by
 refine J_enter (fun _ => False) (vs := [.pointer (some ⟨b, 0, none⟩), .int .i64 i]) (k := 38) (l := [(0, .pointer (some ⟨b, 0, none⟩)), (1, .int .i64 i)]) Try.func16 rfl rfl Try.ntmps16 rfl rfl (Wd.start _) ?_
 refine s10 ?_
 refine aCB (fun w hw => is_any b kf kt ks ke kp false fr sA sn sk tn pd w (It.up_cell hc hw.bel)) ?_
 refine aBoolF ?_ rfl
 refine s6 ?_
 refine kJ [] ?_
 refine s7 ?_
 refine JR_one rfl (rr_tmp rfl) ?_
 intro w' hw
 exact ⟨rfl, hw.bel⟩
set_option maxRecDepth 100000 in
set_option maxHeartbeats 4000000 in
theorem Throw_nil (xteam xnn : Int) (xlate xshort : Bool) (xhow : Int) (A2 : Option Addr) (n2 cap2 : Nat) (w : World) : Calls Try.prog 14 #[.pointer none, .agg #[.int .i64 xteam, .int .i64 xnn, .bool xlate, .bool xshort, .int .i64 xhow, .slice A2 n2 cap2]] w (Back (.tuple #[.agg #[.int .i64 0, .int .i64 0, .slice none 0 0], .int .i64 1]) w) := by
 refine J_enter (fun _ => False) (vs := [.pointer none, .agg #[.int .i64 xteam, .int .i64 xnn, .bool xlate, .bool xshort, .int .i64 xhow, .slice A2 n2 cap2]]) (k := 74) (l := [(0, .pointer none), (1, .agg #[.int .i64 xteam, .int .i64 xnn, .bool xlate, .bool xshort, .int .i64 xhow, .slice A2 n2 cap2])]) Try.func14 rfl rfl Try.ntmps14 rfl rfl (Wd.start _) ?_
 refine s2 ?_
 refine aW (oX [_, _, _, _, _, _]) (fun b3 hb3 => ?_)
 refine aW oA (fun b4 hb4 => ?_)
 refine s6 ?_
 refine aCB (fun w hw => Next_nil w) ?_
 refine s12 ?_
 refine kJ [(0, _), (3, _), (4, _), (6, _), (7, _), (8, _)] ?_
 refine s3 ?_
 refine aDecT ?_ (by decide)
 refine s5 ?_
 refine kJ [(4, _), (8, _)] ?_
 refine s1 ?_
 refine aP (rp_buildC (fun us => [.int .i64 0, .int .i64 0, .slice none 0 0]) rfl rfl (fun w => by kernel_rfl)) ?_
 refine s8 ?_
 refine JR_two rfl (rr_agg (cs := [_, _, _]) rfl Agg.h (Siz.h (k := 3)) (by repeat constructor) (by rfl)) (rr_tmp rfl) ?_
 intro w' hw
 exact ⟨rfl, hw.bel⟩
set_option maxRecDepth 100000 in
set_option maxHeartbeats 4000000 in
theorem Throw_un (xteam xnn : Int) (xlate xshort : Bool) (xhow : Int) (A2 : Option Addr) (n2 cap2 : Nat) (b : Nat) (kf kt ks ke : Int) (kp : Bool) (fr : Int) (sA : Option Addr) (sn sk : Nat) (tn : Int) (pd : Option Addr) (w : World) (hc : (cellB b [.int .i64 kf, .int .i64 kt, .int .i64 ks, .int .i64 ke, .bool kp, .bool false, .int .i64 fr, .slice sA sn sk, .int .i64 tn, .pointer pd] 78).holds w) : Calls Try.prog 14 #[.pointer (some ⟨b, 0, none⟩), .agg #[.int .i64 xteam, .int .i64 xnn, .bool xlate, .bool xshort, .int .i64 xhow, .slice A2 n2 cap2]] w (Back (.tuple #[.agg #[.int .i64 0, .int .i64 0, .slice none 0 0], .int .i64 1]) w) := by
 refine J_enter (fun _ => False) (vs := [.pointer (some ⟨b, 0, none⟩), .agg #[.int .i64 xteam, .int .i64 xnn, .bool xlate, .bool xshort, .int .i64 xhow, .slice A2 n2 cap2]]) (k := 74) (l := [(0, .pointer (some ⟨b, 0, none⟩)), (1, .agg #[.int .i64 xteam, .int .i64 xnn, .bool xlate, .bool xshort, .int .i64 xhow, .slice A2 n2 cap2])]) Try.func14 rfl rfl Try.ntmps14 rfl rfl (Wd.start _) ?_
 refine s2 ?_
 refine aW (oX [_, _, _, _, _, _]) (fun b3 hb3 => ?_)
 refine aW oA (fun b4 hb4 => ?_)
 refine s6 ?_
 refine aCB (fun w hw => Next_un b kf kt ks ke kp fr sA sn sk tn pd w (It.up_cell hc hw.bel)) ?_
 refine s12 ?_
 refine kJ [(0, _), (3, _), (4, _), (6, _), (7, _), (8, _)] ?_
 refine s3 ?_
 refine aDecT ?_ (by decide)
 refine s5 ?_
 refine kJ [(4, _), (8, _)] ?_
 refine s1 ?_
 refine aP (rp_buildC (fun us => [.int .i64 0, .int .i64 0, .slice none 0 0]) rfl rfl (fun w => by kernel_rfl)) ?_
 refine s8 ?_
 refine JR_two rfl (rr_agg (cs := [_, _, _]) rfl Agg.h (Siz.h (k := 3)) (by repeat constructor) (by rfl)) (rr_tmp rfl) ?_
 intro w' hw
 exact ⟨rfl, hw.bel⟩
set_option maxRecDepth 100000 in
set_option maxHeartbeats 4000000 in
theorem Position_un (b : Nat) (kf kt ks ke : Int) (kp : Bool) (fr : Int) (sA : Option Addr) (sn sk : Nat) (tn : Int) (pd : Option Addr) (w : World) (hc : (cellB b [.int .i64 kf, .int .i64 kt, .int .i64 ks, .int .i64 ke, .bool kp, .bool false, .int .i64 fr, .slice sA sn sk, .int .i64 tn, .pointer pd] 78).holds w) : Calls Try.prog 19 #[.pointer (some ⟨b, 0, none⟩)] w (Back (.slice none 0 0) w) := by
 refine J_enter (fun _ => False) (vs := [.pointer (some ⟨b, 0, none⟩)]) (k := 10) (l := [(0, .pointer (some ⟨b, 0, none⟩))]) Try.func19 rfl rfl Try.ntmps19 rfl rfl (Wd.start _) ?_
 refine s9 ?_
 refine aCB (fun w hw => is_any b kf kt ks ke kp false fr sA sn sk tn pd w (It.up_cell hc hw.bel)) ?_
 refine aBoolF ?_ rfl
 refine s5 ?_
 refine kJ [] ?_
 refine s6 ?_
 refine JR_one rfl (rr_tmp rfl) ?_
 intro w' hw
 exact ⟨rfl, hw.bel⟩
end Go.Proofs.Ytmcpnoailbmkkaa
/- A range over a function that gives two values. Over any program. -/
namespace Go.Proofs.Ytmcpnoailbmkkaa
open Go Go.RowKit Go.Proofs Go.Shelf
section
variable {P : Program} {n : Nat} {B : Bs} {Q : Exit → Act → World → Prop} {l : Sl} {H H' : List It} {c : Code} {w w' : World}
/-- The contract of an iterator f with what it has captured: T the states, Y what it hands out. -/
def Itr2 (P : Program) {T Y : Type} (f : FuncId) (caps : Array Value) (B : Bs) (φ : T → Prop) (HH : T → It → List It) (Yk : T → Y → Prop) (V V2 : Y → Value) (HG : T → Y → It → List It) (Rn : T → T → Prop) (fin ini : T → Prop) : Prop :=
 ∀ (lp : Nat) (X : It) (t0 : T) (W : World), φ t0 → ini t0 → Wd B (HH t0 X) W →
  (∀ t y W1, φ t → Yk t y → Wd B (HG t y X) W1 → ∀ m, YieldAt Fence.wide m P lp #[V y, V2 y] W1 (fun e W2 => e = .returned (.bool true) ∧ ∃ t', Rn t t' ∧ φ t' ∧ Wd B (HH t' X) W2)) →
  Calls P f (#[.func (.yield lp) #[] #[]] ++ caps) W (fun e W' => (∃ v, e = .returned v) ∧ ∃ t, φ t ∧ fin t ∧ Wd B (HH t X) W')
set_option maxHeartbeats 2000000 in
theorem J_range2 {T Y : Type} {g : Operand} {p q : Nat} {assign body : Code} {f : FuncId} {caps : Array Value} [hf : Cf P f] (φ : T → Prop) (HH : T → It → List It) (Yk : T → Y → Prop) (V V2 : Y → Value) (HG : T → Y → It → List It) (Rn : T → T → Prop) (fin ini : T → Prop) {Ds : List Nat} (l1 : Y → Sl)
  (hit : Itr2 P f caps ⟨B.w, B.m, none, []⟩ φ HH Yk V V2 HG Rn fin ini) (t0 : T) (h0 : φ t0) (hi0 : ini t0)
  (has : ∀ lp t y X, φ t → Yk t y → J P n ⟨B.w, B.m, some lp, []⟩ assign (Exit.then (CutP n ⟨B.w, B.m, some lp, []⟩ (fun _ : Unit => True) (fun _ => l1 y) (fun _ => HG t y X)) (fun _ _ _ => False)) ((q, V2 y) :: (p, V y) :: l) (HG t y X))
  (hbd : ∀ lp t y X, φ t → Yk t y → J P n ⟨B.w, B.m, some lp, []⟩ body (Exit.then (CutP n ⟨B.w, B.m, some lp, []⟩ (fun t' => Rn t t' ∧ φ t') (fun _ => []) (fun t' => HH t' X)) (fun _ _ _ => False)) (l1 y) (HG t y X))
  (k : ∀ D t, φ t → fin t → JQ n ⟨B.w, B.m, none, (D :: Ds).map mark⟩ Q .normal l (HH t (defsB (D :: Ds))))
  (hr : B.r = none := by rfl) (hd : B.d = Ds.map mark := by rfl) (hg : evl l g = some (.func (.func f) #[] caps) := by rfl) (hp : Nat.ble n p = false := by rfl) (hq : Nat.ble n q = false := by rfl)
  (hH : Pk (HH t0 (defsB Ds)) H := by repeat constructor) (a1 : ∀ t A C, At A C (HH t A) (HH t C) := by intro t A C; repeat constructor) (a2 : ∀ t y A C, At A C (HG t y A) (HG t y C) := by intro t y A C; repeat constructor) :
  J P n B (.rangeFunc g #[p, q] assign body) Q l H := by
 intro a w ha hw m
 rw [hr]
 have hF := hf.h
 have hw0 : Wd ⟨B.w, B.m, none, []⟩ (HH t0 (defsB Ds)) w := (hw.pick hH).re _ _
 clear hw hH
 refine wpIn_rangeFunc ?_
 intro fn hfn
 obtain ⟨rec, hrec⟩ : ∃ rec : LoopState → Option Code → Loop, rec = fun st pe => { state := st, pending := pe, fn, tmps := a.tmps, params := #[p, q], assign, body, defers := w.heap.size } := ⟨_, rfl⟩
 obtain ⟨W1, hW1⟩ : ∃ W1, (w.alloc (.deferred (some []))).alloc (.loop (rec .ready none)) = W1 := ⟨_, rfl⟩
 have hL1 : W1.heap[w.heap.size + 1]? = some (.loop (rec .ready none)) := by
  rw [← hW1]; have := World.alloc_heap_new (w.alloc (.deferred (some []))) (.loop (rec .ready none)); rwa [World.size_alloc] at this
 have hK1 : W1.heap[w.heap.size]? = some (.deferred (some [])) := by
  rw [← hW1]; exact (Below.heap_alloc _ _ _ (by simp)).trans (World.alloc_heap_new w _)
 have hb1 : Below w.heap.size w W1 := by rw [← hW1]; exact ((Below.refl _ _).alloc (Nat.le_refl _) _).alloc (by simp) _
 have hz1 : W1.heap.size = w.heap.size + 2 := by rw [← hW1]; simp
 have hmem := (a1 t0 (defsB Ds) (defsB Ds)).mem
 have hD0 := hw0.ok _ hmem
 have hnew : w.heap.size ∉ Ds := fun h => Nat.lt_irrefl _ (hD0.2 _ h).2
 have hnew1 : w.heap.size + 1 ∉ Ds := fun h => by have := (hD0.2 _ h).2; omega
 have hw1 : Wd ⟨B.w, B.m, none, []⟩ (HH t0 (loopB (w.heap.size + 1) (rec .ready none) (w.heap.size :: Ds))) W1 := by
  refine hw0.chg (a1 t0 _ _) rfl rfl ⟨hb1.os, hb1.tape, hb1.output, hb1.size, fun b hb _ => hb1.block b hb⟩ ⟨by simp [hnew1], List.nodup_cons.2 ⟨hnew, hD0.1.1⟩, hL1, fun D hD => ?_⟩ (fun b hb => ?_)
  ·rcases List.mem_cons.1 hD with rfl | hD
   ·exact hK1
   ·exact (hb1.block D (hD0.2 D hD).2).trans (hD0.1.2 D hD)
  ·rcases hb with rfl | hb
   ·exact ⟨.inr (by omega), by omega⟩
   ·rcases List.mem_cons.1 hb with rfl | hb
    ·exact ⟨.inr (Nat.le_refl _), by omega⟩
    ·exact ⟨.inl hb, by have := (hD0.2 b hb).2; omega⟩
 refine ⟨w.heap.size + 1, [mark w.heap.size], W1, { target := .fn (.func f) caps, args := #[.func (.yield (w.heap.size + 1)) #[] #[]] }, W1, f,
  #[.func (.yield (w.heap.size + 1)) #[] #[]] ++ caps, W1, ?_, ?_, ?_, ?_, fun h => (by cases h), ?_⟩
 ·rw [← hW1, hrec]; exact run_enterLoop_outer _ _ _ _ _
 ·simp only [resolve, ha.evD hg]
  simp [go_sem]
 ·intro f' _; exact trivial
 ·simp [invoke, go_sem, hF]
 refine (callsIn_wide.2 (hit (w.heap.size + 1) (loopB (w.heap.size + 1) (rec .ready none) (w.heap.size :: Ds)) t0 W1 h0 hi0 hw1 ?_)).mono ?_
 ·intro t y W ht hy hwW m'
  have hX := (hwW.ok _ (a2 t y (loopB (w.heap.size + 1) (rec .ready none) (w.heap.size :: Ds)) (loopB (w.heap.size + 1) (rec .ready none) (w.heap.size :: Ds))).mem).1
  have hl := hX.2.2.1
  have hy1 := run_yield (P := P) (args := #[V y, V2 y]) hl (by rw [hrec]; simp)
  rw [hrec] at hy1
  refine ⟨fn, _, assign, body, hy1, roundIn_of_wpIn trivial ?_⟩
  have hfr : Fr n ((q, V2 y) :: (p, V y) :: l) { tmps := (a.tmps.setIfInBounds p (V y)).setIfInBounds q (V2 y), defers := [] } := by
   have h := (ha.put p (V y) hp).put q (V2 y) hq
   exact ⟨h.size, rfl, h.get⟩
  have hA := has (w.heap.size + 1) t y _ ht hy _ W hfr hwW.un m'
  refine wpIn_mono (Q := NO _) (by simpa [Bs.df, wr, Fence.inRound] using hA) ?_
  intro e a2' w2 hq
  cases e with
  | normal =>
   obtain ⟨_, -, a0, rfl, hf0, hw2⟩ := hq
   have hX2 := (hw2.ok _ (a2 t y (loopB (w.heap.size + 1) (rec .ready none) (w.heap.size :: Ds)) (loopB (w.heap.size + 1) (rec .ready none) (w.heap.size :: Ds))).mem).1
   refine ⟨_, run_beginRound hX2.2.2.1 (by rw [hrec]), ?_⟩
   have hw3 := hw2.loop (L' := { rec .ready none with state := .busy }) (a2 t y _ _)
   refine wpIn_mono (hbd (w.heap.size + 1) t y _ ht hy a0 _ hf0 hw3 m') ?_
   intro e a3 w4 hq
   cases e with
   | normal =>
    obtain ⟨t', ⟨hR, hφ⟩, a4, rfl, -, hw5⟩ := hq
    have hX5 := (hw5.ok _ (a1 t' (loopB (w.heap.size + 1) { rec .ready none with state := .busy } (w.heap.size :: Ds)) (loopB (w.heap.size + 1) { rec .ready none with state := .busy } (w.heap.size :: Ds))).mem).1
    refine ⟨_, _, run_endRound none hX5.2.2.1, rfl, t', hR, hφ, ?_⟩
    have := hw5.loop (L' := rec .ready none) (a1 t' _ _)
    rw [hrec] at this ⊢
    exact this.un
   | _ => exact hq.elim
  | _ => exact hq.elim
 ·rintro e W2 ⟨⟨u, rfl⟩, t, hφ, hfin, hw2⟩
  have hX2 := (hw2.ok _ (a1 t (loopB (w.heap.size + 1) (rec .ready none) (w.heap.size :: Ds)) (loopB (w.heap.size + 1) (rec .ready none) (w.heap.size :: Ds))).mem).1
  refine ⟨none, _, (run_endLoop hX2.2.2.1 (by rw [hrec]; simp)).trans (by rw [hrec]), ?_⟩
  have hw3 := hw2.loop (L' := { rec .ready none with state := .exhausted }) (a1 t _ _)
  have hX3 := (hw3.ok _ (a1 t (loopB (w.heap.size + 1) { rec .ready none with state := .exhausted } (w.heap.size :: Ds)) (loopB (w.heap.size + 1) { rec .ready none with state := .exhausted } (w.heap.size :: Ds))).mem).1
  have hw4 := hw3.turn (a1 t _ (defsB (w.heap.size :: Ds))) (fun h => (by cases h)) ⟨hX3.2.1, hX3.2.2.2⟩ (fun b hb => .inr hb)
  have hk := k w.heap.size t hφ hfin a _ ha (by rw [hrec] at hw4; exact hw4.un)
  show Q .normal _ _
  have e : ({ B.df a with defers := [mark w.heap.size] ++ (B.df a).defers } : Act) = (⟨B.w, B.m, none, (w.heap.size :: Ds).map mark⟩ : Bs).df a := by
   simp [Bs.df, hd]
  rw [e]
  exact hk
variable {ops : Array Oper} {rest : List Oper} {o : Oper}
/-- In a region with a call of yield: a call that leaves all as it lay; yield with two values; what is known. -/
theorem iC {f : FuncId} {args : Array Value} {v : Value} {d : Nat} (he : EC P n l o f args) (hC : ∀ w, Wd B H w → Calls P f args w (fun e w' => e = .returned v ∧ Below w.heap.size w w')) (k : JLi P n B ops Q rest ((d, v) :: l) H) (hnd : isDef o.op = false := by rfl) (hd : o.dst = some d := by rfl) (hW : WN ops n l o true := by exact wAny) (hn : Nat.ble n d = false := by rfl) : JLi P n B ops Q (o :: rest) l H := fun a w ha hw m =>
 wpListIn_step (fun K hK => by
  rw [if_pos (hW.D ha)]
  unfold Oper.wpIn
  refine ⟨fun _ _ => trivial, ?_⟩
  rw [Oper.semAt_plain _ _ _ (fun c hc => by rw [hc] at hnd; cases hnd), show (execOp (B.df a).eval o).run P w = .ok (.enter f args) w from he a w ha]
  refine ⟨fun h => (by cases h), (callsIn_wide (n := m - 1)).2 ((hC w hw).mono ?_)⟩
  rintro e W2 ⟨rfl, hb⟩
  show K ((B.df a).put o.dst v) W2
  rw [hd]
  exact hK _ _ (by rw [Bs.df_put]; exact k _ _ (ha.put d v hn) (hw.up hb) m))
theorem iKT {d : Nat} {p : Prop} [Decidable p] (hp : p) (k : JLi P n B ops Q rest ((d, .bool true) :: l) H) : JLi P n B ops Q rest ((d, .bool (decide p)) :: l) H := fun a w ha hw m => k a w (Fr.known (decide_eq_true hp) ha) hw m
theorem iY2 {T : Type} {φ : T → Prop} {HH : T → List It} {ts : Array TypeId} {x y z : Operand} {lp d : Nat} {v u : Value} (hY : ∀ W, Wd B H W → ∀ m, YieldAt Fence.wide m P lp #[v, u] W (fun e W2 => e = .returned (.bool true) ∧ ∃ t', φ t' ∧ Wd B (HH t') W2))
 (k : ∀ t', φ t' → JLi P n B ops Q rest ((d, .bool true) :: l) (HH t')) (ho : o.op = .call { callee := .value x, args := #[y, z], argTypes := ts } := by rfl) (hx : evl l x = some (.func (.yield lp) #[] #[]) := by rfl) (hy : evl l y = some v := by rfl) (hz : evl l z = some u := by rfl) (hd : o.dst = some d := by rfl) (hW : WN ops n l o true := by exact wAny) (hn : Nat.ble n d = false := by rfl) :
 JLi P n B ops Q (o :: rest) l H := fun a w ha hw m =>
 wpListIn_step (fun K hK => by
  rw [if_pos (hW.D ha)]
  obtain ⟨fn, tmps, assign, body, h1, h2⟩ := hY w hw (m - 1)
  have he : (execOp (B.df a).eval o).run P w = .ok (.round lp fn tmps assign body) w := by
   unfold execOp; rw [ho]
   simp only [resolve, ha.evD hx, List.map_toArray, List.map_cons, List.map_nil]
   simp [Deferred.ofValue, invoke, ha.evD hy, ha.evD hz, h1]
  unfold Oper.wpIn
  refine ⟨fun _ _ => trivial, ?_⟩
  rw [Oper.semAt_plain _ _ _ (fun c hc => by rw [ho] at hc; cases hc), he, Oper.uponIn_round]
  refine ⟨fun h => (by cases h), h2.mono ?_⟩
  rintro e W2 ⟨rfl, t', h3, h4⟩
  show K ((B.df a).put o.dst (.bool true)) W2
  rw [hd]
  exact hK _ _ (by rw [Bs.df_put]; exact k t' h3 _ _ (ha.put d _ hn) h4 m))
theorem YieldAt.mono' {F : Fence} {m : Nat} {P : Program} {l : Nat} {args : Array Value} {W : World} {R R' : Ending → World → Prop} (h : YieldAt F m P l args W R) (hR : ∀ e W, R e W → R' e W) : YieldAt F m P l args W R' := by
 obtain ⟨fn, tmps, assign, body, h1, h2⟩ := h
 exact ⟨fn, tmps, assign, body, h1, h2.mono hR⟩
end
end Go.Proofs.Ytmcpnoailbmkkaa
/- Views. Over any program. -/
namespace Go.Proofs.Ytmcpnoailbmkkaa
open Go Go.RowKit Go.Proofs Go.Shelf
theorem J_view0 {α : Type} {P : Program} {n : Nat} {B : Bs} {Q : Exit → Act → World → Prop} {l : Sl} {H : List It} {c : Code} (k : Nat) (enc : α → List Value) (h : J P n B c Q l (slsB k enc [⟨none, 0, 0, []⟩] :: H)) : J P n B c Q l H := fun a w ha hw => h a w ha (hw.new (Below.refl _ _) (fun p hp => by rw [List.mem_singleton] at hp; subst hp; exact Arr.nil w) (fun b hb => by obtain ⟨p, hp, hne, -⟩ := hb; rw [List.mem_singleton] at hp; subst hp; exact absurd rfl hne))
end Go.Proofs.Ytmcpnoailbmkkaa
/- An entry of a map's literal; strings as keys. Over any program. -/
namespace Go.Proofs.Ytmcpnoailbmkkaa
open Go Go.RowKit Go.Proofs Go.Shelf Go.ChangeMaps
section
variable {P : Program} {α β : Type} {kt e t : TypeId} {kv : α → Value} {ok : α → Prop} {ev : β → Value} {ed : β → DataW Unit} {z : β} {okE : β → Prop}
variable {n : Nat} {B : Bs} {Q : Exit → Act → World → Prop} {l : Sl} {H H' : List It} {ops : Array Oper} {rest : List Oper} {o : Oper} {x y q : Operand}
theorem ow_insK [DecidableEq α] {b m' m'' : Nat} {f : α → Option β} {u s : Value} (K : KeyL P kt kv ok) (E : ElL P e ev ed z okE) (k : α) (r : β) (ht : P.underlying t = some (.map kt e)) (ho : o.op = .insert t x y q) (hd : o.dst = none) (hx : evl l x = some (.map (some b))) (hy : evl l y = some u) (hq : evl l q = some s) (hu : u = kv k) (hs : s = ev r)
  (hat : At (mapK P kt e kv ok ed b m' f) (mapK P kt e kv ok ed b m'' (upd f k r)) H H') (hk : ok k) (hr : okE r) (hmn : m' < 1000000) (hm2 : m' + 1 ≤ m'') : OpW P n B (some (mapK P kt e kv ok ed b m' f)) l H o (fun _ : Unit => True) (fun _ => l) (fun _ => H') :=
 OpW.of_skip hd (fun a w ha hw => by
  obtain ⟨n, c, h0, h⟩ := (hw.ok _ hat.mem).1
  obtain ⟨w', h1, h2, h3⟩ := h.put K E ht (by omega) hk hr
  have hc : Chg (mapK P kt e kv ok ed b m' f) w w' := ⟨h3.os, h3.tape, h3.output, h3.size, fun k hk hnk => h3.block k hk (fun e => hnk (by injection e))⟩
  refine ⟨(), w', trivial, by unfold execOp; rw [ho]; simp only [ha.ev hx, ha.ev hy, ha.ev hq, hu, hs, Sem.run_bind, h1, Result.andThen_ok, Sem.run_pure], hw.chg hat rfl rfl hc ⟨_, _, by omega, h2⟩ (fun k hk => ⟨.inl hk, ?_⟩), hc⟩
  have : k = b := hk
  subst this
  exact h2.lt)
end
def okS (s : ByteArray) : Prop := s.size ≤ maxLen
def kS (s : ByteArray) : Value := .string s
theorem KS {P : Program} {t : TypeId} [u : Und P t .string] : KeyL P t kS okS where
 law := Maps.string_keyed u.h
 key := fun x hx => ⟨_, WideMaps.keyOf_string_mk u.h hx⟩
 inj := fun x y h => by simpa [kS] using h
end Go.Proofs.Ytmcpnoailbmkkaa
/- Items as one view; one item out of a group. Over any program. -/
namespace Go.Proofs.Ytmcpnoailbmkkaa
open Go Go.RowKit Go.Proofs Go.Shelf
theorem Pk.skip (C : It) {l H : List It} (h : Pk l H) : Pk l (C :: H) := by
 induction h with
 | nil H => exact .nil _
 | pick r _ ih => exact .pick (.there C r) ih
theorem Pk.mid (A : It) : ∀ HS H1 : List It, Pk (HS ++ A :: H1) (A :: (HS ++ H1))
 | [], _ => Pk.refl _
 | _ :: HS, H1 => .pick (.there A (.here _)) (Pk.mid A HS H1)
section
variable {P : Program} {n : Nat} {B : Bs} {Q : Exit → Act → World → Prop} {l : Sl} {H H1 H2 HA HS rows : List It} {ops : Array Oper} {rest : List Oper} {c : Code} {w : World}
/-- Items that are read alone from here on. -/
def roU (HA : List It) : It where
 ro := true
 foot b := ∃ A ∈ HA, A.foot b
 holds w := ∀ A ∈ HA, A.holds w
 st w w' hb h := fun A hA => A.st w w' (fun b hf => hb b ⟨A, hA, hf⟩) (h A hA)
theorem Wd.roU (h : Wd B H w) (hk : Pk (rows ++ H1) H) : Wd B (Go.Proofs.Ytmcpnoailbmkkaa.roU rows :: H1) w := by
 have h0 := h.pick hk
 obtain ⟨s1, s2, s3⟩ := List.pairwise_append.1 h0.sep
 refine ⟨h0.os, h0.tape, h0.output, h0.size, h0.block, fun D hD => ?_, List.pairwise_cons.2 ⟨fun D hD => ?_, s2⟩⟩
 ·rcases List.mem_cons.1 hD with rfl | hD
  ·exact ⟨fun A hA => (h0.ok A (by simp [hA])).1, fun b ⟨A, hA, hb⟩ => ⟨.inl rfl, ((h0.ok A (by simp [hA])).2 b hb).2⟩⟩
  ·exact h0.ok D (by simp [hD])
 ·cases e : D.ro
  ·exact .inr (fun b ⟨A, hA, hb⟩ h2 => sepR.out (sepR_symm _ _ (s3 A hA D hD)) e b h2 hb)
  ·exact .inl ⟨rfl, rfl⟩
/-- Another view of what some items hold. -/
theorem Wd.viewU {D : It} (h : Wd B H w) (hk : Pk (rows ++ H1) H) (hDr : D.ro = true) (hD : D.holds w) (hf : ∀ b, D.foot b → ∃ A ∈ rows, A.foot b) : Wd B (D :: H1) w :=
 ((h.roU hk).addRo (.here H1) rfl hDr hD hf).pick (.pick (.here _) ((Pk.refl H1).skip _))
/-- One item out of a group. -/
theorem Wd.unc {A : It} (h : Wd B H w) (hk : Pk (grpB (A :: HS) :: H1) H) (hr : (HS.all fun A => !A.ro) = true) : Wd B (A :: grpB HS :: H1) w :=
 (((h.opn hk).pick (Pk.mid A HS H1)).close (H1 := A :: H1) (HA := HS) (Pk.refl _) hr).pick (.pick (.there _ (.here _)) (.pick (.here _) (Pk.refl _)))
theorem J_map (H' : List It) (h : J P n B c Q l H') (hH : ∀ w, Wd B H w → Wd B H' w) : J P n B c Q l H := fun a w ha hw => h a w ha (hH w hw)
theorem JL_map (H' : List It) (h : JL P n B ops Q rest l H') (hH : ∀ w, Wd B H w → Wd B H' w) : JL P n B ops Q rest l H := fun a w ha hw => h a w ha (hH w hw)
theorem JQ_map {e : Exit} (H' : List It) (h : JQ n B Q e l H') (hH : ∀ w, Wd B H w → Wd B H' w) : JQ n B Q e l H := fun a w ha hw => h a w ha (hH w hw)
end
end Go.Proofs.Ytmcpnoailbmkkaa
/- Operations on bytes; a fact in a drawn region. Over any program. -/
namespace Go.Proofs.Ytmcpnoailbmkkaa
open Go Go.RowKit Go.Proofs Go.Shelf
theorem JD_fact {ord : List Nat} {P : Program} {n : Nat} {B : Bs} {ops : Array Oper} {Q : Exit → Act → World → Prop} {ld : List Nat} {H0 : List It} {lx : List Nat} {Hx : List It} {fuel : Nat} {listed : Array Bool} {l : Sl} {H : List It} (h : (∃ w, Wd B H w) → JD ord P n B ops Q ld H0 lx Hx fuel listed l H) : JD ord P n B ops Q ld H0 lx Hx fuel listed l H := by
 unfold JD at h ⊢; exact JA_fact h
section
variable {P : Program} {n : Nat} {l : Sl} {o : Oper} {x y : Operand} {t ty : TypeId}
theorem pEqlK {k : IntKind} {a b : Int} (ho : o.op = .binOp .eql t x y ty) (hx : evl l x = some (.int k a)) (hy : evl l y = some (.int k b)) : RP P n l o (.bool (decide (a = b))) := rp2 hx hy (fun _ h1 h2 _ => by
 have e : decide (a = b) = (a == b) := by by_cases h : a = b <;> simp [h]
 rw [e]; exact ex_cmpK rfl ho h1 h2 (fun _ => rfl))
theorem pConv8 {s d : TypeId} {a : Int} [us : Und P s (.int .u8)] [ud : Und P d (.int .i64)] (ho : o.op = .convert s d x) (hx : evl l x = some (.int .u8 a)) (ha : U8 a) : RP P n l o (.int .i64 a) := rp1 hx (fun _ h1 _ => ex_conv8 ho h1 ha)
theorem pNeqB {a b : Bool} [u : Und P t .bool] (ho : o.op = .binOp .neq t x y ty) (hx : evl l x = some (.bool a)) (hy : evl l y = some (.bool b)) : RP P n l o (.bool (decide (a ≠ b))) := rp2 hx hy (fun ρ h1 h2 w => by
 have e : decide (a ≠ b) = !(a == b) := by cases a <;> cases b <;> rfl
 rw [e]
 unfold execOp
 simp only [ho, h1, h2]
 have hu := u.h
 go_simp)
theorem pRem8 {a b : Int} (ho : o.op = .binOp .rem t x y ty) (hx : evl l x = some (.int .u8 a)) (hy : evl l y = some (.int .u8 b)) (ha : U8 a) (hb : 0 < b ∧ b ≤ 255) : RP P n l o (.int .u8 (a % b)) := rp2 hx hy (fun ρ h1 h2 w => by
 unfold U8 at ha
 have hb0 : ¬ b = 0 := by omega
 have h3 : a.tmod b = a % b := Int.tmod_eq_emod_of_nonneg ha.1
 unfold execOp
 simp only [ho, h1, h2]
 go_simp)
end
end Go.Proofs.Ytmcpnoailbmkkaa
/- Differences and negatives that may wrap. Over any program. -/
namespace Go.Proofs.Ytmcpnoailbmkkaa
open Go Go.RowKit Go.Proofs Go.Shelf
section
variable {P : Program} {n : Nat} {l : Sl} {o : Oper} {x y : Operand} {t ty : TypeId}
theorem pSubW {a b : Int} (ho : o.op = .binOp .sub t x y ty) (hx : evl l x = some (.int .i64 a)) (hy : evl l y = some (.int .i64 b)) : RP P n l o (.int .i64 (IntKind.i64.wrap (a - b))) := rp2 hx hy (fun ρ h1 h2 w => by
 unfold execOp
 simp only [ho, h1, h2]
 go_simp)
theorem pNegW {a : Int} [u : Und P t (.int .i64)] (ho : o.op = .unOp .neg t x) (hx : evl l x = some (.int .i64 a)) : RP P n l o (.int .i64 (IntKind.i64.wrap (-a))) := rp1 hx (fun ρ h1 w => by
 have hu := u.h
 unfold execOp
 simp only [ho, h1]
 go_simp)
end
end Go.Proofs.Ytmcpnoailbmkkaa
