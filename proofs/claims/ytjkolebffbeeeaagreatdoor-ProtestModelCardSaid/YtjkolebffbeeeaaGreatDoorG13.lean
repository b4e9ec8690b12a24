import Derived.Test.YtjkolebffbeeeaaGreatDoorG12
import Derived.ProofKit
import Derived.OpenShut
import Derived.Deep.Slices
import Derived.Deep.Strs
import Derived.ChangeSame
import Derived.ChangeMaps5
/- Parameters: what their reading gives, and that they are read again as they were. Over any program. -/
namespace Go.Proofs.YtjkolebffbeeeaaGreatDoor
open Go Go.ChangeShapes Go.WideShapes Go.ChangeAt Go.RowKit Go.Deep
section
variable {P : Program} {H : Type} {enc : TypeId × Value → H}
/-- What an element's reading gives, by its cells. -/
def ElC (P : Program) (enc : TypeId × Value → H) (e : TypeId) (R : World → List Value → Prop) : Prop :=
 ∀ (W : World) (n : Nat) (cs : List Value) (y : DataW H × List MemPlace), DataW.trod enc P W 0 (fun _ => true) true n e cs = some y → R W cs ∧ ∀ W' : World, Below W.heap.size W W' → ∀ sp : Nat → Bool, (∀ q ∈ y.2, sp q.block = true) → ∃ m, DataW.trod enc P W' 0 sp true m e cs = some y
theorem elInt {e : TypeId} {k : IntKind} (ht : P.underlying e = some (.int k)) : ElC P enc e (fun _ cs => ∃ x, cs = [.int k x] ∧ (Lit.int k x).wf = true) := fun W n cs y h => by
 obtain ⟨x, rfl, rfl, w⟩ := DataW.trod_int ht h
 exact ⟨⟨x, rfl, w⟩, fun W' _ sp _ => ⟨1, by simp [DataW.trod, ht, w]⟩⟩
theorem elBool {e : TypeId} (ht : P.underlying e = some .bool) : ElC P enc e (fun _ cs => ∃ x, cs = [.bool x]) := fun W n cs y h => by
 obtain ⟨x, rfl, rfl⟩ := DataW.trod_bool ht h
 exact ⟨⟨x, rfl⟩, fun W' _ sp _ => ⟨1, by simp [DataW.trod, ht]⟩⟩
theorem elStr {e : TypeId} (ht : P.underlying e = some .string) : ElC P enc e (fun _ cs => ∃ x : ByteArray, cs = [.string x] ∧ x.size ≤ maxLen) := fun W n cs y h => by
 obtain ⟨x, rfl, rfl, w⟩ := DataW.trod_string ht h
 exact ⟨⟨x, rfl, w⟩, fun W' _ sp _ => ⟨1, by simp [DataW.trod, ht, w]⟩⟩
theorem ElC.imp {e : TypeId} {R R' : World → List Value → Prop} (h : ElC P enc e R) (hr : ∀ W cs, R W cs → R' W cs) : ElC P enc e R' := fun W n cs y hy => ⟨hr _ _ (h W n cs y hy).1, (h W n cs y hy).2⟩
theorem cells_below {W W' : World} (hb : Below W.heap.size W W') {b n : Nat} {a : Addr} {cs : List Value} (h : W.cells? b a n = some cs) (ha : a.block < W.heap.size) : W'.cells? b a n = some cs := by
 have e : ∀ i, W'.cell? (a.add i) = W.cell? (a.add i) := fun i => by
  have hbk : (a.add i).block = a.block := by unfold Addr.add; split <;> rfl
  exact World.cell?_of_block (by rw [hbk]; exact hb.block _ ha)
 unfold World.cells? at h ⊢
 simp only [e]
 exact h
theorem cell_spot {W : World} {a : Addr} {v : Value} (h : W.cell? a = some v) : a.spot = none ∧ a.block < W.heap.size := by
 unfold World.cell? at h
 split at h
 ·rename_i c t fz hh
  split at h
  ·cases h
  ·rename_i hs
   exact ⟨by simpa using hs, (Array.getElem?_eq_some_iff.1 hh).1⟩
 ·cases h
theorem add_mod (a : Addr) (i j : Nat) : (a.add i).add j = a.add (i + j) := by
 unfold Addr.add
 by_cases h1 : i = 0
 ·by_cases h2 : j = 0 <;> simp [h1, h2]
 ·by_cases h2 : j = 0
  ·simp [h1, h2]
  ·simp [h1, h2, Nat.add_assoc]
/-- A slice whose elements are of k cells. -/
theorem elRow {α : Type} {t e k : Nat} {ec : α → List Value} {wf : World → α → Prop} (ht : P.underlying t = some (.slice e)) (hsz : P.cellsOf e = k) (E : Enc k ec) (h0k : 0 < k) (he : ElC P enc e (fun W cs => ∃ x, cs = ec x ∧ wf W x)) :
  ElC P enc t (fun W cs => ∃ p : Dv α, cs = [p.v] ∧ Arr k ec W p.v p.l ∧ p.n = p.l.length ∧ ∀ x ∈ p.l, wf W x) := fun W n cs y h => by
 rcases open_slice ht h with ⟨rfl, rfl⟩ | ⟨a, len, cap, m, n', D, Pl, rfl, hb, hl, hm, hmm, rfl, hi⟩
 ·exact ⟨⟨⟨none, 0, 0, []⟩, rfl, Arr.nil W, rfl, fun _ h => by cases h⟩, fun W' _ sp _ => ⟨1, by simp [DataW.trod, ht]⟩⟩
 ·simp only [if_true] at hmm
  subst hmm
  rw [hsz] at hi
  have each : ∀ i, i < m → ∃ cs', ∃ s : α, W.cells? 0 (a.add (i * k)) k = some cs' ∧ cs' = ec s ∧ wf W s ∧ DataW.trod enc P W 0 (fun _ => true) true n' e cs' = some (D i, Pl i) := by
   intro i hic
   obtain ⟨cs', h3, h4⟩ := hi i hic
   obtain ⟨⟨s, h5, h6⟩, -⟩ := he W n' cs' _ h4
   exact ⟨cs', s, h3, h5, h6, h4⟩
  have each2 : ∀ i, i < m → ∃ s : α, W.cells? 0 (a.add (i * k)) k = some (ec s) ∧ wf W s ∧ DataW.trod enc P W 0 (fun _ => true) true n' e (ec s) = some (D i, Pl i) := fun i hic => by
   obtain ⟨cs', s, h3, rfl, h6, h4⟩ := each i hic
   exact ⟨s, h3, h6, h4⟩
  clear each
  have first : ∀ i, i < m → ∃ v, W.cell? (a.add (i * k)) = some v := by
   intro i hi
   obtain ⟨s, h3, -⟩ := each2 i hi
   have hc := (World.cells?_some h3).2.2 0 h0k
   rw [List.getElem?_eq_getElem (by rw [E.1]; exact h0k)] at hc
   exact ⟨_, by simpa [Addr.add] using hc⟩
  have re : ∀ W' : World, Below W.heap.size W W' → ∀ sp : Nat → Bool, (∀ q ∈ MemPlace.row a (m * P.cellsOf e) ++ (List.range m).flatMap Pl, sp q.block = true) → ∃ f, DataW.trod enc P W' 0 sp true f t [.slice (some a) len m] = some (.slice ((List.range len).map D) ((List.range (m - len)).map fun j => D (len + j)), MemPlace.row a (m * P.cellsOf e) ++ (List.range m).flatMap Pl) := by
   intro W' hb' sp hsp
   rcases Nat.eq_zero_or_pos m with h0 | h0
   ·subst h0
    obtain rfl : len = 0 := by omega
    cases hs : sp a.block with
    | true => exact shut_slice_whole_cells (enc := enc) (w := W') (held := true) (base := 0) (P := P) (a := a) (len := 0) (cap := 0) ht (Nat.zero_le _) (Nat.le_refl _) (Nat.zero_le _) hs D Pl (fun i hi => absurd hi (Nat.not_lt_zero _))
    | false =>
     have := shut_slice_cells (enc := enc) (w := W') (held := true) (base := 0) (P := P) (a := a) (len := 0) (cap := 0) ht (Nat.zero_le _) (Nat.le_refl _) (Nat.zero_le _) hs D Pl (fun i hi => absurd hi (Nat.not_lt_zero _))
     simpa using this
   ·obtain ⟨v0, c0⟩ := first 0 h0
    have hblk := (cell_spot (by simpa [Addr.add] using c0)).2
    have hs : sp a.block = true := hsp (.cell a.block (a.off + 0)) (by
     unfold MemPlace.row
     simp only [List.mem_append, List.mem_map, List.mem_range]
     exact .inl ⟨0, by rw [hsz]; exact Nat.mul_pos h0 h0k, rfl⟩)
    refine shut_slice_whole_cells (enc := enc) (w := W') (held := true) (base := 0) (P := P) (a := a) (len := len) (cap := m) ht (Nat.zero_le _) hl hm hs D Pl (fun i hi => ?_)
    obtain ⟨s, h3, -, h4⟩ := each2 i hi
    obtain ⟨-, hre⟩ := he W n' _ _ h4
    obtain ⟨f, hf⟩ := hre W' hb' sp (fun q hq => hsp q (List.mem_append_right _ (List.mem_flatMap.2 ⟨i, List.mem_range.2 hi, hq⟩)))
    refine ⟨ec s, f, ?_, hf⟩
    rw [hsz]
    refine cells_below hb' h3 ?_
    have : (a.add (i * k)).block = a.block := by unfold Addr.add; split <;> rfl
    rw [this]; exact hblk
  refine ⟨?_, re⟩
  have each3 : ∀ i, i < m → ∃ s : α, W.cells? 0 (a.add (i * k)) k = some (ec s) ∧ wf W s := fun i hic => by
   obtain ⟨s, h3, h4, -⟩ := each2 i hic
   exact ⟨s, h3, h4⟩
  rcases Nat.eq_zero_or_pos len with h0 | h0
  ·subst h0
   exact ⟨⟨some a, 0, m, []⟩, rfl, ⟨some a, m, rfl, Nat.zero_le _, ⟨Nat.zero_le _, hm⟩, fun h => absurd rfl h⟩, rfl, fun _ h => by cases h⟩
  ·obtain ⟨s0, -⟩ := each3 0 (by omega)
   haveI : Inhabited α := ⟨s0⟩
   obtain ⟨S, hS⟩ := choose_lt each3
   obtain ⟨v0, c0⟩ := first 0 (by omega)
   have hsp := (cell_spot (by simpa [Addr.add] using c0)).1
   obtain ⟨b, o, sp⟩ := a
   simp only at hsp
   subst hsp
   refine ⟨⟨some ⟨b, o, none⟩, len, m, (List.range len).map S⟩, rfl, ⟨some ⟨b, o, none⟩, m, by simp, by simpa using hl, ⟨by simp only [List.length_map, List.length_range]; unfold maxLen at hm; omega, hm⟩, fun hne => ⟨b, o, rfl, fun j hj i hi => ?_⟩⟩, by simp, fun x hx => ?_⟩
   ·have hj' : j < len := by simpa using hj
    have hc := (World.cells?_some (hS j (by omega)).1).2.2
    have e : ((List.range len).map S)[j]'hj = S j := by simp
    rw [e, ← hc i hi, add_mod]
    unfold Addr.add
    by_cases h0 : j * k + i = 0
    ·rw [if_pos h0]; have h1 : j * k = 0 := by omega
     have : i = 0 := by omega
     subst this; rw [h1]; rfl
    ·rw [if_neg h0, Nat.add_assoc]
   ·obtain ⟨i, hi, rfl⟩ := List.mem_map.1 hx
    exact (hS i (by have := List.mem_range.1 hi; omega)).2
/-- A struct, by its fields. -/
theorem elStruct {t : TypeId} {fs : Array Field} {Rs : Nat → World → List Value → Prop} (ht : P.underlying t = some (.struct fs)) (hf : ∀ (i : Nat) (f : Field), fs[i]? = some f → ElC P enc f.type (Rs i)) :
  ElC P enc t (fun W cs => cs.length = P.cellsOf t ∧ ∀ (i : Nat) (f : Field), fs[i]? = some f → Rs i W ((cs.drop f.offset).take (P.cellsOf f.type))) := fun W n cs y h => by
 obtain ⟨xs, m, -, rfl, hl, hxl, hx⟩ := DataW.trod_struct ht h
 have hxi : ∀ (i : Nat) (f : Field), fs[i]? = some f → ∃ yi, xs[i]? = some yi := fun i f hi => by
  have hlt : i < fs.size := (Array.getElem?_eq_some_iff.1 hi).1
  exact ⟨_, List.getElem?_eq_getElem (by omega)⟩
 refine ⟨⟨hl, fun i f hi => ?_⟩, fun W' hb sp hsp => ?_⟩
 ·obtain ⟨yi, hyi⟩ := hxi i f hi
  exact (hf i f hi W m _ yi (by rw [hx i f hi, hyi])).1
 ·have hre : ∀ i, i < fs.size → ∃ q, ∀ f, fs[i]? = some f → DataW.trod enc P W' 0 sp true q f.type ((cs.drop f.offset).take (P.cellsOf f.type)) = xs[i]? := fun i hi => by
   have hfi : fs[i]? = some (fs[i]'hi) := Array.getElem?_eq_getElem hi
   obtain ⟨yi, hyi⟩ := hxi i _ hfi
   obtain ⟨q, hq⟩ := (hf i _ hfi W m _ yi (by rw [hx i _ hfi, hyi])).2 W' hb sp (fun q hq => hsp q (List.mem_flatMap.2 ⟨yi, List.mem_of_getElem? hyi, hq⟩))
   exact ⟨q, fun f hf' => by rw [hfi] at hf'; cases hf'; rw [hq, hyi]⟩
  obtain ⟨Q, hQ⟩ : ∃ Q, ∀ i, i < fs.size → ∀ f, fs[i]? = some f → DataW.trod enc P W' 0 sp true Q f.type ((cs.drop f.offset).take (P.cellsOf f.type)) = xs[i]? := by
   have key : ∀ k, k ≤ fs.size → ∃ Q, ∀ i, i < k → ∀ f, fs[i]? = some f → DataW.trod enc P W' 0 sp true Q f.type ((cs.drop f.offset).take (P.cellsOf f.type)) = xs[i]? := by
    intro k
    induction k with
    | zero => exact fun _ => ⟨0, fun i hi => absurd hi (Nat.not_lt_zero _)⟩
    | succ k ih =>
     intro hk
     obtain ⟨Q1, h1⟩ := ih (by omega)
     obtain ⟨q, h2⟩ := hre k (by omega)
     refine ⟨Q1 + q, fun i hi f hf' => ?_⟩
     obtain ⟨yi, hyi⟩ := hxi i f hf'
     rw [hyi]
     by_cases e : i = k
     ·subst e
      exact DataW.trod_le (Nat.le_add_left _ _) (by rw [h2 f hf', hyi])
     ·exact DataW.trod_le (Nat.le_add_right _ _) (by rw [h1 i (by omega) f hf', hyi])
   exact key _ (Nat.le_refl _)
  refine ⟨Q + 1, trod_struct_mk ht hl ?_⟩
  have hmm : ∀ (l : List Field) (zs : List (DataW H × List MemPlace)), l.length = zs.length → (∀ (i : Nat) (f : Field), l[i]? = some f → DataW.trod enc P W' 0 sp true Q f.type ((cs.drop f.offset).take (P.cellsOf f.type)) = zs[i]?) → l.mapM (fun f : Field => DataW.trod enc P W' 0 sp true Q f.type ((cs.drop f.offset).take (P.cellsOf f.type))) = some zs := by
   intro l
   induction l with
   | nil => intro zs hl _; cases zs with | nil => rfl | cons => cases hl
   | cons f l ih =>
    intro zs hl h
    cases zs with
    | nil => cases hl
    | cons z zs =>
     have h0 := h 0 f rfl
     rw [List.mapM_cons, h0]
     rw [ih zs (by simpa using hl) (fun i f hi => h (i + 1) f hi)]
     rfl
  exact hmm _ _ (by rw [Array.length_toList]; exact hxl.symm) (fun i f hi => by
   rw [Array.getElem?_toList] at hi
   exact hQ i (Array.getElem?_eq_some_iff.1 hi).1 f hi)
/-- An array, by its elements. -/
theorem elArr {t e : TypeId} {k : Nat} {R : World → List Value → Prop} (ht : P.underlying t = some (.array k e)) (hr : ElC P enc e R) :
  ElC P enc t (fun W cs => cs.length = P.cellsOf t ∧ ∀ i, i < k → R W ((cs.drop (i * P.cellsOf e)).take (P.cellsOf e))) := fun W n cs y h => by
 obtain ⟨xs, m, -, rfl, hl, hxl, hx⟩ := DataW.trod_array ht h
 have hxi : ∀ i, i < k → ∃ yi, xs[i]? = some yi := fun i hi => ⟨_, List.getElem?_eq_getElem (by omega)⟩
 refine ⟨⟨hl, fun i hi => ?_⟩, fun W' hb sp hsp => ?_⟩
 ·obtain ⟨yi, hyi⟩ := hxi i hi
  exact (hr W m _ yi (by rw [hx i hi, hyi])).1
 ·obtain ⟨Q, hQ⟩ : ∃ Q, ∀ i, i < k → DataW.trod enc P W' 0 sp true Q e ((cs.drop (i * P.cellsOf e)).take (P.cellsOf e)) = xs[i]? := by
   have key : ∀ j, j ≤ k → ∃ Q, ∀ i, i < j → DataW.trod enc P W' 0 sp true Q e ((cs.drop (i * P.cellsOf e)).take (P.cellsOf e)) = xs[i]? := by
    intro j
    induction j with
    | zero => exact fun _ => ⟨0, fun i hi => absurd hi (Nat.not_lt_zero _)⟩
    | succ j ih =>
     intro hj
     obtain ⟨Q1, h1⟩ := ih (by omega)
     obtain ⟨yj, hyj⟩ := hxi j (by omega)
     obtain ⟨q, h2⟩ := (hr W m _ yj (by rw [hx j (by omega), hyj])).2 W' hb sp (fun q hq => hsp q (List.mem_flatMap.2 ⟨yj, List.mem_of_getElem? hyj, hq⟩))
     refine ⟨Q1 + q, fun i hi => ?_⟩
     obtain ⟨yi, hyi⟩ := hxi i (by omega)
     rw [hyi]
     by_cases e' : i = j
     ·subst e'
      rw [hyj] at hyi; cases hyi
      exact DataW.trod_le (Nat.le_add_left _ _) h2
     ·exact DataW.trod_le (Nat.le_add_right _ _) (by rw [h1 i (by omega), hyi])
   exact key _ (Nat.le_refl _)
  refine ⟨Q + 1, ?_⟩
  unfold DataW.trod
  rw [ht]
  have hmm : ∀ (l : List Nat) (zs : List (DataW H × List MemPlace)), l.length = zs.length → (∀ (j i : Nat), l[j]? = some i → DataW.trod enc P W' 0 sp true Q e ((cs.drop (i * P.cellsOf e)).take (P.cellsOf e)) = zs[j]?) → l.mapM (fun i => DataW.trod enc P W' 0 sp true Q e ((cs.drop (i * P.cellsOf e)).take (P.cellsOf e))) = some zs := by
   intro l
   induction l with
   | nil => intro zs hl _; cases zs with | nil => rfl | cons => cases hl
   | cons f l ih =>
    intro zs hl h
    cases zs with
    | nil => cases hl
    | cons z zs =>
     have h0 := h 0 f rfl
     rw [List.mapM_cons, h0]
     rw [ih zs (by simpa using hl) (fun j i hi => h (j + 1) i hi)]
     rfl
  have h2 := hmm (List.range k) xs (by rw [List.length_range]; exact hxl.symm) (fun j i hi => by
   obtain ⟨h3, h4⟩ := List.getElem?_eq_some_iff.1 hi
   rw [List.getElem_range] at h4
   subst h4
   exact hQ j (by simpa using h3))
  simp [hl, h2]
/-- A parameter read, by its cells. -/
theorem ElC.trod {t : TypeId} {R : World → List Value → Prop} (h : ElC P enc t R) {W : World} {v : Value} {d : DataW H} {p : List MemPlace} (hd : DataW.Trod enc P W 0 (fun _ => true) true t v d p) : R W v.cells.toList ∧ ∀ W' : World, Below W.heap.size W W' → ∀ sp : Nat → Bool, (∀ q ∈ p, sp q.block = true) → DataW.Trod enc P W' 0 sp true t v d p := by
 obtain ⟨n, hn⟩ := hd
 obtain ⟨h1, h2⟩ := h W n _ _ hn
 exact ⟨h1, h2⟩
end
end Go.Proofs.YtjkolebffbeeeaaGreatDoor
