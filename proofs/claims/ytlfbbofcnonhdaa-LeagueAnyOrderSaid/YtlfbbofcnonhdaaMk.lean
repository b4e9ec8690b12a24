/- Maps that the call has made, by what they say of each key; keys: ints, pairs of ints (arrays, structs); elements: ints, booleans. -/
import Derived.Test.YtlfbbofcnonhdaaA
import Derived.Maps.Own
import Derived.Maps.OwnSet
import Derived.Maps.Views
import Derived.DeepKeys4
namespace Go.Proofs.Ytlfbbofcnonhdaa
open Go.RowKit Go.Proofs Go.Shelf

theorem laidOut : laidOutB Try.prog = true := by kernel_rfl
def W64 (x : Int) : Prop := -9223372036854775808 ≤ x ∧ x ≤ 9223372036854775807
theorem wf64 {x : Int} (h : W64 x) : (Lit.int .i64 x).wf = true := by
 unfold W64 at h
 simp [Lit.wf, IntKind.min, IntKind.max, IntKind.signed, IntKind.bits]; omega
def W2 (x : Int × Int) : Prop := W64 x.1 ∧ W64 x.2
structure KeyL {α : Type} (kt : TypeId) (kv : α → Value) (ok : α → Prop) : Prop where
 law : Maps.Keyed Try.prog kt
 key : ∀ x, ok x → ∃ kl, keyOf Try.prog kt (kv x) = some kl
 inj : ∀ x y, kv x = kv y → x = y
structure ElL {β : Type} (e : TypeId) (ev : β → Value) (ed : β → DataW Unit) (z : β) (okE : β → Prop) : Prop where
 zero : ∀ w, (zeroValue e).run Try.prog w = .ok (ev z) w
 okz : okE z
 rd : ∀ x, okE x → plainElem Try.prog e (ev x) = some (ed x, [])
 inv : ∀ v x ps, plainElem Try.prog e v = some (ed x, ps) → v = ev x
section
variable {α β : Type} {kt e t : TypeId} {kv : α → Value} {ok : α → Prop} {ev : β → Value} {ed : β → DataW Unit} {z : β} {okE : β → Prop}
def MapF (kt e : TypeId) (kv : α → Value) (ok : α → Prop) (ed : β → DataW Unit) (w : World) (b n c : Nat) (m : α → Option β) : Prop :=
 ∃ D, w.ownsMap Try.prog kt (plainElem Try.prog e) b n D ∧ Maps.size D = c ∧ ∀ x kl, ok x → keyOf Try.prog kt (kv x) = some kl → Maps.has D kl = (m x).isSome ∧ ∀ u, D.atKey kl u = match m x with | some v => ed v | none => u
def upd [DecidableEq α] (m : α → Option β) (x : α) (v : β) : α → Option β := fun y => if y = x then some v else m y
theorem MapF.made (w : World) : MapF kt e kv ok ed (w.alloc (.map #[] 0)) w.heap.size 0 0 (fun _ => none) :=
 ⟨_, World.ownsMap_made w _ _ _, rfl, fun x kl _ _ => ⟨by simp [Maps.has_eq], fun u => by simp [DataW.atKey]⟩⟩
variable {w : World} {b n c : Nat} {m : α → Option β}
theorem MapF.lt (h : MapF kt e kv ok ed w b n c m) : b < w.heap.size := by obtain ⟨D, h1, -⟩ := h; exact h1.lt
theorem MapF.cn (h : MapF kt e kv ok ed w b n c m) : c ≤ n := by obtain ⟨D, h1, h2, -⟩ := h; rw [← h2]; exact h1.size_le
theorem MapF.heap {w' : World} (h : MapF kt e kv ok ed w b n c m) (hb : w'.heap[b]? = w.heap[b]?) : MapF kt e kv ok ed w' b n c m := by
 obtain ⟨D, ⟨es, clock, h1, h2⟩, h3⟩ := h
 exact ⟨D, ⟨es, clock, hb.trans h1, h2⟩, h3⟩
theorem MapF.up {w' : World} (h : MapF kt e kv ok ed w b n c m) (hb : Below w.heap.size w w') : MapF kt e kv ok ed w' b n c m := h.heap (hb.block b h.lt)
theorem MapF.kept {w' : World} {row : Option Nat} (h : MapF kt e kv ok ed w b n c m) (hg : w.grownBy w' row) (hne : some b ≠ row) : MapF kt e kv ok ed w' b n c m := h.heap (hg.block b h.lt hne)
theorem MapF.le {n' : Nat} (h : MapF kt e kv ok ed w b n c m) (hn : n ≤ n') : MapF kt e kv ok ed w b n' c m := by
 obtain ⟨D, h1, h2⟩ := h; exact ⟨D, h1.mono hn, h2⟩
theorem MapF.put [DecidableEq α] (K : KeyL kt kv ok) (E : ElL e ev ed z okE) (ht : Try.prog.underlying t = some (.map kt e)) (h : MapF kt e kv ok ed w b n c m) (hn : n < 1000000) {x : α} (hx : ok x) {v : β} (hv : okE v) :
  ∃ w', (Instr.mapUpdate t (.map (some b)) (kv x) (ev v)).run Try.prog w = .ok () w' ∧ MapF kt e kv ok ed w' b (n + 1) (if (m x).isSome then c else c + 1) (upd m x v) ∧ w.grownBy w' (some b) := by
 obtain ⟨D, h1, h0, h2⟩ := h
 obtain ⟨kl, hk⟩ := K.key x hx
 obtain ⟨w', hrun, ho, hg⟩ := h1.update K.law ht (by unfold maxLen; omega) hk (E.rd v hv)
 refine ⟨w', hrun, ⟨_, ho, ?_, fun y kl' hy hk' => ?_⟩, hg⟩
 ·rw [Maps.size_put (h1.tidy K.law), (h2 x kl hx hk).1, h0]
 ·by_cases e1 : kl' = kl
  ·subst e1
   have e2 := K.inj _ _ (K.law.inj hk' hk)
   subst e2
   have hu : upd m y v y = some v := by unfold upd; rw [if_pos rfl]
   rw [hu]
   exact ⟨Maps.has_put_same h1.isMap (K.law.key hk) _, fun u => Maps.atKey_put_same h1.isMap (K.law.key hk) _ u⟩
  ·have hne : y ≠ x := by intro e2; subst e2; rw [hk] at hk'; injection hk' with hk'; exact e1 hk'.symm
   have hu : upd m x v y = m y := by unfold upd; rw [if_neg hne]
   rw [hu]
   exact ⟨(Maps.has_put_other e1 _).trans (h2 y kl' hy hk').1, fun u => (Maps.atKey_put_other e1 _ u).trans ((h2 y kl' hy hk').2 u)⟩
theorem MapF.look (K : KeyL kt kv ok) (E : ElL e ev ed z okE) (ht : Try.prog.underlying t = some (.map kt e)) (h : MapF kt e kv ok ed w b n c m) {x : α} (hx : ok x) :
  (Instr.lookup t (.map (some b)) (kv x) false).run Try.prog w = .ok (ev ((m x).getD z)) w := by
 obtain ⟨D, h1, h0, h2⟩ := h
 obtain ⟨kl, hk⟩ := K.key x hx
 obtain ⟨v, ps, hrun, hv⟩ := h1.lookup K.law ht (E.zero w) (E.rd z E.okz) hk
 rw [(h2 x kl hx hk).2] at hv
 rw [hrun]
 have : v = ev ((m x).getD z) := by
  cases hm : m x with
  | none => rw [hm] at hv; exact E.inv _ _ _ hv
  | some y => rw [hm] at hv; exact E.inv _ _ _ hv
 rw [this]
theorem MapF.look2 (K : KeyL kt kv ok) (E : ElL e ev ed z okE) (ht : Try.prog.underlying t = some (.map kt e)) (h : MapF kt e kv ok ed w b n c m) {x : α} (hx : ok x) :
  (Instr.lookup t (.map (some b)) (kv x) true).run Try.prog w = .ok (.tuple #[ev ((m x).getD z), .bool (m x).isSome]) w := by
 obtain ⟨D, h1, h0, h2⟩ := h
 obtain ⟨kl, hk⟩ := K.key x hx
 obtain ⟨v, ps, hrun, hv⟩ := h1.look_ok K.law ht (E.zero w) (E.rd z E.okz) hk
 rw [(h2 x kl hx hk).1] at hrun
 rw [(h2 x kl hx hk).2] at hv
 rw [hrun]
 have : v = ev ((m x).getD z) := by
  cases hm : m x with
  | none => rw [hm] at hv; exact E.inv _ _ _ hv
  | some y => rw [hm] at hv; exact E.inv _ _ _ hv
 rw [this]
theorem MapF.len (ht : Try.prog.underlying t = some (.map kt e)) (h : MapF kt e kv ok ed w b n c m) (ty : TypeId) : (Builtin.len_ #[t] ty #[.map (some b)]).run Try.prog w = .ok (.int .i64 (c : Nat)) w := by
 obtain ⟨D, h1, h0, h2⟩ := h
 rw [← h0]; exact h1.len ht ty
end
/-! The keys. -/
theorem row42 : (42 : TypeId) < Try.prog.types.size := of_decide_eq_true (by kernel_rfl)
theorem row89 : (89 : TypeId) < Try.prog.types.size := of_decide_eq_true (by kernel_rfl)
theorem cells42 : Try.prog.cellsOf 42 = 2 := by kernel_rfl
theorem cells89 : Try.prog.cellsOf 89 = 2 := by kernel_rfl
theorem cells3 : Try.prog.cellsOf 3 = 1 := by kernel_rfl
def kP (x : Int × Int) : Value := Pv x.1 x.2
theorem kP_inj (x y : Int × Int) (h : kP x = kP y) : x = y := by
 obtain ⟨a, b⟩ := x; obtain ⟨c, d⟩ := y
 simpa [kP] using h
theorem K42 : KeyL 42 kP W2 where
 law := Go.Maps.Keyed.of_law (deep_law_laid laidOut (m := 2) (by omega) row42 (by kernel_rfl) (by kernel_rfl))
 key := fun ⟨x, y⟩ ⟨hx, hy⟩ => by
  have h1 := wf64 hx
  have h2 := wf64 hy
  have hk : Try.prog.keyType 42 = true := by kernel_rfl
  have hf : (kP (x, y)).formed Try.prog 42 = true := by simp [kP, Value.formed, Try.underlying42, cells42]
  obtain ⟨n, hn⟩ : ∃ n, Try.prog.types.size = n + 1 := ⟨171, by kernel_rfl⟩
  unfold keyOf
  rw [Try.underlying42]
  simp only [hk, hf, hn, Bool.and_self, if_true]
  refine ⟨.string (keyBytes [.int .i64 x, .int .i64 y]), ?_⟩
  rw [Option.map_eq_some_iff]
  refine ⟨[.int .i64 x, .int .i64 y], ?_, rfl⟩
  simp [kP, Program.keyLits, Try.underlying42, Try.underlying3, cells42, cells3, h1, h2, Value.cells, List.range, List.range.loop]
 inj := kP_inj
theorem K89 : KeyL 89 kP W2 where
 law := Go.Maps.Keyed.of_law (deep_law_laid laidOut (m := 2) (by omega) row89 (by kernel_rfl) (by kernel_rfl))
 key := fun ⟨x, y⟩ ⟨hx, hy⟩ => by
  have h1 := wf64 hx
  have h2 := wf64 hy
  have hk : Try.prog.keyType 89 = true := by kernel_rfl
  have hf : (kP (x, y)).formed Try.prog 89 = true := by simp [kP, Value.formed, Try.underlying89, cells89]
  obtain ⟨n, hn⟩ : ∃ n, Try.prog.types.size = n + 1 := ⟨171, by kernel_rfl⟩
  unfold keyOf
  rw [Try.underlying89]
  simp only [hk, hf, hn, Bool.and_self, if_true]
  refine ⟨.string (keyBytes [.int .i64 x, .int .i64 y]), ?_⟩
  rw [Option.map_eq_some_iff]
  refine ⟨[.int .i64 x, .int .i64 y], ?_, rfl⟩
  simp [kP, Program.keyLits, Try.underlying89, Try.underlying3, cells89, cells3, h1, h2, Value.cells]
 inj := kP_inj
def kI (x : Int) : Value := .int .i64 x
theorem K3 : KeyL 3 kI W64 where
 law := Maps.int_keyed Try.underlying3
 key := fun x hx => ⟨_, Maps.keyOf_int_mk Try.underlying3 (wf64 hx)⟩
 inj := fun x y h => by simpa [kI] using h
/-! The elements. -/
def dI (x : Int) : DataW Unit := .lit (.int .i64 x)
def dB (x : Bool) : DataW Unit := .lit (.bool x)
def kB (x : Bool) : Value := .bool x
theorem E3 : ElL 3 kI dI 0 W64 where
 zero := fun w => by kernel_rfl
 okz := by unfold W64; omega
 rd := fun x hx => plainElem_int Try.underlying3 (wf64 hx)
 inv := fun v x ps h => by
  cases v <;> simp [plainElem, Try.underlying3, dI] at h
  unfold kI
  obtain ⟨⟨rfl, -⟩, rfl, -⟩ := h
  rfl
theorem E4 : ElL 4 kB dB false (fun _ => True) where
 zero := fun w => by kernel_rfl
 okz := trivial
 rd := fun x _ => plainElem_bool Try.underlying4 x
 inv := fun v x ps h => by
  cases v <;> simp [plainElem, Try.underlying4, dB] at h
  rw [h.1]; rfl
end Go.Proofs.Ytlfbbofcnonhdaa
