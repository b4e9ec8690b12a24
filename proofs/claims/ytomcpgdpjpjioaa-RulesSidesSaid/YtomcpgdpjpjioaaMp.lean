/- A map that the call has made, by what it says of each key. -/
import Derived.Test.YtomcpgdpjpjioaaCc
namespace Go.Proofs.Ytomcpgdpjpjioaa
open Go.RowKit Go.Proofs Go.Shelf

abbrev Rd := Value → Option (DataW Unit × List MemPlace)
/-- Block b is a map of at most n entries, with keys of type kt, that says m. -/
def MapA (kt : TypeId) (R : Rd) (w : World) (b n : Nat) (m : Lit → Option (DataW Unit)) : Prop :=
  ∃ D, w.ownsMap Try.prog kt R b n D ∧ ∀ kl, Maps.has D kl = (m kl).isSome ∧ ∀ z, D.atKey kl z = (m kl).getD z
open Classical in
/-- One entry more. -/
noncomputable def upd (m : Lit → Option (DataW Unit)) (k : Lit) (d : DataW Unit) : Lit → Option (DataW Unit) := fun x => if x = k then some d else m x
variable {kt t e : TypeId} {R : Rd} {w : World} {b n : Nat} {m : Lit → Option (DataW Unit)}
theorem MapA.made (kt : TypeId) (R : Rd) (w : World) : MapA kt R (w.alloc (.map #[] 0)) w.heap.size 0 (fun _ => none) :=
  ⟨_, World.ownsMap_made w _ _ _, fun kl => ⟨by simp [Maps.has_eq], fun z => by simp [DataW.atKey]⟩⟩
theorem MapA.lt (h : MapA kt R w b n m) : b < w.heap.size := by obtain ⟨D, h1, -⟩ := h; exact h1.lt
theorem MapA.up {w' : World} (h : MapA kt R w b n m) (hb : Below w.heap.size w w') : MapA kt R w' b n m := by
  have hlt := h.lt
  obtain ⟨D, ⟨es, clock, h1, h2⟩, h3⟩ := h
  exact ⟨D, ⟨es, clock, (hb.block b hlt).trans h1, h2⟩, h3⟩
theorem MapA.put (h : MapA kt R w b n m) (K : Maps.Keyed Try.prog kt) (ht : Try.prog.underlying t = some (.map kt e)) (hn : n < 1000) {key val : Value} {kl : Lit} {d : DataW Unit} {ps : List MemPlace}
    (hkey : keyOf Try.prog kt key = some kl) (hv : R val = some (d, ps)) : ∃ w', (Instr.mapUpdate t (.map (some b)) key val).run Try.prog w = .ok () w' ∧ MapA kt R w' b (n + 1) (upd m kl d) ∧ w.grownBy w' (some b) := by
  obtain ⟨D, h1, h2⟩ := h
  obtain ⟨w', hrun, ho, hg⟩ := h1.update K ht (by unfold maxLen; omega) hkey hv
  refine ⟨w', hrun, ⟨_, ho, fun x => ?_⟩, hg⟩
  by_cases e : x = kl
  · subst e
    have hu : upd m x d x = some d := by unfold upd; rw [if_pos rfl]
    rw [hu]
    exact ⟨Maps.has_put_same h1.isMap (K.key hkey) d, fun z => Maps.atKey_put_same h1.isMap (K.key hkey) d z⟩
  · have hu : upd m kl d x = m x := by unfold upd; rw [if_neg e]
    rw [hu]
    exact ⟨(Maps.has_put_other e d).trans (h2 x).1, fun z => (Maps.atKey_put_other e d z).trans ((h2 x).2 z)⟩
theorem MapA.look (h : MapA kt R w b n m) (K : Maps.Keyed Try.prog kt) (ht : Try.prog.underlying t = some (.map kt e)) {z : Value} (hz : (zeroValue e).run Try.prog w = .ok z w) {zd : DataW Unit} {zp : List MemPlace} (hzd : R z = some (zd, zp))
    {key : Value} {kl : Lit} (hkey : keyOf Try.prog kt key = some kl) : ∃ v ps, (Instr.lookup t (.map (some b)) key true).run Try.prog w = .ok (.tuple #[v, .bool (m kl).isSome]) w ∧ R v = some ((m kl).getD zd, ps) := by
  obtain ⟨D, h1, h2⟩ := h
  obtain ⟨v, ps, hrun, hv⟩ := h1.look_ok K ht hz hzd hkey
  rw [(h2 kl).1] at hrun
  rw [(h2 kl).2] at hv
  exact ⟨v, ps, hrun, hv⟩
end Go.Proofs.Ytomcpgdpjpjioaa
