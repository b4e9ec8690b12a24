/- A set of pairs as a map of booleans that the call has made. -/
import Derived.Test.YtomcpgdpjpjioaaG
import Derived.Maps.Own
import Derived.Maps.OwnSet
import Derived.Maps.Views
import Derived.DeepKeys4
namespace Go.Proofs.Ytomcpgdpjpjioaa
open Go.RowKit Go.Proofs Go.Shelf

theorem laidOut : laidOutB Try.prog = true := by kernel_rfl
theorem row93 : (87 : TypeId) < Try.prog.types.size := of_decide_eq_true (by kernel_rfl)
theorem law93 : Go.Maps.Keyed Try.prog 87 := Go.Maps.Keyed.of_law (deep_law_laid laidOut (m := 2) (by omega) row93 (by kernel_rfl) (by kernel_rfl))
theorem cells93 : Try.prog.cellsOf 87 = 2 := by kernel_rfl
theorem zero4 (w : World) : (zeroValue 4).run Try.prog w = .ok (.bool false) w := by kernel_rfl
abbrev Ky (x y : Int) : Value := .agg #[.int .i64 x, .int .i64 y]
def W64 (x : Int) : Prop := -9223372036854775808 ≤ x ∧ x ≤ 9223372036854775807
theorem wf64 {x : Int} (h : W64 x) : (Lit.int .i64 x).wf = true := by
  unfold W64 at h
  simp [Lit.wf, IntKind.min, IntKind.max, IntKind.signed, IntKind.bits]; omega
theorem key93 {x y : Int} (hx : W64 x) (hy : W64 y) : ∃ kl, keyOf Try.prog 87 (Ky x y) = some kl := by
  have h1 := wf64 hx
  have h2 := wf64 hy
  have hk : Try.prog.keyType 87 = true := by kernel_rfl
  have hf : (Ky x y).formed Try.prog 87 = true := by simp [Value.formed, Try.underlying87, cells93]
  have hc3 : Try.prog.cellsOf 3 = 1 := by kernel_rfl
  have hn : ∃ n, Try.prog.types.size = n + 1 := ⟨154, by kernel_rfl⟩
  obtain ⟨n, hn⟩ := hn
  unfold keyOf
  rw [Try.underlying87]
  simp only [hk, hf, hn, Bool.and_self, if_true]
  refine ⟨.string (keyBytes [.int .i64 x, .int .i64 y]), ?_⟩
  rw [Option.map_eq_some_iff]
  refine ⟨[.int .i64 x, .int .i64 y], ?_, rfl⟩
  simp [Program.keyLits, Try.underlying87, Try.underlying3, cells93, hc3, h1, h2, Value.cells]

/-- Block b of w is a map of booleans that says true of the pairs S, and of no others. -/
def SetM (w : World) (b : Nat) (S : List (Int × Int)) : Prop :=
  ∃ D : DataW Unit, w.ownsMap Try.prog 87 (plainElem Try.prog 4) b S.length D ∧ ∀ x y kl, W64 x → W64 y → keyOf Try.prog 87 (Ky x y) = some kl → D.atKey kl (.lit (.bool false)) = .lit (.bool (decide ((x, y) ∈ S)))
theorem SetM.made (w : World) : SetM (w.alloc (.map #[] 0)) w.heap.size [] :=
  ⟨_, World.ownsMap_made w _ _ _, fun x y kl _ _ _ => by simp [DataW.atKey]⟩
theorem SetM.kept {w w' : World} {b : Nat} {S : List (Int × Int)} {row : Option Nat} (h : SetM w b S) (hg : w.grownBy w' row) (hne : some b ≠ row) : SetM w' b S := by
  obtain ⟨D, h1, h2⟩ := h
  exact ⟨D, h1.kept hg hne, h2⟩
theorem SetM.alloc {w : World} {b : Nat} {S : List (Int × Int)} (h : SetM w b S) (o : Obj) : SetM (w.alloc o) b S := h.kept (World.grownBy_alloc w o none) (by simp)
theorem SetM.lt {w : World} {b : Nat} {S : List (Int × Int)} (h : SetM w b S) : b < w.heap.size := by
  obtain ⟨D, h1, -⟩ := h; exact h1.lt
theorem SetM.up {w w' : World} {b : Nat} {S : List (Int × Int)} (h : SetM w b S) (hb : Below w.heap.size w w') : SetM w' b S := by
  have hlt := h.lt
  obtain ⟨D, ⟨es, clock, h1, h2⟩, h3⟩ := h
  exact ⟨D, ⟨es, clock, (hb.block b hlt).trans h1, h2⟩, h3⟩
theorem SetM.look {w : World} {b : Nat} {S : List (Int × Int)} (h : SetM w b S) {x y : Int} (hx : W64 x) (hy : W64 y) : (Instr.lookup 85 (.map (some b)) (Ky x y) false).run Try.prog w = .ok (.bool (decide ((x, y) ∈ S))) w := by
  obtain ⟨D, h1, h2⟩ := h
  obtain ⟨kl, hk⟩ := key93 hx hy
  obtain ⟨v, ps, hrun, hv⟩ := h1.lookup law93 Try.underlying85 (zero4 w) (plainElem_bool Try.underlying4 false) hk
  rw [h2 x y kl hx hy hk] at hv
  rw [hrun]
  have hinv : ∀ v : Value, plainElem (H := Unit) Try.prog 4 v = some (.lit (.bool (decide ((x, y) ∈ S))), ps) → v = .bool (decide ((x, y) ∈ S)) := by
    intro v hv
    obtain ⟨r, hr⟩ : ∃ r, decide ((x, y) ∈ S) = r := ⟨_, rfl⟩
    rw [hr] at hv ⊢
    cases v <;> simp [plainElem, Try.underlying4] at hv
    rw [hv.1]
  rw [hinv v hv]
theorem SetM.put {w : World} {b : Nat} {S : List (Int × Int)} (h : SetM w b S) {x y : Int} (hx : W64 x) (hy : W64 y) (hS : S.length < 1000) :
    ∃ w', (Instr.mapUpdate 85 (.map (some b)) (Ky x y) (.bool true)).run Try.prog w = .ok () w' ∧ SetM w' b ((x, y) :: S) ∧ w.grownBy w' (some b) := by
  obtain ⟨D, h1, h2⟩ := h
  obtain ⟨kl, hk⟩ := key93 hx hy
  obtain ⟨w', hrun, ho, hg⟩ := h1.update law93 Try.underlying85 (by unfold maxLen; omega) hk (plainElem_bool Try.underlying4 true)
  refine ⟨w', hrun, ⟨_, ho, fun x' y' kl' hx' hy' hk' => ?_⟩, hg⟩
  by_cases e : kl' = kl
  · subst e
    have e2 := law93.inj hk hk'
    have e3 : x = x' ∧ y = y' := by simpa only [Ky, Value.agg.injEq, Array.mk.injEq, List.cons.injEq, Value.int.injEq, true_and, and_true] using e2
    obtain ⟨rfl, rfl⟩ := e3
    rw [Go.Maps.atKey_put_same h1.isMap (law93.key hk)]
    simp
  · rw [Go.Maps.atKey_put_other e, h2 x' y' kl' hx' hy' hk']
    have hne : ¬ (x', y') = (x, y) := by
      intro h; injection h with h3 h4; subst h3 h4
      rw [hk] at hk'; injection hk' with hk'; exact e hk'.symm
    simp [hne]
end Go.Proofs.Ytomcpgdpjpjioaa
