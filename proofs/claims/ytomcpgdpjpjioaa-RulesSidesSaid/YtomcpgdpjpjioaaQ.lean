/- A region that draws its order, whose operations only read and whose callees may make memory of their own: one walk, in the order of the text, in whatever world has turned nothing below a block number. Over any program. -/
import Derived.WalkKit
import Derived.BigQuiet
namespace Go.Proofs.Ytomcpgdpjpjioaa
open Go.RowKit

/-- A world in which nothing that w had has turned. -/
structure BW (w : World) where
  to : World
  same : Below w.heap.size w to
instance (w : World) : Nonempty (BW w) := ⟨w, Below.refl _ _⟩
theorem BW.cell {w : World} (X : BW w) (b o : Nat) (h : b < w.heap.size) : X.to.cell? ⟨b, o, none⟩ = w.cell? ⟨b, o, none⟩ := X.same.cell (p := ⟨b, o, none⟩) h
theorem BW.size {w : World} (X : BW w) : w.heap.size ≤ X.to.heap.size := X.same.size

theorem wp_region_quietB {P : Program} {id : Nat} {Q : Exit → Act → World → Prop} {a : Act} {w : World} {l : List Oper} (hm : P.follows .mixedOrders = true) (hB : Region.lexB .any l.toArray = true)
    (h : wpQuiet P l.toArray (fun w' => ∃ X : BW w, w' = X.to) (fun a' => ∀ w', (∃ X : BW w, w' = X.to) → Q .normal a' w') l a) : (Code.region id l.toArray true).wp P Q a w :=
  wp_region_quiet (C := fun w' => ∃ X : BW w, w' = X.to) hm hB ⟨⟨w.drew, (Below.refl _ _).drew⟩, rfl⟩ (by simpa using h)

/-- A callee's contract, met in such a world. -/
theorem quietB {P : Program} {f : FuncId} {args : Array Value} {w : World} {X : BW w} {v : Value} (h : Calls P f args X.to fun e w' => e = .returned v ∧ Below X.to.heap.size X.to w') :
    Calls P f args X.to fun e w'' => e = .returned v ∧ ∃ Y : BW w, w'' = Y.to :=
  h.mono fun _ w'' ⟨he, hb⟩ => ⟨he, ⟨⟨w'', X.same.trans (hb.mono X.same.size)⟩, rfl⟩⟩
theorem quietS {P : Program} {f : FuncId} {args : Array Value} {w : World} {X : BW w} {v : Value} (h : Calls P f args X.to fun e w' => e = .returned v ∧ X.to = w') :
    Calls P f args X.to fun e w'' => e = .returned v ∧ ∃ Y : BW w, w'' = Y.to :=
  h.mono fun _ _ ⟨he, hb⟩ => ⟨he, ⟨X, hb.symm⟩⟩
end Go.Proofs.Ytomcpgdpjpjioaa
