/-
  DERIVED. GIVEN WITH THE SEED: THE CARDS: each row of YtmcpnoailbmkkaaGreatDoorRows.lean that lists a variable, with what it lists TIED to the program's text (the seventh form; the later family's looks); each row that meets fmt, with fmt's text TOLD by the authors' own Lean function (tested against real Go, not proved from fmt's source: count such statements apart). THE CARD IS WHAT COUNTS. Prove the row's statement (the work); the ties are given (YtmcpnoailbmkkaaGreatDoorTie.lean); close each card by the builder's one call (the guide's Derived/Test/ToyasCard.lean, 'card_holds'). Laid BY PROGRAM, IN A SANDBOX (cutbox-door.mjs). By AI agents, Wed Nov 11 2026. No macro, syntax, notation, axiom, sorry.
-/
import Derived.Test.YtmcpnoailbmkkaaGreatDoorRows
import GoSem.ClaimSeven
namespace Go.Proofs.YtmcpnoailbmkkaaGreatDoor
namespace Rows

/-- THE TIED CARD OF 'besomtop.TopBook'. -/
def topBookCard : Claim7 := { stood := { row := topBookRow, standIns := [], harness := (true, "01a6e9cc42d30ba285d552cc0c65452d9d1bae528441ee3f86be5c353d2fc1a0"), looks := true }, kinds := [], alts := [], laidByText := true, laidKinds := [.data, .pinned], laidTests := true, laidLooks := .later }
def TopBookCardSaid : Prop := Claim7.holds Tryz.pinned (.plain (OpenSpec.ofChange topBookSpec)) topBookCard

/-- THE TIED CARD OF 'besomtop.TopGame'. -/
def topGameCard : Claim7 := { stood := { row := topGameRow, standIns := [], harness := (true, "01a6e9cc42d30ba285d552cc0c65452d9d1bae528441ee3f86be5c353d2fc1a0"), looks := true }, kinds := [], alts := [], laidByText := true, laidKinds := [.data, .data, .data, .data, .sentinel, .sentinel, .pinned], laidTests := true, laidLooks := .later }
def TopGameCardSaid : Prop := Claim7.holds Tryz.pinned (.plain (OpenSpec.ofChange topGameSpec)) topGameCard

/-- THE SECOND FORM's CARD OF 'besomtop.TopBook'. -/
def topBookUptoCard : Claim7 := { stood := { row := topBookUptoRow, standIns := [], harness := (true, "01a6e9cc42d30ba285d552cc0c65452d9d1bae528441ee3f86be5c353d2fc1a0"), looks := true }, kinds := [], alts := [], laidByText := true, laidKinds := [.data, .pinned], laidTests := true, laidLooks := .later }
def TopBookUptoCardSaid : Prop := Claim7.holds Tryz.pinned (.plain (OpenSpec.upto topBookSpec)) topBookUptoCard

/-- THE SECOND FORM's CARD OF 'besomtop.TopGame'. -/
def topGameUptoCard : Claim7 := { stood := { row := topGameUptoRow, standIns := [], harness := (true, "01a6e9cc42d30ba285d552cc0c65452d9d1bae528441ee3f86be5c353d2fc1a0"), looks := true }, kinds := [], alts := [], laidByText := true, laidKinds := [.data, .data, .data, .data, .sentinel, .sentinel, .pinned], laidTests := true, laidLooks := .later }
def TopGameUptoCardSaid : Prop := Claim7.holds Tryz.pinned (.plain (OpenSpec.upto topGameSpec)) topGameUptoCard
end Rows
end Go.Proofs.YtmcpnoailbmkkaaGreatDoor
