/-
  DERIVED. GIVEN WITH THE SEED: THE CARDS: each row of YthkhhjfldkebcaaGreatDoorRows.lean that lists a variable, with what it lists TIED to the program's text (the seventh form; the later family's looks); each row that meets fmt, with fmt's text TOLD by the authors' own Lean function (tested against real Go, not proved from fmt's source: count such statements apart). THE CARD IS WHAT COUNTS. Prove the row's statement (the work); the ties are given (YthkhhjfldkebcaaGreatDoorTie.lean); close each card by the builder's one call (the guide's Derived/Test/ToyasCard.lean, 'card_holds'). Laid BY PROGRAM, IN A SANDBOX (cutbox-door.mjs). By AI agents, Wed Nov 11 2026. No macro, syntax, notation, axiom, sorry.
-/
import Derived.Test.YthkhhjfldkebcaaGreatDoorRows
import GoSem.ClaimSeven
namespace Go.Proofs.YthkhhjfldkebcaaGreatDoor
namespace Rows

/-- THE TIED CARD OF 'besomlaw01.FixedExact'. -/
def fixedExactCard : Claim7 := { stood := { row := fixedExactRow, standIns := [], harness := (true, "aaee6345bc3636d7a808a2c42f7e3ea95f135f7297615416709c9aa01595aed7"), looks := true }, kinds := [], alts := [], laidByText := true, laidKinds := [.data, .data, .data, .data, .sentinel, .sentinel, .pinned], laidTests := true, laidLooks := .later }
def FixedExactCardSaid : Prop := Claim7.holds Tryz.pinned (.plain (OpenSpec.ofChange fixedExactSpec)) fixedExactCard

/-- THE TIED CARD OF 'besomlaw01.FixedRootBack'. -/
def fixedRootBackCard : Claim7 := { stood := { row := fixedRootBackRow, standIns := [], harness := (true, "aaee6345bc3636d7a808a2c42f7e3ea95f135f7297615416709c9aa01595aed7"), looks := true }, kinds := [], alts := [], laidByText := true, laidKinds := [.data, .data, .data, .data, .sentinel, .sentinel, .pinned], laidTests := true, laidLooks := .later }
def FixedRootBackCardSaid : Prop := Claim7.holds Tryz.pinned (.plain (OpenSpec.ofChange fixedRootBackSpec)) fixedRootBackCard

/-- THE TIED CARD OF 'besomlaw01.FixedSums'. -/
def fixedSumsCard : Claim7 := { stood := { row := fixedSumsRow, standIns := [], harness := (true, "aaee6345bc3636d7a808a2c42f7e3ea95f135f7297615416709c9aa01595aed7"), looks := true }, kinds := [], alts := [], laidByText := true, laidKinds := [.data, .data, .data, .data, .sentinel, .sentinel, .pinned], laidTests := true, laidLooks := .later }
def FixedSumsCardSaid : Prop := Claim7.holds Tryz.pinned (.plain (OpenSpec.ofChange fixedSumsSpec)) fixedSumsCard

/-- THE TIED CARD OF 'besomlaw01.FixedUnits'. -/
def fixedUnitsCard : Claim7 := { stood := { row := fixedUnitsRow, standIns := [], harness := (true, "aaee6345bc3636d7a808a2c42f7e3ea95f135f7297615416709c9aa01595aed7"), looks := true }, kinds := [], alts := [], laidByText := true, laidKinds := [.data, .data, .data, .data, .sentinel, .sentinel, .pinned], laidTests := true, laidLooks := .later }
def FixedUnitsCardSaid : Prop := Claim7.holds Tryz.pinned (.plain (OpenSpec.ofChange fixedUnitsSpec)) fixedUnitsCard

/-- THE TIED CARD OF 'besomlaw01.FixedRounds'. -/
def fixedRoundsCard : Claim7 := { stood := { row := fixedRoundsRow, standIns := [], harness := (true, "aaee6345bc3636d7a808a2c42f7e3ea95f135f7297615416709c9aa01595aed7"), looks := true }, kinds := [], alts := [], laidByText := true, laidKinds := [.data, .data, .data, .data, .sentinel, .sentinel, .pinned], laidTests := true, laidLooks := .later }
def FixedRoundsCardSaid : Prop := Claim7.holds Tryz.pinned (.plain (OpenSpec.ofChange fixedRoundsSpec)) fixedRoundsCard

/-- THE TIED CARD OF 'besomlaw01.FixedLengths'. -/
def fixedLengthsCard : Claim7 := { stood := { row := fixedLengthsRow, standIns := [], harness := (true, "aaee6345bc3636d7a808a2c42f7e3ea95f135f7297615416709c9aa01595aed7"), looks := true }, kinds := [], alts := [], laidByText := true, laidKinds := [.data, .data, .data, .data, .sentinel, .sentinel, .pinned], laidTests := true, laidLooks := .later }
def FixedLengthsCardSaid : Prop := Claim7.holds Tryz.pinned (.plain (OpenSpec.ofChange fixedLengthsSpec)) fixedLengthsCard

/-- THE TIED CARD OF 'besomlaw01.FixedTriangle'. -/
def fixedTriangleCard : Claim7 := { stood := { row := fixedTriangleRow, standIns := [], harness := (true, "aaee6345bc3636d7a808a2c42f7e3ea95f135f7297615416709c9aa01595aed7"), looks := true }, kinds := [], alts := [], laidByText := true, laidKinds := [.data, .data, .data, .data, .sentinel, .sentinel, .pinned], laidTests := true, laidLooks := .later }
def FixedTriangleCardSaid : Prop := Claim7.holds Tryz.pinned (.plain (OpenSpec.ofChange fixedTriangleSpec)) fixedTriangleCard

/-- THE TIED CARD OF 'besomlaw01.FixedTexts'. -/
def fixedTextsCard : Claim7 := { stood := { row := fixedTextsRow, standIns := [], harness := (true, "aaee6345bc3636d7a808a2c42f7e3ea95f135f7297615416709c9aa01595aed7"), looks := true }, kinds := [], alts := [], laidByText := true, laidKinds := [.data, .data, .data, .data, .sentinel, .sentinel, .pinned], laidTests := true, laidLooks := .later }
def FixedTextsCardSaid : Prop := Claim7.holds Tryz.pinned (.plain (OpenSpec.ofChange fixedTextsSpec)) fixedTextsCard

/-- THE TIED CARD OF 'besomlaw01.FixedBack'. -/
def fixedBackCard : Claim7 := { stood := { row := fixedBackRow, standIns := [], harness := (true, "aaee6345bc3636d7a808a2c42f7e3ea95f135f7297615416709c9aa01595aed7"), looks := true }, kinds := [], alts := [], laidByText := true, laidKinds := [.data, .data, .data, .data, .sentinel, .sentinel, .pinned], laidTests := true, laidLooks := .later }
def FixedBackCardSaid : Prop := Claim7.holds Tryz.pinned (.plain (OpenSpec.ofChange fixedBackSpec)) fixedBackCard

/-- THE TIED CARD OF 'besomlaw01.FixedNames'. -/
def fixedNamesCard : Claim7 := { stood := { row := fixedNamesRow, standIns := [], harness := (true, "aaee6345bc3636d7a808a2c42f7e3ea95f135f7297615416709c9aa01595aed7"), looks := true }, kinds := [], alts := [], laidByText := true, laidKinds := [.data, .data, .data, .data, .sentinel, .sentinel, .pinned], laidTests := true, laidLooks := .later }
def FixedNamesCardSaid : Prop := Claim7.holds Tryz.pinned (.plain (OpenSpec.ofChange fixedNamesSpec)) fixedNamesCard

/-- THE SECOND FORM's CARD OF 'besomlaw01.FixedExact'. -/
def fixedExactUptoCard : Claim7 := { stood := { row := fixedExactUptoRow, standIns := [], harness := (true, "aaee6345bc3636d7a808a2c42f7e3ea95f135f7297615416709c9aa01595aed7"), looks := true }, kinds := [], alts := [], laidByText := true, laidKinds := [.data, .data, .data, .data, .sentinel, .sentinel, .pinned], laidTests := true, laidLooks := .later }
def FixedExactUptoCardSaid : Prop := Claim7.holds Tryz.pinned (.plain (OpenSpec.upto fixedExactSpec)) fixedExactUptoCard

/-- THE SECOND FORM's CARD OF 'besomlaw01.FixedRootBack'. -/
def fixedRootBackUptoCard : Claim7 := { stood := { row := fixedRootBackUptoRow, standIns := [], harness := (true, "aaee6345bc3636d7a808a2c42f7e3ea95f135f7297615416709c9aa01595aed7"), looks := true }, kinds := [], alts := [], laidByText := true, laidKinds := [.data, .data, .data, .data, .sentinel, .sentinel, .pinned], laidTests := true, laidLooks := .later }
def FixedRootBackUptoCardSaid : Prop := Claim7.holds Tryz.pinned (.plain (OpenSpec.upto fixedRootBackSpec)) fixedRootBackUptoCard

/-- THE SECOND FORM's CARD OF 'besomlaw01.FixedSums'. -/
def fixedSumsUptoCard : Claim7 := { stood := { row := fixedSumsUptoRow, standIns := [], harness := (true, "aaee6345bc3636d7a808a2c42f7e3ea95f135f7297615416709c9aa01595aed7"), looks := true }, kinds := [], alts := [], laidByText := true, laidKinds := [.data, .data, .data, .data, .sentinel, .sentinel, .pinned], laidTests := true, laidLooks := .later }
def FixedSumsUptoCardSaid : Prop := Claim7.holds Tryz.pinned (.plain (OpenSpec.upto fixedSumsSpec)) fixedSumsUptoCard

/-- THE SECOND FORM's CARD OF 'besomlaw01.FixedUnits'. -/
def fixedUnitsUptoCard : Claim7 := { stood := { row := fixedUnitsUptoRow, standIns := [], harness := (true, "aaee6345bc3636d7a808a2c42f7e3ea95f135f7297615416709c9aa01595aed7"), looks := true }, kinds := [], alts := [], laidByText := true, laidKinds := [.data, .data, .data, .data, .sentinel, .sentinel, .pinned], laidTests := true, laidLooks := .later }
def FixedUnitsUptoCardSaid : Prop := Claim7.holds Tryz.pinned (.plain (OpenSpec.upto fixedUnitsSpec)) fixedUnitsUptoCard

/-- THE SECOND FORM's CARD OF 'besomlaw01.FixedRounds'. -/
def fixedRoundsUptoCard : Claim7 := { stood := { row := fixedRoundsUptoRow, standIns := [], harness := (true, "aaee6345bc3636d7a808a2c42f7e3ea95f135f7297615416709c9aa01595aed7"), looks := true }, kinds := [], alts := [], laidByText := true, laidKinds := [.data, .data, .data, .data, .sentinel, .sentinel, .pinned], laidTests := true, laidLooks := .later }
def FixedRoundsUptoCardSaid : Prop := Claim7.holds Tryz.pinned (.plain (OpenSpec.upto fixedRoundsSpec)) fixedRoundsUptoCard

/-- THE SECOND FORM's CARD OF 'besomlaw01.FixedLengths'. -/
def fixedLengthsUptoCard : Claim7 := { stood := { row := fixedLengthsUptoRow, standIns := [], harness := (true, "aaee6345bc3636d7a808a2c42f7e3ea95f135f7297615416709c9aa01595aed7"), looks := true }, kinds := [], alts := [], laidByText := true, laidKinds := [.data, .data, .data, .data, .sentinel, .sentinel, .pinned], laidTests := true, laidLooks := .later }
def FixedLengthsUptoCardSaid : Prop := Claim7.holds Tryz.pinned (.plain (OpenSpec.upto fixedLengthsSpec)) fixedLengthsUptoCard

/-- THE SECOND FORM's CARD OF 'besomlaw01.FixedTriangle'. -/
def fixedTriangleUptoCard : Claim7 := { stood := { row := fixedTriangleUptoRow, standIns := [], harness := (true, "aaee6345bc3636d7a808a2c42f7e3ea95f135f7297615416709c9aa01595aed7"), looks := true }, kinds := [], alts := [], laidByText := true, laidKinds := [.data, .data, .data, .data, .sentinel, .sentinel, .pinned], laidTests := true, laidLooks := .later }
def FixedTriangleUptoCardSaid : Prop := Claim7.holds Tryz.pinned (.plain (OpenSpec.upto fixedTriangleSpec)) fixedTriangleUptoCard

/-- THE SECOND FORM's CARD OF 'besomlaw01.FixedTexts'. -/
def fixedTextsUptoCard : Claim7 := { stood := { row := fixedTextsUptoRow, standIns := [], harness := (true, "aaee6345bc3636d7a808a2c42f7e3ea95f135f7297615416709c9aa01595aed7"), looks := true }, kinds := [], alts := [], laidByText := true, laidKinds := [.data, .data, .data, .data, .sentinel, .sentinel, .pinned], laidTests := true, laidLooks := .later }
def FixedTextsUptoCardSaid : Prop := Claim7.holds Tryz.pinned (.plain (OpenSpec.upto fixedTextsSpec)) fixedTextsUptoCard

/-- THE SECOND FORM's CARD OF 'besomlaw01.FixedBack'. -/
def fixedBackUptoCard : Claim7 := { stood := { row := fixedBackUptoRow, standIns := [], harness := (true, "aaee6345bc3636d7a808a2c42f7e3ea95f135f7297615416709c9aa01595aed7"), looks := true }, kinds := [], alts := [], laidByText := true, laidKinds := [.data, .data, .data, .data, .sentinel, .sentinel, .pinned], laidTests := true, laidLooks := .later }
def FixedBackUptoCardSaid : Prop := Claim7.holds Tryz.pinned (.plain (OpenSpec.upto fixedBackSpec)) fixedBackUptoCard

/-- THE SECOND FORM's CARD OF 'besomlaw01.FixedNames'. -/
def fixedNamesUptoCard : Claim7 := { stood := { row := fixedNamesUptoRow, standIns := [], harness := (true, "aaee6345bc3636d7a808a2c42f7e3ea95f135f7297615416709c9aa01595aed7"), looks := true }, kinds := [], alts := [], laidByText := true, laidKinds := [.data, .data, .data, .data, .sentinel, .sentinel, .pinned], laidTests := true, laidLooks := .later }
def FixedNamesUptoCardSaid : Prop := Claim7.holds Tryz.pinned (.plain (OpenSpec.upto fixedNamesSpec)) fixedNamesUptoCard
end Rows
end Go.Proofs.YthkhhjfldkebcaaGreatDoor
