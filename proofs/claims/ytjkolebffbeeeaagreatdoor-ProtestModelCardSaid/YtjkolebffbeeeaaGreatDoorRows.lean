/-
  NARROWER THAN 'FOR EVERY INPUT', by the rows' own cells (each row's printed sentence says how): ProtestProofs: laid · ProtestModel: laid · ProtestSound: laid · ProtestOrder: laid · ProtestBooks: laid · ProtestHolds: laid · ProtestOwns: laid.
  DERIVED. THE GIVEN ROWS OF THIS SEAT. 7 by the template 'for every input the law returns true; each argument reads behind the call as it read before'; 0 by the template 'total and deterministic' (their statements: YtjkolebffbeeeaaGreatDoorTotals.lean).
  GIVEN WITH THE SEED: the statements are not yours to turn. If you find one false, say at which input.
  Laid BY PROGRAM, IN A SANDBOX (cutbox-rows.mjs): the forced cells as the released guide's own fill.sh prints them over the translation 3e20b153a06372df… (all of the seat's roots in one cut). By AI agents, Wed Nov 11 2026. No macro, syntax, notation, axiom, sorry.
-/
import Derived.Test.YtjkolebffbeeeaaGreatDoorChecked
import GoSem.PinnedTables
import GoSem.Claim
import GoSem.ClaimJoined
import GoSem.ClaimMapViews
import Derived.JoinedTies
import Derived.KernelRfl
namespace Go.Proofs.YtjkolebffbeeeaaGreatDoor
/- THE CELL 'sum', in the pinned program and in every row, IS THE sha256 OF THE DUMP (.gsa) THAT YtjkolebffbeeeaaGreatDoorProg.lean LOADS. Nothing in Lean hashes anything: it is a label: what it is worth is what the hold of that sum in a sandbox is worth. -/
noncomputable def Tryz.pinned : Pinned := { name := "ytjkolebffbeeeaagreatdoor", sum := "3e20b153a06372dfe0b5cab1536f3339530e45161961ec009d23acf8240900fb", checked := Tryz.checked }
namespace Rows
def none {H : Type} : Left H := { results := [], args := [] }

/- WHAT THE LISTED PACKAGE-LEVEL VARIABLES READ AS WHEN THE CALL BEGINS. Each datum BY PROGRAM (the guide's laid-datum.mjs) off the statement by which the dump's own 'gosem.cut.vars' lays the variable. In a bare row this is a premise. The card (YtjkolebffbeeeaaGreatDoorCards.lean) ties it to the program's text. -/
def laid_unicode_utf8_acceptRanges {H : Type} : DataW H := .agg [.agg [.lit (.int .u8 128), .lit (.int .u8 191)], .agg [.lit (.int .u8 160), .lit (.int .u8 191)], .agg [.lit (.int .u8 128), .lit (.int .u8 159)], .agg [.lit (.int .u8 144), .lit (.int .u8 191)], .agg [.lit (.int .u8 128), .lit (.int .u8 143)], .agg [.lit (.int .u8 0), .lit (.int .u8 0)], .agg [.lit (.int .u8 0), .lit (.int .u8 0)], .agg [.lit (.int .u8 0), .lit (.int .u8 0)], .agg [.lit (.int .u8 0), .lit (.int .u8 0)], .agg [.lit (.int .u8 0), .lit (.int .u8 0)], .agg [.lit (.int .u8 0), .lit (.int .u8 0)], .agg [.lit (.int .u8 0), .lit (.int .u8 0)], .agg [.lit (.int .u8 0), .lit (.int .u8 0)], .agg [.lit (.int .u8 0), .lit (.int .u8 0)], .agg [.lit (.int .u8 0), .lit (.int .u8 0)], .agg [.lit (.int .u8 0), .lit (.int .u8 0)]]
/-- One of Go's own tables, pinned by name: the form's constant. -/
def laid_unicode_utf8_first : DataW Unit := Go.Pinned.utf8First

/-- 'besomlaw09.ProtestProofs': WHATEVER THE INPUT: true; the input reads as it did. -/
def protestProofsSpec : ChangeSpec := { name := "protestProofs", fn := fun _ => fun
  | [d1, d2, d3, d4, d5] => { results := [.lit (.bool true)], args := [d1, d2, d3, d4, d5] }
  | _ => none }
def protestProofsRow : OpenClaim := { program := "ytjkolebffbeeeaagreatdoor", sum := "3e20b153a06372dfe0b5cab1536f3339530e45161961ec009d23acf8240900fb", func := "besom/besomlaw09.ProtestProofs", spec := "protestProofs", inPlace := ["internal/bytealg.IndexByteString", "internal/bytealg.IndexString", "maps.clone", "internal/abi.NoEscape", "internal/bytealg.MakeNoZero"], unfollowed := true, recurses := true, named := ["unicode/utf8.first", "unicode/utf8.acceptRanges", "internal/bytealg.MaxLen"], apart := false, laid := [("unicode/utf8.acceptRanges", laid_unicode_utf8_acceptRanges), ("unicode/utf8.first", laid_unicode_utf8_first)] }
def ProtestProofsSaid : Prop := protestProofsRow.holds Tryz.pinned (OpenSpec.ofChange protestProofsSpec)

/-- ITS FALSE NEIGHBOUR: 'it returns false'. Refute it at one input. -/
def protestProofsWrong : ChangeSpec := { name := "protestProofs", fn := fun _ => fun
  | [d1, d2, d3, d4, d5] => { results := [.lit (.bool false)], args := [d1, d2, d3, d4, d5] }
  | _ => none }
def ProtestProofsWrongFalsely : Prop := protestProofsRow.holds Tryz.pinned (OpenSpec.ofChange protestProofsWrong)

/-- 'besomlaw09.ProtestModel': WHATEVER THE INPUT: true; the input reads as it did. -/
def protestModelSpec : ChangeSpec := { name := "protestModel", fn := fun _ => fun
  | [d1, d2, d3, d4, d5] => { results := [.lit (.bool true)], args := [d1, d2, d3, d4, d5] }
  | _ => none }
def protestModelRow : OpenClaim := { program := "ytjkolebffbeeeaagreatdoor", sum := "3e20b153a06372dfe0b5cab1536f3339530e45161961ec009d23acf8240900fb", func := "besom/besomlaw09.ProtestModel", spec := "protestModel", inPlace := ["internal/bytealg.IndexByteString", "internal/bytealg.IndexString", "maps.clone", "internal/abi.NoEscape", "internal/bytealg.MakeNoZero"], unfollowed := true, recurses := true, named := ["unicode/utf8.first", "unicode/utf8.acceptRanges", "internal/bytealg.MaxLen"], apart := false, laid := [("unicode/utf8.acceptRanges", laid_unicode_utf8_acceptRanges), ("unicode/utf8.first", laid_unicode_utf8_first)] }
def ProtestModelSaid : Prop := protestModelRow.holds Tryz.pinned (OpenSpec.ofChange protestModelSpec)

/-- ITS FALSE NEIGHBOUR: 'it returns false'. Refute it at one input. -/
def protestModelWrong : ChangeSpec := { name := "protestModel", fn := fun _ => fun
  | [d1, d2, d3, d4, d5] => { results := [.lit (.bool false)], args := [d1, d2, d3, d4, d5] }
  | _ => none }
def ProtestModelWrongFalsely : Prop := protestModelRow.holds Tryz.pinned (OpenSpec.ofChange protestModelWrong)

/-- 'besomlaw09.ProtestSound': WHATEVER THE INPUT: true; the input reads as it did. -/
def protestSoundSpec : ChangeSpec := { name := "protestSound", fn := fun _ => fun
  | [d1, d2, d3, d4, d5] => { results := [.lit (.bool true)], args := [d1, d2, d3, d4, d5] }
  | _ => none }
def protestSoundRow : OpenClaim := { program := "ytjkolebffbeeeaagreatdoor", sum := "3e20b153a06372dfe0b5cab1536f3339530e45161961ec009d23acf8240900fb", func := "besom/besomlaw09.ProtestSound", spec := "protestSound", inPlace := ["internal/bytealg.IndexByteString", "internal/bytealg.IndexString", "maps.clone", "internal/abi.NoEscape", "internal/bytealg.MakeNoZero"], unfollowed := true, recurses := true, named := ["unicode/utf8.first", "unicode/utf8.acceptRanges", "internal/bytealg.MaxLen"], apart := false, laid := [("unicode/utf8.acceptRanges", laid_unicode_utf8_acceptRanges), ("unicode/utf8.first", laid_unicode_utf8_first)] }
def ProtestSoundSaid : Prop := protestSoundRow.holds Tryz.pinned (OpenSpec.ofChange protestSoundSpec)

/-- ITS FALSE NEIGHBOUR: 'it returns false'. Refute it at one input. -/
def protestSoundWrong : ChangeSpec := { name := "protestSound", fn := fun _ => fun
  | [d1, d2, d3, d4, d5] => { results := [.lit (.bool false)], args := [d1, d2, d3, d4, d5] }
  | _ => none }
def ProtestSoundWrongFalsely : Prop := protestSoundRow.holds Tryz.pinned (OpenSpec.ofChange protestSoundWrong)

/-- 'besomlaw09.ProtestOrder': WHATEVER THE INPUT: true; the input reads as it did. -/
def protestOrderSpec : ChangeSpec := { name := "protestOrder", fn := fun _ => fun
  | [d1, d2, d3, d4] => { results := [.lit (.bool true)], args := [d1, d2, d3, d4] }
  | _ => none }
def protestOrderRow : OpenClaim := { program := "ytjkolebffbeeeaagreatdoor", sum := "3e20b153a06372dfe0b5cab1536f3339530e45161961ec009d23acf8240900fb", func := "besom/besomlaw09.ProtestOrder", spec := "protestOrder", inPlace := ["internal/bytealg.IndexByteString", "internal/bytealg.IndexString", "maps.clone", "internal/abi.NoEscape", "internal/bytealg.MakeNoZero"], unfollowed := true, recurses := true, named := ["unicode/utf8.first", "unicode/utf8.acceptRanges", "internal/bytealg.MaxLen"], apart := false, laid := [("unicode/utf8.acceptRanges", laid_unicode_utf8_acceptRanges), ("unicode/utf8.first", laid_unicode_utf8_first)] }
def ProtestOrderSaid : Prop := protestOrderRow.holds Tryz.pinned (OpenSpec.ofChange protestOrderSpec)

/-- ITS FALSE NEIGHBOUR: 'it returns false'. Refute it at one input. -/
def protestOrderWrong : ChangeSpec := { name := "protestOrder", fn := fun _ => fun
  | [d1, d2, d3, d4] => { results := [.lit (.bool false)], args := [d1, d2, d3, d4] }
  | _ => none }
def ProtestOrderWrongFalsely : Prop := protestOrderRow.holds Tryz.pinned (OpenSpec.ofChange protestOrderWrong)

/-- 'besomlaw09.ProtestBooks': WHATEVER THE INPUT: true; the input reads as it did. -/
def protestBooksSpec : ChangeSpec := { name := "protestBooks", fn := fun _ => fun
  | [d1, d2, d3] => { results := [.lit (.bool true)], args := [d1, d2, d3] }
  | _ => none }
def protestBooksRow : OpenClaim := { program := "ytjkolebffbeeeaagreatdoor", sum := "3e20b153a06372dfe0b5cab1536f3339530e45161961ec009d23acf8240900fb", func := "besom/besomlaw09.ProtestBooks", spec := "protestBooks", inPlace := ["internal/bytealg.IndexByteString", "internal/bytealg.IndexString", "maps.clone", "internal/abi.NoEscape", "internal/bytealg.MakeNoZero"], unfollowed := true, recurses := true, named := ["unicode/utf8.first", "unicode/utf8.acceptRanges", "internal/bytealg.MaxLen"], apart := false, laid := [("unicode/utf8.acceptRanges", laid_unicode_utf8_acceptRanges), ("unicode/utf8.first", laid_unicode_utf8_first)] }
def ProtestBooksSaid : Prop := protestBooksRow.holds Tryz.pinned (OpenSpec.ofChange protestBooksSpec)

/-- ITS FALSE NEIGHBOUR: 'it returns false'. Refute it at one input. -/
def protestBooksWrong : ChangeSpec := { name := "protestBooks", fn := fun _ => fun
  | [d1, d2, d3] => { results := [.lit (.bool false)], args := [d1, d2, d3] }
  | _ => none }
def ProtestBooksWrongFalsely : Prop := protestBooksRow.holds Tryz.pinned (OpenSpec.ofChange protestBooksWrong)

/-- 'besomlaw09.ProtestHolds': WHATEVER THE INPUT: true; the input reads as it did. -/
def protestHoldsSpec : ChangeSpec := { name := "protestHolds", fn := fun _ => fun
  | [d1, d2, d3, d4] => { results := [.lit (.bool true)], args := [d1, d2, d3, d4] }
  | _ => none }
def protestHoldsRow : OpenClaim := { program := "ytjkolebffbeeeaagreatdoor", sum := "3e20b153a06372dfe0b5cab1536f3339530e45161961ec009d23acf8240900fb", func := "besom/besomlaw09.ProtestHolds", spec := "protestHolds", inPlace := ["internal/bytealg.IndexByteString", "internal/bytealg.IndexString", "maps.clone", "internal/abi.NoEscape", "internal/bytealg.MakeNoZero"], unfollowed := true, recurses := true, named := ["unicode/utf8.first", "unicode/utf8.acceptRanges", "internal/bytealg.MaxLen"], apart := false, laid := [("unicode/utf8.acceptRanges", laid_unicode_utf8_acceptRanges), ("unicode/utf8.first", laid_unicode_utf8_first)] }
def ProtestHoldsSaid : Prop := protestHoldsRow.holds Tryz.pinned (OpenSpec.ofChange protestHoldsSpec)

/-- ITS FALSE NEIGHBOUR: 'it returns false'. Refute it at one input. -/
def protestHoldsWrong : ChangeSpec := { name := "protestHolds", fn := fun _ => fun
  | [d1, d2, d3, d4] => { results := [.lit (.bool false)], args := [d1, d2, d3, d4] }
  | _ => none }
def ProtestHoldsWrongFalsely : Prop := protestHoldsRow.holds Tryz.pinned (OpenSpec.ofChange protestHoldsWrong)

/-- 'besomlaw09.ProtestOwns': WHATEVER THE INPUT: true; the input reads as it did. -/
def protestOwnsSpec : ChangeSpec := { name := "protestOwns", fn := fun _ => fun
  | [d1, d2, d3, d4] => { results := [.lit (.bool true)], args := [d1, d2, d3, d4] }
  | _ => none }
def protestOwnsRow : OpenClaim := { program := "ytjkolebffbeeeaagreatdoor", sum := "3e20b153a06372dfe0b5cab1536f3339530e45161961ec009d23acf8240900fb", func := "besom/besomlaw09.ProtestOwns", spec := "protestOwns", inPlace := ["internal/bytealg.IndexByteString", "internal/bytealg.IndexString", "maps.clone", "internal/abi.NoEscape", "internal/bytealg.MakeNoZero"], unfollowed := true, recurses := true, named := ["unicode/utf8.first", "unicode/utf8.acceptRanges", "internal/bytealg.MaxLen"], apart := false, laid := [("unicode/utf8.acceptRanges", laid_unicode_utf8_acceptRanges), ("unicode/utf8.first", laid_unicode_utf8_first)] }
def ProtestOwnsSaid : Prop := protestOwnsRow.holds Tryz.pinned (OpenSpec.ofChange protestOwnsSpec)

/-- ITS FALSE NEIGHBOUR: 'it returns false'. Refute it at one input. -/
def protestOwnsWrong : ChangeSpec := { name := "protestOwns", fn := fun _ => fun
  | [d1, d2, d3, d4] => { results := [.lit (.bool false)], args := [d1, d2, d3, d4] }
  | _ => none }
def ProtestOwnsWrongFalsely : Prop := protestOwnsRow.holds Tryz.pinned (OpenSpec.ofChange protestOwnsWrong)

/- THE SECOND FORM. 'bulk': how many values and letters a reading holds, each counted each time it is reached (what is shared counts as often as it is met; a slice's spare places count too). A statement '..UptoSaid' is the law's where the arguments, and the package variables that the reading takes, are together of bulk at most 1048576: NARROWER than '..Said'. Prove '..Said' where nothing that the law and all that it calls make is longer than what came in: it says more and counts as full. Else prove '..UptoSaid'. A law counts once. -/
mutual
def uptoBulk {H : Type} : DataW H → Nat
  | .lit (.string bytes) => bytes.length + 1
  | .lit _ => 1
  | .nil => 1
  | .ptr d => uptoBulk d + 1
  | .slice elems spare => uptoBulkAll elems + uptoBulkAll spare + 1
  | .agg parts => uptoBulkAll parts + 1
  | .iface _ d => uptoBulk d + 1
  | .map entries => uptoBulkEntries entries + 1
  | .held _ => 1
def uptoBulkAll {H : Type} : List (DataW H) → Nat
  | [] => 0
  | d :: r => uptoBulk d + uptoBulkAll r
def uptoBulkEntries {H : Type} : List (Lit × DataW H) → Nat
  | [] => 0
  | x :: r => uptoBulkEntry x + uptoBulkEntries r
def uptoBulkEntry {H : Type} : Lit × DataW H → Nat
  | (.string bytes, d) => bytes.length + uptoBulk d + 1
  | (_, d) => uptoBulk d + 1
 end
def uptoSmall : (H : Type) → List (DataW H) → Bool := fun _ ds => decide (uptoBulkAll ds ≤ 1048576)
def OpenSpec.upto (s : _root_.Go.ChangeSpec) : _root_.Go.OpenSpec := { _root_.Go.OpenSpec.ofChange s with cond := some uptoSmall }

/-- 'besomlaw09.ProtestProofs', WHERE WHAT IT READS IS OF BULK AT MOST 1048576: true; the input reads as it did. -/
def protestProofsUptoRow : OpenClaim := { program := "ytjkolebffbeeeaagreatdoor", sum := "3e20b153a06372dfe0b5cab1536f3339530e45161961ec009d23acf8240900fb", func := "besom/besomlaw09.ProtestProofs", spec := "protestProofs", inPlace := ["internal/bytealg.IndexByteString", "internal/bytealg.IndexString", "maps.clone", "internal/abi.NoEscape", "internal/bytealg.MakeNoZero"], unfollowed := true, recurses := true, named := ["unicode/utf8.first", "unicode/utf8.acceptRanges", "internal/bytealg.MaxLen"], apart := false, laid := [("unicode/utf8.acceptRanges", laid_unicode_utf8_acceptRanges), ("unicode/utf8.first", laid_unicode_utf8_first)], narrowed := true }
def ProtestProofsUptoSaid : Prop := protestProofsUptoRow.holds Tryz.pinned (OpenSpec.upto protestProofsSpec)

/-- 'besomlaw09.ProtestModel', WHERE WHAT IT READS IS OF BULK AT MOST 1048576: true; the input reads as it did. -/
def protestModelUptoRow : OpenClaim := { program := "ytjkolebffbeeeaagreatdoor", sum := "3e20b153a06372dfe0b5cab1536f3339530e45161961ec009d23acf8240900fb", func := "besom/besomlaw09.ProtestModel", spec := "protestModel", inPlace := ["internal/bytealg.IndexByteString", "internal/bytealg.IndexString", "maps.clone", "internal/abi.NoEscape", "internal/bytealg.MakeNoZero"], unfollowed := true, recurses := true, named := ["unicode/utf8.first", "unicode/utf8.acceptRanges", "internal/bytealg.MaxLen"], apart := false, laid := [("unicode/utf8.acceptRanges", laid_unicode_utf8_acceptRanges), ("unicode/utf8.first", laid_unicode_utf8_first)], narrowed := true }
def ProtestModelUptoSaid : Prop := protestModelUptoRow.holds Tryz.pinned (OpenSpec.upto protestModelSpec)

/-- 'besomlaw09.ProtestSound', WHERE WHAT IT READS IS OF BULK AT MOST 1048576: true; the input reads as it did. -/
def protestSoundUptoRow : OpenClaim := { program := "ytjkolebffbeeeaagreatdoor", sum := "3e20b153a06372dfe0b5cab1536f3339530e45161961ec009d23acf8240900fb", func := "besom/besomlaw09.ProtestSound", spec := "protestSound", inPlace := ["internal/bytealg.IndexByteString", "internal/bytealg.IndexString", "maps.clone", "internal/abi.NoEscape", "internal/bytealg.MakeNoZero"], unfollowed := true, recurses := true, named := ["unicode/utf8.first", "unicode/utf8.acceptRanges", "internal/bytealg.MaxLen"], apart := false, laid := [("unicode/utf8.acceptRanges", laid_unicode_utf8_acceptRanges), ("unicode/utf8.first", laid_unicode_utf8_first)], narrowed := true }
def ProtestSoundUptoSaid : Prop := protestSoundUptoRow.holds Tryz.pinned (OpenSpec.upto protestSoundSpec)

/-- 'besomlaw09.ProtestOrder', WHERE WHAT IT READS IS OF BULK AT MOST 1048576: true; the input reads as it did. -/
def protestOrderUptoRow : OpenClaim := { program := "ytjkolebffbeeeaagreatdoor", sum := "3e20b153a06372dfe0b5cab1536f3339530e45161961ec009d23acf8240900fb", func := "besom/besomlaw09.ProtestOrder", spec := "protestOrder", inPlace := ["internal/bytealg.IndexByteString", "internal/bytealg.IndexString", "maps.clone", "internal/abi.NoEscape", "internal/bytealg.MakeNoZero"], unfollowed := true, recurses := true, named := ["unicode/utf8.first", "unicode/utf8.acceptRanges", "internal/bytealg.MaxLen"], apart := false, laid := [("unicode/utf8.acceptRanges", laid_unicode_utf8_acceptRanges), ("unicode/utf8.first", laid_unicode_utf8_first)], narrowed := true }
def ProtestOrderUptoSaid : Prop := protestOrderUptoRow.holds Tryz.pinned (OpenSpec.upto protestOrderSpec)

/-- 'besomlaw09.ProtestBooks', WHERE WHAT IT READS IS OF BULK AT MOST 1048576: true; the input reads as it did. -/
def protestBooksUptoRow : OpenClaim := { program := "ytjkolebffbeeeaagreatdoor", sum := "3e20b153a06372dfe0b5cab1536f3339530e45161961ec009d23acf8240900fb", func := "besom/besomlaw09.ProtestBooks", spec := "protestBooks", inPlace := ["internal/bytealg.IndexByteString", "internal/bytealg.IndexString", "maps.clone", "internal/abi.NoEscape", "internal/bytealg.MakeNoZero"], unfollowed := true, recurses := true, named := ["unicode/utf8.first", "unicode/utf8.acceptRanges", "internal/bytealg.MaxLen"], apart := false, laid := [("unicode/utf8.acceptRanges", laid_unicode_utf8_acceptRanges), ("unicode/utf8.first", laid_unicode_utf8_first)], narrowed := true }
def ProtestBooksUptoSaid : Prop := protestBooksUptoRow.holds Tryz.pinned (OpenSpec.upto protestBooksSpec)

/-- 'besomlaw09.ProtestHolds', WHERE WHAT IT READS IS OF BULK AT MOST 1048576: true; the input reads as it did. -/
def protestHoldsUptoRow : OpenClaim := { program := "ytjkolebffbeeeaagreatdoor", sum := "3e20b153a06372dfe0b5cab1536f3339530e45161961ec009d23acf8240900fb", func := "besom/besomlaw09.ProtestHolds", spec := "protestHolds", inPlace := ["internal/bytealg.IndexByteString", "internal/bytealg.IndexString", "maps.clone", "internal/abi.NoEscape", "internal/bytealg.MakeNoZero"], unfollowed := true, recurses := true, named := ["unicode/utf8.first", "unicode/utf8.acceptRanges", "internal/bytealg.MaxLen"], apart := false, laid := [("unicode/utf8.acceptRanges", laid_unicode_utf8_acceptRanges), ("unicode/utf8.first", laid_unicode_utf8_first)], narrowed := true }
def ProtestHoldsUptoSaid : Prop := protestHoldsUptoRow.holds Tryz.pinned (OpenSpec.upto protestHoldsSpec)

/-- 'besomlaw09.ProtestOwns', WHERE WHAT IT READS IS OF BULK AT MOST 1048576: true; the input reads as it did. -/
def protestOwnsUptoRow : OpenClaim := { program := "ytjkolebffbeeeaagreatdoor", sum := "3e20b153a06372dfe0b5cab1536f3339530e45161961ec009d23acf8240900fb", func := "besom/besomlaw09.ProtestOwns", spec := "protestOwns", inPlace := ["internal/bytealg.IndexByteString", "internal/bytealg.IndexString", "maps.clone", "internal/abi.NoEscape", "internal/bytealg.MakeNoZero"], unfollowed := true, recurses := true, named := ["unicode/utf8.first", "unicode/utf8.acceptRanges", "internal/bytealg.MaxLen"], apart := false, laid := [("unicode/utf8.acceptRanges", laid_unicode_utf8_acceptRanges), ("unicode/utf8.first", laid_unicode_utf8_first)], narrowed := true }
def ProtestOwnsUptoSaid : Prop := protestOwnsUptoRow.holds Tryz.pinned (OpenSpec.upto protestOwnsSpec)

end Rows
end Go.Proofs.YtjkolebffbeeeaaGreatDoor
