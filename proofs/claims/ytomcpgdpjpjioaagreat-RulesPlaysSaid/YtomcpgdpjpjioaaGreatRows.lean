/-
  No cell of these rows narrows 'for every input' (looked for: loops, veiled, ifaces, maps, wideKeys, modest, calm, conditions, laid).
  DERIVED. THE GIVEN ROWS OF THIS SEAT. 3 by the template 'for every input the law returns true; each argument reads behind the call as it read before'; 0 by the template 'total and deterministic' (their statements: YtomcpgdpjpjioaaGreatTotals.lean).
  GIVEN WITH THE SEED: the statements are not yours to turn. If you find one false, say at which input.
  Laid BY PROGRAM, IN A SANDBOX (cutbox-rows.mjs): the forced cells as the released guide's own fill.sh prints them over the translation d9acde0fe9999fa1… (all of the seat's roots in one cut). By AI agents, Wed Nov 11 2026. No macro, syntax, notation, axiom, sorry.
-/
import Derived.Test.YtomcpgdpjpjioaaGreatChecked
import GoSem.Claim
import GoSem.ClaimJoined
import GoSem.ClaimMapViews
import Derived.JoinedTies
import Derived.KernelRfl
namespace Go.Proofs.YtomcpgdpjpjioaaGreat
/- THE CELL 'sum', in the pinned program and in every row, IS THE sha256 OF THE DUMP (.gsa) THAT YtomcpgdpjpjioaaGreatProg.lean LOADS. Nothing in Lean hashes anything: it is a label: what it is worth is what the hold of that sum in a sandbox is worth. -/
noncomputable def Tryz.pinned : Pinned := { name := "ytomcpgdpjpjioaagreat", sum := "d9acde0fe9999fa134595e4c5767adfd6d8b0d69f308c3a42c69096de1b08e1e", checked := Tryz.checked }
namespace Rows
def none {H : Type} : Left H := { results := [], args := [] }

/-- 'besomlaw07.RulesEnds': WHATEVER THE INPUT: true; the input reads as it did. -/
def rulesEndsSpec : ChangeSpec := { name := "rulesEnds", fn := fun _ => fun
  | [d1, d2, d3, d4, d5] => { results := [.lit (.bool true)], args := [d1, d2, d3, d4, d5] }
  | _ => none }
def rulesEndsRow : OpenClaim := { program := "ytomcpgdpjpjioaagreat", sum := "d9acde0fe9999fa134595e4c5767adfd6d8b0d69f308c3a42c69096de1b08e1e", func := "besom/besomlaw07.RulesEnds", spec := "rulesEnds", unfollowed := true, recurses := true, plainKeys := false, apart := false }
def RulesEndsSaid : Prop := rulesEndsRow.holds Tryz.pinned (OpenSpec.ofChange rulesEndsSpec)

/-- ITS FALSE NEIGHBOUR: 'it returns false'. Refute it at one input. -/
def rulesEndsWrong : ChangeSpec := { name := "rulesEnds", fn := fun _ => fun
  | [d1, d2, d3, d4, d5] => { results := [.lit (.bool false)], args := [d1, d2, d3, d4, d5] }
  | _ => none }
def RulesEndsWrongFalsely : Prop := rulesEndsRow.holds Tryz.pinned (OpenSpec.ofChange rulesEndsWrong)

/-- 'besomlaw07.RulesPlays': WHATEVER THE INPUT: true; the input reads as it did. -/
def rulesPlaysSpec : ChangeSpec := { name := "rulesPlays", fn := fun _ => fun
  | [d1, d2, d3, d4] => { results := [.lit (.bool true)], args := [d1, d2, d3, d4] }
  | _ => none }
def rulesPlaysRow : OpenClaim := { program := "ytomcpgdpjpjioaagreat", sum := "d9acde0fe9999fa134595e4c5767adfd6d8b0d69f308c3a42c69096de1b08e1e", func := "besom/besomlaw07.RulesPlays", spec := "rulesPlays", unfollowed := true, recurses := true, plainKeys := false, apart := false }
def RulesPlaysSaid : Prop := rulesPlaysRow.holds Tryz.pinned (OpenSpec.ofChange rulesPlaysSpec)

/-- ITS FALSE NEIGHBOUR: 'it returns false'. Refute it at one input. -/
def rulesPlaysWrong : ChangeSpec := { name := "rulesPlays", fn := fun _ => fun
  | [d1, d2, d3, d4] => { results := [.lit (.bool false)], args := [d1, d2, d3, d4] }
  | _ => none }
def RulesPlaysWrongFalsely : Prop := rulesPlaysRow.holds Tryz.pinned (OpenSpec.ofChange rulesPlaysWrong)

/-- 'besomlaw07.RulesNone': WHATEVER THE INPUT: true; the input reads as it did. -/
def rulesNoneSpec : ChangeSpec := { name := "rulesNone", fn := fun _ => fun
  | [d1, d2, d3, d4] => { results := [.lit (.bool true)], args := [d1, d2, d3, d4] }
  | _ => none }
def rulesNoneRow : OpenClaim := { program := "ytomcpgdpjpjioaagreat", sum := "d9acde0fe9999fa134595e4c5767adfd6d8b0d69f308c3a42c69096de1b08e1e", func := "besom/besomlaw07.RulesNone", spec := "rulesNone", unfollowed := true, recurses := true, plainKeys := false, apart := false }
def RulesNoneSaid : Prop := rulesNoneRow.holds Tryz.pinned (OpenSpec.ofChange rulesNoneSpec)

/-- ITS FALSE NEIGHBOUR: 'it returns false'. Refute it at one input. -/
def rulesNoneWrong : ChangeSpec := { name := "rulesNone", fn := fun _ => fun
  | [d1, d2, d3, d4] => { results := [.lit (.bool false)], args := [d1, d2, d3, d4] }
  | _ => none }
def RulesNoneWrongFalsely : Prop := rulesNoneRow.holds Tryz.pinned (OpenSpec.ofChange rulesNoneWrong)

/- THE SECOND FORM. 'bulk': how many values and letters a reading holds, each counted each time it is reached (what is shared counts as often as it is met; a slice's spare places count too). A statement '..UptoSaid' is the law's where the arguments, and the package variables that the reading takes, are together of bulk at most 1048576: NARROWER than '..Said'. Prove '..Said' where nothing that the law and all that it calls make is longer than what came in: it says more and counts as full. Else prove '..UptoSaid'. A law counts once. -/
mutual
def uptoBulk {H : Type} : DataW H → Nat
  | .lit (.string bytes) => bytes.length + 1
  | .lit _ => 1
  | .nil => 1
  | .ptr d => uptoBulk d + 1
  | .slice elems spare => uptoBulkAll elems + uptoBulkAll spare + 1
  | .agg parts => uptoBulkAll parts + 1
  | .iface _ d => uptoBulk d + 1
  | .map entries => uptoBulkEntries entries + 1
  | .held _ => 1
def uptoBulkAll {H : Type} : List (DataW H) → Nat
  | [] => 0
  | d :: r => uptoBulk d + uptoBulkAll r
def uptoBulkEntries {H : Type} : List (Lit × DataW H) → Nat
  | [] => 0
  | x :: r => uptoBulkEntry x + uptoBulkEntries r
def uptoBulkEntry {H : Type} : Lit × DataW H → Nat
  | (.string bytes, d) => bytes.length + uptoBulk d + 1
  | (_, d) => uptoBulk d + 1
 end
def uptoSmall : (H : Type) → List (DataW H) → Bool := fun _ ds => decide (uptoBulkAll ds ≤ 1048576)
def OpenSpec.upto (s : _root_.Go.ChangeSpec) : _root_.Go.OpenSpec := { _root_.Go.OpenSpec.ofChange s with cond := some uptoSmall }

/-- 'besomlaw07.RulesEnds', WHERE WHAT IT READS IS OF BULK AT MOST 1048576: true; the input reads as it did. -/
def rulesEndsUptoRow : OpenClaim := { program := "ytomcpgdpjpjioaagreat", sum := "d9acde0fe9999fa134595e4c5767adfd6d8b0d69f308c3a42c69096de1b08e1e", func := "besom/besomlaw07.RulesEnds", spec := "rulesEnds", unfollowed := true, recurses := true, plainKeys := false, apart := false, narrowed := true }
def RulesEndsUptoSaid : Prop := rulesEndsUptoRow.holds Tryz.pinned (OpenSpec.upto rulesEndsSpec)

/-- 'besomlaw07.RulesPlays', WHERE WHAT IT READS IS OF BULK AT MOST 1048576: true; the input reads as it did. -/
def rulesPlaysUptoRow : OpenClaim := { program := "ytomcpgdpjpjioaagreat", sum := "d9acde0fe9999fa134595e4c5767adfd6d8b0d69f308c3a42c69096de1b08e1e", func := "besom/besomlaw07.RulesPlays", spec := "rulesPlays", unfollowed := true, recurses := true, plainKeys := false, apart := false, narrowed := true }
def RulesPlaysUptoSaid : Prop := rulesPlaysUptoRow.holds Tryz.pinned (OpenSpec.upto rulesPlaysSpec)

/-- 'besomlaw07.RulesNone', WHERE WHAT IT READS IS OF BULK AT MOST 1048576: true; the input reads as it did. -/
def rulesNoneUptoRow : OpenClaim := { program := "ytomcpgdpjpjioaagreat", sum := "d9acde0fe9999fa134595e4c5767adfd6d8b0d69f308c3a42c69096de1b08e1e", func := "besom/besomlaw07.RulesNone", spec := "rulesNone", unfollowed := true, recurses := true, plainKeys := false, apart := false, narrowed := true }
def RulesNoneUptoSaid : Prop := rulesNoneUptoRow.holds Tryz.pinned (OpenSpec.upto rulesNoneSpec)

end Rows
end Go.Proofs.YtomcpgdpjpjioaaGreat
