/-
  No cell of these rows narrows 'for every input' (looked for: loops, veiled, ifaces, maps, wideKeys, modest, calm, conditions, laid).
  DERIVED. THE GIVEN ROWS OF THIS SEAT. 5 by the template 'for every input the law returns true; each argument reads behind the call as it read before'; 0 by the template 'total and deterministic' (their statements: YtomcpgdpjpjioaaTotals.lean).
  GIVEN WITH THE SEED: the statements are not yours to turn. If you find one false, say at which input.
  Laid BY PROGRAM, IN A SANDBOX (cutbox-rows.mjs): the forced cells as the released guide's own fill.sh prints them over the translation df3bf467c0deadeb… (all of the seat's roots in one cut). By AI agents, Wed Nov 11 2026. No macro, syntax, notation, axiom, sorry.
-/
import Derived.Test.YtomcpgdpjpjioaaChecked
import GoSem.Claim
import GoSem.ClaimJoined
import GoSem.ClaimMapViews
import Derived.JoinedTies
import Derived.KernelRfl
namespace Go.Proofs.Ytomcpgdpjpjioaa
/- THE CELL 'sum', in the pinned program and in every row, IS THE sha256 OF THE DUMP (.gsa) THAT YtomcpgdpjpjioaaProg.lean LOADS. Nothing in Lean hashes anything: it is a label: what it is worth is what the hold of that sum in a sandbox is worth. -/
noncomputable def Try.pinned : Pinned := { name := "ytomcpgdpjpjioaa", sum := "df3bf467c0deadeba0b61db321a9e8e3d50ad850b865dada9d89888162478253", checked := Try.checked }
namespace Rows
def none {H : Type} : Left H := { results := [], args := [] }

/-- 'besomlaw07.RulesCodes': WHATEVER THE INPUT: true; the input reads as it did. -/
def rulesCodesSpec : ChangeSpec := { name := "rulesCodes", fn := fun _ => fun
  | [d1, d2, d3, d4, d5] => { results := [.lit (.bool true)], args := [d1, d2, d3, d4, d5] }
  | _ => none }
def rulesCodesRow : OpenClaim := { program := "ytomcpgdpjpjioaa", sum := "df3bf467c0deadeba0b61db321a9e8e3d50ad850b865dada9d89888162478253", func := "besom/besomlaw07.RulesCodes", spec := "rulesCodes", unfollowed := true, recurses := true, plainKeys := false, apart := false }
def RulesCodesSaid : Prop := rulesCodesRow.holds Try.pinned (OpenSpec.ofChange rulesCodesSpec)

/-- ITS FALSE NEIGHBOUR: 'it returns false'. Refute it at one input. -/
def rulesCodesWrong : ChangeSpec := { name := "rulesCodes", fn := fun _ => fun
  | [d1, d2, d3, d4, d5] => { results := [.lit (.bool false)], args := [d1, d2, d3, d4, d5] }
  | _ => none }
def RulesCodesWrongFalsely : Prop := rulesCodesRow.holds Try.pinned (OpenSpec.ofChange rulesCodesWrong)

/-- 'besomlaw07.RulesJudges': WHATEVER THE INPUT: true; the input reads as it did. -/
def rulesJudgesSpec : ChangeSpec := { name := "rulesJudges", fn := fun _ => fun
  | [d1, d2, d3, d4] => { results := [.lit (.bool true)], args := [d1, d2, d3, d4] }
  | _ => none }
def rulesJudgesRow : OpenClaim := { program := "ytomcpgdpjpjioaa", sum := "df3bf467c0deadeba0b61db321a9e8e3d50ad850b865dada9d89888162478253", func := "besom/besomlaw07.RulesJudges", spec := "rulesJudges", unfollowed := true, recurses := true, plainKeys := false, apart := false }
def RulesJudgesSaid : Prop := rulesJudgesRow.holds Try.pinned (OpenSpec.ofChange rulesJudgesSpec)

/-- ITS FALSE NEIGHBOUR: 'it returns false'. Refute it at one input. -/
def rulesJudgesWrong : ChangeSpec := { name := "rulesJudges", fn := fun _ => fun
  | [d1, d2, d3, d4] => { results := [.lit (.bool false)], args := [d1, d2, d3, d4] }
  | _ => none }
def RulesJudgesWrongFalsely : Prop := rulesJudgesRow.holds Try.pinned (OpenSpec.ofChange rulesJudgesWrong)

/-- 'besomlaw07.RulesKeep': WHATEVER THE INPUT: true; the input reads as it did. -/
def rulesKeepSpec : ChangeSpec := { name := "rulesKeep", fn := fun _ => fun
  | [d1, d2, d3, d4] => { results := [.lit (.bool true)], args := [d1, d2, d3, d4] }
  | _ => none }
def rulesKeepRow : OpenClaim := { program := "ytomcpgdpjpjioaa", sum := "df3bf467c0deadeba0b61db321a9e8e3d50ad850b865dada9d89888162478253", func := "besom/besomlaw07.RulesKeep", spec := "rulesKeep", unfollowed := true, recurses := true, plainKeys := false, apart := false }
def RulesKeepSaid : Prop := rulesKeepRow.holds Try.pinned (OpenSpec.ofChange rulesKeepSpec)

/-- ITS FALSE NEIGHBOUR: 'it returns false'. Refute it at one input. -/
def rulesKeepWrong : ChangeSpec := { name := "rulesKeep", fn := fun _ => fun
  | [d1, d2, d3, d4] => { results := [.lit (.bool false)], args := [d1, d2, d3, d4] }
  | _ => none }
def RulesKeepWrongFalsely : Prop := rulesKeepRow.holds Try.pinned (OpenSpec.ofChange rulesKeepWrong)

/-- 'besomlaw07.RulesSides': WHATEVER THE INPUT: true; the input reads as it did. -/
def rulesSidesSpec : ChangeSpec := { name := "rulesSides", fn := fun _ => fun
  | [d1, d2, d3, d4] => { results := [.lit (.bool true)], args := [d1, d2, d3, d4] }
  | _ => none }
def rulesSidesRow : OpenClaim := { program := "ytomcpgdpjpjioaa", sum := "df3bf467c0deadeba0b61db321a9e8e3d50ad850b865dada9d89888162478253", func := "besom/besomlaw07.RulesSides", spec := "rulesSides", unfollowed := true, recurses := true, plainKeys := false, apart := false }
def RulesSidesSaid : Prop := rulesSidesRow.holds Try.pinned (OpenSpec.ofChange rulesSidesSpec)

/-- ITS FALSE NEIGHBOUR: 'it returns false'. Refute it at one input. -/
def rulesSidesWrong : ChangeSpec := { name := "rulesSides", fn := fun _ => fun
  | [d1, d2, d3, d4] => { results := [.lit (.bool false)], args := [d1, d2, d3, d4] }
  | _ => none }
def RulesSidesWrongFalsely : Prop := rulesSidesRow.holds Try.pinned (OpenSpec.ofChange rulesSidesWrong)

/-- 'besomlaw07.RulesMore': WHATEVER THE INPUT: true; the input reads as it did. -/
def rulesMoreSpec : ChangeSpec := { name := "rulesMore", fn := fun _ => fun
  | [d1, d2, d3, d4, d5, d6] => { results := [.lit (.bool true)], args := [d1, d2, d3, d4, d5, d6] }
  | _ => none }
def rulesMoreRow : OpenClaim := { program := "ytomcpgdpjpjioaa", sum := "df3bf467c0deadeba0b61db321a9e8e3d50ad850b865dada9d89888162478253", func := "besom/besomlaw07.RulesMore", spec := "rulesMore", unfollowed := true, recurses := true, plainKeys := false, apart := false }
def RulesMoreSaid : Prop := rulesMoreRow.holds Try.pinned (OpenSpec.ofChange rulesMoreSpec)

/-- ITS FALSE NEIGHBOUR: 'it returns false'. Refute it at one input. -/
def rulesMoreWrong : ChangeSpec := { name := "rulesMore", fn := fun _ => fun
  | [d1, d2, d3, d4, d5, d6] => { results := [.lit (.bool false)], args := [d1, d2, d3, d4, d5, d6] }
  | _ => none }
def RulesMoreWrongFalsely : Prop := rulesMoreRow.holds Try.pinned (OpenSpec.ofChange rulesMoreWrong)

/- THE SECOND FORM. 'bulk': how many values and letters a reading holds, each counted each time it is reached (what is shared counts as often as it is met; a slice's spare places count too). A statement '..UptoSaid' is the law's where the arguments, and the package variables that the reading takes, are together of bulk at most 1048576: NARROWER than '..Said'. Prove '..Said' where nothing that the law and all that it calls make is longer than what came in: it says more and counts as full. Else prove '..UptoSaid'. A law counts once. -/
mutual
def uptoBulk {H : Type} : DataW H → Nat
  | .lit (.string bytes) => bytes.length + 1
  | .lit _ => 1
  | .nil => 1
  | .ptr d => uptoBulk d + 1
  | .slice elems spare => uptoBulkAll elems + uptoBulkAll spare + 1
  | .agg parts => uptoBulkAll parts + 1
  | .iface _ d => uptoBulk d + 1
  | .map entries => uptoBulkEntries entries + 1
  | .held _ => 1
def uptoBulkAll {H : Type} : List (DataW H) → Nat
  | [] => 0
  | d :: r => uptoBulk d + uptoBulkAll r
def uptoBulkEntries {H : Type} : List (Lit × DataW H) → Nat
  | [] => 0
  | x :: r => uptoBulkEntry x + uptoBulkEntries r
def uptoBulkEntry {H : Type} : Lit × DataW H → Nat
  | (.string bytes, d) => bytes.length + uptoBulk d + 1
  | (_, d) => uptoBulk d + 1
 end
def uptoSmall : (H : Type) → List (DataW H) → Bool := fun _ ds => decide (uptoBulkAll ds ≤ 1048576)
def OpenSpec.upto (s : _root_.Go.ChangeSpec) : _root_.Go.OpenSpec := { _root_.Go.OpenSpec.ofChange s with cond := some uptoSmall }

/-- 'besomlaw07.RulesCodes', WHERE WHAT IT READS IS OF BULK AT MOST 1048576: true; the input reads as it did. -/
def rulesCodesUptoRow : OpenClaim := { program := "ytomcpgdpjpjioaa", sum := "df3bf467c0deadeba0b61db321a9e8e3d50ad850b865dada9d89888162478253", func := "besom/besomlaw07.RulesCodes", spec := "rulesCodes", unfollowed := true, recurses := true, plainKeys := false, apart := false, narrowed := true }
def RulesCodesUptoSaid : Prop := rulesCodesUptoRow.holds Try.pinned (OpenSpec.upto rulesCodesSpec)

/-- 'besomlaw07.RulesJudges', WHERE WHAT IT READS IS OF BULK AT MOST 1048576: true; the input reads as it did. -/
def rulesJudgesUptoRow : OpenClaim := { program := "ytomcpgdpjpjioaa", sum := "df3bf467c0deadeba0b61db321a9e8e3d50ad850b865dada9d89888162478253", func := "besom/besomlaw07.RulesJudges", spec := "rulesJudges", unfollowed := true, recurses := true, plainKeys := false, apart := false, narrowed := true }
def RulesJudgesUptoSaid : Prop := rulesJudgesUptoRow.holds Try.pinned (OpenSpec.upto rulesJudgesSpec)

/-- 'besomlaw07.RulesKeep', WHERE WHAT IT READS IS OF BULK AT MOST 1048576: true; the input reads as it did. -/
def rulesKeepUptoRow : OpenClaim := { program := "ytomcpgdpjpjioaa", sum := "df3bf467c0deadeba0b61db321a9e8e3d50ad850b865dada9d89888162478253", func := "besom/besomlaw07.RulesKeep", spec := "rulesKeep", unfollowed := true, recurses := true, plainKeys := false, apart := false, narrowed := true }
def RulesKeepUptoSaid : Prop := rulesKeepUptoRow.holds Try.pinned (OpenSpec.upto rulesKeepSpec)

/-- 'besomlaw07.RulesSides', WHERE WHAT IT READS IS OF BULK AT MOST 1048576: true; the input reads as it did. -/
def rulesSidesUptoRow : OpenClaim := { program := "ytomcpgdpjpjioaa", sum := "df3bf467c0deadeba0b61db321a9e8e3d50ad850b865dada9d89888162478253", func := "besom/besomlaw07.RulesSides", spec := "rulesSides", unfollowed := true, recurses := true, plainKeys := false, apart := false, narrowed := true }
def RulesSidesUptoSaid : Prop := rulesSidesUptoRow.holds Try.pinned (OpenSpec.upto rulesSidesSpec)

/-- 'besomlaw07.RulesMore', WHERE WHAT IT READS IS OF BULK AT MOST 1048576: true; the input reads as it did. -/
def rulesMoreUptoRow : OpenClaim := { program := "ytomcpgdpjpjioaa", sum := "df3bf467c0deadeba0b61db321a9e8e3d50ad850b865dada9d89888162478253", func := "besom/besomlaw07.RulesMore", spec := "rulesMore", unfollowed := true, recurses := true, plainKeys := false, apart := false, narrowed := true }
def RulesMoreUptoSaid : Prop := rulesMoreUptoRow.holds Try.pinned (OpenSpec.upto rulesMoreSpec)

end Rows
end Go.Proofs.Ytomcpgdpjpjioaa
