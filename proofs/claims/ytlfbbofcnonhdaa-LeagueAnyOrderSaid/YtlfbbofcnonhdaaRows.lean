/-
  No cell of these rows narrows 'for every input' (looked for: loops, veiled, ifaces, maps, wideKeys, modest, calm, conditions, laid).
  DERIVED. THE GIVEN ROWS OF THIS SEAT. 10 by the template 'for every input the law returns true; each argument reads behind the call as it read before'; 0 by the template 'total and deterministic' (their statements: YtlfbbofcnonhdaaTotals.lean).
  GIVEN WITH THE SEED: the statements are not yours to turn. If you find one false, say at which input.
  Laid BY PROGRAM, IN A SANDBOX (cutbox-rows.mjs): the forced cells as the released guide's own fill.sh prints them over the translation 6e2e1eeb6a02220d… (all of the seat's roots in one cut). By AI agents, Wed Nov 11 2026. No macro, syntax, notation, axiom, sorry.
-/
import Derived.Test.YtlfbbofcnonhdaaChecked
import GoSem.Claim
import GoSem.ClaimJoined
import GoSem.ClaimMapViews
import Derived.JoinedTies
import Derived.KernelRfl
namespace Go.Proofs.Ytlfbbofcnonhdaa
/- THE CELL 'sum', in the pinned program and in every row, IS THE sha256 OF THE DUMP (.gsa) THAT YtlfbbofcnonhdaaProg.lean LOADS. Nothing in Lean hashes anything: it is a label: what it is worth is what the hold of that sum in a sandbox is worth. -/
noncomputable def Try.pinned : Pinned := { name := "ytlfbbofcnonhdaa", sum := "6e2e1eeb6a02220dead88fc9ed6d4c791d12e1ddd0d685f401095707debadf19", checked := Try.checked }
namespace Rows
def none {H : Type} : Left H := { results := [], args := [] }

/-- 'besomlaw13.LeagueBrackets': WHATEVER THE INPUT: true; the input reads as it did. -/
def leagueBracketsSpec : ChangeSpec := { name := "leagueBrackets", fn := fun _ => fun
  | [d1, d2, d3] => { results := [.lit (.bool true)], args := [d1, d2, d3] }
  | _ => none }
def leagueBracketsRow : OpenClaim := { program := "ytlfbbofcnonhdaa", sum := "6e2e1eeb6a02220dead88fc9ed6d4c791d12e1ddd0d685f401095707debadf19", func := "besom/besomlaw13.LeagueBrackets", spec := "leagueBrackets", unfollowed := true, recurses := true, plainKeys := false, apart := false }
def LeagueBracketsSaid : Prop := leagueBracketsRow.holds Try.pinned (OpenSpec.ofChange leagueBracketsSpec)

/-- ITS FALSE NEIGHBOUR: 'it returns false'. Refute it at one input. -/
def leagueBracketsWrong : ChangeSpec := { name := "leagueBrackets", fn := fun _ => fun
  | [d1, d2, d3] => { results := [.lit (.bool false)], args := [d1, d2, d3] }
  | _ => none }
def LeagueBracketsWrongFalsely : Prop := leagueBracketsRow.holds Try.pinned (OpenSpec.ofChange leagueBracketsWrong)

/-- 'besomlaw13.LeagueDraws': WHATEVER THE INPUT: true; the input reads as it did. -/
def leagueDrawsSpec : ChangeSpec := { name := "leagueDraws", fn := fun _ => fun
  | [d1, d2] => { results := [.lit (.bool true)], args := [d1, d2] }
  | _ => none }
def leagueDrawsRow : OpenClaim := { program := "ytlfbbofcnonhdaa", sum := "6e2e1eeb6a02220dead88fc9ed6d4c791d12e1ddd0d685f401095707debadf19", func := "besom/besomlaw13.LeagueDraws", spec := "leagueDraws", unfollowed := true, recurses := true, plainKeys := false, apart := false }
def LeagueDrawsSaid : Prop := leagueDrawsRow.holds Try.pinned (OpenSpec.ofChange leagueDrawsSpec)

/-- ITS FALSE NEIGHBOUR: 'it returns false'. Refute it at one input. -/
def leagueDrawsWrong : ChangeSpec := { name := "leagueDraws", fn := fun _ => fun
  | [d1, d2] => { results := [.lit (.bool false)], args := [d1, d2] }
  | _ => none }
def LeagueDrawsWrongFalsely : Prop := leagueDrawsRow.holds Try.pinned (OpenSpec.ofChange leagueDrawsWrong)

/-- 'besomlaw13.LeagueTables': WHATEVER THE INPUT: true; the input reads as it did. -/
def leagueTablesSpec : ChangeSpec := { name := "leagueTables", fn := fun _ => fun
  | [d1, d2, d3] => { results := [.lit (.bool true)], args := [d1, d2, d3] }
  | _ => none }
def leagueTablesRow : OpenClaim := { program := "ytlfbbofcnonhdaa", sum := "6e2e1eeb6a02220dead88fc9ed6d4c791d12e1ddd0d685f401095707debadf19", func := "besom/besomlaw13.LeagueTables", spec := "leagueTables", unfollowed := true, recurses := true, plainKeys := false, apart := false }
def LeagueTablesSaid : Prop := leagueTablesRow.holds Try.pinned (OpenSpec.ofChange leagueTablesSpec)

/-- ITS FALSE NEIGHBOUR: 'it returns false'. Refute it at one input. -/
def leagueTablesWrong : ChangeSpec := { name := "leagueTables", fn := fun _ => fun
  | [d1, d2, d3] => { results := [.lit (.bool false)], args := [d1, d2, d3] }
  | _ => none }
def LeagueTablesWrongFalsely : Prop := leagueTablesRow.holds Try.pinned (OpenSpec.ofChange leagueTablesWrong)

/-- 'besomlaw13.LeagueOrder': WHATEVER THE INPUT: true; the input reads as it did. -/
def leagueOrderSpec : ChangeSpec := { name := "leagueOrder", fn := fun _ => fun
  | [d1, d2, d3] => { results := [.lit (.bool true)], args := [d1, d2, d3] }
  | _ => none }
def leagueOrderRow : OpenClaim := { program := "ytlfbbofcnonhdaa", sum := "6e2e1eeb6a02220dead88fc9ed6d4c791d12e1ddd0d685f401095707debadf19", func := "besom/besomlaw13.LeagueOrder", spec := "leagueOrder", unfollowed := true, recurses := true, plainKeys := false, apart := false }
def LeagueOrderSaid : Prop := leagueOrderRow.holds Try.pinned (OpenSpec.ofChange leagueOrderSpec)

/-- ITS FALSE NEIGHBOUR: 'it returns false'. Refute it at one input. -/
def leagueOrderWrong : ChangeSpec := { name := "leagueOrder", fn := fun _ => fun
  | [d1, d2, d3] => { results := [.lit (.bool false)], args := [d1, d2, d3] }
  | _ => none }
def LeagueOrderWrongFalsely : Prop := leagueOrderRow.holds Try.pinned (OpenSpec.ofChange leagueOrderWrong)

/-- 'besomlaw13.LeagueMeetings': WHATEVER THE INPUT: true; the input reads as it did. -/
def leagueMeetingsSpec : ChangeSpec := { name := "leagueMeetings", fn := fun _ => fun
  | [d1, d2] => { results := [.lit (.bool true)], args := [d1, d2] }
  | _ => none }
def leagueMeetingsRow : OpenClaim := { program := "ytlfbbofcnonhdaa", sum := "6e2e1eeb6a02220dead88fc9ed6d4c791d12e1ddd0d685f401095707debadf19", func := "besom/besomlaw13.LeagueMeetings", spec := "leagueMeetings", unfollowed := true, recurses := true, plainKeys := false, apart := false }
def LeagueMeetingsSaid : Prop := leagueMeetingsRow.holds Try.pinned (OpenSpec.ofChange leagueMeetingsSpec)

/-- ITS FALSE NEIGHBOUR: 'it returns false'. Refute it at one input. -/
def leagueMeetingsWrong : ChangeSpec := { name := "leagueMeetings", fn := fun _ => fun
  | [d1, d2] => { results := [.lit (.bool false)], args := [d1, d2] }
  | _ => none }
def LeagueMeetingsWrongFalsely : Prop := leagueMeetingsRow.holds Try.pinned (OpenSpec.ofChange leagueMeetingsWrong)

/-- 'besomlaw13.LeaguePrizes': WHATEVER THE INPUT: true; the input reads as it did. -/
def leaguePrizesSpec : ChangeSpec := { name := "leaguePrizes", fn := fun _ => fun
  | [d1, d2, d3] => { results := [.lit (.bool true)], args := [d1, d2, d3] }
  | _ => none }
def leaguePrizesRow : OpenClaim := { program := "ytlfbbofcnonhdaa", sum := "6e2e1eeb6a02220dead88fc9ed6d4c791d12e1ddd0d685f401095707debadf19", func := "besom/besomlaw13.LeaguePrizes", spec := "leaguePrizes", unfollowed := true, recurses := true, plainKeys := false, apart := false }
def LeaguePrizesSaid : Prop := leaguePrizesRow.holds Try.pinned (OpenSpec.ofChange leaguePrizesSpec)

/-- ITS FALSE NEIGHBOUR: 'it returns false'. Refute it at one input. -/
def leaguePrizesWrong : ChangeSpec := { name := "leaguePrizes", fn := fun _ => fun
  | [d1, d2, d3] => { results := [.lit (.bool false)], args := [d1, d2, d3] }
  | _ => none }
def LeaguePrizesWrongFalsely : Prop := leaguePrizesRow.holds Try.pinned (OpenSpec.ofChange leaguePrizesWrong)

/-- 'besomlaw13.LeagueLives': WHATEVER THE INPUT: true; the input reads as it did. -/
def leagueLivesSpec : ChangeSpec := { name := "leagueLives", fn := fun _ => fun
  | [d1, d2, d3] => { results := [.lit (.bool true)], args := [d1, d2, d3] }
  | _ => none }
def leagueLivesRow : OpenClaim := { program := "ytlfbbofcnonhdaa", sum := "6e2e1eeb6a02220dead88fc9ed6d4c791d12e1ddd0d685f401095707debadf19", func := "besom/besomlaw13.LeagueLives", spec := "leagueLives", unfollowed := true, recurses := true, plainKeys := false, apart := false }
def LeagueLivesSaid : Prop := leagueLivesRow.holds Try.pinned (OpenSpec.ofChange leagueLivesSpec)

/-- ITS FALSE NEIGHBOUR: 'it returns false'. Refute it at one input. -/
def leagueLivesWrong : ChangeSpec := { name := "leagueLives", fn := fun _ => fun
  | [d1, d2, d3] => { results := [.lit (.bool false)], args := [d1, d2, d3] }
  | _ => none }
def LeagueLivesWrongFalsely : Prop := leagueLivesRow.holds Try.pinned (OpenSpec.ofChange leagueLivesWrong)

/-- 'besomlaw13.LeagueAnyOrder': WHATEVER THE INPUT: true; the input reads as it did. -/
def leagueAnyOrderSpec : ChangeSpec := { name := "leagueAnyOrder", fn := fun _ => fun
  | [d1, d2, d3, d4] => { results := [.lit (.bool true)], args := [d1, d2, d3, d4] }
  | _ => none }
def leagueAnyOrderRow : OpenClaim := { program := "ytlfbbofcnonhdaa", sum := "6e2e1eeb6a02220dead88fc9ed6d4c791d12e1ddd0d685f401095707debadf19", func := "besom/besomlaw13.LeagueAnyOrder", spec := "leagueAnyOrder", inPlace := ["maps.clone"], unfollowed := true, recurses := true, plainKeys := false, apart := false }
def LeagueAnyOrderSaid : Prop := leagueAnyOrderRow.holds Try.pinned (OpenSpec.ofChange leagueAnyOrderSpec)

/-- ITS FALSE NEIGHBOUR: 'it returns false'. Refute it at one input. -/
def leagueAnyOrderWrong : ChangeSpec := { name := "leagueAnyOrder", fn := fun _ => fun
  | [d1, d2, d3, d4] => { results := [.lit (.bool false)], args := [d1, d2, d3, d4] }
  | _ => none }
def LeagueAnyOrderWrongFalsely : Prop := leagueAnyOrderRow.holds Try.pinned (OpenSpec.ofChange leagueAnyOrderWrong)

/-- 'besomlaw13.LeaguePlaydowns': WHATEVER THE INPUT: true; the input reads as it did. -/
def leaguePlaydownsSpec : ChangeSpec := { name := "leaguePlaydowns", fn := fun _ => fun
  | [d1, d2] => { results := [.lit (.bool true)], args := [d1, d2] }
  | _ => none }
def leaguePlaydownsRow : OpenClaim := { program := "ytlfbbofcnonhdaa", sum := "6e2e1eeb6a02220dead88fc9ed6d4c791d12e1ddd0d685f401095707debadf19", func := "besom/besomlaw13.LeaguePlaydowns", spec := "leaguePlaydowns", inPlace := ["maps.clone"], unfollowed := true, recurses := true, plainKeys := false, apart := false }
def LeaguePlaydownsSaid : Prop := leaguePlaydownsRow.holds Try.pinned (OpenSpec.ofChange leaguePlaydownsSpec)

/-- ITS FALSE NEIGHBOUR: 'it returns false'. Refute it at one input. -/
def leaguePlaydownsWrong : ChangeSpec := { name := "leaguePlaydowns", fn := fun _ => fun
  | [d1, d2] => { results := [.lit (.bool false)], args := [d1, d2] }
  | _ => none }
def LeaguePlaydownsWrongFalsely : Prop := leaguePlaydownsRow.holds Try.pinned (OpenSpec.ofChange leaguePlaydownsWrong)

/-- 'besomlaw13.LeagueNone': WHATEVER THE INPUT: true; the input reads as it did. -/
def leagueNoneSpec : ChangeSpec := { name := "leagueNone", fn := fun _ => fun
  | [d1, d2] => { results := [.lit (.bool true)], args := [d1, d2] }
  | _ => none }
def leagueNoneRow : OpenClaim := { program := "ytlfbbofcnonhdaa", sum := "6e2e1eeb6a02220dead88fc9ed6d4c791d12e1ddd0d685f401095707debadf19", func := "besom/besomlaw13.LeagueNone", spec := "leagueNone", inPlace := ["maps.clone"], unfollowed := true, recurses := true, plainKeys := false, apart := false }
def LeagueNoneSaid : Prop := leagueNoneRow.holds Try.pinned (OpenSpec.ofChange leagueNoneSpec)

/-- ITS FALSE NEIGHBOUR: 'it returns false'. Refute it at one input. -/
def leagueNoneWrong : ChangeSpec := { name := "leagueNone", fn := fun _ => fun
  | [d1, d2] => { results := [.lit (.bool false)], args := [d1, d2] }
  | _ => none }
def LeagueNoneWrongFalsely : Prop := leagueNoneRow.holds Try.pinned (OpenSpec.ofChange leagueNoneWrong)

/- THE SECOND FORM. 'bulk': how many values and letters a reading holds, each counted each time it is reached (what is shared counts as often as it is met; a slice's spare places count too). A statement '..UptoSaid' is the law's where the arguments, and the package variables that the reading takes, are together of bulk at most 1048576: NARROWER than '..Said'. Prove '..Said' where nothing that the law and all that it calls make is longer than what came in: it says more and counts as full. Else prove '..UptoSaid'. A law counts once. -/
mutual
def uptoBulk {H : Type} : DataW H → Nat
  | .lit (.string bytes) => bytes.length + 1
  | .lit _ => 1
  | .nil => 1
  | .ptr d => uptoBulk d + 1
  | .slice elems spare => uptoBulkAll elems + uptoBulkAll spare + 1
  | .agg parts => uptoBulkAll parts + 1
  | .iface _ d => uptoBulk d + 1
  | .map entries => uptoBulkEntries entries + 1
  | .held _ => 1
def uptoBulkAll {H : Type} : List (DataW H) → Nat
  | [] => 0
  | d :: r => uptoBulk d + uptoBulkAll r
def uptoBulkEntries {H : Type} : List (Lit × DataW H) → Nat
  | [] => 0
  | x :: r => uptoBulkEntry x + uptoBulkEntries r
def uptoBulkEntry {H : Type} : Lit × DataW H → Nat
  | (.string bytes, d) => bytes.length + uptoBulk d + 1
  | (_, d) => uptoBulk d + 1
 end
def uptoSmall : (H : Type) → List (DataW H) → Bool := fun _ ds => decide (uptoBulkAll ds ≤ 1048576)
def OpenSpec.upto (s : _root_.Go.ChangeSpec) : _root_.Go.OpenSpec := { _root_.Go.OpenSpec.ofChange s with cond := some uptoSmall }

/-- 'besomlaw13.LeagueBrackets', WHERE WHAT IT READS IS OF BULK AT MOST 1048576: true; the input reads as it did. -/
def leagueBracketsUptoRow : OpenClaim := { program := "ytlfbbofcnonhdaa", sum := "6e2e1eeb6a02220dead88fc9ed6d4c791d12e1ddd0d685f401095707debadf19", func := "besom/besomlaw13.LeagueBrackets", spec := "leagueBrackets", unfollowed := true, recurses := true, plainKeys := false, apart := false, narrowed := true }
def LeagueBracketsUptoSaid : Prop := leagueBracketsUptoRow.holds Try.pinned (OpenSpec.upto leagueBracketsSpec)

/-- 'besomlaw13.LeagueDraws', WHERE WHAT IT READS IS OF BULK AT MOST 1048576: true; the input reads as it did. -/
def leagueDrawsUptoRow : OpenClaim := { program := "ytlfbbofcnonhdaa", sum := "6e2e1eeb6a02220dead88fc9ed6d4c791d12e1ddd0d685f401095707debadf19", func := "besom/besomlaw13.LeagueDraws", spec := "leagueDraws", unfollowed := true, recurses := true, plainKeys := false, apart := false, narrowed := true }
def LeagueDrawsUptoSaid : Prop := leagueDrawsUptoRow.holds Try.pinned (OpenSpec.upto leagueDrawsSpec)

/-- 'besomlaw13.LeagueTables', WHERE WHAT IT READS IS OF BULK AT MOST 1048576: true; the input reads as it did. -/
def leagueTablesUptoRow : OpenClaim := { program := "ytlfbbofcnonhdaa", sum := "6e2e1eeb6a02220dead88fc9ed6d4c791d12e1ddd0d685f401095707debadf19", func := "besom/besomlaw13.LeagueTables", spec := "leagueTables", unfollowed := true, recurses := true, plainKeys := false, apart := false, narrowed := true }
def LeagueTablesUptoSaid : Prop := leagueTablesUptoRow.holds Try.pinned (OpenSpec.upto leagueTablesSpec)

/-- 'besomlaw13.LeagueOrder', WHERE WHAT IT READS IS OF BULK AT MOST 1048576: true; the input reads as it did. -/
def leagueOrderUptoRow : OpenClaim := { program := "ytlfbbofcnonhdaa", sum := "6e2e1eeb6a02220dead88fc9ed6d4c791d12e1ddd0d685f401095707debadf19", func := "besom/besomlaw13.LeagueOrder", spec := "leagueOrder", unfollowed := true, recurses := true, plainKeys := false, apart := false, narrowed := true }
def LeagueOrderUptoSaid : Prop := leagueOrderUptoRow.holds Try.pinned (OpenSpec.upto leagueOrderSpec)

/-- 'besomlaw13.LeagueMeetings', WHERE WHAT IT READS IS OF BULK AT MOST 1048576: true; the input reads as it did. -/
def leagueMeetingsUptoRow : OpenClaim := { program := "ytlfbbofcnonhdaa", sum := "6e2e1eeb6a02220dead88fc9ed6d4c791d12e1ddd0d685f401095707debadf19", func := "besom/besomlaw13.LeagueMeetings", spec := "leagueMeetings", unfollowed := true, recurses := true, plainKeys := false, apart := false, narrowed := true }
def LeagueMeetingsUptoSaid : Prop := leagueMeetingsUptoRow.holds Try.pinned (OpenSpec.upto leagueMeetingsSpec)

/-- 'besomlaw13.LeaguePrizes', WHERE WHAT IT READS IS OF BULK AT MOST 1048576: true; the input reads as it did. -/
def leaguePrizesUptoRow : OpenClaim := { program := "ytlfbbofcnonhdaa", sum := "6e2e1eeb6a02220dead88fc9ed6d4c791d12e1ddd0d685f401095707debadf19", func := "besom/besomlaw13.LeaguePrizes", spec := "leaguePrizes", unfollowed := true, recurses := true, plainKeys := false, apart := false, narrowed := true }
def LeaguePrizesUptoSaid : Prop := leaguePrizesUptoRow.holds Try.pinned (OpenSpec.upto leaguePrizesSpec)

/-- 'besomlaw13.LeagueLives', WHERE WHAT IT READS IS OF BULK AT MOST 1048576: true; the input reads as it did. -/
def leagueLivesUptoRow : OpenClaim := { program := "ytlfbbofcnonhdaa", sum := "6e2e1eeb6a02220dead88fc9ed6d4c791d12e1ddd0d685f401095707debadf19", func := "besom/besomlaw13.LeagueLives", spec := "leagueLives", unfollowed := true, recurses := true, plainKeys := false, apart := false, narrowed := true }
def LeagueLivesUptoSaid : Prop := leagueLivesUptoRow.holds Try.pinned (OpenSpec.upto leagueLivesSpec)

/-- 'besomlaw13.LeagueAnyOrder', WHERE WHAT IT READS IS OF BULK AT MOST 1048576: true; the input reads as it did. -/
def leagueAnyOrderUptoRow : OpenClaim := { program := "ytlfbbofcnonhdaa", sum := "6e2e1eeb6a02220dead88fc9ed6d4c791d12e1ddd0d685f401095707debadf19", func := "besom/besomlaw13.LeagueAnyOrder", spec := "leagueAnyOrder", inPlace := ["maps.clone"], unfollowed := true, recurses := true, plainKeys := false, apart := false, narrowed := true }
def LeagueAnyOrderUptoSaid : Prop := leagueAnyOrderUptoRow.holds Try.pinned (OpenSpec.upto leagueAnyOrderSpec)

/-- 'besomlaw13.LeaguePlaydowns', WHERE WHAT IT READS IS OF BULK AT MOST 1048576: true; the input reads as it did. -/
def leaguePlaydownsUptoRow : OpenClaim := { program := "ytlfbbofcnonhdaa", sum := "6e2e1eeb6a02220dead88fc9ed6d4c791d12e1ddd0d685f401095707debadf19", func := "besom/besomlaw13.LeaguePlaydowns", spec := "leaguePlaydowns", inPlace := ["maps.clone"], unfollowed := true, recurses := true, plainKeys := false, apart := false, narrowed := true }
def LeaguePlaydownsUptoSaid : Prop := leaguePlaydownsUptoRow.holds Try.pinned (OpenSpec.upto leaguePlaydownsSpec)

/-- 'besomlaw13.LeagueNone', WHERE WHAT IT READS IS OF BULK AT MOST 1048576: true; the input reads as it did. -/
def leagueNoneUptoRow : OpenClaim := { program := "ytlfbbofcnonhdaa", sum := "6e2e1eeb6a02220dead88fc9ed6d4c791d12e1ddd0d685f401095707debadf19", func := "besom/besomlaw13.LeagueNone", spec := "leagueNone", inPlace := ["maps.clone"], unfollowed := true, recurses := true, plainKeys := false, apart := false, narrowed := true }
def LeagueNoneUptoSaid : Prop := leagueNoneUptoRow.holds Try.pinned (OpenSpec.upto leagueNoneSpec)

end Rows
end Go.Proofs.Ytlfbbofcnonhdaa
