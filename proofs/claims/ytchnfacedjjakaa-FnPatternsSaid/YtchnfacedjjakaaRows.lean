/-
  No cell of these rows narrows 'for every input' (looked for: loops, veiled, ifaces, maps, wideKeys, modest, calm, conditions, laid).
  DERIVED. THE GIVEN ROWS OF THIS SEAT. 11 by the template 'for every input the law returns true; each argument reads behind the call as it read before'; 0 by the template 'total and deterministic' (their statements: YtchnfacedjjakaaTotals.lean).
  GIVEN WITH THE SEED: the statements are not yours to turn. If you find one false, say at which input.
  Laid BY PROGRAM, IN A SANDBOX (cutbox-rows.mjs): the forced cells as the released guide's own fill.sh prints them over the translation d5c4b54e0c8947b6… (all of the seat's roots in one cut). By AI agents, Wed Nov 11 2026. No macro, syntax, notation, axiom, sorry.
-/
import Derived.Test.YtchnfacedjjakaaChecked
import GoSem.Claim
import GoSem.ClaimJoined
import GoSem.ClaimMapViews
import Derived.JoinedTies
import Derived.KernelRfl
namespace Go.Proofs.Ytchnfacedjjakaa
/- THE CELL 'sum', in the pinned program and in every row, IS THE sha256 OF THE DUMP (.gsa) THAT YtchnfacedjjakaaProg.lean LOADS. Nothing in Lean hashes anything: it is a label: what it is worth is what the hold of that sum in a sandbox is worth. -/
noncomputable def Try.pinned : Pinned := { name := "ytchnfacedjjakaa", sum := "d5c4b54e0c8947b611105d7739a2f81150cfd9286a74709dfe2fb9ea9ee0277e", checked := Try.checked }
namespace Rows
def none {H : Type} : Left H := { results := [], args := [] }

/-- 'laws.FnExactRankPattern': WHATEVER THE INPUT: true; the input reads as it did. -/
def fnExactRankPatternSpec : ChangeSpec := { name := "fnExactRankPattern", fn := fun _ => fun
  | [d] => { results := [.lit (.bool true)], args := [d] }
  | _ => none }
def fnExactRankPatternRow : OpenClaim := { program := "ytchnfacedjjakaa", sum := "d5c4b54e0c8947b611105d7739a2f81150cfd9286a74709dfe2fb9ea9ee0277e", func := "loop.example/g01123/laws.FnExactRankPattern", spec := "fnExactRankPattern", unfollowed := true, recurses := true, apart := false }
def FnExactRankPatternSaid : Prop := fnExactRankPatternRow.holds Try.pinned (OpenSpec.ofChange fnExactRankPatternSpec)

/-- ITS FALSE NEIGHBOUR: 'it returns false'. Refute it at one input. -/
def fnExactRankPatternWrong : ChangeSpec := { name := "fnExactRankPattern", fn := fun _ => fun
  | [d] => { results := [.lit (.bool false)], args := [d] }
  | _ => none }
def FnExactRankPatternWrongFalsely : Prop := fnExactRankPatternRow.holds Try.pinned (OpenSpec.ofChange fnExactRankPatternWrong)

/-- 'laws.FnOperatorsJoin': WHATEVER THE INPUT: true; the input reads as it did. -/
def fnOperatorsJoinSpec : ChangeSpec := { name := "fnOperatorsJoin", fn := fun _ => fun
  | [d1, d2] => { results := [.lit (.bool true)], args := [d1, d2] }
  | _ => none }
def fnOperatorsJoinRow : OpenClaim := { program := "ytchnfacedjjakaa", sum := "d5c4b54e0c8947b611105d7739a2f81150cfd9286a74709dfe2fb9ea9ee0277e", func := "loop.example/g01123/laws.FnOperatorsJoin", spec := "fnOperatorsJoin", unfollowed := true, recurses := true, apart := false }
def FnOperatorsJoinSaid : Prop := fnOperatorsJoinRow.holds Try.pinned (OpenSpec.ofChange fnOperatorsJoinSpec)

/-- ITS FALSE NEIGHBOUR: 'it returns false'. Refute it at one input. -/
def fnOperatorsJoinWrong : ChangeSpec := { name := "fnOperatorsJoin", fn := fun _ => fun
  | [d1, d2] => { results := [.lit (.bool false)], args := [d1, d2] }
  | _ => none }
def FnOperatorsJoinWrongFalsely : Prop := fnOperatorsJoinRow.holds Try.pinned (OpenSpec.ofChange fnOperatorsJoinWrong)

/-- 'laws.FnExactOperatorOf': WHATEVER THE INPUT: true; the input reads as it did. -/
def fnExactOperatorOfSpec : ChangeSpec := { name := "fnExactOperatorOf", fn := fun _ => fun
  | [d1, d2] => { results := [.lit (.bool true)], args := [d1, d2] }
  | _ => none }
def fnExactOperatorOfRow : OpenClaim := { program := "ytchnfacedjjakaa", sum := "d5c4b54e0c8947b611105d7739a2f81150cfd9286a74709dfe2fb9ea9ee0277e", func := "loop.example/g01123/laws.FnExactOperatorOf", spec := "fnExactOperatorOf", unfollowed := true, recurses := true, apart := false }
def FnExactOperatorOfSaid : Prop := fnExactOperatorOfRow.holds Try.pinned (OpenSpec.ofChange fnExactOperatorOfSpec)

/-- ITS FALSE NEIGHBOUR: 'it returns false'. Refute it at one input. -/
def fnExactOperatorOfWrong : ChangeSpec := { name := "fnExactOperatorOf", fn := fun _ => fun
  | [d1, d2] => { results := [.lit (.bool false)], args := [d1, d2] }
  | _ => none }
def FnExactOperatorOfWrongFalsely : Prop := fnExactOperatorOfRow.holds Try.pinned (OpenSpec.ofChange fnExactOperatorOfWrong)

/-- 'laws.FnExactSumOperator': WHATEVER THE INPUT: true; the input reads as it did. -/
def fnExactSumOperatorSpec : ChangeSpec := { name := "fnExactSumOperator", fn := fun _ => fun
  | [d] => { results := [.lit (.bool true)], args := [d] }
  | _ => none }
def fnExactSumOperatorRow : OpenClaim := { program := "ytchnfacedjjakaa", sum := "d5c4b54e0c8947b611105d7739a2f81150cfd9286a74709dfe2fb9ea9ee0277e", func := "loop.example/g01123/laws.FnExactSumOperator", spec := "fnExactSumOperator", unfollowed := true, recurses := true, apart := false }
def FnExactSumOperatorSaid : Prop := fnExactSumOperatorRow.holds Try.pinned (OpenSpec.ofChange fnExactSumOperatorSpec)

/-- ITS FALSE NEIGHBOUR: 'it returns false'. Refute it at one input. -/
def fnExactSumOperatorWrong : ChangeSpec := { name := "fnExactSumOperator", fn := fun _ => fun
  | [d] => { results := [.lit (.bool false)], args := [d] }
  | _ => none }
def FnExactSumOperatorWrongFalsely : Prop := fnExactSumOperatorRow.holds Try.pinned (OpenSpec.ofChange fnExactSumOperatorWrong)

/-- 'laws.FnExactIsFixed': WHATEVER THE INPUT: true; the input reads as it did. -/
def fnExactIsFixedSpec : ChangeSpec := { name := "fnExactIsFixed", fn := fun _ => fun
  | [d1, d2] => { results := [.lit (.bool true)], args := [d1, d2] }
  | _ => none }
def fnExactIsFixedRow : OpenClaim := { program := "ytchnfacedjjakaa", sum := "d5c4b54e0c8947b611105d7739a2f81150cfd9286a74709dfe2fb9ea9ee0277e", func := "loop.example/g01123/laws.FnExactIsFixed", spec := "fnExactIsFixed", unfollowed := true, recurses := true, apart := false }
def FnExactIsFixedSaid : Prop := fnExactIsFixedRow.holds Try.pinned (OpenSpec.ofChange fnExactIsFixedSpec)

/-- ITS FALSE NEIGHBOUR: 'it returns false'. Refute it at one input. -/
def fnExactIsFixedWrong : ChangeSpec := { name := "fnExactIsFixed", fn := fun _ => fun
  | [d1, d2] => { results := [.lit (.bool false)], args := [d1, d2] }
  | _ => none }
def FnExactIsFixedWrongFalsely : Prop := fnExactIsFixedRow.holds Try.pinned (OpenSpec.ofChange fnExactIsFixedWrong)

/-- 'laws.FnExactSolutionOf': WHATEVER THE INPUT: true; the input reads as it did. -/
def fnExactSolutionOfSpec : ChangeSpec := { name := "fnExactSolutionOf", fn := fun _ => fun
  | [d] => { results := [.lit (.bool true)], args := [d] }
  | _ => none }
def fnExactSolutionOfRow : OpenClaim := { program := "ytchnfacedjjakaa", sum := "d5c4b54e0c8947b611105d7739a2f81150cfd9286a74709dfe2fb9ea9ee0277e", func := "loop.example/g01123/laws.FnExactSolutionOf", spec := "fnExactSolutionOf", unfollowed := true, recurses := true, apart := false }
def FnExactSolutionOfSaid : Prop := fnExactSolutionOfRow.holds Try.pinned (OpenSpec.ofChange fnExactSolutionOfSpec)

/-- ITS FALSE NEIGHBOUR: 'it returns false'. Refute it at one input. -/
def fnExactSolutionOfWrong : ChangeSpec := { name := "fnExactSolutionOf", fn := fun _ => fun
  | [d] => { results := [.lit (.bool false)], args := [d] }
  | _ => none }
def FnExactSolutionOfWrongFalsely : Prop := fnExactSolutionOfRow.holds Try.pinned (OpenSpec.ofChange fnExactSolutionOfWrong)

/-- 'laws.FnExactReachedFrom': WHATEVER THE INPUT: true; the input reads as it did. -/
def fnExactReachedFromSpec : ChangeSpec := { name := "fnExactReachedFrom", fn := fun _ => fun
  | [d] => { results := [.lit (.bool true)], args := [d] }
  | _ => none }
def fnExactReachedFromRow : OpenClaim := { program := "ytchnfacedjjakaa", sum := "d5c4b54e0c8947b611105d7739a2f81150cfd9286a74709dfe2fb9ea9ee0277e", func := "loop.example/g01123/laws.FnExactReachedFrom", spec := "fnExactReachedFrom", unfollowed := true, recurses := true, apart := false }
def FnExactReachedFromSaid : Prop := fnExactReachedFromRow.holds Try.pinned (OpenSpec.ofChange fnExactReachedFromSpec)

/-- ITS FALSE NEIGHBOUR: 'it returns false'. Refute it at one input. -/
def fnExactReachedFromWrong : ChangeSpec := { name := "fnExactReachedFrom", fn := fun _ => fun
  | [d] => { results := [.lit (.bool false)], args := [d] }
  | _ => none }
def FnExactReachedFromWrongFalsely : Prop := fnExactReachedFromRow.holds Try.pinned (OpenSpec.ofChange fnExactReachedFromWrong)

/-- 'laws.FnPatternsListed': WHATEVER THE INPUT: true; the input reads as it did. -/
def fnPatternsListedSpec : ChangeSpec := { name := "fnPatternsListed", fn := fun _ => fun
  | [d1, d2] => { results := [.lit (.bool true)], args := [d1, d2] }
  | _ => none }
def fnPatternsListedRow : OpenClaim := { program := "ytchnfacedjjakaa", sum := "d5c4b54e0c8947b611105d7739a2f81150cfd9286a74709dfe2fb9ea9ee0277e", func := "loop.example/g01123/laws.FnPatternsListed", spec := "fnPatternsListed", unfollowed := true, recurses := true, apart := false }
def FnPatternsListedSaid : Prop := fnPatternsListedRow.holds Try.pinned (OpenSpec.ofChange fnPatternsListedSpec)

/-- ITS FALSE NEIGHBOUR: 'it returns false'. Refute it at one input. -/
def fnPatternsListedWrong : ChangeSpec := { name := "fnPatternsListed", fn := fun _ => fun
  | [d1, d2] => { results := [.lit (.bool false)], args := [d1, d2] }
  | _ => none }
def FnPatternsListedWrongFalsely : Prop := fnPatternsListedRow.holds Try.pinned (OpenSpec.ofChange fnPatternsListedWrong)

/-- 'laws.FnSystemSolved': WHATEVER THE INPUT: true; the input reads as it did. -/
def fnSystemSolvedSpec : ChangeSpec := { name := "fnSystemSolved", fn := fun _ => fun
  | [d1, d2] => { results := [.lit (.bool true)], args := [d1, d2] }
  | _ => none }
def fnSystemSolvedRow : OpenClaim := { program := "ytchnfacedjjakaa", sum := "d5c4b54e0c8947b611105d7739a2f81150cfd9286a74709dfe2fb9ea9ee0277e", func := "loop.example/g01123/laws.FnSystemSolved", spec := "fnSystemSolved", unfollowed := true, recurses := true, apart := false }
def FnSystemSolvedSaid : Prop := fnSystemSolvedRow.holds Try.pinned (OpenSpec.ofChange fnSystemSolvedSpec)

/-- ITS FALSE NEIGHBOUR: 'it returns false'. Refute it at one input. -/
def fnSystemSolvedWrong : ChangeSpec := { name := "fnSystemSolved", fn := fun _ => fun
  | [d1, d2] => { results := [.lit (.bool false)], args := [d1, d2] }
  | _ => none }
def FnSystemSolvedWrongFalsely : Prop := fnSystemSolvedRow.holds Try.pinned (OpenSpec.ofChange fnSystemSolvedWrong)

/-- 'laws.FnPatterns': WHATEVER THE INPUT: true; the input reads as it did. -/
def fnPatternsSpec : ChangeSpec := { name := "fnPatterns", fn := fun _ => fun
  | [d1, d2] => { results := [.lit (.bool true)], args := [d1, d2] }
  | _ => none }
def fnPatternsRow : OpenClaim := { program := "ytchnfacedjjakaa", sum := "d5c4b54e0c8947b611105d7739a2f81150cfd9286a74709dfe2fb9ea9ee0277e", func := "loop.example/g01123/laws.FnPatterns", spec := "fnPatterns", unfollowed := true, recurses := true, apart := false }
def FnPatternsSaid : Prop := fnPatternsRow.holds Try.pinned (OpenSpec.ofChange fnPatternsSpec)

/-- ITS FALSE NEIGHBOUR: 'it returns false'. Refute it at one input. -/
def fnPatternsWrong : ChangeSpec := { name := "fnPatterns", fn := fun _ => fun
  | [d1, d2] => { results := [.lit (.bool false)], args := [d1, d2] }
  | _ => none }
def FnPatternsWrongFalsely : Prop := fnPatternsRow.holds Try.pinned (OpenSpec.ofChange fnPatternsWrong)

/-- 'laws.FnPatternsCounted': WHATEVER THE INPUT: true; the input reads as it did. -/
def fnPatternsCountedSpec : ChangeSpec := { name := "fnPatternsCounted", fn := fun _ => fun
  | [d1, d2] => { results := [.lit (.bool true)], args := [d1, d2] }
  | _ => none }
def fnPatternsCountedRow : OpenClaim := { program := "ytchnfacedjjakaa", sum := "d5c4b54e0c8947b611105d7739a2f81150cfd9286a74709dfe2fb9ea9ee0277e", func := "loop.example/g01123/laws.FnPatternsCounted", spec := "fnPatternsCounted", unfollowed := true, recurses := true, apart := false }
def FnPatternsCountedSaid : Prop := fnPatternsCountedRow.holds Try.pinned (OpenSpec.ofChange fnPatternsCountedSpec)

/-- ITS FALSE NEIGHBOUR: 'it returns false'. Refute it at one input. -/
def fnPatternsCountedWrong : ChangeSpec := { name := "fnPatternsCounted", fn := fun _ => fun
  | [d1, d2] => { results := [.lit (.bool false)], args := [d1, d2] }
  | _ => none }
def FnPatternsCountedWrongFalsely : Prop := fnPatternsCountedRow.holds Try.pinned (OpenSpec.ofChange fnPatternsCountedWrong)

/- THE SECOND FORM. 'bulk': how many values and letters a reading holds, each counted each time it is reached (what is shared counts as often as it is met; a slice's spare places count too). A statement '..UptoSaid' is the law's where the arguments, and the package variables that the reading takes, are together of bulk at most 1048576: NARROWER than '..Said'. Prove '..Said' where nothing that the law and all that it calls make is longer than what came in: it says more and counts as full. Else prove '..UptoSaid'. A law counts once. -/
mutual
def uptoBulk {H : Type} : DataW H → Nat
  | .lit (.string bytes) => bytes.length + 1
  | .lit _ => 1
  | .nil => 1
  | .ptr d => uptoBulk d + 1
  | .slice elems spare => uptoBulkAll elems + uptoBulkAll spare + 1
  | .agg parts => uptoBulkAll parts + 1
  | .iface _ d => uptoBulk d + 1
  | .map entries => uptoBulkEntries entries + 1
  | .held _ => 1
def uptoBulkAll {H : Type} : List (DataW H) → Nat
  | [] => 0
  | d :: r => uptoBulk d + uptoBulkAll r
def uptoBulkEntries {H : Type} : List (Lit × DataW H) → Nat
  | [] => 0
  | x :: r => uptoBulkEntry x + uptoBulkEntries r
def uptoBulkEntry {H : Type} : Lit × DataW H → Nat
  | (.string bytes, d) => bytes.length + uptoBulk d + 1
  | (_, d) => uptoBulk d + 1
 end
def uptoSmall : (H : Type) → List (DataW H) → Bool := fun _ ds => decide (uptoBulkAll ds ≤ 1048576)
def OpenSpec.upto (s : _root_.Go.ChangeSpec) : _root_.Go.OpenSpec := { _root_.Go.OpenSpec.ofChange s with cond := some uptoSmall }

/-- 'laws.FnExactRankPattern', WHERE WHAT IT READS IS OF BULK AT MOST 1048576: true; the input reads as it did. -/
def fnExactRankPatternUptoRow : OpenClaim := { program := "ytchnfacedjjakaa", sum := "d5c4b54e0c8947b611105d7739a2f81150cfd9286a74709dfe2fb9ea9ee0277e", func := "loop.example/g01123/laws.FnExactRankPattern", spec := "fnExactRankPattern", unfollowed := true, recurses := true, apart := false, narrowed := true }
def FnExactRankPatternUptoSaid : Prop := fnExactRankPatternUptoRow.holds Try.pinned (OpenSpec.upto fnExactRankPatternSpec)

/-- 'laws.FnOperatorsJoin', WHERE WHAT IT READS IS OF BULK AT MOST 1048576: true; the input reads as it did. -/
def fnOperatorsJoinUptoRow : OpenClaim := { program := "ytchnfacedjjakaa", sum := "d5c4b54e0c8947b611105d7739a2f81150cfd9286a74709dfe2fb9ea9ee0277e", func := "loop.example/g01123/laws.FnOperatorsJoin", spec := "fnOperatorsJoin", unfollowed := true, recurses := true, apart := false, narrowed := true }
def FnOperatorsJoinUptoSaid : Prop := fnOperatorsJoinUptoRow.holds Try.pinned (OpenSpec.upto fnOperatorsJoinSpec)

/-- 'laws.FnExactOperatorOf', WHERE WHAT IT READS IS OF BULK AT MOST 1048576: true; the input reads as it did. -/
def fnExactOperatorOfUptoRow : OpenClaim := { program := "ytchnfacedjjakaa", sum := "d5c4b54e0c8947b611105d7739a2f81150cfd9286a74709dfe2fb9ea9ee0277e", func := "loop.example/g01123/laws.FnExactOperatorOf", spec := "fnExactOperatorOf", unfollowed := true, recurses := true, apart := false, narrowed := true }
def FnExactOperatorOfUptoSaid : Prop := fnExactOperatorOfUptoRow.holds Try.pinned (OpenSpec.upto fnExactOperatorOfSpec)

/-- 'laws.FnExactSumOperator', WHERE WHAT IT READS IS OF BULK AT MOST 1048576: true; the input reads as it did. -/
def fnExactSumOperatorUptoRow : OpenClaim := { program := "ytchnfacedjjakaa", sum := "d5c4b54e0c8947b611105d7739a2f81150cfd9286a74709dfe2fb9ea9ee0277e", func := "loop.example/g01123/laws.FnExactSumOperator", spec := "fnExactSumOperator", unfollowed := true, recurses := true, apart := false, narrowed := true }
def FnExactSumOperatorUptoSaid : Prop := fnExactSumOperatorUptoRow.holds Try.pinned (OpenSpec.upto fnExactSumOperatorSpec)

/-- 'laws.FnExactIsFixed', WHERE WHAT IT READS IS OF BULK AT MOST 1048576: true; the input reads as it did. -/
def fnExactIsFixedUptoRow : OpenClaim := { program := "ytchnfacedjjakaa", sum := "d5c4b54e0c8947b611105d7739a2f81150cfd9286a74709dfe2fb9ea9ee0277e", func := "loop.example/g01123/laws.FnExactIsFixed", spec := "fnExactIsFixed", unfollowed := true, recurses := true, apart := false, narrowed := true }
def FnExactIsFixedUptoSaid : Prop := fnExactIsFixedUptoRow.holds Try.pinned (OpenSpec.upto fnExactIsFixedSpec)

/-- 'laws.FnExactSolutionOf', WHERE WHAT IT READS IS OF BULK AT MOST 1048576: true; the input reads as it did. -/
def fnExactSolutionOfUptoRow : OpenClaim := { program := "ytchnfacedjjakaa", sum := "d5c4b54e0c8947b611105d7739a2f81150cfd9286a74709dfe2fb9ea9ee0277e", func := "loop.example/g01123/laws.FnExactSolutionOf", spec := "fnExactSolutionOf", unfollowed := true, recurses := true, apart := false, narrowed := true }
def FnExactSolutionOfUptoSaid : Prop := fnExactSolutionOfUptoRow.holds Try.pinned (OpenSpec.upto fnExactSolutionOfSpec)

/-- 'laws.FnExactReachedFrom', WHERE WHAT IT READS IS OF BULK AT MOST 1048576: true; the input reads as it did. -/
def fnExactReachedFromUptoRow : OpenClaim := { program := "ytchnfacedjjakaa", sum := "d5c4b54e0c8947b611105d7739a2f81150cfd9286a74709dfe2fb9ea9ee0277e", func := "loop.example/g01123/laws.FnExactReachedFrom", spec := "fnExactReachedFrom", unfollowed := true, recurses := true, apart := false, narrowed := true }
def FnExactReachedFromUptoSaid : Prop := fnExactReachedFromUptoRow.holds Try.pinned (OpenSpec.upto fnExactReachedFromSpec)

/-- 'laws.FnPatternsListed', WHERE WHAT IT READS IS OF BULK AT MOST 1048576: true; the input reads as it did. -/
def fnPatternsListedUptoRow : OpenClaim := { program := "ytchnfacedjjakaa", sum := "d5c4b54e0c8947b611105d7739a2f81150cfd9286a74709dfe2fb9ea9ee0277e", func := "loop.example/g01123/laws.FnPatternsListed", spec := "fnPatternsListed", unfollowed := true, recurses := true, apart := false, narrowed := true }
def FnPatternsListedUptoSaid : Prop := fnPatternsListedUptoRow.holds Try.pinned (OpenSpec.upto fnPatternsListedSpec)

/-- 'laws.FnSystemSolved', WHERE WHAT IT READS IS OF BULK AT MOST 1048576: true; the input reads as it did. -/
def fnSystemSolvedUptoRow : OpenClaim := { program := "ytchnfacedjjakaa", sum := "d5c4b54e0c8947b611105d7739a2f81150cfd9286a74709dfe2fb9ea9ee0277e", func := "loop.example/g01123/laws.FnSystemSolved", spec := "fnSystemSolved", unfollowed := true, recurses := true, apart := false, narrowed := true }
def FnSystemSolvedUptoSaid : Prop := fnSystemSolvedUptoRow.holds Try.pinned (OpenSpec.upto fnSystemSolvedSpec)

/-- 'laws.FnPatterns', WHERE WHAT IT READS IS OF BULK AT MOST 1048576: true; the input reads as it did. -/
def fnPatternsUptoRow : OpenClaim := { program := "ytchnfacedjjakaa", sum := "d5c4b54e0c8947b611105d7739a2f81150cfd9286a74709dfe2fb9ea9ee0277e", func := "loop.example/g01123/laws.FnPatterns", spec := "fnPatterns", unfollowed := true, recurses := true, apart := false, narrowed := true }
def FnPatternsUptoSaid : Prop := fnPatternsUptoRow.holds Try.pinned (OpenSpec.upto fnPatternsSpec)

/-- 'laws.FnPatternsCounted', WHERE WHAT IT READS IS OF BULK AT MOST 1048576: true; the input reads as it did. -/
def fnPatternsCountedUptoRow : OpenClaim := { program := "ytchnfacedjjakaa", sum := "d5c4b54e0c8947b611105d7739a2f81150cfd9286a74709dfe2fb9ea9ee0277e", func := "loop.example/g01123/laws.FnPatternsCounted", spec := "fnPatternsCounted", unfollowed := true, recurses := true, apart := false, narrowed := true }
def FnPatternsCountedUptoSaid : Prop := fnPatternsCountedUptoRow.holds Try.pinned (OpenSpec.upto fnPatternsCountedSpec)

end Rows
end Go.Proofs.Ytchnfacedjjakaa
