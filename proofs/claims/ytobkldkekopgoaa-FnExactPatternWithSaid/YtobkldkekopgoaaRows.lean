/-
  No cell of these rows narrows 'for every input' (looked for: loops, veiled, ifaces, maps, wideKeys, modest, calm, conditions, laid).
  DERIVED. THE GIVEN ROWS OF THIS SEAT. 7 by the template 'for every input the law returns true; each argument reads behind the call as it read before'; 0 by the template 'total and deterministic' (their statements: YtobkldkekopgoaaTotals.lean).
  GIVEN WITH THE SEED: the statements are not yours to turn. If you find one false, say at which input.
  Laid BY PROGRAM, IN A SANDBOX (cutbox-rows.mjs): the forced cells as the released guide's own fill.sh prints them over the translation 1645232e5310f5b3… (all of the seat's roots in one cut). By AI agents, Wed Nov 11 2026. No macro, syntax, notation, axiom, sorry.
-/
import Derived.Test.YtobkldkekopgoaaChecked
import GoSem.Claim
import GoSem.ClaimJoined
import GoSem.ClaimMapViews
import Derived.JoinedTies
import Derived.KernelRfl
namespace Go.Proofs.Ytobkldkekopgoaa
/- THE CELL 'sum', in the pinned program and in every row, IS THE sha256 OF THE DUMP (.gsa) THAT YtobkldkekopgoaaProg.lean LOADS. Nothing in Lean hashes anything: it is a label: what it is worth is what the hold of that sum in a sandbox is worth. -/
noncomputable def Try.pinned : Pinned := { name := "ytobkldkekopgoaa", sum := "1645232e5310f5b333c2cb4c209a8cee8619311b26e02a5774696b1482317a56", checked := Try.checked }
namespace Rows
def none {H : Type} : Left H := { results := [], args := [] }

/-- 'laws.FnExactFirstDesk': WHATEVER THE INPUT: true; the input reads as it did. -/
def fnExactFirstDeskSpec : ChangeSpec := { name := "fnExactFirstDesk", fn := fun _ => fun
  | [] => { results := [.lit (.bool true)], args := [] }
  | _ => none }
def fnExactFirstDeskRow : OpenClaim := { program := "ytobkldkekopgoaa", sum := "1645232e5310f5b333c2cb4c209a8cee8619311b26e02a5774696b1482317a56", func := "loop.example/g01123/laws.FnExactFirstDesk", spec := "fnExactFirstDesk", apart := false }
def FnExactFirstDeskSaid : Prop := fnExactFirstDeskRow.holds Try.pinned (OpenSpec.ofChange fnExactFirstDeskSpec)

/-- ITS FALSE NEIGHBOUR: 'it returns false'. Refute it at one input. -/
def fnExactFirstDeskWrong : ChangeSpec := { name := "fnExactFirstDesk", fn := fun _ => fun
  | [] => { results := [.lit (.bool false)], args := [] }
  | _ => none }
def FnExactFirstDeskWrongFalsely : Prop := fnExactFirstDeskRow.holds Try.pinned (OpenSpec.ofChange fnExactFirstDeskWrong)

/-- 'laws.FnExactMirrorFormula': WHATEVER THE INPUT: true; the input reads as it did. -/
def fnExactMirrorFormulaSpec : ChangeSpec := { name := "fnExactMirrorFormula", fn := fun _ => fun
  | [d] => { results := [.lit (.bool true)], args := [d] }
  | _ => none }
def fnExactMirrorFormulaRow : OpenClaim := { program := "ytobkldkekopgoaa", sum := "1645232e5310f5b333c2cb4c209a8cee8619311b26e02a5774696b1482317a56", func := "loop.example/g01123/laws.FnExactMirrorFormula", spec := "fnExactMirrorFormula", recurses := true, apart := false }
def FnExactMirrorFormulaSaid : Prop := fnExactMirrorFormulaRow.holds Try.pinned (OpenSpec.ofChange fnExactMirrorFormulaSpec)

/-- ITS FALSE NEIGHBOUR: 'it returns false'. Refute it at one input. -/
def fnExactMirrorFormulaWrong : ChangeSpec := { name := "fnExactMirrorFormula", fn := fun _ => fun
  | [d] => { results := [.lit (.bool false)], args := [d] }
  | _ => none }
def FnExactMirrorFormulaWrongFalsely : Prop := fnExactMirrorFormulaRow.holds Try.pinned (OpenSpec.ofChange fnExactMirrorFormulaWrong)

/-- 'laws.FnExactHalfTurnFormula': WHATEVER THE INPUT: true; the input reads as it did. -/
def fnExactHalfTurnFormulaSpec : ChangeSpec := { name := "fnExactHalfTurnFormula", fn := fun _ => fun
  | [d] => { results := [.lit (.bool true)], args := [d] }
  | _ => none }
def fnExactHalfTurnFormulaRow : OpenClaim := { program := "ytobkldkekopgoaa", sum := "1645232e5310f5b333c2cb4c209a8cee8619311b26e02a5774696b1482317a56", func := "loop.example/g01123/laws.FnExactHalfTurnFormula", spec := "fnExactHalfTurnFormula", recurses := true, apart := false }
def FnExactHalfTurnFormulaSaid : Prop := fnExactHalfTurnFormulaRow.holds Try.pinned (OpenSpec.ofChange fnExactHalfTurnFormulaSpec)

/-- ITS FALSE NEIGHBOUR: 'it returns false'. Refute it at one input. -/
def fnExactHalfTurnFormulaWrong : ChangeSpec := { name := "fnExactHalfTurnFormula", fn := fun _ => fun
  | [d] => { results := [.lit (.bool false)], args := [d] }
  | _ => none }
def FnExactHalfTurnFormulaWrongFalsely : Prop := fnExactHalfTurnFormulaRow.holds Try.pinned (OpenSpec.ofChange fnExactHalfTurnFormulaWrong)

/-- 'laws.FnExactApplyOperator': WHATEVER THE INPUT: true; the input reads as it did. -/
def fnExactApplyOperatorSpec : ChangeSpec := { name := "fnExactApplyOperator", fn := fun _ => fun
  | [d1, d2] => { results := [.lit (.bool true)], args := [d1, d2] }
  | _ => none }
def fnExactApplyOperatorRow : OpenClaim := { program := "ytobkldkekopgoaa", sum := "1645232e5310f5b333c2cb4c209a8cee8619311b26e02a5774696b1482317a56", func := "loop.example/g01123/laws.FnExactApplyOperator", spec := "fnExactApplyOperator", unfollowed := true, recurses := true, apart := false }
def FnExactApplyOperatorSaid : Prop := fnExactApplyOperatorRow.holds Try.pinned (OpenSpec.ofChange fnExactApplyOperatorSpec)

/-- ITS FALSE NEIGHBOUR: 'it returns false'. Refute it at one input. -/
def fnExactApplyOperatorWrong : ChangeSpec := { name := "fnExactApplyOperator", fn := fun _ => fun
  | [d1, d2] => { results := [.lit (.bool false)], args := [d1, d2] }
  | _ => none }
def FnExactApplyOperatorWrongFalsely : Prop := fnExactApplyOperatorRow.holds Try.pinned (OpenSpec.ofChange fnExactApplyOperatorWrong)

/-- 'laws.FnExactJoinWord': WHATEVER THE INPUT: true; the input reads as it did. -/
def fnExactJoinWordSpec : ChangeSpec := { name := "fnExactJoinWord", fn := fun _ => fun
  | [d1, d2] => { results := [.lit (.bool true)], args := [d1, d2] }
  | _ => none }
def fnExactJoinWordRow : OpenClaim := { program := "ytobkldkekopgoaa", sum := "1645232e5310f5b333c2cb4c209a8cee8619311b26e02a5774696b1482317a56", func := "loop.example/g01123/laws.FnExactJoinWord", spec := "fnExactJoinWord", unfollowed := true, recurses := true, apart := false }
def FnExactJoinWordSaid : Prop := fnExactJoinWordRow.holds Try.pinned (OpenSpec.ofChange fnExactJoinWordSpec)

/-- ITS FALSE NEIGHBOUR: 'it returns false'. Refute it at one input. -/
def fnExactJoinWordWrong : ChangeSpec := { name := "fnExactJoinWord", fn := fun _ => fun
  | [d1, d2] => { results := [.lit (.bool false)], args := [d1, d2] }
  | _ => none }
def FnExactJoinWordWrongFalsely : Prop := fnExactJoinWordRow.holds Try.pinned (OpenSpec.ofChange fnExactJoinWordWrong)

/-- 'laws.FnExactPatternWith': WHATEVER THE INPUT: true; the input reads as it did. -/
def fnExactPatternWithSpec : ChangeSpec := { name := "fnExactPatternWith", fn := fun _ => fun
  | [d1, d2] => { results := [.lit (.bool true)], args := [d1, d2] }
  | _ => none }
def fnExactPatternWithRow : OpenClaim := { program := "ytobkldkekopgoaa", sum := "1645232e5310f5b333c2cb4c209a8cee8619311b26e02a5774696b1482317a56", func := "loop.example/g01123/laws.FnExactPatternWith", spec := "fnExactPatternWith", unfollowed := true, recurses := true, apart := false }
def FnExactPatternWithSaid : Prop := fnExactPatternWithRow.holds Try.pinned (OpenSpec.ofChange fnExactPatternWithSpec)

/-- ITS FALSE NEIGHBOUR: 'it returns false'. Refute it at one input. -/
def fnExactPatternWithWrong : ChangeSpec := { name := "fnExactPatternWith", fn := fun _ => fun
  | [d1, d2] => { results := [.lit (.bool false)], args := [d1, d2] }
  | _ => none }
def FnExactPatternWithWrongFalsely : Prop := fnExactPatternWithRow.holds Try.pinned (OpenSpec.ofChange fnExactPatternWithWrong)

/-- 'laws.FnExactFromUpperHalf': WHATEVER THE INPUT: true; the input reads as it did. -/
def fnExactFromUpperHalfSpec : ChangeSpec := { name := "fnExactFromUpperHalf", fn := fun _ => fun
  | [d] => { results := [.lit (.bool true)], args := [d] }
  | _ => none }
def fnExactFromUpperHalfRow : OpenClaim := { program := "ytobkldkekopgoaa", sum := "1645232e5310f5b333c2cb4c209a8cee8619311b26e02a5774696b1482317a56", func := "loop.example/g01123/laws.FnExactFromUpperHalf", spec := "fnExactFromUpperHalf", unfollowed := true, recurses := true, apart := false }
def FnExactFromUpperHalfSaid : Prop := fnExactFromUpperHalfRow.holds Try.pinned (OpenSpec.ofChange fnExactFromUpperHalfSpec)

/-- ITS FALSE NEIGHBOUR: 'it returns false'. Refute it at one input. -/
def fnExactFromUpperHalfWrong : ChangeSpec := { name := "fnExactFromUpperHalf", fn := fun _ => fun
  | [d] => { results := [.lit (.bool false)], args := [d] }
  | _ => none }
def FnExactFromUpperHalfWrongFalsely : Prop := fnExactFromUpperHalfRow.holds Try.pinned (OpenSpec.ofChange fnExactFromUpperHalfWrong)

/- THE SECOND FORM. 'bulk': how many values and letters a reading holds, each counted each time it is reached (what is shared counts as often as it is met; a slice's spare places count too). A statement '..UptoSaid' is the law's where the arguments, and the package variables that the reading takes, are together of bulk at most 1048576: NARROWER than '..Said'. Prove '..Said' where nothing that the law and all that it calls make is longer than what came in: it says more and counts as full. Else prove '..UptoSaid'. A law counts once. -/
mutual
def uptoBulk {H : Type} : DataW H → Nat
  | .lit (.string bytes) => bytes.length + 1
  | .lit _ => 1
  | .nil => 1
  | .ptr d => uptoBulk d + 1
  | .slice elems spare => uptoBulkAll elems + uptoBulkAll spare + 1
  | .agg parts => uptoBulkAll parts + 1
  | .iface _ d => uptoBulk d + 1
  | .map entries => uptoBulkEntries entries + 1
  | .held _ => 1
def uptoBulkAll {H : Type} : List (DataW H) → Nat
  | [] => 0
  | d :: r => uptoBulk d + uptoBulkAll r
def uptoBulkEntries {H : Type} : List (Lit × DataW H) → Nat
  | [] => 0
  | x :: r => uptoBulkEntry x + uptoBulkEntries r
def uptoBulkEntry {H : Type} : Lit × DataW H → Nat
  | (.string bytes, d) => bytes.length + uptoBulk d + 1
  | (_, d) => uptoBulk d + 1
 end
def uptoSmall : (H : Type) → List (DataW H) → Bool := fun _ ds => decide (uptoBulkAll ds ≤ 1048576)
def OpenSpec.upto (s : _root_.Go.ChangeSpec) : _root_.Go.OpenSpec := { _root_.Go.OpenSpec.ofChange s with cond := some uptoSmall }

/-- 'laws.FnExactFirstDesk', WHERE WHAT IT READS IS OF BULK AT MOST 1048576: true; the input reads as it did. -/
def fnExactFirstDeskUptoRow : OpenClaim := { program := "ytobkldkekopgoaa", sum := "1645232e5310f5b333c2cb4c209a8cee8619311b26e02a5774696b1482317a56", func := "loop.example/g01123/laws.FnExactFirstDesk", spec := "fnExactFirstDesk", apart := false, narrowed := true }
def FnExactFirstDeskUptoSaid : Prop := fnExactFirstDeskUptoRow.holds Try.pinned (OpenSpec.upto fnExactFirstDeskSpec)

/-- 'laws.FnExactMirrorFormula', WHERE WHAT IT READS IS OF BULK AT MOST 1048576: true; the input reads as it did. -/
def fnExactMirrorFormulaUptoRow : OpenClaim := { program := "ytobkldkekopgoaa", sum := "1645232e5310f5b333c2cb4c209a8cee8619311b26e02a5774696b1482317a56", func := "loop.example/g01123/laws.FnExactMirrorFormula", spec := "fnExactMirrorFormula", recurses := true, apart := false, narrowed := true }
def FnExactMirrorFormulaUptoSaid : Prop := fnExactMirrorFormulaUptoRow.holds Try.pinned (OpenSpec.upto fnExactMirrorFormulaSpec)

/-- 'laws.FnExactHalfTurnFormula', WHERE WHAT IT READS IS OF BULK AT MOST 1048576: true; the input reads as it did. -/
def fnExactHalfTurnFormulaUptoRow : OpenClaim := { program := "ytobkldkekopgoaa", sum := "1645232e5310f5b333c2cb4c209a8cee8619311b26e02a5774696b1482317a56", func := "loop.example/g01123/laws.FnExactHalfTurnFormula", spec := "fnExactHalfTurnFormula", recurses := true, apart := false, narrowed := true }
def FnExactHalfTurnFormulaUptoSaid : Prop := fnExactHalfTurnFormulaUptoRow.holds Try.pinned (OpenSpec.upto fnExactHalfTurnFormulaSpec)

/-- 'laws.FnExactApplyOperator', WHERE WHAT IT READS IS OF BULK AT MOST 1048576: true; the input reads as it did. -/
def fnExactApplyOperatorUptoRow : OpenClaim := { program := "ytobkldkekopgoaa", sum := "1645232e5310f5b333c2cb4c209a8cee8619311b26e02a5774696b1482317a56", func := "loop.example/g01123/laws.FnExactApplyOperator", spec := "fnExactApplyOperator", unfollowed := true, recurses := true, apart := false, narrowed := true }
def FnExactApplyOperatorUptoSaid : Prop := fnExactApplyOperatorUptoRow.holds Try.pinned (OpenSpec.upto fnExactApplyOperatorSpec)

/-- 'laws.FnExactJoinWord', WHERE WHAT IT READS IS OF BULK AT MOST 1048576: true; the input reads as it did. -/
def fnExactJoinWordUptoRow : OpenClaim := { program := "ytobkldkekopgoaa", sum := "1645232e5310f5b333c2cb4c209a8cee8619311b26e02a5774696b1482317a56", func := "loop.example/g01123/laws.FnExactJoinWord", spec := "fnExactJoinWord", unfollowed := true, recurses := true, apart := false, narrowed := true }
def FnExactJoinWordUptoSaid : Prop := fnExactJoinWordUptoRow.holds Try.pinned (OpenSpec.upto fnExactJoinWordSpec)

/-- 'laws.FnExactPatternWith', WHERE WHAT IT READS IS OF BULK AT MOST 1048576: true; the input reads as it did. -/
def fnExactPatternWithUptoRow : OpenClaim := { program := "ytobkldkekopgoaa", sum := "1645232e5310f5b333c2cb4c209a8cee8619311b26e02a5774696b1482317a56", func := "loop.example/g01123/laws.FnExactPatternWith", spec := "fnExactPatternWith", unfollowed := true, recurses := true, apart := false, narrowed := true }
def FnExactPatternWithUptoSaid : Prop := fnExactPatternWithUptoRow.holds Try.pinned (OpenSpec.upto fnExactPatternWithSpec)

/-- 'laws.FnExactFromUpperHalf', WHERE WHAT IT READS IS OF BULK AT MOST 1048576: true; the input reads as it did. -/
def fnExactFromUpperHalfUptoRow : OpenClaim := { program := "ytobkldkekopgoaa", sum := "1645232e5310f5b333c2cb4c209a8cee8619311b26e02a5774696b1482317a56", func := "loop.example/g01123/laws.FnExactFromUpperHalf", spec := "fnExactFromUpperHalf", unfollowed := true, recurses := true, apart := false, narrowed := true }
def FnExactFromUpperHalfUptoSaid : Prop := fnExactFromUpperHalfUptoRow.holds Try.pinned (OpenSpec.upto fnExactFromUpperHalfSpec)

end Rows
end Go.Proofs.Ytobkldkekopgoaa
