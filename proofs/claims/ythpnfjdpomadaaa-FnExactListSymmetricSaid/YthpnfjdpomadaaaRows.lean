/-
  No cell of these rows narrows 'for every input' (looked for: loops, veiled, ifaces, maps, wideKeys, modest, calm, conditions, laid).
  DERIVED. THE GIVEN ROWS OF THIS SEAT. 11 by the template 'for every input the law returns true; each argument reads behind the call as it read before'; 0 by the template 'total and deterministic' (their statements: YthpnfjdpomadaaaTotals.lean).
  GIVEN WITH THE SEED: the statements are not yours to turn. If you find one false, say at which input.
  Laid BY PROGRAM, IN A SANDBOX (cutbox-rows.mjs): the forced cells as the released guide's own fill.sh prints them over the translation 5bdd3c7e09db77ea… (all of the seat's roots in one cut). By AI agents, Wed Nov 11 2026. No macro, syntax, notation, axiom, sorry.
-/
import Derived.Test.YthpnfjdpomadaaaChecked
import GoSem.Claim
import GoSem.ClaimJoined
import GoSem.ClaimMapViews
import Derived.JoinedTies
import Derived.KernelRfl
namespace Go.Proofs.Ythpnfjdpomadaaa
/- THE CELL 'sum', in the pinned program and in every row, IS THE sha256 OF THE DUMP (.gsa) THAT YthpnfjdpomadaaaProg.lean LOADS. Nothing in Lean hashes anything: it is a label: what it is worth is what the hold of that sum in a sandbox is worth. -/
noncomputable def Try.pinned : Pinned := { name := "ythpnfjdpomadaaa", sum := "5bdd3c7e09db77eade6b706d17209b5e3bf70a70c7bd8c6d771667fb788d0fd4", checked := Try.checked }
namespace Rows
def none {H : Type} : Left H := { results := [], args := [] }

/-- 'laws.FnExactCountUpToAll': WHATEVER THE INPUT: true; the input reads as it did. -/
def fnExactCountUpToAllSpec : ChangeSpec := { name := "fnExactCountUpToAll", fn := fun _ => fun
  | [d] => { results := [.lit (.bool true)], args := [d] }
  | _ => none }
def fnExactCountUpToAllRow : OpenClaim := { program := "ythpnfjdpomadaaa", sum := "5bdd3c7e09db77eade6b706d17209b5e3bf70a70c7bd8c6d771667fb788d0fd4", func := "loop.example/g01123/laws.FnExactCountUpToAll", spec := "fnExactCountUpToAll", unfollowed := true, recurses := true, apart := false }
def FnExactCountUpToAllSaid : Prop := fnExactCountUpToAllRow.holds Try.pinned (OpenSpec.ofChange fnExactCountUpToAllSpec)

/-- ITS FALSE NEIGHBOUR: 'it returns false'. Refute it at one input. -/
def fnExactCountUpToAllWrong : ChangeSpec := { name := "fnExactCountUpToAll", fn := fun _ => fun
  | [d] => { results := [.lit (.bool false)], args := [d] }
  | _ => none }
def FnExactCountUpToAllWrongFalsely : Prop := fnExactCountUpToAllRow.holds Try.pinned (OpenSpec.ofChange fnExactCountUpToAllWrong)

/-- 'laws.FnExactCountSymmetric': WHATEVER THE INPUT: true; the input reads as it did. -/
def fnExactCountSymmetricSpec : ChangeSpec := { name := "fnExactCountSymmetric", fn := fun _ => fun
  | [d1, d2] => { results := [.lit (.bool true)], args := [d1, d2] }
  | _ => none }
def fnExactCountSymmetricRow : OpenClaim := { program := "ythpnfjdpomadaaa", sum := "5bdd3c7e09db77eade6b706d17209b5e3bf70a70c7bd8c6d771667fb788d0fd4", func := "loop.example/g01123/laws.FnExactCountSymmetric", spec := "fnExactCountSymmetric", unfollowed := true, recurses := true, apart := false }
def FnExactCountSymmetricSaid : Prop := fnExactCountSymmetricRow.holds Try.pinned (OpenSpec.ofChange fnExactCountSymmetricSpec)

/-- ITS FALSE NEIGHBOUR: 'it returns false'. Refute it at one input. -/
def fnExactCountSymmetricWrong : ChangeSpec := { name := "fnExactCountSymmetric", fn := fun _ => fun
  | [d1, d2] => { results := [.lit (.bool false)], args := [d1, d2] }
  | _ => none }
def FnExactCountSymmetricWrongFalsely : Prop := fnExactCountSymmetricRow.holds Try.pinned (OpenSpec.ofChange fnExactCountSymmetricWrong)

/-- 'laws.FnExactHasSymmetry': WHATEVER THE INPUT: true; the input reads as it did. -/
def fnExactHasSymmetrySpec : ChangeSpec := { name := "fnExactHasSymmetry", fn := fun _ => fun
  | [d1, d2] => { results := [.lit (.bool true)], args := [d1, d2] }
  | _ => none }
def fnExactHasSymmetryRow : OpenClaim := { program := "ythpnfjdpomadaaa", sum := "5bdd3c7e09db77eade6b706d17209b5e3bf70a70c7bd8c6d771667fb788d0fd4", func := "loop.example/g01123/laws.FnExactHasSymmetry", spec := "fnExactHasSymmetry", unfollowed := true, recurses := true, apart := false }
def FnExactHasSymmetrySaid : Prop := fnExactHasSymmetryRow.holds Try.pinned (OpenSpec.ofChange fnExactHasSymmetrySpec)

/-- ITS FALSE NEIGHBOUR: 'it returns false'. Refute it at one input. -/
def fnExactHasSymmetryWrong : ChangeSpec := { name := "fnExactHasSymmetry", fn := fun _ => fun
  | [d1, d2] => { results := [.lit (.bool false)], args := [d1, d2] }
  | _ => none }
def FnExactHasSymmetryWrongFalsely : Prop := fnExactHasSymmetryRow.holds Try.pinned (OpenSpec.ofChange fnExactHasSymmetryWrong)

/-- 'laws.FnExactSymmetriesOf': WHATEVER THE INPUT: true; the input reads as it did. -/
def fnExactSymmetriesOfSpec : ChangeSpec := { name := "fnExactSymmetriesOf", fn := fun _ => fun
  | [d] => { results := [.lit (.bool true)], args := [d] }
  | _ => none }
def fnExactSymmetriesOfRow : OpenClaim := { program := "ythpnfjdpomadaaa", sum := "5bdd3c7e09db77eade6b706d17209b5e3bf70a70c7bd8c6d771667fb788d0fd4", func := "loop.example/g01123/laws.FnExactSymmetriesOf", spec := "fnExactSymmetriesOf", unfollowed := true, recurses := true, apart := false }
def FnExactSymmetriesOfSaid : Prop := fnExactSymmetriesOfRow.holds Try.pinned (OpenSpec.ofChange fnExactSymmetriesOfSpec)

/-- ITS FALSE NEIGHBOUR: 'it returns false'. Refute it at one input. -/
def fnExactSymmetriesOfWrong : ChangeSpec := { name := "fnExactSymmetriesOf", fn := fun _ => fun
  | [d] => { results := [.lit (.bool false)], args := [d] }
  | _ => none }
def FnExactSymmetriesOfWrongFalsely : Prop := fnExactSymmetriesOfRow.holds Try.pinned (OpenSpec.ofChange fnExactSymmetriesOfWrong)

/-- 'laws.FnExactMiddleOf': WHATEVER THE INPUT: true; the input reads as it did. -/
def fnExactMiddleOfSpec : ChangeSpec := { name := "fnExactMiddleOf", fn := fun _ => fun
  | [d] => { results := [.lit (.bool true)], args := [d] }
  | _ => none }
def fnExactMiddleOfRow : OpenClaim := { program := "ythpnfjdpomadaaa", sum := "5bdd3c7e09db77eade6b706d17209b5e3bf70a70c7bd8c6d771667fb788d0fd4", func := "loop.example/g01123/laws.FnExactMiddleOf", spec := "fnExactMiddleOf", unfollowed := true, recurses := true, apart := false }
def FnExactMiddleOfSaid : Prop := fnExactMiddleOfRow.holds Try.pinned (OpenSpec.ofChange fnExactMiddleOfSpec)

/-- ITS FALSE NEIGHBOUR: 'it returns false'. Refute it at one input. -/
def fnExactMiddleOfWrong : ChangeSpec := { name := "fnExactMiddleOf", fn := fun _ => fun
  | [d] => { results := [.lit (.bool false)], args := [d] }
  | _ => none }
def FnExactMiddleOfWrongFalsely : Prop := fnExactMiddleOfRow.holds Try.pinned (OpenSpec.ofChange fnExactMiddleOfWrong)

/-- 'laws.FnExactLeftHalf': WHATEVER THE INPUT: true; the input reads as it did. -/
def fnExactLeftHalfSpec : ChangeSpec := { name := "fnExactLeftHalf", fn := fun _ => fun
  | [d] => { results := [.lit (.bool true)], args := [d] }
  | _ => none }
def fnExactLeftHalfRow : OpenClaim := { program := "ythpnfjdpomadaaa", sum := "5bdd3c7e09db77eade6b706d17209b5e3bf70a70c7bd8c6d771667fb788d0fd4", func := "loop.example/g01123/laws.FnExactLeftHalf", spec := "fnExactLeftHalf", unfollowed := true, recurses := true, apart := false }
def FnExactLeftHalfSaid : Prop := fnExactLeftHalfRow.holds Try.pinned (OpenSpec.ofChange fnExactLeftHalfSpec)

/-- ITS FALSE NEIGHBOUR: 'it returns false'. Refute it at one input. -/
def fnExactLeftHalfWrong : ChangeSpec := { name := "fnExactLeftHalf", fn := fun _ => fun
  | [d] => { results := [.lit (.bool false)], args := [d] }
  | _ => none }
def FnExactLeftHalfWrongFalsely : Prop := fnExactLeftHalfRow.holds Try.pinned (OpenSpec.ofChange fnExactLeftHalfWrong)

/-- 'laws.FnExactUpperHalf': WHATEVER THE INPUT: true; the input reads as it did. -/
def fnExactUpperHalfSpec : ChangeSpec := { name := "fnExactUpperHalf", fn := fun _ => fun
  | [d] => { results := [.lit (.bool true)], args := [d] }
  | _ => none }
def fnExactUpperHalfRow : OpenClaim := { program := "ythpnfjdpomadaaa", sum := "5bdd3c7e09db77eade6b706d17209b5e3bf70a70c7bd8c6d771667fb788d0fd4", func := "loop.example/g01123/laws.FnExactUpperHalf", spec := "fnExactUpperHalf", unfollowed := true, recurses := true, apart := false }
def FnExactUpperHalfSaid : Prop := fnExactUpperHalfRow.holds Try.pinned (OpenSpec.ofChange fnExactUpperHalfSpec)

/-- ITS FALSE NEIGHBOUR: 'it returns false'. Refute it at one input. -/
def fnExactUpperHalfWrong : ChangeSpec := { name := "fnExactUpperHalf", fn := fun _ => fun
  | [d] => { results := [.lit (.bool false)], args := [d] }
  | _ => none }
def FnExactUpperHalfWrongFalsely : Prop := fnExactUpperHalfRow.holds Try.pinned (OpenSpec.ofChange fnExactUpperHalfWrong)

/-- 'laws.FnExactListSymmetric': WHATEVER THE INPUT: true; the input reads as it did. -/
def fnExactListSymmetricSpec : ChangeSpec := { name := "fnExactListSymmetric", fn := fun _ => fun
  | [d1, d2] => { results := [.lit (.bool true)], args := [d1, d2] }
  | _ => none }
def fnExactListSymmetricRow : OpenClaim := { program := "ythpnfjdpomadaaa", sum := "5bdd3c7e09db77eade6b706d17209b5e3bf70a70c7bd8c6d771667fb788d0fd4", func := "loop.example/g01123/laws.FnExactListSymmetric", spec := "fnExactListSymmetric", unfollowed := true, recurses := true, apart := false }
def FnExactListSymmetricSaid : Prop := fnExactListSymmetricRow.holds Try.pinned (OpenSpec.ofChange fnExactListSymmetricSpec)

/-- ITS FALSE NEIGHBOUR: 'it returns false'. Refute it at one input. -/
def fnExactListSymmetricWrong : ChangeSpec := { name := "fnExactListSymmetric", fn := fun _ => fun
  | [d1, d2] => { results := [.lit (.bool false)], args := [d1, d2] }
  | _ => none }
def FnExactListSymmetricWrongFalsely : Prop := fnExactListSymmetricRow.holds Try.pinned (OpenSpec.ofChange fnExactListSymmetricWrong)

/-- 'laws.FnExactFromLeftHalf': WHATEVER THE INPUT: true; the input reads as it did. -/
def fnExactFromLeftHalfSpec : ChangeSpec := { name := "fnExactFromLeftHalf", fn := fun _ => fun
  | [d] => { results := [.lit (.bool true)], args := [d] }
  | _ => none }
def fnExactFromLeftHalfRow : OpenClaim := { program := "ythpnfjdpomadaaa", sum := "5bdd3c7e09db77eade6b706d17209b5e3bf70a70c7bd8c6d771667fb788d0fd4", func := "loop.example/g01123/laws.FnExactFromLeftHalf", spec := "fnExactFromLeftHalf", unfollowed := true, recurses := true, apart := false }
def FnExactFromLeftHalfSaid : Prop := fnExactFromLeftHalfRow.holds Try.pinned (OpenSpec.ofChange fnExactFromLeftHalfSpec)

/-- ITS FALSE NEIGHBOUR: 'it returns false'. Refute it at one input. -/
def fnExactFromLeftHalfWrong : ChangeSpec := { name := "fnExactFromLeftHalf", fn := fun _ => fun
  | [d] => { results := [.lit (.bool false)], args := [d] }
  | _ => none }
def FnExactFromLeftHalfWrongFalsely : Prop := fnExactFromLeftHalfRow.holds Try.pinned (OpenSpec.ofChange fnExactFromLeftHalfWrong)

/-- 'laws.FnExactOrbitOf': WHATEVER THE INPUT: true; the input reads as it did. -/
def fnExactOrbitOfSpec : ChangeSpec := { name := "fnExactOrbitOf", fn := fun _ => fun
  | [d] => { results := [.lit (.bool true)], args := [d] }
  | _ => none }
def fnExactOrbitOfRow : OpenClaim := { program := "ythpnfjdpomadaaa", sum := "5bdd3c7e09db77eade6b706d17209b5e3bf70a70c7bd8c6d771667fb788d0fd4", func := "loop.example/g01123/laws.FnExactOrbitOf", spec := "fnExactOrbitOf", unfollowed := true, recurses := true, apart := false }
def FnExactOrbitOfSaid : Prop := fnExactOrbitOfRow.holds Try.pinned (OpenSpec.ofChange fnExactOrbitOfSpec)

/-- ITS FALSE NEIGHBOUR: 'it returns false'. Refute it at one input. -/
def fnExactOrbitOfWrong : ChangeSpec := { name := "fnExactOrbitOf", fn := fun _ => fun
  | [d] => { results := [.lit (.bool false)], args := [d] }
  | _ => none }
def FnExactOrbitOfWrongFalsely : Prop := fnExactOrbitOfRow.holds Try.pinned (OpenSpec.ofChange fnExactOrbitOfWrong)

/-- 'laws.FnHalvesOfMatrices': WHATEVER THE INPUT: true; the input reads as it did. -/
def fnHalvesOfMatricesSpec : ChangeSpec := { name := "fnHalvesOfMatrices", fn := fun _ => fun
  | [d1, d2] => { results := [.lit (.bool true)], args := [d1, d2] }
  | _ => none }
def fnHalvesOfMatricesRow : OpenClaim := { program := "ythpnfjdpomadaaa", sum := "5bdd3c7e09db77eade6b706d17209b5e3bf70a70c7bd8c6d771667fb788d0fd4", func := "loop.example/g01123/laws.FnHalvesOfMatrices", spec := "fnHalvesOfMatrices", unfollowed := true, recurses := true, apart := false }
def FnHalvesOfMatricesSaid : Prop := fnHalvesOfMatricesRow.holds Try.pinned (OpenSpec.ofChange fnHalvesOfMatricesSpec)

/-- ITS FALSE NEIGHBOUR: 'it returns false'. Refute it at one input. -/
def fnHalvesOfMatricesWrong : ChangeSpec := { name := "fnHalvesOfMatrices", fn := fun _ => fun
  | [d1, d2] => { results := [.lit (.bool false)], args := [d1, d2] }
  | _ => none }
def FnHalvesOfMatricesWrongFalsely : Prop := fnHalvesOfMatricesRow.holds Try.pinned (OpenSpec.ofChange fnHalvesOfMatricesWrong)

/- THE SECOND FORM. 'bulk': how many values and letters a reading holds, each counted each time it is reached (what is shared counts as often as it is met; a slice's spare places count too). A statement '..UptoSaid' is the law's where the arguments, and the package variables that the reading takes, are together of bulk at most 1048576: NARROWER than '..Said'. Prove '..Said' where nothing that the law and all that it calls make is longer than what came in: it says more and counts as full. Else prove '..UptoSaid'. A law counts once. -/
mutual
def uptoBulk {H : Type} : DataW H → Nat
  | .lit (.string bytes) => bytes.length + 1
  | .lit _ => 1
  | .nil => 1
  | .ptr d => uptoBulk d + 1
  | .slice elems spare => uptoBulkAll elems + uptoBulkAll spare + 1
  | .agg parts => uptoBulkAll parts + 1
  | .iface _ d => uptoBulk d + 1
  | .map entries => uptoBulkEntries entries + 1
  | .held _ => 1
def uptoBulkAll {H : Type} : List (DataW H) → Nat
  | [] => 0
  | d :: r => uptoBulk d + uptoBulkAll r
def uptoBulkEntries {H : Type} : List (Lit × DataW H) → Nat
  | [] => 0
  | x :: r => uptoBulkEntry x + uptoBulkEntries r
def uptoBulkEntry {H : Type} : Lit × DataW H → Nat
  | (.string bytes, d) => bytes.length + uptoBulk d + 1
  | (_, d) => uptoBulk d + 1
 end
def uptoSmall : (H : Type) → List (DataW H) → Bool := fun _ ds => decide (uptoBulkAll ds ≤ 1048576)
def OpenSpec.upto (s : _root_.Go.ChangeSpec) : _root_.Go.OpenSpec := { _root_.Go.OpenSpec.ofChange s with cond := some uptoSmall }

/-- 'laws.FnExactCountUpToAll', WHERE WHAT IT READS IS OF BULK AT MOST 1048576: true; the input reads as it did. -/
def fnExactCountUpToAllUptoRow : OpenClaim := { program := "ythpnfjdpomadaaa", sum := "5bdd3c7e09db77eade6b706d17209b5e3bf70a70c7bd8c6d771667fb788d0fd4", func := "loop.example/g01123/laws.FnExactCountUpToAll", spec := "fnExactCountUpToAll", unfollowed := true, recurses := true, apart := false, narrowed := true }
def FnExactCountUpToAllUptoSaid : Prop := fnExactCountUpToAllUptoRow.holds Try.pinned (OpenSpec.upto fnExactCountUpToAllSpec)

/-- 'laws.FnExactCountSymmetric', WHERE WHAT IT READS IS OF BULK AT MOST 1048576: true; the input reads as it did. -/
def fnExactCountSymmetricUptoRow : OpenClaim := { program := "ythpnfjdpomadaaa", sum := "5bdd3c7e09db77eade6b706d17209b5e3bf70a70c7bd8c6d771667fb788d0fd4", func := "loop.example/g01123/laws.FnExactCountSymmetric", spec := "fnExactCountSymmetric", unfollowed := true, recurses := true, apart := false, narrowed := true }
def FnExactCountSymmetricUptoSaid : Prop := fnExactCountSymmetricUptoRow.holds Try.pinned (OpenSpec.upto fnExactCountSymmetricSpec)

/-- 'laws.FnExactHasSymmetry', WHERE WHAT IT READS IS OF BULK AT MOST 1048576: true; the input reads as it did. -/
def fnExactHasSymmetryUptoRow : OpenClaim := { program := "ythpnfjdpomadaaa", sum := "5bdd3c7e09db77eade6b706d17209b5e3bf70a70c7bd8c6d771667fb788d0fd4", func := "loop.example/g01123/laws.FnExactHasSymmetry", spec := "fnExactHasSymmetry", unfollowed := true, recurses := true, apart := false, narrowed := true }
def FnExactHasSymmetryUptoSaid : Prop := fnExactHasSymmetryUptoRow.holds Try.pinned (OpenSpec.upto fnExactHasSymmetrySpec)

/-- 'laws.FnExactSymmetriesOf', WHERE WHAT IT READS IS OF BULK AT MOST 1048576: true; the input reads as it did. -/
def fnExactSymmetriesOfUptoRow : OpenClaim := { program := "ythpnfjdpomadaaa", sum := "5bdd3c7e09db77eade6b706d17209b5e3bf70a70c7bd8c6d771667fb788d0fd4", func := "loop.example/g01123/laws.FnExactSymmetriesOf", spec := "fnExactSymmetriesOf", unfollowed := true, recurses := true, apart := false, narrowed := true }
def FnExactSymmetriesOfUptoSaid : Prop := fnExactSymmetriesOfUptoRow.holds Try.pinned (OpenSpec.upto fnExactSymmetriesOfSpec)

/-- 'laws.FnExactMiddleOf', WHERE WHAT IT READS IS OF BULK AT MOST 1048576: true; the input reads as it did. -/
def fnExactMiddleOfUptoRow : OpenClaim := { program := "ythpnfjdpomadaaa", sum := "5bdd3c7e09db77eade6b706d17209b5e3bf70a70c7bd8c6d771667fb788d0fd4", func := "loop.example/g01123/laws.FnExactMiddleOf", spec := "fnExactMiddleOf", unfollowed := true, recurses := true, apart := false, narrowed := true }
def FnExactMiddleOfUptoSaid : Prop := fnExactMiddleOfUptoRow.holds Try.pinned (OpenSpec.upto fnExactMiddleOfSpec)

/-- 'laws.FnExactLeftHalf', WHERE WHAT IT READS IS OF BULK AT MOST 1048576: true; the input reads as it did. -/
def fnExactLeftHalfUptoRow : OpenClaim := { program := "ythpnfjdpomadaaa", sum := "5bdd3c7e09db77eade6b706d17209b5e3bf70a70c7bd8c6d771667fb788d0fd4", func := "loop.example/g01123/laws.FnExactLeftHalf", spec := "fnExactLeftHalf", unfollowed := true, recurses := true, apart := false, narrowed := true }
def FnExactLeftHalfUptoSaid : Prop := fnExactLeftHalfUptoRow.holds Try.pinned (OpenSpec.upto fnExactLeftHalfSpec)

/-- 'laws.FnExactUpperHalf', WHERE WHAT IT READS IS OF BULK AT MOST 1048576: true; the input reads as it did. -/
def fnExactUpperHalfUptoRow : OpenClaim := { program := "ythpnfjdpomadaaa", sum := "5bdd3c7e09db77eade6b706d17209b5e3bf70a70c7bd8c6d771667fb788d0fd4", func := "loop.example/g01123/laws.FnExactUpperHalf", spec := "fnExactUpperHalf", unfollowed := true, recurses := true, apart := false, narrowed := true }
def FnExactUpperHalfUptoSaid : Prop := fnExactUpperHalfUptoRow.holds Try.pinned (OpenSpec.upto fnExactUpperHalfSpec)

/-- 'laws.FnExactListSymmetric', WHERE WHAT IT READS IS OF BULK AT MOST 1048576: true; the input reads as it did. -/
def fnExactListSymmetricUptoRow : OpenClaim := { program := "ythpnfjdpomadaaa", sum := "5bdd3c7e09db77eade6b706d17209b5e3bf70a70c7bd8c6d771667fb788d0fd4", func := "loop.example/g01123/laws.FnExactListSymmetric", spec := "fnExactListSymmetric", unfollowed := true, recurses := true, apart := false, narrowed := true }
def FnExactListSymmetricUptoSaid : Prop := fnExactListSymmetricUptoRow.holds Try.pinned (OpenSpec.upto fnExactListSymmetricSpec)

/-- 'laws.FnExactFromLeftHalf', WHERE WHAT IT READS IS OF BULK AT MOST 1048576: true; the input reads as it did. -/
def fnExactFromLeftHalfUptoRow : OpenClaim := { program := "ythpnfjdpomadaaa", sum := "5bdd3c7e09db77eade6b706d17209b5e3bf70a70c7bd8c6d771667fb788d0fd4", func := "loop.example/g01123/laws.FnExactFromLeftHalf", spec := "fnExactFromLeftHalf", unfollowed := true, recurses := true, apart := false, narrowed := true }
def FnExactFromLeftHalfUptoSaid : Prop := fnExactFromLeftHalfUptoRow.holds Try.pinned (OpenSpec.upto fnExactFromLeftHalfSpec)

/-- 'laws.FnExactOrbitOf', WHERE WHAT IT READS IS OF BULK AT MOST 1048576: true; the input reads as it did. -/
def fnExactOrbitOfUptoRow : OpenClaim := { program := "ythpnfjdpomadaaa", sum := "5bdd3c7e09db77eade6b706d17209b5e3bf70a70c7bd8c6d771667fb788d0fd4", func := "loop.example/g01123/laws.FnExactOrbitOf", spec := "fnExactOrbitOf", unfollowed := true, recurses := true, apart := false, narrowed := true }
def FnExactOrbitOfUptoSaid : Prop := fnExactOrbitOfUptoRow.holds Try.pinned (OpenSpec.upto fnExactOrbitOfSpec)

/-- 'laws.FnHalvesOfMatrices', WHERE WHAT IT READS IS OF BULK AT MOST 1048576: true; the input reads as it did. -/
def fnHalvesOfMatricesUptoRow : OpenClaim := { program := "ythpnfjdpomadaaa", sum := "5bdd3c7e09db77eade6b706d17209b5e3bf70a70c7bd8c6d771667fb788d0fd4", func := "loop.example/g01123/laws.FnHalvesOfMatrices", spec := "fnHalvesOfMatrices", unfollowed := true, recurses := true, apart := false, narrowed := true }
def FnHalvesOfMatricesUptoSaid : Prop := fnHalvesOfMatricesUptoRow.holds Try.pinned (OpenSpec.upto fnHalvesOfMatricesSpec)

end Rows
end Go.Proofs.Ythpnfjdpomadaaa
