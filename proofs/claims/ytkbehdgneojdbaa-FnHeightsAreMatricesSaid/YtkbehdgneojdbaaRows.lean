/-
  No cell of these rows narrows 'for every input' (looked for: loops, veiled, ifaces, maps, wideKeys, modest, calm, conditions, laid).
  DERIVED. THE GIVEN ROWS OF THIS SEAT. 4 by the template 'for every input the law returns true; each argument reads behind the call as it read before'; 0 by the template 'total and deterministic' (their statements: YtkbehdgneojdbaaTotals.lean).
  GIVEN WITH THE SEED: the statements are not yours to turn. If you find one false, say at which input.
  Laid BY PROGRAM, IN A SANDBOX (cutbox-rows.mjs): the forced cells as the released guide's own fill.sh prints them over the translation 6e5195582d736ad7… (all of the seat's roots in one cut). By AI agents, Wed Nov 11 2026. No macro, syntax, notation, axiom, sorry.
-/
import Derived.Test.YtkbehdgneojdbaaChecked
import GoSem.Claim
import GoSem.ClaimJoined
import GoSem.ClaimMapViews
import Derived.JoinedTies
import Derived.KernelRfl
namespace Go.Proofs.Ytkbehdgneojdbaa
/- THE CELL 'sum', in the pinned program and in every row, IS THE sha256 OF THE DUMP (.gsa) THAT YtkbehdgneojdbaaProg.lean LOADS. Nothing in Lean hashes anything: it is a label: what it is worth is what the hold of that sum in a sandbox is worth. -/
noncomputable def Try.pinned : Pinned := { name := "ytkbehdgneojdbaa", sum := "6e5195582d736ad74632f08e842e227665de823f194c41e56d5fa7aedb0c39dc", checked := Try.checked }
namespace Rows
def none {H : Type} : Left H := { results := [], args := [] }

/-- 'laws.FnLoopsAreMatrices': WHATEVER THE INPUT: true; the input reads as it did. -/
def fnLoopsAreMatricesSpec : ChangeSpec := { name := "fnLoopsAreMatrices", fn := fun _ => fun
  | [d1, d2] => { results := [.lit (.bool true)], args := [d1, d2] }
  | _ => none }
def fnLoopsAreMatricesRow : OpenClaim := { program := "ytkbehdgneojdbaa", sum := "6e5195582d736ad74632f08e842e227665de823f194c41e56d5fa7aedb0c39dc", func := "loop.example/g01123/laws.FnLoopsAreMatrices", spec := "fnLoopsAreMatrices", unfollowed := true, recurses := true, apart := false }
def FnLoopsAreMatricesSaid : Prop := fnLoopsAreMatricesRow.holds Try.pinned (OpenSpec.ofChange fnLoopsAreMatricesSpec)

/-- ITS FALSE NEIGHBOUR: 'it returns false'. Refute it at one input. -/
def fnLoopsAreMatricesWrong : ChangeSpec := { name := "fnLoopsAreMatrices", fn := fun _ => fun
  | [d1, d2] => { results := [.lit (.bool false)], args := [d1, d2] }
  | _ => none }
def FnLoopsAreMatricesWrongFalsely : Prop := fnLoopsAreMatricesRow.holds Try.pinned (OpenSpec.ofChange fnLoopsAreMatricesWrong)

/-- 'laws.FnTrianglesAreMatrices': WHATEVER THE INPUT: true; the input reads as it did. -/
def fnTrianglesAreMatricesSpec : ChangeSpec := { name := "fnTrianglesAreMatrices", fn := fun _ => fun
  | [d1, d2] => { results := [.lit (.bool true)], args := [d1, d2] }
  | _ => none }
def fnTrianglesAreMatricesRow : OpenClaim := { program := "ytkbehdgneojdbaa", sum := "6e5195582d736ad74632f08e842e227665de823f194c41e56d5fa7aedb0c39dc", func := "loop.example/g01123/laws.FnTrianglesAreMatrices", spec := "fnTrianglesAreMatrices", unfollowed := true, recurses := true, apart := false }
def FnTrianglesAreMatricesSaid : Prop := fnTrianglesAreMatricesRow.holds Try.pinned (OpenSpec.ofChange fnTrianglesAreMatricesSpec)

/-- ITS FALSE NEIGHBOUR: 'it returns false'. Refute it at one input. -/
def fnTrianglesAreMatricesWrong : ChangeSpec := { name := "fnTrianglesAreMatrices", fn := fun _ => fun
  | [d1, d2] => { results := [.lit (.bool false)], args := [d1, d2] }
  | _ => none }
def FnTrianglesAreMatricesWrongFalsely : Prop := fnTrianglesAreMatricesRow.holds Try.pinned (OpenSpec.ofChange fnTrianglesAreMatricesWrong)

/-- 'laws.FnHeightsAreMatrices': WHATEVER THE INPUT: true; the input reads as it did. -/
def fnHeightsAreMatricesSpec : ChangeSpec := { name := "fnHeightsAreMatrices", fn := fun _ => fun
  | [d1, d2] => { results := [.lit (.bool true)], args := [d1, d2] }
  | _ => none }
def fnHeightsAreMatricesRow : OpenClaim := { program := "ytkbehdgneojdbaa", sum := "6e5195582d736ad74632f08e842e227665de823f194c41e56d5fa7aedb0c39dc", func := "loop.example/g01123/laws.FnHeightsAreMatrices", spec := "fnHeightsAreMatrices", unfollowed := true, recurses := true, apart := false }
def FnHeightsAreMatricesSaid : Prop := fnHeightsAreMatricesRow.holds Try.pinned (OpenSpec.ofChange fnHeightsAreMatricesSpec)

/-- ITS FALSE NEIGHBOUR: 'it returns false'. Refute it at one input. -/
def fnHeightsAreMatricesWrong : ChangeSpec := { name := "fnHeightsAreMatrices", fn := fun _ => fun
  | [d1, d2] => { results := [.lit (.bool false)], args := [d1, d2] }
  | _ => none }
def FnHeightsAreMatricesWrongFalsely : Prop := fnHeightsAreMatricesRow.holds Try.pinned (OpenSpec.ofChange fnHeightsAreMatricesWrong)

/-- 'laws.FnSymmetricCounted': WHATEVER THE INPUT: true; the input reads as it did. -/
def fnSymmetricCountedSpec : ChangeSpec := { name := "fnSymmetricCounted", fn := fun _ => fun
  | [d1, d2] => { results := [.lit (.bool true)], args := [d1, d2] }
  | _ => none }
def fnSymmetricCountedRow : OpenClaim := { program := "ytkbehdgneojdbaa", sum := "6e5195582d736ad74632f08e842e227665de823f194c41e56d5fa7aedb0c39dc", func := "loop.example/g01123/laws.FnSymmetricCounted", spec := "fnSymmetricCounted", unfollowed := true, recurses := true, apart := false }
def FnSymmetricCountedSaid : Prop := fnSymmetricCountedRow.holds Try.pinned (OpenSpec.ofChange fnSymmetricCountedSpec)

/-- ITS FALSE NEIGHBOUR: 'it returns false'. Refute it at one input. -/
def fnSymmetricCountedWrong : ChangeSpec := { name := "fnSymmetricCounted", fn := fun _ => fun
  | [d1, d2] => { results := [.lit (.bool false)], args := [d1, d2] }
  | _ => none }
def FnSymmetricCountedWrongFalsely : Prop := fnSymmetricCountedRow.holds Try.pinned (OpenSpec.ofChange fnSymmetricCountedWrong)

/- THE SECOND FORM. 'bulk': how many values and letters a reading holds, each counted each time it is reached (what is shared counts as often as it is met; a slice's spare places count too). A statement '..UptoSaid' is the law's where the arguments, and the package variables that the reading takes, are together of bulk at most 1048576: NARROWER than '..Said'. Prove '..Said' where nothing that the law and all that it calls make is longer than what came in: it says more and counts as full. Else prove '..UptoSaid'. A law counts once. -/
mutual
def uptoBulk {H : Type} : DataW H → Nat
  | .lit (.string bytes) => bytes.length + 1
  | .lit _ => 1
  | .nil => 1
  | .ptr d => uptoBulk d + 1
  | .slice elems spare => uptoBulkAll elems + uptoBulkAll spare + 1
  | .agg parts => uptoBulkAll parts + 1
  | .iface _ d => uptoBulk d + 1
  | .map entries => uptoBulkEntries entries + 1
  | .held _ => 1
def uptoBulkAll {H : Type} : List (DataW H) → Nat
  | [] => 0
  | d :: r => uptoBulk d + uptoBulkAll r
def uptoBulkEntries {H : Type} : List (Lit × DataW H) → Nat
  | [] => 0
  | x :: r => uptoBulkEntry x + uptoBulkEntries r
def uptoBulkEntry {H : Type} : Lit × DataW H → Nat
  | (.string bytes, d) => bytes.length + uptoBulk d + 1
  | (_, d) => uptoBulk d + 1
 end
def uptoSmall : (H : Type) → List (DataW H) → Bool := fun _ ds => decide (uptoBulkAll ds ≤ 1048576)
def OpenSpec.upto (s : _root_.Go.ChangeSpec) : _root_.Go.OpenSpec := { _root_.Go.OpenSpec.ofChange s with cond := some uptoSmall }

/-- 'laws.FnLoopsAreMatrices', WHERE WHAT IT READS IS OF BULK AT MOST 1048576: true; the input reads as it did. -/
def fnLoopsAreMatricesUptoRow : OpenClaim := { program := "ytkbehdgneojdbaa", sum := "6e5195582d736ad74632f08e842e227665de823f194c41e56d5fa7aedb0c39dc", func := "loop.example/g01123/laws.FnLoopsAreMatrices", spec := "fnLoopsAreMatrices", unfollowed := true, recurses := true, apart := false, narrowed := true }
def FnLoopsAreMatricesUptoSaid : Prop := fnLoopsAreMatricesUptoRow.holds Try.pinned (OpenSpec.upto fnLoopsAreMatricesSpec)

/-- 'laws.FnTrianglesAreMatrices', WHERE WHAT IT READS IS OF BULK AT MOST 1048576: true; the input reads as it did. -/
def fnTrianglesAreMatricesUptoRow : OpenClaim := { program := "ytkbehdgneojdbaa", sum := "6e5195582d736ad74632f08e842e227665de823f194c41e56d5fa7aedb0c39dc", func := "loop.example/g01123/laws.FnTrianglesAreMatrices", spec := "fnTrianglesAreMatrices", unfollowed := true, recurses := true, apart := false, narrowed := true }
def FnTrianglesAreMatricesUptoSaid : Prop := fnTrianglesAreMatricesUptoRow.holds Try.pinned (OpenSpec.upto fnTrianglesAreMatricesSpec)

/-- 'laws.FnHeightsAreMatrices', WHERE WHAT IT READS IS OF BULK AT MOST 1048576: true; the input reads as it did. -/
def fnHeightsAreMatricesUptoRow : OpenClaim := { program := "ytkbehdgneojdbaa", sum := "6e5195582d736ad74632f08e842e227665de823f194c41e56d5fa7aedb0c39dc", func := "loop.example/g01123/laws.FnHeightsAreMatrices", spec := "fnHeightsAreMatrices", unfollowed := true, recurses := true, apart := false, narrowed := true }
def FnHeightsAreMatricesUptoSaid : Prop := fnHeightsAreMatricesUptoRow.holds Try.pinned (OpenSpec.upto fnHeightsAreMatricesSpec)

/-- 'laws.FnSymmetricCounted', WHERE WHAT IT READS IS OF BULK AT MOST 1048576: true; the input reads as it did. -/
def fnSymmetricCountedUptoRow : OpenClaim := { program := "ytkbehdgneojdbaa", sum := "6e5195582d736ad74632f08e842e227665de823f194c41e56d5fa7aedb0c39dc", func := "loop.example/g01123/laws.FnSymmetricCounted", spec := "fnSymmetricCounted", unfollowed := true, recurses := true, apart := false, narrowed := true }
def FnSymmetricCountedUptoSaid : Prop := fnSymmetricCountedUptoRow.holds Try.pinned (OpenSpec.upto fnSymmetricCountedSpec)

end Rows
end Go.Proofs.Ytkbehdgneojdbaa
