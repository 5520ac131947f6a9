/-
  No cell of these rows narrows 'for every input' (looked for: loops, veiled, ifaces, maps, wideKeys, modest, calm, conditions, laid).
  DERIVED. THE GIVEN ROWS OF THIS SEAT. 3 by the template 'for every input the law returns true; each argument reads behind the call as it read before'; 0 by the template 'total and deterministic' (their statements: YtiajdpjfofbpnaaTotals.lean).
  GIVEN WITH THE SEED: the statements are not yours to turn. If you find one false, say at which input.
  Laid BY PROGRAM, IN A SANDBOX (cutbox-rows.mjs): the forced cells as the released guide's own fill.sh prints them over the translation 62ac118751997dfb… (all of the seat's roots in one cut). By AI agents, Wed Nov 11 2026. No macro, syntax, notation, axiom, sorry.
-/
import Derived.Test.YtiajdpjfofbpnaaChecked
import GoSem.Claim
import GoSem.ClaimJoined
import GoSem.ClaimMapViews
import Derived.JoinedTies
import Derived.KernelRfl
namespace Go.Proofs.Ytiajdpjfofbpnaa
/- THE CELL 'sum', in the pinned program and in every row, IS THE sha256 OF THE DUMP (.gsa) THAT YtiajdpjfofbpnaaProg.lean LOADS. Nothing in Lean hashes anything: it is a label: what it is worth is what the hold of that sum in a sandbox is worth. -/
noncomputable def Try.pinned : Pinned := { name := "ytiajdpjfofbpnaa", sum := "62ac118751997dfb5e2cf8a6a843fe97339ee93f11ecf0adb755c8242ac2316a", checked := Try.checked }
namespace Rows
def none {H : Type} : Left H := { results := [], args := [] }

/-- 'laws.FnTrianglesCounted': WHATEVER THE INPUT: true; the input reads as it did. -/
def fnTrianglesCountedSpec : ChangeSpec := { name := "fnTrianglesCounted", fn := fun _ => fun
  | [d1, d2] => { results := [.lit (.bool true)], args := [d1, d2] }
  | _ => none }
def fnTrianglesCountedRow : OpenClaim := { program := "ytiajdpjfofbpnaa", sum := "62ac118751997dfb5e2cf8a6a843fe97339ee93f11ecf0adb755c8242ac2316a", func := "loop.example/g01123/laws.FnTrianglesCounted", spec := "fnTrianglesCounted", unfollowed := true, recurses := true, apart := false }
def FnTrianglesCountedSaid : Prop := fnTrianglesCountedRow.holds Try.pinned (OpenSpec.ofChange fnTrianglesCountedSpec)

/-- ITS FALSE NEIGHBOUR: 'it returns false'. Refute it at one input. -/
def fnTrianglesCountedWrong : ChangeSpec := { name := "fnTrianglesCounted", fn := fun _ => fun
  | [d1, d2] => { results := [.lit (.bool false)], args := [d1, d2] }
  | _ => none }
def FnTrianglesCountedWrongFalsely : Prop := fnTrianglesCountedRow.holds Try.pinned (OpenSpec.ofChange fnTrianglesCountedWrong)

/-- 'laws.FnTurnsAndMirrors': WHATEVER THE INPUT: true; the input reads as it did. -/
def fnTurnsAndMirrorsSpec : ChangeSpec := { name := "fnTurnsAndMirrors", fn := fun _ => fun
  | [d1, d2] => { results := [.lit (.bool true)], args := [d1, d2] }
  | _ => none }
def fnTurnsAndMirrorsRow : OpenClaim := { program := "ytiajdpjfofbpnaa", sum := "62ac118751997dfb5e2cf8a6a843fe97339ee93f11ecf0adb755c8242ac2316a", func := "loop.example/g01123/laws.FnTurnsAndMirrors", spec := "fnTurnsAndMirrors", unfollowed := true, recurses := true, apart := false }
def FnTurnsAndMirrorsSaid : Prop := fnTurnsAndMirrorsRow.holds Try.pinned (OpenSpec.ofChange fnTurnsAndMirrorsSpec)

/-- ITS FALSE NEIGHBOUR: 'it returns false'. Refute it at one input. -/
def fnTurnsAndMirrorsWrong : ChangeSpec := { name := "fnTurnsAndMirrors", fn := fun _ => fun
  | [d1, d2] => { results := [.lit (.bool false)], args := [d1, d2] }
  | _ => none }
def FnTurnsAndMirrorsWrongFalsely : Prop := fnTurnsAndMirrorsRow.holds Try.pinned (OpenSpec.ofChange fnTurnsAndMirrorsWrong)

/-- 'laws.FnHalvesOfMatrices': WHATEVER THE INPUT: true; the input reads as it did. -/
def fnHalvesOfMatricesSpec : ChangeSpec := { name := "fnHalvesOfMatrices", fn := fun _ => fun
  | [d1, d2] => { results := [.lit (.bool true)], args := [d1, d2] }
  | _ => none }
def fnHalvesOfMatricesRow : OpenClaim := { program := "ytiajdpjfofbpnaa", sum := "62ac118751997dfb5e2cf8a6a843fe97339ee93f11ecf0adb755c8242ac2316a", func := "loop.example/g01123/laws.FnHalvesOfMatrices", spec := "fnHalvesOfMatrices", unfollowed := true, recurses := true, apart := false }
def FnHalvesOfMatricesSaid : Prop := fnHalvesOfMatricesRow.holds Try.pinned (OpenSpec.ofChange fnHalvesOfMatricesSpec)

/-- ITS FALSE NEIGHBOUR: 'it returns false'. Refute it at one input. -/
def fnHalvesOfMatricesWrong : ChangeSpec := { name := "fnHalvesOfMatrices", fn := fun _ => fun
  | [d1, d2] => { results := [.lit (.bool false)], args := [d1, d2] }
  | _ => none }
def FnHalvesOfMatricesWrongFalsely : Prop := fnHalvesOfMatricesRow.holds Try.pinned (OpenSpec.ofChange fnHalvesOfMatricesWrong)

/- THE SECOND FORM. 'bulk': how many values and letters a reading holds, each counted each time it is reached (what is shared counts as often as it is met; a slice's spare places count too). A statement '..UptoSaid' is the law's where the arguments, and the package variables that the reading takes, are together of bulk at most 1048576: NARROWER than '..Said'. Prove '..Said' where nothing that the law and all that it calls make is longer than what came in: it says more and counts as full. Else prove '..UptoSaid'. A law counts once. -/
mutual
def uptoBulk {H : Type} : DataW H → Nat
  | .lit (.string bytes) => bytes.length + 1
  | .lit _ => 1
  | .nil => 1
  | .ptr d => uptoBulk d + 1
  | .slice elems spare => uptoBulkAll elems + uptoBulkAll spare + 1
  | .agg parts => uptoBulkAll parts + 1
  | .iface _ d => uptoBulk d + 1
  | .map entries => uptoBulkEntries entries + 1
  | .held _ => 1
def uptoBulkAll {H : Type} : List (DataW H) → Nat
  | [] => 0
  | d :: r => uptoBulk d + uptoBulkAll r
def uptoBulkEntries {H : Type} : List (Lit × DataW H) → Nat
  | [] => 0
  | x :: r => uptoBulkEntry x + uptoBulkEntries r
def uptoBulkEntry {H : Type} : Lit × DataW H → Nat
  | (.string bytes, d) => bytes.length + uptoBulk d + 1
  | (_, d) => uptoBulk d + 1
 end
def uptoSmall : (H : Type) → List (DataW H) → Bool := fun _ ds => decide (uptoBulkAll ds ≤ 1048576)
def OpenSpec.upto (s : _root_.Go.ChangeSpec) : _root_.Go.OpenSpec := { _root_.Go.OpenSpec.ofChange s with cond := some uptoSmall }

/-- 'laws.FnTrianglesCounted', WHERE WHAT IT READS IS OF BULK AT MOST 1048576: true; the input reads as it did. -/
def fnTrianglesCountedUptoRow : OpenClaim := { program := "ytiajdpjfofbpnaa", sum := "62ac118751997dfb5e2cf8a6a843fe97339ee93f11ecf0adb755c8242ac2316a", func := "loop.example/g01123/laws.FnTrianglesCounted", spec := "fnTrianglesCounted", unfollowed := true, recurses := true, apart := false, narrowed := true }
def FnTrianglesCountedUptoSaid : Prop := fnTrianglesCountedUptoRow.holds Try.pinned (OpenSpec.upto fnTrianglesCountedSpec)

/-- 'laws.FnTurnsAndMirrors', WHERE WHAT IT READS IS OF BULK AT MOST 1048576: true; the input reads as it did. -/
def fnTurnsAndMirrorsUptoRow : OpenClaim := { program := "ytiajdpjfofbpnaa", sum := "62ac118751997dfb5e2cf8a6a843fe97339ee93f11ecf0adb755c8242ac2316a", func := "loop.example/g01123/laws.FnTurnsAndMirrors", spec := "fnTurnsAndMirrors", unfollowed := true, recurses := true, apart := false, narrowed := true }
def FnTurnsAndMirrorsUptoSaid : Prop := fnTurnsAndMirrorsUptoRow.holds Try.pinned (OpenSpec.upto fnTurnsAndMirrorsSpec)

/-- 'laws.FnHalvesOfMatrices', WHERE WHAT IT READS IS OF BULK AT MOST 1048576: true; the input reads as it did. -/
def fnHalvesOfMatricesUptoRow : OpenClaim := { program := "ytiajdpjfofbpnaa", sum := "62ac118751997dfb5e2cf8a6a843fe97339ee93f11ecf0adb755c8242ac2316a", func := "loop.example/g01123/laws.FnHalvesOfMatrices", spec := "fnHalvesOfMatrices", unfollowed := true, recurses := true, apart := false, narrowed := true }
def FnHalvesOfMatricesUptoSaid : Prop := fnHalvesOfMatricesUptoRow.holds Try.pinned (OpenSpec.upto fnHalvesOfMatricesSpec)

end Rows
end Go.Proofs.Ytiajdpjfofbpnaa
