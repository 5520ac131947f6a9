-- Of the print's words those that this claim's texts name, chosen by a program of this session (wip/shrink.py).
import Derived.Test.YtkbehdgneojdbaaCFnHeightsAreMatriceswInv
import Derived.Test.YtkbehdgneojdbaaCFnHeightsAreMatriceswFootNe
namespace Go.Proofs.YtkbehdgneojdbaaW.PrintWords
open Go.RowKit
end Go.Proofs.YtkbehdgneojdbaaW.PrintWords
namespace Go.Proofs.YtkbehdgneojdbaaW.PrintLast
section
variable {ops : Array Oper} {a : Act} {o og : Oper} {g : Nat} {t : Tmp} {u : Bool}
end
end Go.Proofs.YtkbehdgneojdbaaW.PrintLast
