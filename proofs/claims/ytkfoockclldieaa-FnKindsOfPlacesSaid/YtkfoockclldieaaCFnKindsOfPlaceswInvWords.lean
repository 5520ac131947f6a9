-- Of the print's words those that this claim's texts name, chosen by a program of this session (wip/shrink.py).
import Derived.Test.YtkfoockclldieaaCFnKindsOfPlaceswInv
import Derived.Test.YtkfoockclldieaaCFnKindsOfPlaceswFootNe
namespace Go.Proofs.YtkfoockclldieaaW.PrintWords
open Go.RowKit
end Go.Proofs.YtkfoockclldieaaW.PrintWords
namespace Go.Proofs.YtkfoockclldieaaW.PrintLast
section
variable {ops : Array Oper} {a : Act} {o og : Oper} {g : Nat} {t : Tmp} {u : Bool}
end
end Go.Proofs.YtkfoockclldieaaW.PrintLast
