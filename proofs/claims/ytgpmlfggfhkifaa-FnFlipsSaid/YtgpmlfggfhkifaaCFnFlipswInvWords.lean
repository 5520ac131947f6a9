-- Of the print's words those that this claim's texts name, chosen by a program of this session (wip/shrink.py).
import Derived.Test.YtgpmlfggfhkifaaCFnFlipswInv
import Derived.Test.YtgpmlfggfhkifaaCFnFlipswFootNe
namespace Go.Proofs.YtgpmlfggfhkifaaW.PrintWords
open Go.RowKit
end Go.Proofs.YtgpmlfggfhkifaaW.PrintWords
namespace Go.Proofs.YtgpmlfggfhkifaaW.PrintLast
section
variable {ops : Array Oper} {a : Act} {o og : Oper} {g : Nat} {t : Tmp} {u : Bool}
end
end Go.Proofs.YtgpmlfggfhkifaaW.PrintLast
