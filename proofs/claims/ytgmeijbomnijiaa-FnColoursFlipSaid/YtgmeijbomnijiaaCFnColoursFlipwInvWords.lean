-- Of the print's words those that this claim's texts name, chosen by a program of this session (wip/shrink.py).
import Derived.Test.YtgmeijbomnijiaaCFnColoursFlipwInv
import Derived.Test.YtgmeijbomnijiaaCFnColoursFlipwFootNe
namespace Go.Proofs.YtgmeijbomnijiaaW.PrintWords
open Go.RowKit
end Go.Proofs.YtgmeijbomnijiaaW.PrintWords
namespace Go.Proofs.YtgmeijbomnijiaaW.PrintLast
section
variable {ops : Array Oper} {a : Act} {o og : Oper} {g : Nat} {t : Tmp} {u : Bool}
end
end Go.Proofs.YtgmeijbomnijiaaW.PrintLast
