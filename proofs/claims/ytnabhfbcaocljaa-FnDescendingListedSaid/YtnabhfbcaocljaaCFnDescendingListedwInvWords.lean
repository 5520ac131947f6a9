-- Of the print's words those that this claim's texts name, chosen by a program of this session (wip/shrink.py).
import Derived.Test.YtnabhfbcaocljaaCFnDescendingListedwInv
import Derived.Test.YtnabhfbcaocljaaCFnDescendingListedwFootNe
namespace Go.Proofs.YtnabhfbcaocljaaW.PrintWords
open Go.RowKit
end Go.Proofs.YtnabhfbcaocljaaW.PrintWords
namespace Go.Proofs.YtnabhfbcaocljaaW.PrintLast
section
variable {ops : Array Oper} {a : Act} {o og : Oper} {g : Nat} {t : Tmp} {u : Bool}
end
end Go.Proofs.YtnabhfbcaocljaaW.PrintLast
