-- Of the print's words those that this claim's texts name, chosen by a program of this session (wip/shrink.py).
import Derived.Test.YtchnfacedjjakaaCFnPatternswInv
import Derived.Test.YtchnfacedjjakaaCFnPatternswFootNe
namespace Go.Proofs.YtchnfacedjjakaaW.PrintWords
open Go.RowKit
end Go.Proofs.YtchnfacedjjakaaW.PrintWords
namespace Go.Proofs.YtchnfacedjjakaaW.PrintLast
section
variable {ops : Array Oper} {a : Act} {o og : Oper} {g : Nat} {t : Tmp} {u : Bool}
end
end Go.Proofs.YtchnfacedjjakaaW.PrintLast
