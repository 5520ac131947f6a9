-- Of the print's words those that this claim's texts name, chosen by a program of this session (wip/shrink.py).
import Derived.Test.YtbdkfmpfghcilaaCFnTablesOfWeightswInv
import Derived.Test.YtbdkfmpfghcilaaCFnTablesOfWeightswFootNe
namespace Go.Proofs.YtbdkfmpfghcilaaW.PrintWords
open Go.RowKit
end Go.Proofs.YtbdkfmpfghcilaaW.PrintWords
namespace Go.Proofs.YtbdkfmpfghcilaaW.PrintLast
section
variable {ops : Array Oper} {a : Act} {o og : Oper} {g : Nat} {t : Tmp} {u : Bool}
theorem eval_of {v : Value} (h : a.tmps[t]? = some v) : a.eval (.tmp t) = v := by simp [Act.eval, h]
end
end Go.Proofs.YtbdkfmpfghcilaaW.PrintLast
