-- Of the print's words those that this claim's texts name, chosen by a program of this session (wip/shrink.py).
import Derived.Test.YtgpmlfggfhkifaaGreatCFnSignLatticewInv
import Derived.Test.YtgpmlfggfhkifaaGreatCFnSignLatticewFootNe
namespace Go.Proofs.YtgpmlfggfhkifaaGreatW.PrintWords
open Go.RowKit
end Go.Proofs.YtgpmlfggfhkifaaGreatW.PrintWords
namespace Go.Proofs.YtgpmlfggfhkifaaGreatW.PrintLast
section
variable {ops : Array Oper} {a : Act} {o og : Oper} {g : Nat} {t : Tmp} {u : Bool}
theorem eval_of {v : Value} (h : a.tmps[t]? = some v) : a.eval (.tmp t) = v := by simp [Act.eval, h]
end
end Go.Proofs.YtgpmlfggfhkifaaGreatW.PrintLast
