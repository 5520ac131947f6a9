-- Of the print's words those that this claim's texts name, chosen by a program of this session (wip/shrink.py).
import Derived.Test.YtkbehdgneojdbaaCFnSymmetricCountedwInv
import Derived.Test.YtkbehdgneojdbaaCFnSymmetricCountedwFootNe
namespace Go.Proofs.YtkbehdgneojdbaaW.PrintWords
open Go.RowKit
end Go.Proofs.YtkbehdgneojdbaaW.PrintWords
namespace Go.Proofs.YtkbehdgneojdbaaW.PrintLast
section
variable {ops : Array Oper} {a : Act} {o og : Oper} {g : Nat} {t : Tmp} {u : Bool}
theorem eval_of {v : Value} (h : a.tmps[t]? = some v) : a.eval (.tmp t) = v := by simp [Act.eval, h]
end
end Go.Proofs.YtkbehdgneojdbaaW.PrintLast
