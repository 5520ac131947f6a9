-- Of the print's words those that this claim's texts name, chosen by a program of this session (wip/shrink.py).
import Derived.Test.YtnabhfbcaocljaaCFnDescendingListedwWords
import Derived.Laws.StructEq
namespace Go.Proofs.YtnabhfbcaocljaaW.PrintWords
open Go.RowKit
section
variable {P : Program} {d : Nat} {xs ys : Array Value} {f : Field} {fs : List Field} {a b : Value} {r s : Bool} {w : World}
end
end Go.Proofs.YtnabhfbcaocljaaW.PrintWords
