-- Of the print's words those that this claim's texts name, chosen by a program of this session (wip/shrink.py).
import Derived.Test.YtgpmlfggfhkifaaGreatCFnSignLatticewWords
namespace Go.Proofs.YtgpmlfggfhkifaaGreatW.PrintWords
open Go.RowKit
section
variable {P : Program} {ops : Array Oper} {rest : List Oper} {o : Oper} {a : Act} {Q : Exit → Act → World → Prop} {W : World}
end
end Go.Proofs.YtgpmlfggfhkifaaGreatW.PrintWords
