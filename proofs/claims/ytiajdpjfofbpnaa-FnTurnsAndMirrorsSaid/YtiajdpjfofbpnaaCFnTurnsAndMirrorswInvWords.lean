-- Of the print's words those that this claim's texts name, chosen by a program of this session (wip/shrink.py).
import Derived.Test.YtiajdpjfofbpnaaCFnTurnsAndMirrorswInv
import Derived.Test.YtiajdpjfofbpnaaCFnTurnsAndMirrorswFootNe
namespace Go.Proofs.YtiajdpjfofbpnaaW.PrintWords
open Go.RowKit
end Go.Proofs.YtiajdpjfofbpnaaW.PrintWords
namespace Go.Proofs.YtiajdpjfofbpnaaW.PrintLast
section
variable {ops : Array Oper} {a : Act} {o og : Oper} {g : Nat} {t : Tmp} {u : Bool}
end
end Go.Proofs.YtiajdpjfofbpnaaW.PrintLast
