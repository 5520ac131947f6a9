-- Of the print's words those that this claim's texts name, chosen by a program of this session (wip/shrink.py).
import Derived.Test.YtnabhfbcaocljaaCFnDescendingListedwN
namespace Go.Proofs.YtnabhfbcaocljaaW.PrintWords
open Go.RowKit
namespace Kd
section
variable {α : Type} {d : Kd α} {W : World} {g n : Nat} {S ok : Nat → Prop} {A : Option Addr} {ad : Addr} {xs : List α}
end
end Kd
end Go.Proofs.YtnabhfbcaocljaaW.PrintWords
