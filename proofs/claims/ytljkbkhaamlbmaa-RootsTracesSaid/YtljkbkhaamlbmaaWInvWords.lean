import Derived.Test.YtljkbkhaamlbmaaWInv
import Derived.Test.YtljkbkhaamlbmaaWFootNe
namespace Go.Proofs.YtljkbkhaamlbmaaW.PrintWords
open Go.RowKit
end Go.Proofs.YtljkbkhaamlbmaaW.PrintWords
namespace Go.Proofs.YtljkbkhaamlbmaaW.PrintLast
section
variable {ops : Array Oper} {a : Act} {o og : Oper} {g : Nat} {t : Tmp} {u : Bool}
end
end Go.Proofs.YtljkbkhaamlbmaaW.PrintLast
