/- Of what the print wrote for this claim (WInvWords): what its texts use. -/
import Derived.Test.YtadelojhfepkeaaVFnExactReadDeltaWInv
import Derived.Test.YtadelojhfepkeaaVFnExactReadDeltaWFootNe
namespace Go.Proofs.YtadelojhfepkeaaW.PrintWords
open Go.RowKit
end Go.Proofs.YtadelojhfepkeaaW.PrintWords
namespace Go.Proofs.YtadelojhfepkeaaW.PrintLast
section
variable {ops : Array Oper} {a : Act} {o og : Oper} {g : Nat} {t : Tmp} {u : Bool}
end
end Go.Proofs.YtadelojhfepkeaaW.PrintLast
