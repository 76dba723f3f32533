/- Of what the print wrote for this claim (WInvWords): what its texts use. -/
import Derived.Test.YtkccdcnpclpdaaaDoorVFnExactReqTextWInv
import Derived.Test.YtkccdcnpclpdaaaDoorVFnExactReqTextWFootNe
namespace Go.Proofs.YtkccdcnpclpdaaaDoorW.PrintWords
open Go.RowKit
end Go.Proofs.YtkccdcnpclpdaaaDoorW.PrintWords
namespace Go.Proofs.YtkccdcnpclpdaaaDoorW.PrintLast
section
variable {ops : Array Oper} {a : Act} {o og : Oper} {g : Nat} {t : Tmp} {u : Bool}
end
end Go.Proofs.YtkccdcnpclpdaaaDoorW.PrintLast
