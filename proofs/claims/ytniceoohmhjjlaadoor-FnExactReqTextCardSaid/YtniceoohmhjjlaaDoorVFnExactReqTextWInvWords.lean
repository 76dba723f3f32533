/- Of what the print wrote for this claim (WInvWords): what its texts use. -/
import Derived.Test.YtniceoohmhjjlaaDoorVFnExactReqTextWInv
import Derived.Test.YtniceoohmhjjlaaDoorVFnExactReqTextWFootNe
namespace Go.Proofs.YtniceoohmhjjlaaDoorW.PrintWords
open Go.RowKit
end Go.Proofs.YtniceoohmhjjlaaDoorW.PrintWords
namespace Go.Proofs.YtniceoohmhjjlaaDoorW.PrintLast
section
variable {ops : Array Oper} {a : Act} {o og : Oper} {g : Nat} {t : Tmp} {u : Bool}
end
end Go.Proofs.YtniceoohmhjjlaaDoorW.PrintLast
