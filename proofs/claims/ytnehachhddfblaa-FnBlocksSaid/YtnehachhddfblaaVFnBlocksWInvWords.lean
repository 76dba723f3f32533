/- Of what the print wrote for this claim (WInvWords): what its texts use. -/
import Derived.Test.YtnehachhddfblaaVFnBlocksWInv
import Derived.Test.YtnehachhddfblaaVFnBlocksWFootNe
namespace Go.Proofs.YtnehachhddfblaaW.PrintWords
open Go.RowKit
end Go.Proofs.YtnehachhddfblaaW.PrintWords
namespace Go.Proofs.YtnehachhddfblaaW.PrintLast
section
variable {ops : Array Oper} {a : Act} {o og : Oper} {g : Nat} {t : Tmp} {u : Bool}
end
end Go.Proofs.YtnehachhddfblaaW.PrintLast
