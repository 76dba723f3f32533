/- Of what the print wrote for this claim (WInvWords): what its texts use. -/
import Derived.Test.YtkejmbnfjjgfnaaVFnExactGuestOKWInv
import Derived.Test.YtkejmbnfjjgfnaaVFnExactGuestOKWFootNe
namespace Go.Proofs.YtkejmbnfjjgfnaaW.PrintWords
open Go.RowKit
end Go.Proofs.YtkejmbnfjjgfnaaW.PrintWords
namespace Go.Proofs.YtkejmbnfjjgfnaaW.PrintLast
section
variable {ops : Array Oper} {a : Act} {o og : Oper} {g : Nat} {t : Tmp} {u : Bool}
end
end Go.Proofs.YtkejmbnfjjgfnaaW.PrintLast
