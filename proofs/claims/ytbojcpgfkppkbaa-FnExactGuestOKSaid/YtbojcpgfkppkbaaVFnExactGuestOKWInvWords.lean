/- Of what the print wrote for this claim (WInvWords): what its texts use. -/
import Derived.Test.YtbojcpgfkppkbaaVFnExactGuestOKWInv
import Derived.Test.YtbojcpgfkppkbaaVFnExactGuestOKWFootNe
namespace Go.Proofs.YtbojcpgfkppkbaaW.PrintWords
open Go.RowKit
end Go.Proofs.YtbojcpgfkppkbaaW.PrintWords
namespace Go.Proofs.YtbojcpgfkppkbaaW.PrintLast
section
variable {ops : Array Oper} {a : Act} {o og : Oper} {g : Nat} {t : Tmp} {u : Bool}
end
end Go.Proofs.YtbojcpgfkppkbaaW.PrintLast
