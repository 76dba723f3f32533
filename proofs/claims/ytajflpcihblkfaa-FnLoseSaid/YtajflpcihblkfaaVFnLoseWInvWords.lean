/- Of what the print wrote for this claim (WInvWords): what its texts use. -/
import Derived.Test.YtajflpcihblkfaaVFnLoseWInv
import Derived.Test.YtajflpcihblkfaaVFnLoseWFootNe
namespace Go.Proofs.YtajflpcihblkfaaW.PrintWords
open Go.RowKit
end Go.Proofs.YtajflpcihblkfaaW.PrintWords
namespace Go.Proofs.YtajflpcihblkfaaW.PrintLast
section
variable {ops : Array Oper} {a : Act} {o og : Oper} {g : Nat} {t : Tmp} {u : Bool}
end
end Go.Proofs.YtajflpcihblkfaaW.PrintLast
