/- Of what the print wrote for this claim (WInvWords): what its texts use. -/
import Derived.Test.YtdbcojeblkiidaaVFnExactWrongRefsWInv
import Derived.Test.YtdbcojeblkiidaaVFnExactWrongRefsWFootNe
namespace Go.Proofs.YtdbcojeblkiidaaW.PrintWords
open Go.RowKit
end Go.Proofs.YtdbcojeblkiidaaW.PrintWords
namespace Go.Proofs.YtdbcojeblkiidaaW.PrintLast
section
variable {ops : Array Oper} {a : Act} {o og : Oper} {g : Nat} {t : Tmp} {u : Bool}
end
end Go.Proofs.YtdbcojeblkiidaaW.PrintLast
