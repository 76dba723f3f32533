/- Of what the print wrote for this claim (WInvWords): what its texts use. -/
import Derived.Test.YtdbcojeblkiidaaGreatVFnExactSnapNamesWInv
import Derived.Test.YtdbcojeblkiidaaGreatVFnExactSnapNamesWFootNe
namespace Go.Proofs.YtdbcojeblkiidaaGreatW.PrintWords
open Go.RowKit
end Go.Proofs.YtdbcojeblkiidaaGreatW.PrintWords
namespace Go.Proofs.YtdbcojeblkiidaaGreatW.PrintLast
section
variable {ops : Array Oper} {a : Act} {o og : Oper} {g : Nat} {t : Tmp} {u : Bool}
end
end Go.Proofs.YtdbcojeblkiidaaGreatW.PrintLast
