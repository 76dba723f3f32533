/- The print's words (WInvWords). -/
import Derived.Test.YtglcnnmobkocmaaGreatVFnExactDiffUpdatesWInv
import Derived.Test.YtglcnnmobkocmaaGreatVFnExactDiffUpdatesWFootNe
namespace Go.Proofs.YtglcnnmobkocmaaGreatW.PrintWords
open Go.RowKit
end Go.Proofs.YtglcnnmobkocmaaGreatW.PrintWords
namespace Go.Proofs.YtglcnnmobkocmaaGreatW.PrintLast
section
variable {ops : Array Oper} {a : Act} {o og : Oper} {g : Nat} {t : Tmp} {u : Bool}
end
end Go.Proofs.YtglcnnmobkocmaaGreatW.PrintLast
