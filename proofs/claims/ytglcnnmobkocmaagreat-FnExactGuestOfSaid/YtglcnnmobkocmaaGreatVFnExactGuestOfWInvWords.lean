/- Of what the print wrote for this claim (WInvWords): what its texts use. -/
import Derived.Test.YtglcnnmobkocmaaGreatVFnExactGuestOfWInv
import Derived.Test.YtglcnnmobkocmaaGreatVFnExactGuestOfWFootNe
namespace Go.Proofs.YtglcnnmobkocmaaGreatW.PrintWords
open Go.RowKit
end Go.Proofs.YtglcnnmobkocmaaGreatW.PrintWords
namespace Go.Proofs.YtglcnnmobkocmaaGreatW.PrintLast
section
variable {ops : Array Oper} {a : Act} {o og : Oper} {g : Nat} {t : Tmp} {u : Bool}
end
end Go.Proofs.YtglcnnmobkocmaaGreatW.PrintLast
