/- Of what the print wrote for this claim (WInvWords): what its texts use. -/
import Derived.Test.YthlbjmgoibnopaaVFnExactWriteSectorWInv
import Derived.Test.YthlbjmgoibnopaaVFnExactWriteSectorWFootNe
namespace Go.Proofs.YthlbjmgoibnopaaW.PrintWords
open Go.RowKit
end Go.Proofs.YthlbjmgoibnopaaW.PrintWords
namespace Go.Proofs.YthlbjmgoibnopaaW.PrintLast
section
variable {ops : Array Oper} {a : Act} {o og : Oper} {g : Nat} {t : Tmp} {u : Bool}
end
end Go.Proofs.YthlbjmgoibnopaaW.PrintLast
