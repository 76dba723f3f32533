/- The print's words (WInvWords). -/
import Derived.Test.YtfmfbmcdikkijaaVFnReplayWInv
import Derived.Test.YtfmfbmcdikkijaaVFnReplayWFootNe
namespace Go.Proofs.YtfmfbmcdikkijaaW.PrintWords
open Go.RowKit
end Go.Proofs.YtfmfbmcdikkijaaW.PrintWords
namespace Go.Proofs.YtfmfbmcdikkijaaW.PrintLast
section
variable {ops : Array Oper} {a : Act} {o og : Oper} {g : Nat} {t : Tmp} {u : Bool}
end
end Go.Proofs.YtfmfbmcdikkijaaW.PrintLast
