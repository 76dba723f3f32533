/- What the pure statement of laws.FnReqText says (its bounds and the statement). -/
import Derived.Test.YtniceoohmhjjlaaDoorKFnReqText1
import Derived.Test.YtniceoohmhjjlaaDoorKFnReqText2
import Derived.Test.YtniceoohmhjjlaaDoorKFnReqText3
import Derived.Test.YtniceoohmhjjlaaDoorKFnReqText4
import Derived.Test.YtniceoohmhjjlaaDoorKFnReqText5
import Derived.Test.YtniceoohmhjjlaaDoorKFnReqText6
import Derived.Test.YtniceoohmhjjlaaDoorKFnReqText7
import Derived.Test.YtniceoohmhjjlaaDoorKFnReqText8
namespace Go.Proofs.YtniceoohmhjjlaaDoor.Q.FnReqText
open Go.RowKit Go.Proofs.YtniceoohmhjjlaaDoor.Ext Go.Proofs.YtniceoohmhjjlaaDoor.Q Go.Proofs.YtniceoohmhjjlaaDoorW.PrintWords Go.Proofs.YtniceoohmhjjlaaDoorW.PrintLast Go.Proofs.YtniceoohmhjjlaaDoorW.PrintMore
set_option linter.unusedVariables false
def st : Prop := ∀ (l0 : (List Int)), (l0.length ≤ maxLen ∧ ∀ y ∈ l0, okU8 y) → ∃ k, laws_FnReqText.f k l0 = some true
end Go.Proofs.YtniceoohmhjjlaaDoor.Q.FnReqText
