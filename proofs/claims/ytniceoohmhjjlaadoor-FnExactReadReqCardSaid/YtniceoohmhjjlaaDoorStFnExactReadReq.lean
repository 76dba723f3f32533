/- What the pure statement of laws.FnExactReadReq says (its bounds and the statement). -/
import Derived.Test.YtniceoohmhjjlaaDoorKFnExactReadReq1
import Derived.Test.YtniceoohmhjjlaaDoorKFnExactReadReq2
import Derived.Test.YtniceoohmhjjlaaDoorKFnExactReadReq3
import Derived.Test.YtniceoohmhjjlaaDoorKFnExactReadReq4
import Derived.Test.YtniceoohmhjjlaaDoorKFnExactReadReq5
import Derived.Test.YtniceoohmhjjlaaDoorKFnExactReadReq6
import Derived.Test.YtniceoohmhjjlaaDoorKFnExactReadReq7
namespace Go.Proofs.YtniceoohmhjjlaaDoor.Q.FnExactReadReq
open Go.RowKit Go.Proofs.YtniceoohmhjjlaaDoor.Ext Go.Proofs.YtniceoohmhjjlaaDoor.Q Go.Proofs.YtniceoohmhjjlaaDoorW.PrintWords Go.Proofs.YtniceoohmhjjlaaDoorW.PrintLast Go.Proofs.YtniceoohmhjjlaaDoorW.PrintMore
set_option linter.unusedVariables false
def st : Prop := ∀ (a0 : ByteArray), (a0.size ≤ maxLen) → ∃ k, laws_FnExactReadReq.f k a0 = some true
end Go.Proofs.YtniceoohmhjjlaaDoor.Q.FnExactReadReq
