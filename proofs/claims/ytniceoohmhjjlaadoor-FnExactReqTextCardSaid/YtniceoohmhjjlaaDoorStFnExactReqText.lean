/- What the pure statement of laws.FnExactReqText says (its bounds and the statement). -/
import Derived.Test.YtniceoohmhjjlaaDoorKFnExactReqText1
import Derived.Test.YtniceoohmhjjlaaDoorKFnExactReqText2
import Derived.Test.YtniceoohmhjjlaaDoorKFnExactReqText3
namespace Go.Proofs.YtniceoohmhjjlaaDoor.Q.FnExactReqText
open Go.RowKit Go.Proofs.YtniceoohmhjjlaaDoor.Ext Go.Proofs.YtniceoohmhjjlaaDoor.Q Go.Proofs.YtniceoohmhjjlaaDoorW.PrintWords Go.Proofs.YtniceoohmhjjlaaDoorW.PrintLast Go.Proofs.YtniceoohmhjjlaaDoorW.PrintMore
set_option linter.unusedVariables false
def st : Prop := ∀ (a0_0 : Int) (a0_1 : Int) (a0_2 : Int) (a0_3 : ByteArray), ((Lit.int .i64 a0_0).wf = true) → ((Lit.int .i64 a0_1).wf = true) → ((Lit.int .i64 a0_2).wf = true) → (a0_3.size ≤ maxLen) → ∃ k, laws_FnExactReqText.f k a0_0 a0_1 a0_2 a0_3 = some true
end Go.Proofs.YtniceoohmhjjlaaDoor.Q.FnExactReqText
