/- What the pure statement of laws.FnExactReqText says (its bounds and the statement). -/
import Derived.Test.YtkccdcnpclpdaaaDoorKFnExactReqText1
import Derived.Test.YtkccdcnpclpdaaaDoorKFnExactReqText2
import Derived.Test.YtkccdcnpclpdaaaDoorKFnExactReqText3
namespace Go.Proofs.YtkccdcnpclpdaaaDoor.Q.FnExactReqText
open Go.RowKit Go.Proofs.YtkccdcnpclpdaaaDoor.Ext Go.Proofs.YtkccdcnpclpdaaaDoor.Q Go.Proofs.YtkccdcnpclpdaaaDoorW.PrintWords Go.Proofs.YtkccdcnpclpdaaaDoorW.PrintLast Go.Proofs.YtkccdcnpclpdaaaDoorW.PrintMore
set_option linter.unusedVariables false
def st : Prop := ∀ (a0_0 : Int) (a0_1 : Int) (a0_2 : Int) (a0_3 : ByteArray), ((Lit.int .i64 a0_0).wf = true) → ((Lit.int .i64 a0_1).wf = true) → ((Lit.int .i64 a0_2).wf = true) → (a0_3.size ≤ maxLen) → ∃ k, laws_FnExactReqText.f k a0_0 a0_1 a0_2 a0_3 = some true
end Go.Proofs.YtkccdcnpclpdaaaDoor.Q.FnExactReqText
