/- What the pure statement of laws.FnExactDecodeUpdate says (its bounds and the statement). -/
import Derived.Test.YthlbjmgoibnopaaKFnExactDecodeUpdate1
import Derived.Test.YthlbjmgoibnopaaKFnExactDecodeUpdate2
import Derived.Test.YthlbjmgoibnopaaKFnExactDecodeUpdate3
import Derived.Test.YthlbjmgoibnopaaKFnExactDecodeUpdate4
import Derived.Test.YthlbjmgoibnopaaKFnExactDecodeUpdate5
namespace Go.Proofs.Ythlbjmgoibnopaa.Q.FnExactDecodeUpdate
open Go.RowKit Go.Proofs.Ythlbjmgoibnopaa.Ext Go.Proofs.Ythlbjmgoibnopaa.Q Go.Proofs.YthlbjmgoibnopaaW.PrintWords Go.Proofs.YthlbjmgoibnopaaW.PrintLast Go.Proofs.YthlbjmgoibnopaaW.PrintMore
set_option linter.unusedVariables false
def st : Prop := ∀ (a0 : ByteArray), (a0.size ≤ maxLen) → ∃ k, laws_FnExactDecodeUpdate.f k a0 = some true
end Go.Proofs.Ythlbjmgoibnopaa.Q.FnExactDecodeUpdate
