/- What the pure statement of laws.FnExactDecodeRefs says (its bounds and the statement). -/
import Derived.Test.YthlbjmgoibnopaaKFnExactDecodeRefs1
import Derived.Test.YthlbjmgoibnopaaKFnExactDecodeRefs2
import Derived.Test.YthlbjmgoibnopaaKFnExactDecodeRefs3
import Derived.Test.YthlbjmgoibnopaaKFnExactDecodeRefs4
namespace Go.Proofs.Ythlbjmgoibnopaa.Q.FnExactDecodeRefs
open Go.RowKit Go.Proofs.Ythlbjmgoibnopaa.Ext Go.Proofs.Ythlbjmgoibnopaa.Q Go.Proofs.YthlbjmgoibnopaaW.PrintWords Go.Proofs.YthlbjmgoibnopaaW.PrintLast Go.Proofs.YthlbjmgoibnopaaW.PrintMore
set_option linter.unusedVariables false
def st : Prop := ∀ (a0 : ByteArray), (a0.size ≤ maxLen) → ∃ k, laws_FnExactDecodeRefs.f k a0 = some true
end Go.Proofs.Ythlbjmgoibnopaa.Q.FnExactDecodeRefs
