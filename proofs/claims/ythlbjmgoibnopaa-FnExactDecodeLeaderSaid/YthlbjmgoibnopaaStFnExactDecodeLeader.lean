/- What the pure statement of laws.FnExactDecodeLeader says (its bounds and the statement). -/
import Derived.Test.YthlbjmgoibnopaaKFnExactDecodeLeader1
import Derived.Test.YthlbjmgoibnopaaKFnExactDecodeLeader2
import Derived.Test.YthlbjmgoibnopaaKFnExactDecodeLeader3
import Derived.Test.YthlbjmgoibnopaaKFnExactDecodeLeader4
import Derived.Test.YthlbjmgoibnopaaKFnExactDecodeLeader5
import Derived.Test.YthlbjmgoibnopaaKFnExactDecodeLeader6
namespace Go.Proofs.Ythlbjmgoibnopaa.Q.FnExactDecodeLeader
open Go.RowKit Go.Proofs.Ythlbjmgoibnopaa.Ext Go.Proofs.Ythlbjmgoibnopaa.Q Go.Proofs.YthlbjmgoibnopaaW.PrintWords Go.Proofs.YthlbjmgoibnopaaW.PrintLast Go.Proofs.YthlbjmgoibnopaaW.PrintMore
set_option linter.unusedVariables false
def st : Prop := ∀ (a0 : ByteArray), (a0.size ≤ maxLen) → ∃ k, laws_FnExactDecodeLeader.f k a0 = some true
end Go.Proofs.Ythlbjmgoibnopaa.Q.FnExactDecodeLeader
