/- What the pure statement of laws.FnExactDecodeTable says (its bounds and the statement). -/
import Derived.Test.YthlbjmgoibnopaaKFnExactDecodeTable1
import Derived.Test.YthlbjmgoibnopaaKFnExactDecodeTable2
import Derived.Test.YthlbjmgoibnopaaKFnExactDecodeTable3
namespace Go.Proofs.Ythlbjmgoibnopaa.Q.FnExactDecodeTable
open Go.RowKit Go.Proofs.Ythlbjmgoibnopaa.Ext Go.Proofs.Ythlbjmgoibnopaa.Q Go.Proofs.YthlbjmgoibnopaaW.PrintWords Go.Proofs.YthlbjmgoibnopaaW.PrintLast Go.Proofs.YthlbjmgoibnopaaW.PrintMore
set_option linter.unusedVariables false
def st : Prop := ∀ (a0 : ByteArray), (a0.size ≤ maxLen) → ∃ k, laws_FnExactDecodeTable.f k a0 = some true
end Go.Proofs.Ythlbjmgoibnopaa.Q.FnExactDecodeTable
