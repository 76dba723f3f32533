/- What the pure statement of laws.FnRecords says (its bounds and the statement). -/
import Derived.Test.YthlbjmgoibnopaaKFnRecords1
import Derived.Test.YthlbjmgoibnopaaKFnRecords2
import Derived.Test.YthlbjmgoibnopaaKFnRecords3
import Derived.Test.YthlbjmgoibnopaaKFnRecords4
import Derived.Test.YthlbjmgoibnopaaKFnRecords5
import Derived.Test.YthlbjmgoibnopaaKFnRecords6
import Derived.Test.YthlbjmgoibnopaaKFnRecords7
import Derived.Test.YthlbjmgoibnopaaKFnRecords8
namespace Go.Proofs.Ythlbjmgoibnopaa.Q.FnRecords
open Go.RowKit Go.Proofs.Ythlbjmgoibnopaa.Ext Go.Proofs.Ythlbjmgoibnopaa.Q Go.Proofs.YthlbjmgoibnopaaW.PrintWords Go.Proofs.YthlbjmgoibnopaaW.PrintLast Go.Proofs.YthlbjmgoibnopaaW.PrintMore
set_option linter.unusedVariables false
def st : Prop := ∀ (l0 : (List Int)) (l1 : (List Int)), (l0.length ≤ maxLen ∧ ∀ y ∈ l0, okU8 y) → (l1.length ≤ maxLen ∧ ∀ y ∈ l1, okU8 y) → ∃ k, laws_FnRecords.f k l0 l1 = some true
end Go.Proofs.Ythlbjmgoibnopaa.Q.FnRecords
