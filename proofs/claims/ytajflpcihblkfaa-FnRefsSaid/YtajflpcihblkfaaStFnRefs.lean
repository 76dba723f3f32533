/- What the pure statement of laws.FnRefs says (its bounds and the statement). -/
import Derived.Test.YtajflpcihblkfaaKFnRefs1
import Derived.Test.YtajflpcihblkfaaKFnRefs2
import Derived.Test.YtajflpcihblkfaaKFnRefs3
import Derived.Test.YtajflpcihblkfaaKFnRefs4
import Derived.Test.YtajflpcihblkfaaKFnRefs5
namespace Go.Proofs.Ytajflpcihblkfaa.Q.FnRefs
open Go.RowKit Go.Proofs.Ytajflpcihblkfaa.Ext Go.Proofs.Ytajflpcihblkfaa.Q Go.Proofs.YtajflpcihblkfaaW.PrintWords Go.Proofs.YtajflpcihblkfaaW.PrintLast Go.Proofs.YtajflpcihblkfaaW.PrintMore
set_option linter.unusedVariables false
def st : Prop := ∀ (l0 : (List Int)) (l1 : (List Int)), (l0.length ≤ maxLen ∧ ∀ y ∈ l0, okU8 y) → (l1.length ≤ maxLen ∧ ∀ y ∈ l1, okU8 y) → ∃ k, laws_FnRefs.f k l0 l1 = some true
end Go.Proofs.Ytajflpcihblkfaa.Q.FnRefs
