/- What the pure statement of laws.FnUpdates says (its bounds and the statement). -/
import Derived.Test.YtajflpcihblkfaaKFnUpdates1
import Derived.Test.YtajflpcihblkfaaKFnUpdates2
import Derived.Test.YtajflpcihblkfaaKFnUpdates3
import Derived.Test.YtajflpcihblkfaaKFnUpdates4
import Derived.Test.YtajflpcihblkfaaKFnUpdates5
namespace Go.Proofs.Ytajflpcihblkfaa.Q.FnUpdates
open Go.RowKit Go.Proofs.Ytajflpcihblkfaa.Ext Go.Proofs.Ytajflpcihblkfaa.Q Go.Proofs.YtajflpcihblkfaaW.PrintWords Go.Proofs.YtajflpcihblkfaaW.PrintLast Go.Proofs.YtajflpcihblkfaaW.PrintMore
set_option linter.unusedVariables false
def st : Prop := ∀ (l0 : (List Int)) (l1 : (List Int)), (l0.length ≤ maxLen ∧ ∀ y ∈ l0, okU8 y) → (l1.length ≤ maxLen ∧ ∀ y ∈ l1, okU8 y) → ∃ k, laws_FnUpdates.f k l0 l1 = some true
end Go.Proofs.Ytajflpcihblkfaa.Q.FnUpdates
