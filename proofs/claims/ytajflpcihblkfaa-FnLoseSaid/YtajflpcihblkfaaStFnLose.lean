/- What the pure statement of laws.FnLose says (its bounds and the statement). -/
import Derived.Test.YtajflpcihblkfaaKFnLose1
import Derived.Test.YtajflpcihblkfaaKFnLose2
import Derived.Test.YtajflpcihblkfaaKFnLose3
import Derived.Test.YtajflpcihblkfaaKFnLose4
import Derived.Test.YtajflpcihblkfaaKFnLose5
import Derived.Test.YtajflpcihblkfaaKFnLose6
namespace Go.Proofs.Ytajflpcihblkfaa.Q.FnLose
open Go.RowKit Go.Proofs.Ytajflpcihblkfaa.Ext Go.Proofs.Ytajflpcihblkfaa.Q Go.Proofs.YtajflpcihblkfaaW.PrintWords Go.Proofs.YtajflpcihblkfaaW.PrintLast Go.Proofs.YtajflpcihblkfaaW.PrintMore
set_option linter.unusedVariables false
def st : Prop := ∀ (l0 : (List Int)) (l1 : (List Int)), (l0.length ≤ maxLen ∧ ∀ y ∈ l0, okU8 y) → (l1.length ≤ maxLen ∧ ∀ y ∈ l1, okU8 y) → ∃ k, laws_FnLose.f k l0 l1 = some true
end Go.Proofs.Ytajflpcihblkfaa.Q.FnLose
