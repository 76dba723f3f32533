/- What the pure statement of laws.FnTable says (its bounds and the statement). -/
import Derived.Test.YtajflpcihblkfaaKFnTable1
import Derived.Test.YtajflpcihblkfaaKFnTable2
import Derived.Test.YtajflpcihblkfaaKFnTable3
import Derived.Test.YtajflpcihblkfaaKFnTable4
namespace Go.Proofs.Ytajflpcihblkfaa.Q.FnTable
open Go.RowKit Go.Proofs.Ytajflpcihblkfaa.Ext Go.Proofs.Ytajflpcihblkfaa.Q Go.Proofs.YtajflpcihblkfaaW.PrintWords Go.Proofs.YtajflpcihblkfaaW.PrintLast Go.Proofs.YtajflpcihblkfaaW.PrintMore
set_option linter.unusedVariables false
def st : Prop := ∀ (l0 : (List Int)) (l1 : (List Int)), (l0.length ≤ maxLen ∧ ∀ y ∈ l0, okU8 y) → (l1.length ≤ maxLen ∧ ∀ y ∈ l1, okU8 y) → ∃ k, laws_FnTable.f k l0 l1 = some true
end Go.Proofs.Ytajflpcihblkfaa.Q.FnTable
