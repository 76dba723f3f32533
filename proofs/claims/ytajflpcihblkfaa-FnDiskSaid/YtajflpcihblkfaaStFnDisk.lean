/- What the pure statement of laws.FnDisk says (its bounds and the statement). -/
import Derived.Test.YtajflpcihblkfaaKFnDisk1
import Derived.Test.YtajflpcihblkfaaKFnDisk2
import Derived.Test.YtajflpcihblkfaaKFnDisk3
import Derived.Test.YtajflpcihblkfaaKFnDisk4
import Derived.Test.YtajflpcihblkfaaKFnDisk5
import Derived.Test.YtajflpcihblkfaaKFnDisk6
import Derived.Test.YtajflpcihblkfaaKFnDisk7
import Derived.Test.YtajflpcihblkfaaKFnDisk8
namespace Go.Proofs.Ytajflpcihblkfaa.Q.FnDisk
open Go.RowKit Go.Proofs.Ytajflpcihblkfaa.Ext Go.Proofs.Ytajflpcihblkfaa.Q Go.Proofs.YtajflpcihblkfaaW.PrintWords Go.Proofs.YtajflpcihblkfaaW.PrintLast Go.Proofs.YtajflpcihblkfaaW.PrintMore
set_option linter.unusedVariables false
def st : Prop := ∀ (l0 : (List Int)) (l1 : (List Int)), (l0.length ≤ maxLen ∧ ∀ y ∈ l0, okU8 y) → (l1.length ≤ maxLen ∧ ∀ y ∈ l1, okU8 y) → ∃ k, laws_FnDisk.f k l0 l1 = some true
end Go.Proofs.Ytajflpcihblkfaa.Q.FnDisk
