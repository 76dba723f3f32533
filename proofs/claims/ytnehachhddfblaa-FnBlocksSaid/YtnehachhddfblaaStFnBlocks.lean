/- What the pure statement of laws.FnBlocks says (its bounds and the statement). -/
import Derived.Test.YtnehachhddfblaaKFnBlocks1
import Derived.Test.YtnehachhddfblaaKFnBlocks2
import Derived.Test.YtnehachhddfblaaKFnBlocks3
import Derived.Test.YtnehachhddfblaaKFnBlocks4
import Derived.Test.YtnehachhddfblaaKFnBlocks5
import Derived.Test.YtnehachhddfblaaKFnBlocks6
namespace Go.Proofs.Ytnehachhddfblaa.Q.FnBlocks
open Go.RowKit Go.Proofs.Ytnehachhddfblaa.Ext Go.Proofs.Ytnehachhddfblaa.Q Go.Proofs.YtnehachhddfblaaW.PrintWords Go.Proofs.YtnehachhddfblaaW.PrintLast Go.Proofs.YtnehachhddfblaaW.PrintMore
set_option linter.unusedVariables false
def st : Prop := ∀ (l0 : (List Int)) (l1 : (List Int)), (l0.length ≤ maxLen ∧ ∀ y ∈ l0, okU8 y) → (l1.length ≤ maxLen ∧ ∀ y ∈ l1, okU8 y) → ∃ k, laws_FnBlocks.f k l0 l1 = some true
end Go.Proofs.Ytnehachhddfblaa.Q.FnBlocks
