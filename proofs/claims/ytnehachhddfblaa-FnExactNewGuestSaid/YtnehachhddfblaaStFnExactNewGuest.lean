/- What the pure statement of laws.FnExactNewGuest says (its bounds and the statement). -/
import Derived.Test.YtnehachhddfblaaKFnExactNewGuest1
import Derived.Test.YtnehachhddfblaaKFnExactNewGuest2
import Derived.Test.YtnehachhddfblaaKFnExactNewGuest3
namespace Go.Proofs.Ytnehachhddfblaa.Q.FnExactNewGuest
open Go.RowKit Go.Proofs.Ytnehachhddfblaa.Ext Go.Proofs.Ytnehachhddfblaa.Q Go.Proofs.YtnehachhddfblaaW.PrintWords Go.Proofs.YtnehachhddfblaaW.PrintLast Go.Proofs.YtnehachhddfblaaW.PrintMore
set_option linter.unusedVariables false
def st : Prop := ∀ (a0 : Int), ((Lit.int .i64 a0).wf = true) → ∃ k, laws_FnExactNewGuest.f k a0 = some true
end Go.Proofs.Ytnehachhddfblaa.Q.FnExactNewGuest
