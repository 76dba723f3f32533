/- What the pure statement of laws.FnExactReqOK says (its bounds and the statement). -/
import Derived.Test.YtofobhhbhicfaaaQ4
import Derived.Test.YtofobhhbhicfaaaUBase
namespace Go.Proofs.Ytofobhhbhicfaaa.Q.FnExactReqOK
open Go.RowKit Go.Proofs.Ytofobhhbhicfaaa.Ext Go.Proofs.Ytofobhhbhicfaaa.Q Go.Proofs.YtofobhhbhicfaaaW.PrintWords Go.Proofs.YtofobhhbhicfaaaW.PrintLast Go.Proofs.YtofobhhbhicfaaaW.PrintMore
set_option linter.unusedVariables false
def st : Prop := ∀ (a0_0 : Int) (a0_1 : Int) (a0_2 : Int) (a0_3 : ByteArray), ((Lit.int .i64 a0_0).wf = true) → ((Lit.int .i64 a0_1).wf = true) → ((Lit.int .i64 a0_2).wf = true) → (a0_3.size ≤ maxLen) → ∃ k, laws_FnExactReqOK.f k a0_0 a0_1 a0_2 a0_3 = some true
end Go.Proofs.Ytofobhhbhicfaaa.Q.FnExactReqOK
