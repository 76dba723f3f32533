/- What the pure statement of laws.FnExactEncodeUpdate says (its bounds and the statement). -/
import Derived.Test.YtofobhhbhicfaaaQ8
import Derived.Test.YtofobhhbhicfaaaUBase
namespace Go.Proofs.Ytofobhhbhicfaaa.Q.FnExactEncodeUpdate
open Go.RowKit Go.Proofs.Ytofobhhbhicfaaa.Ext Go.Proofs.Ytofobhhbhicfaaa.Q Go.Proofs.YtofobhhbhicfaaaW.PrintWords Go.Proofs.YtofobhhbhicfaaaW.PrintLast Go.Proofs.YtofobhhbhicfaaaW.PrintMore
set_option linter.unusedVariables false
def st : Prop := ∀ (a0_0 : Int) (a0_1 : ByteArray), ((Lit.int .i64 a0_0).wf = true) → (a0_1.size ≤ maxLen) → ∃ k, laws_FnExactEncodeUpdate.f k a0_0 a0_1 = some true
end Go.Proofs.Ytofobhhbhicfaaa.Q.FnExactEncodeUpdate
