/- What the pure statement of laws.FnExactEncodeBlock says (its bounds and the statement). -/
import Derived.Test.YtofobhhbhicfaaaQ7
import Derived.Test.YtofobhhbhicfaaaUBase
namespace Go.Proofs.Ytofobhhbhicfaaa.Q.FnExactEncodeBlock
open Go.RowKit Go.Proofs.Ytofobhhbhicfaaa.Ext Go.Proofs.Ytofobhhbhicfaaa.Q Go.Proofs.YtofobhhbhicfaaaW.PrintWords Go.Proofs.YtofobhhbhicfaaaW.PrintLast Go.Proofs.YtofobhhbhicfaaaW.PrintMore
set_option linter.unusedVariables false
def st : Prop := ∀ (a0_0 : Int) (a0_1 : Int) (a0_2 : Int) (a0_3 : Int), ((Lit.int .i64 a0_0).wf = true) → ((Lit.int .i64 a0_1).wf = true) → ((Lit.int .i64 a0_2).wf = true) → ((Lit.int .i64 a0_3).wf = true) → ∃ k, laws_FnExactEncodeBlock.f k a0_0 a0_1 a0_2 a0_3 = some true
end Go.Proofs.Ytofobhhbhicfaaa.Q.FnExactEncodeBlock
