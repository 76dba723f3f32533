/- What the pure statement of laws.FnExactOpenRecord says (its bounds and the statement). -/
import Derived.Test.YtofobhhbhicfaaaKFnExactOpenRecord2
namespace Go.Proofs.Ytofobhhbhicfaaa.Q.FnExactOpenRecord
open Go.RowKit Go.Proofs.Ytofobhhbhicfaaa.Ext Go.Proofs.Ytofobhhbhicfaaa.Q Go.Proofs.YtofobhhbhicfaaaW.PrintWords Go.Proofs.YtofobhhbhicfaaaW.PrintLast Go.Proofs.YtofobhhbhicfaaaW.PrintMore
set_option linter.unusedVariables false
def st : Prop := ∀ (a0 : ByteArray) (a1 : Int), (a0.size ≤ maxLen) → ((Lit.int .i64 a1).wf = true) → ∃ k, laws_FnExactOpenRecord.f k a0 a1 = some true
end Go.Proofs.Ytofobhhbhicfaaa.Q.FnExactOpenRecord
