/- What the pure statement of laws.FnExactDecodeDelta says (its bounds and the statement). -/
import Derived.Test.YtofobhhbhicfaaaKFnExactDecodeDelta3
namespace Go.Proofs.Ytofobhhbhicfaaa.Q.FnExactDecodeDelta
open Go.RowKit Go.Proofs.Ytofobhhbhicfaaa.Ext Go.Proofs.Ytofobhhbhicfaaa.Q Go.Proofs.YtofobhhbhicfaaaW.PrintWords Go.Proofs.YtofobhhbhicfaaaW.PrintLast Go.Proofs.YtofobhhbhicfaaaW.PrintMore
set_option linter.unusedVariables false
def st : Prop := ∀ (a0 : ByteArray), (a0.size ≤ maxLen) → ∃ k, laws_FnExactDecodeDelta.f k a0 = some true
end Go.Proofs.Ytofobhhbhicfaaa.Q.FnExactDecodeDelta
