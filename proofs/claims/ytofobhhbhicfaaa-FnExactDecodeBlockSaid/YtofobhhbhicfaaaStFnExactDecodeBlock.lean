/- What the pure statement of laws.FnExactDecodeBlock says (its bounds and the statement). -/
import Derived.Test.YtofobhhbhicfaaaKFnExactDecodeBlock3
namespace Go.Proofs.Ytofobhhbhicfaaa.Q.FnExactDecodeBlock
open Go.RowKit Go.Proofs.Ytofobhhbhicfaaa.Ext Go.Proofs.Ytofobhhbhicfaaa.Q Go.Proofs.YtofobhhbhicfaaaW.PrintWords Go.Proofs.YtofobhhbhicfaaaW.PrintLast Go.Proofs.YtofobhhbhicfaaaW.PrintMore
set_option linter.unusedVariables false
def st : Prop := ∀ (a0 : ByteArray), (a0.size ≤ maxLen) → ∃ k, laws_FnExactDecodeBlock.f k a0 = some true
end Go.Proofs.Ytofobhhbhicfaaa.Q.FnExactDecodeBlock
