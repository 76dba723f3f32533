/- What the pure statement of laws.FnExactPackName says (its bounds and the statement). -/
import Derived.Test.YtofobhhbhicfaaaQ5
import Derived.Test.YtofobhhbhicfaaaUBase
namespace Go.Proofs.Ytofobhhbhicfaaa.Q.FnExactPackName
open Go.RowKit Go.Proofs.Ytofobhhbhicfaaa.Ext Go.Proofs.Ytofobhhbhicfaaa.Q Go.Proofs.YtofobhhbhicfaaaW.PrintWords Go.Proofs.YtofobhhbhicfaaaW.PrintLast Go.Proofs.YtofobhhbhicfaaaW.PrintMore
set_option linter.unusedVariables false
def st : Prop := ∀ (a0 : ByteArray), (a0.size ≤ maxLen) → ∃ k, laws_FnExactPackName.f k a0 = some true
end Go.Proofs.Ytofobhhbhicfaaa.Q.FnExactPackName
