/- What the pure statement of laws.FnExactGuestOK says (its bounds and the statement). -/
import Derived.Test.YtbojcpgfkppkbaaKFnExactGuestOK1
import Derived.Test.YtbojcpgfkppkbaaKFnExactGuestOK2
import Derived.Test.YtbojcpgfkppkbaaKFnExactGuestOK3
import Derived.Test.YtbojcpgfkppkbaaKFnExactGuestOK4
namespace Go.Proofs.Ytbojcpgfkppkbaa.Q.FnExactGuestOK
open Go.RowKit Go.Proofs.Ytbojcpgfkppkbaa.Ext Go.Proofs.Ytbojcpgfkppkbaa.Q Go.Proofs.YtbojcpgfkppkbaaW.PrintWords Go.Proofs.YtbojcpgfkppkbaaW.PrintLast Go.Proofs.YtbojcpgfkppkbaaW.PrintMore
set_option linter.unusedVariables false
def okLI (x : (List Int)) : Prop := x.length ≤ maxLen ∧ ∀ y ∈ x, okI y
def ok155 (x : S155) : Prop := (x.f0.size ≤ maxLen) ∧ (x.f1.length ≤ maxLen ∧ ∀ y ∈ x.f1, okI y)
def okL155 (x : (List S155)) : Prop := x.length ≤ maxLen ∧ ∀ y ∈ x, ok155 y
def st : Prop := ∀ (l0_0 : (List Int)) (l0_1 : (List S155)), (l0_0.length ≤ maxLen ∧ ∀ y ∈ l0_0, okI y) → (l0_1.length ≤ maxLen ∧ ∀ y ∈ l0_1, ok155 y) → ∃ k, laws_FnExactGuestOK.f k l0_0 l0_1 = some true
end Go.Proofs.Ytbojcpgfkppkbaa.Q.FnExactGuestOK
