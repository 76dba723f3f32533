/- What the pure statement of laws.FnExactGuestText says (its bounds and the statement). -/
import Derived.Test.YtniceoohmhjjlaaDoorKFnExactGuestText1
import Derived.Test.YtniceoohmhjjlaaDoorKFnExactGuestText2
import Derived.Test.YtniceoohmhjjlaaDoorKFnExactGuestText3
import Derived.Test.YtniceoohmhjjlaaDoorKFnExactGuestText4
import Derived.Test.YtniceoohmhjjlaaDoorKFnExactGuestText5
namespace Go.Proofs.YtniceoohmhjjlaaDoor.Q.FnExactGuestText
open Go.RowKit Go.Proofs.YtniceoohmhjjlaaDoor.Ext Go.Proofs.YtniceoohmhjjlaaDoor.Q Go.Proofs.YtniceoohmhjjlaaDoorW.PrintWords Go.Proofs.YtniceoohmhjjlaaDoorW.PrintLast Go.Proofs.YtniceoohmhjjlaaDoorW.PrintMore
set_option linter.unusedVariables false
def okLI (x : (List Int)) : Prop := x.length ≤ maxLen ∧ ∀ y ∈ x, okI y
def ok100 (x : S100) : Prop := (x.f0.size ≤ maxLen) ∧ (x.f1.length ≤ maxLen ∧ ∀ y ∈ x.f1, okI y)
def okL100 (x : (List S100)) : Prop := x.length ≤ maxLen ∧ ∀ y ∈ x, ok100 y
def st : Prop := ∀ (l0_0 : (List Int)) (l0_1 : (List S100)), (l0_0.length ≤ maxLen ∧ ∀ y ∈ l0_0, okI y) → (l0_1.length ≤ maxLen ∧ ∀ y ∈ l0_1, ok100 y) → ∃ k, laws_FnExactGuestText.f k l0_0 l0_1 = some true
end Go.Proofs.YtniceoohmhjjlaaDoor.Q.FnExactGuestText
