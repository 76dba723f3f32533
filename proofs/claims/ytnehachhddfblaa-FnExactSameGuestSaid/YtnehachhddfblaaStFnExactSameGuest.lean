/- What the pure statement of laws.FnExactSameGuest says (its bounds and the statement). -/
import Derived.Test.YtnehachhddfblaaKFnExactSameGuest1
import Derived.Test.YtnehachhddfblaaKFnExactSameGuest2
import Derived.Test.YtnehachhddfblaaKFnExactSameGuest3
import Derived.Test.YtnehachhddfblaaKFnExactSameGuest4
import Derived.Test.YtnehachhddfblaaKFnExactSameGuest5
namespace Go.Proofs.Ytnehachhddfblaa.Q.FnExactSameGuest
open Go.RowKit Go.Proofs.Ytnehachhddfblaa.Ext Go.Proofs.Ytnehachhddfblaa.Q Go.Proofs.YtnehachhddfblaaW.PrintWords Go.Proofs.YtnehachhddfblaaW.PrintLast Go.Proofs.YtnehachhddfblaaW.PrintMore
set_option linter.unusedVariables false
def okLI (x : (List Int)) : Prop := x.length ≤ maxLen ∧ ∀ y ∈ x, okI y
def ok86 (x : S86) : Prop := (x.f0.size ≤ maxLen) ∧ (x.f1.length ≤ maxLen ∧ ∀ y ∈ x.f1, okI y)
def okL86 (x : (List S86)) : Prop := x.length ≤ maxLen ∧ ∀ y ∈ x, ok86 y
def st : Prop := ∀ (l0_0 : (List Int)) (l0_1 : (List S86)) (l1_0 : (List Int)) (l1_1 : (List S86)), (l0_0.length ≤ maxLen ∧ ∀ y ∈ l0_0, okI y) → (l0_1.length ≤ maxLen ∧ ∀ y ∈ l0_1, ok86 y) → (l1_0.length ≤ maxLen ∧ ∀ y ∈ l1_0, okI y) → (l1_1.length ≤ maxLen ∧ ∀ y ∈ l1_1, ok86 y) → ∃ k, laws_FnExactSameGuest.f k l0_0 l0_1 l1_0 l1_1 = some true
end Go.Proofs.Ytnehachhddfblaa.Q.FnExactSameGuest
