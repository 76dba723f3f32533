/- What the pure statement of laws.FnExactGuestOK says (its bounds and the statement). -/
import Derived.Test.YtkejmbnfjjgfnaaKFnExactGuestOK1
import Derived.Test.YtkejmbnfjjgfnaaKFnExactGuestOK2
import Derived.Test.YtkejmbnfjjgfnaaKFnExactGuestOK3
namespace Go.Proofs.Ytkejmbnfjjgfnaa.Q.FnExactGuestOK
open Go.RowKit Go.Proofs.Ytkejmbnfjjgfnaa.Ext Go.Proofs.Ytkejmbnfjjgfnaa.Q Go.Proofs.YtkejmbnfjjgfnaaW.PrintWords Go.Proofs.YtkejmbnfjjgfnaaW.PrintLast Go.Proofs.YtkejmbnfjjgfnaaW.PrintMore
set_option linter.unusedVariables false
def okLI (x : (List Int)) : Prop := x.length ≤ maxLen ∧ ∀ y ∈ x, okI y
def ok50 (x : S50) : Prop := (x.f0.size ≤ maxLen) ∧ (x.f1.length ≤ maxLen ∧ ∀ y ∈ x.f1, okI y)
def okL50 (x : (List S50)) : Prop := x.length ≤ maxLen ∧ ∀ y ∈ x, ok50 y
def st : Prop := ∀ (l0_0 : (List Int)) (l0_1 : (List S50)), (l0_0.length ≤ maxLen ∧ ∀ y ∈ l0_0, okI y) → (l0_1.length ≤ maxLen ∧ ∀ y ∈ l0_1, ok50 y) → ∃ k, laws_FnExactGuestOK.f k l0_0 l0_1 = some true
end Go.Proofs.Ytkejmbnfjjgfnaa.Q.FnExactGuestOK
