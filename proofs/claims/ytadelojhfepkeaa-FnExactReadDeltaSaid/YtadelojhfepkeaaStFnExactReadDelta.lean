/- What the pure statement of laws.FnExactReadDelta says (its bounds and the statement). -/
import Derived.Test.YtadelojhfepkeaaKFnExactReadDelta1
import Derived.Test.YtadelojhfepkeaaKFnExactReadDelta2
import Derived.Test.YtadelojhfepkeaaKFnExactReadDelta3
import Derived.Test.YtadelojhfepkeaaKFnExactReadDelta4
import Derived.Test.YtadelojhfepkeaaKFnExactReadDelta5
import Derived.Test.YtadelojhfepkeaaKFnExactReadDelta6
import Derived.Test.YtadelojhfepkeaaKFnExactReadDelta7
import Derived.Test.YtadelojhfepkeaaKFnExactReadDelta8
import Derived.Test.YtadelojhfepkeaaKFnExactReadDelta9
namespace Go.Proofs.Ytadelojhfepkeaa.Q.FnExactReadDelta
open Go.RowKit Go.Proofs.Ytadelojhfepkeaa.Ext Go.Proofs.Ytadelojhfepkeaa.Q Go.Proofs.YtadelojhfepkeaaW.PrintWords Go.Proofs.YtadelojhfepkeaaW.PrintLast Go.Proofs.YtadelojhfepkeaaW.PrintMore
set_option linter.unusedVariables false
def okLS (x : (List ByteArray)) : Prop := x.length ≤ maxLen ∧ ∀ y ∈ x, okS y
def ok75 (x : S75) : Prop := ((Lit.int .i64 x.f0).wf = true) ∧ ((Lit.int .i64 x.f1).wf = true) ∧ (x.f2.size ≤ maxLen)
def okL75 (x : (List S75)) : Prop := x.length ≤ maxLen ∧ ∀ y ∈ x, ok75 y
def st : Prop := ∀ (l0_0 : (List ByteArray)) (l0_1 : (List S75)) (a1 : Int) (a2 : Int), (l0_0.length ≤ maxLen ∧ ∀ y ∈ l0_0, okS y) → (l0_1.length ≤ maxLen ∧ ∀ y ∈ l0_1, ok75 y) → ((Lit.int .i64 a1).wf = true) → ((Lit.int .i64 a2).wf = true) → ∃ k, laws_FnExactReadDelta.f k l0_0 l0_1 a1 a2 = some true
end Go.Proofs.Ytadelojhfepkeaa.Q.FnExactReadDelta
