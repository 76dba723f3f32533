/- What the pure statement of laws.FnExactReadLeader says (its bounds and the statement). -/
import Derived.Test.YtadelojhfepkeaaKFnExactReadLeader1
import Derived.Test.YtadelojhfepkeaaKFnExactReadLeader2
import Derived.Test.YtadelojhfepkeaaKFnExactReadLeader3
import Derived.Test.YtadelojhfepkeaaKFnExactReadLeader4
import Derived.Test.YtadelojhfepkeaaKFnExactReadLeader5
import Derived.Test.YtadelojhfepkeaaKFnExactReadLeader6
import Derived.Test.YtadelojhfepkeaaKFnExactReadLeader7
import Derived.Test.YtadelojhfepkeaaKFnExactReadLeader8
import Derived.Test.YtadelojhfepkeaaKFnExactReadLeader9
namespace Go.Proofs.Ytadelojhfepkeaa.Q.FnExactReadLeader
open Go.RowKit Go.Proofs.Ytadelojhfepkeaa.Ext Go.Proofs.Ytadelojhfepkeaa.Q Go.Proofs.YtadelojhfepkeaaW.PrintWords Go.Proofs.YtadelojhfepkeaaW.PrintLast Go.Proofs.YtadelojhfepkeaaW.PrintMore
set_option linter.unusedVariables false
def okLS (x : (List ByteArray)) : Prop := x.length ≤ maxLen ∧ ∀ y ∈ x, okS y
def ok75 (x : S75) : Prop := ((Lit.int .i64 x.f0).wf = true) ∧ ((Lit.int .i64 x.f1).wf = true) ∧ (x.f2.size ≤ maxLen)
def okL75 (x : (List S75)) : Prop := x.length ≤ maxLen ∧ ∀ y ∈ x, ok75 y
def st : Prop := ∀ (l0_0 : (List ByteArray)) (l0_1 : (List S75)) (a1 : Int), (l0_0.length ≤ maxLen ∧ ∀ y ∈ l0_0, okS y) → (l0_1.length ≤ maxLen ∧ ∀ y ∈ l0_1, ok75 y) → ((Lit.int .i64 a1).wf = true) → ∃ k, laws_FnExactReadLeader.f k l0_0 l0_1 a1 = some true
end Go.Proofs.Ytadelojhfepkeaa.Q.FnExactReadLeader
