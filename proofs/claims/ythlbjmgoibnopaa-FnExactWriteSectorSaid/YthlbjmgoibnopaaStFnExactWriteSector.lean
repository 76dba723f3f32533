/- What the pure statement of laws.FnExactWriteSector says (its bounds and the statement). -/
import Derived.Test.YthlbjmgoibnopaaKFnExactWriteSector1
import Derived.Test.YthlbjmgoibnopaaKFnExactWriteSector2
import Derived.Test.YthlbjmgoibnopaaKFnExactWriteSector3
import Derived.Test.YthlbjmgoibnopaaKFnExactWriteSector4
import Derived.Test.YthlbjmgoibnopaaKFnExactWriteSector5
import Derived.Test.YthlbjmgoibnopaaKFnExactWriteSector6
import Derived.Test.YthlbjmgoibnopaaKFnExactWriteSector7
import Derived.Test.YthlbjmgoibnopaaKFnExactWriteSector8
namespace Go.Proofs.Ythlbjmgoibnopaa.Q.FnExactWriteSector
open Go.RowKit Go.Proofs.Ythlbjmgoibnopaa.Ext Go.Proofs.Ythlbjmgoibnopaa.Q Go.Proofs.YthlbjmgoibnopaaW.PrintWords Go.Proofs.YthlbjmgoibnopaaW.PrintLast Go.Proofs.YthlbjmgoibnopaaW.PrintMore
set_option linter.unusedVariables false
def okLS (x : (List ByteArray)) : Prop := x.length ≤ maxLen ∧ ∀ y ∈ x, okS y
def ok166 (x : S166) : Prop := ((Lit.int .i64 x.f0).wf = true) ∧ ((Lit.int .i64 x.f1).wf = true) ∧ (x.f2.size ≤ maxLen)
def okL166 (x : (List S166)) : Prop := x.length ≤ maxLen ∧ ∀ y ∈ x, ok166 y
def st : Prop := ∀ (l0_0 : (List ByteArray)) (l0_1 : (List S166)) (a1 : Int) (a2 : Int) (a3 : ByteArray), (l0_0.length ≤ maxLen ∧ ∀ y ∈ l0_0, okS y) → (l0_1.length ≤ maxLen ∧ ∀ y ∈ l0_1, ok166 y) → ((Lit.int .i64 a1).wf = true) → ((Lit.int .i64 a2).wf = true) → (a3.size ≤ maxLen) → ∃ k, laws_FnExactWriteSector.f k l0_0 l0_1 a1 a2 a3 = some true
end Go.Proofs.Ythlbjmgoibnopaa.Q.FnExactWriteSector
