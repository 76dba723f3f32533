/- What the pure statement of laws.FnExactWrongRefs says (its bounds and the statement). -/
import Derived.Test.YtdbcojeblkiidaaKFnExactWrongRefs1
import Derived.Test.YtdbcojeblkiidaaKFnExactWrongRefs2
import Derived.Test.YtdbcojeblkiidaaKFnExactWrongRefs3
import Derived.Test.YtdbcojeblkiidaaKFnExactWrongRefs4
import Derived.Test.YtdbcojeblkiidaaKFnExactWrongRefs5
import Derived.Test.YtdbcojeblkiidaaKFnExactWrongRefs6
import Derived.Test.YtdbcojeblkiidaaKFnExactWrongRefs7
import Derived.Test.YtdbcojeblkiidaaKFnExactWrongRefs8
import Derived.Test.YtdbcojeblkiidaaKFnExactWrongRefs9
import Derived.Test.YtdbcojeblkiidaaKFnExactWrongRefs10
namespace Go.Proofs.Ytdbcojeblkiidaa.Q.FnExactWrongRefs
open Go.RowKit Go.Proofs.Ytdbcojeblkiidaa.Ext Go.Proofs.Ytdbcojeblkiidaa.Q Go.Proofs.YtdbcojeblkiidaaW.PrintWords Go.Proofs.YtdbcojeblkiidaaW.PrintLast Go.Proofs.YtdbcojeblkiidaaW.PrintMore
set_option linter.unusedVariables false
def okLI (x : (List Int)) : Prop := x.length ≤ maxLen ∧ ∀ y ∈ x, okI y
def ok59 (x : S59) : Prop := (x.f0.size ≤ maxLen) ∧ (x.f1.length ≤ maxLen ∧ ∀ y ∈ x.f1, okI y)
def okL59 (x : (List S59)) : Prop := x.length ≤ maxLen ∧ ∀ y ∈ x, ok59 y
def st : Prop := ∀ (l0_0 : (List Int)) (l0_1 : (List Int)) (l0_2 : (List S59)) (l0_3 : (List Int)), (l0_0.length ≤ maxLen ∧ ∀ y ∈ l0_0, okI y) → (l0_1.length ≤ maxLen ∧ ∀ y ∈ l0_1, okI y) → (l0_2.length ≤ maxLen ∧ ∀ y ∈ l0_2, ok59 y) → (l0_3.length ≤ maxLen ∧ ∀ y ∈ l0_3, okI y) → ∃ k, laws_FnExactWrongRefs.f k l0_0 l0_1 l0_2 l0_3 = some true
end Go.Proofs.Ytdbcojeblkiidaa.Q.FnExactWrongRefs
