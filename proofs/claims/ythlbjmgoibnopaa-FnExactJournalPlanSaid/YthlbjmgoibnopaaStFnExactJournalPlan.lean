/- What the pure statement of laws.FnExactJournalPlan says (its bounds and the statement). -/
import Derived.Test.YthlbjmgoibnopaaKFnExactJournalPlan1
import Derived.Test.YthlbjmgoibnopaaKFnExactJournalPlan2
import Derived.Test.YthlbjmgoibnopaaKFnExactJournalPlan3
import Derived.Test.YthlbjmgoibnopaaKFnExactJournalPlan4
import Derived.Test.YthlbjmgoibnopaaKFnExactJournalPlan5
import Derived.Test.YthlbjmgoibnopaaKFnExactJournalPlan6
namespace Go.Proofs.Ythlbjmgoibnopaa.Q.FnExactJournalPlan
open Go.RowKit Go.Proofs.Ythlbjmgoibnopaa.Ext Go.Proofs.Ythlbjmgoibnopaa.Q Go.Proofs.YthlbjmgoibnopaaW.PrintWords Go.Proofs.YthlbjmgoibnopaaW.PrintLast Go.Proofs.YthlbjmgoibnopaaW.PrintMore
set_option linter.unusedVariables false
def ok124 (x : S124) : Prop := ((Lit.int .i64 x.f0).wf = true) ∧ (x.f1.size ≤ maxLen)
def st : Prop := ∀ (a0 : Int) (a1 : Int) (l2 : (List S124)), ((Lit.int .i64 a0).wf = true) → ((Lit.int .i64 a1).wf = true) → (l2.length ≤ maxLen ∧ ∀ y ∈ l2, ok124 y) → ∃ k, laws_FnExactJournalPlan.f k a0 a1 l2 = some true
end Go.Proofs.Ythlbjmgoibnopaa.Q.FnExactJournalPlan
