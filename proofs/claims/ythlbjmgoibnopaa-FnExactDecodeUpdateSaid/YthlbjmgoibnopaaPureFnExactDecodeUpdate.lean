/- laws.FnExactDecodeUpdate answers true, for every input within the bounds that any input that came in has. -/
import Derived.Test.YthlbjmgoibnopaaStFnExactDecodeUpdate
namespace Go.Proofs.Ythlbjmgoibnopaa.Q.FnExactDecodeUpdate
open Go.RowKit Go.Proofs.Ythlbjmgoibnopaa.Ext Go.Proofs.Ythlbjmgoibnopaa.Q Go.Proofs.YthlbjmgoibnopaaW.PrintWords Go.Proofs.YthlbjmgoibnopaaW.PrintLast Go.Proofs.YthlbjmgoibnopaaW.PrintMore
set_option linter.unusedVariables false
set_option linter.unusedSimpArgs false
theorem pure : st := by
  intro t _
  refine Ev.rounds ?_
  unfold laws_FnExactDecodeUpdate.f
  by_cases h : (t.size : Int) > 1048576
  · exact ev_pos h (ev_some _)
  · refine ev_neg h ?_
    refine ev_bind (spec_DecodeUpdate_ev t) (ev_bind (impl_DecodeUpdate_ev t) ?_)
    simp only [laws_eqUpdate.f, if_true, Option.bind_some]
    exact ev_some _

end Go.Proofs.Ythlbjmgoibnopaa.Q.FnExactDecodeUpdate
