/- laws.FnExactDecodeLeader answers true, for every input within the bounds that any input that came in has. -/
import Derived.Test.YthlbjmgoibnopaaStFnExactDecodeLeader
namespace Go.Proofs.Ythlbjmgoibnopaa.Q.FnExactDecodeLeader
open Go.RowKit Go.Proofs.Ythlbjmgoibnopaa.Ext Go.Proofs.Ythlbjmgoibnopaa.Q Go.Proofs.YthlbjmgoibnopaaW.PrintWords Go.Proofs.YthlbjmgoibnopaaW.PrintLast Go.Proofs.YthlbjmgoibnopaaW.PrintMore
set_option linter.unusedVariables false
set_option linter.unusedSimpArgs false
theorem pure : st := by
  intro t _
  refine Ev.rounds ?_
  unfold laws_FnExactDecodeLeader.f
  by_cases h : (t.size : Int) > 1048576
  · exact ev_pos h (ev_some _)
  · refine ev_neg h ?_
    have ht : t.size ≤ 1048576 := by omega
    refine ev_bind (spec_DecodeLeader_ev t ht) (ev_bind (impl_DecodeLeader_ev t ht) ?_)
    simp only [laws_eqLeader.f, if_true, Option.bind_some]
    exact ev_some _

end Go.Proofs.Ythlbjmgoibnopaa.Q.FnExactDecodeLeader
