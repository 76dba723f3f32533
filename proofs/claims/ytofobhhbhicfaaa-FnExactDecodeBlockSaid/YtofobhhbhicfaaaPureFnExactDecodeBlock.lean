/- laws.FnExactDecodeBlock answers true, for every input within the bounds that any input that came in has. -/
import Derived.Test.YtofobhhbhicfaaaStFnExactDecodeBlock
namespace Go.Proofs.Ytofobhhbhicfaaa.Q.FnExactDecodeBlock
open Go.RowKit Go.Proofs.Ytofobhhbhicfaaa.Ext Go.Proofs.Ytofobhhbhicfaaa.Q Go.Proofs.YtofobhhbhicfaaaW.PrintWords Go.Proofs.YtofobhhbhicfaaaW.PrintLast Go.Proofs.YtofobhhbhicfaaaW.PrintMore
set_option linter.unusedVariables false
set_option linter.unusedSimpArgs false
theorem pure : st := by
  intro t _
  refine Ev.rounds ?_
  unfold laws_FnExactDecodeBlock.f
  by_cases h : (t.size : Int) > 1048576
  · exact ev_pos h (ev_some _)
  · refine ev_neg h ?_
    have ht : t.size ≤ 1048576 := by omega
    refine ev_bind (spec_DecodeBlock_ev t ht) (ev_bind (impl_DecodeBlock_ev t ht) ?_)
    simp only [laws_eqBlock.f, if_true, Option.bind_some]
    exact ev_some _

end Go.Proofs.Ytofobhhbhicfaaa.Q.FnExactDecodeBlock
