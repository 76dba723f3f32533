/- laws.FnExactEncodeBlock answers true, for every input within the bounds that any input that came in has. -/
import Derived.Test.YtofobhhbhicfaaaStFnExactEncodeBlock
import Derived.Test.YtofobhhbhicfaaaUBlock
namespace Go.Proofs.Ytofobhhbhicfaaa.Q.FnExactEncodeBlock
open Go.RowKit Go.Proofs.Ytofobhhbhicfaaa.Ext Go.Proofs.Ytofobhhbhicfaaa.Q Go.Proofs.YtofobhhbhicfaaaW.PrintWords Go.Proofs.YtofobhhbhicfaaaW.PrintLast Go.Proofs.YtofobhhbhicfaaaW.PrintMore
set_option linter.unusedVariables false
set_option linter.unusedSimpArgs false
theorem pure : st := by
  intro a b c d _ _ _ _
  refine Ev.rounds ?_
  unfold laws_FnExactEncodeBlock.f laws_toBlock.f
  simp only [Option.bind_some]
  refine ev_bind (spec_EncodeBlock_ev a b c d) (ev_bind (impl_EncodeBlock_ev a b c d) ?_)
  exact ev_pos rfl (ev_pos rfl (ev_some _))

end Go.Proofs.Ytofobhhbhicfaaa.Q.FnExactEncodeBlock
