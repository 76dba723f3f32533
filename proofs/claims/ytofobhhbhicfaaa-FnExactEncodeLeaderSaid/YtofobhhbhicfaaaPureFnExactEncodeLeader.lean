/- laws.FnExactEncodeLeader answers true, for every input within the bounds that any input that came in has. -/
import Derived.Test.YtofobhhbhicfaaaStFnExactEncodeLeader
import Derived.Test.YtofobhhbhicfaaaULeader
namespace Go.Proofs.Ytofobhhbhicfaaa.Q.FnExactEncodeLeader
open Go.RowKit Go.Proofs.Ytofobhhbhicfaaa.Ext Go.Proofs.Ytofobhhbhicfaaa.Q Go.Proofs.YtofobhhbhicfaaaW.PrintWords Go.Proofs.YtofobhhbhicfaaaW.PrintLast Go.Proofs.YtofobhhbhicfaaaW.PrintMore
set_option linter.unusedVariables false
set_option linter.unusedSimpArgs false
theorem pure : st := by
  intro a b c _ _ _
  refine Ev.rounds ?_
  unfold laws_FnExactEncodeLeader.f laws_toLeader.f
  simp only [Option.bind_some]
  refine ev_bind (spec_EncodeLeader_ev a b c) (ev_bind (impl_EncodeLeader_ev a b c) ?_)
  exact ev_pos rfl (ev_pos rfl (ev_some _))

end Go.Proofs.Ytofobhhbhicfaaa.Q.FnExactEncodeLeader
