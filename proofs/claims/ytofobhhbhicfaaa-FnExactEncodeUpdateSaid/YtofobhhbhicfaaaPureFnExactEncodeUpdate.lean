/- laws.FnExactEncodeUpdate answers true, for every input within the bounds that any input that came in has. -/
import Derived.Test.YtofobhhbhicfaaaStFnExactEncodeUpdate
import Derived.Test.YtofobhhbhicfaaaUUpdate
namespace Go.Proofs.Ytofobhhbhicfaaa.Q.FnExactEncodeUpdate
open Go.RowKit Go.Proofs.Ytofobhhbhicfaaa.Ext Go.Proofs.Ytofobhhbhicfaaa.Q Go.Proofs.YtofobhhbhicfaaaW.PrintWords Go.Proofs.YtofobhhbhicfaaaW.PrintLast Go.Proofs.YtofobhhbhicfaaaW.PrintMore
set_option linter.unusedVariables false
set_option linter.unusedSimpArgs false
theorem pure : st := by
  intro a d _ hd
  refine Ev.rounds ?_
  unfold laws_FnExactEncodeUpdate.f laws_toUpdate.f laws_szUpdate.f
  unfold maxLen at hd
  by_cases h : (wrap64 (1048576 - (d.size : Int))) < 0
  · simp only [if_pos h, Option.bind_some]
    exact ev_pos (by decide) (ev_some _)
  · simp only [if_neg h, Option.bind_some]
    refine ev_bind (spec_EncodeUpdate_ev a d) (ev_bind (impl_EncodeUpdate_ev a d) ?_)
    exact ev_pos rfl (ev_pos rfl (ev_some _))

end Go.Proofs.Ytofobhhbhicfaaa.Q.FnExactEncodeUpdate
