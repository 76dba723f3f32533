/- laws.FnExactReqText answers true, for every input within the bounds that any input that came in has. -/
import Derived.Test.YtniceoohmhjjlaaDoorStFnExactReqText
namespace Go.Proofs.YtniceoohmhjjlaaDoor.Q.FnExactReqText
open Go.RowKit Go.Proofs.YtniceoohmhjjlaaDoor.Ext Go.Proofs.YtniceoohmhjjlaaDoor.Q Go.Proofs.YtniceoohmhjjlaaDoorW.PrintWords Go.Proofs.YtniceoohmhjjlaaDoorW.PrintLast Go.Proofs.YtniceoohmhjjlaaDoorW.PrintMore
set_option linter.unusedVariables false
set_option linter.unusedSimpArgs false
theorem pure : st := by
  intro a b c s _ _ _ hs
  refine Ev.rounds ?_
  unfold laws_FnExactReqText.f laws_toReq.f laws_szReq.f
  by_cases h : (wrap64 (1048576 - (s.size : Int))) < 0
  · simp only [if_pos h, Option.bind_some]
    exact ev_pos (by decide) (ev_some _)
  · simp only [if_neg h, Option.bind_some]
    have hP := spec_ev a b c s
    have hI := impl_ev a b c s
    generalize res a b c s = r at hP hI
    refine ev_bind hP ?_
    refine ev_bind hI ?_
    exact ev_pos rfl (ev_pos rfl (ev_some _))

end Go.Proofs.YtniceoohmhjjlaaDoor.Q.FnExactReqText
