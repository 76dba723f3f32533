/- laws.FnExactPackName answers true, for every input within the bounds that any input that came in has. -/
import Derived.Test.YtofobhhbhicfaaaStFnExactPackName
import Derived.Test.YtofobhhbhicfaaaUNameN
import Derived.Test.YtofobhhbhicfaaaUFirst
namespace Go.Proofs.Ytofobhhbhicfaaa.Q.FnExactPackName
open Go.RowKit Go.Proofs.Ytofobhhbhicfaaa.Ext Go.Proofs.Ytofobhhbhicfaaa.Q Go.Proofs.YtofobhhbhicfaaaW.PrintWords Go.Proofs.YtofobhhbhicfaaaW.PrintLast Go.Proofs.YtofobhhbhicfaaaW.PrintMore
set_option linter.unusedVariables false
set_option linter.unusedSimpArgs false
theorem pure : st := by
  intro t _
  refine Ev.rounds ?_
  unfold laws_FnExactPackName.f
  by_cases h : (t.size : Int) > 1048576
  · exact ev_pos h (ev_some _)
  · refine ev_neg h ?_
    have hs : Ev (fun k => spec_PackName.f k t) (if (t.size : Int) > 65536 then (0, 2) else if nameOK t = true then (nameNum t, 0) else (0, 12)) := by
      unfold spec_PackName.f
      by_cases h1 : (t.size : Int) > 65536
      · rw [if_pos h1]; exact ev_pos h1 (ev_some _)
      · rw [if_neg h1]; refine ev_neg h1 (ev_bind (spec_name_ev t (by omega)) ?_)
        cases nameOK t
        · exact ev_some _
        · exact ev_bind (spec_num_ev t (by omega)) (ev_some _)
    have hi : Ev (fun k => impl_PackName.f k t) (if (t.size : Int) > 65536 then (0, 2) else if nameOK t = true then (nameNum t, 0) else (0, 12)) := by
      unfold impl_PackName.f
      simp only [isLongText_eq, Option.bind_some]
      refine ev_bind (impl_name_ev t (by omega)) ?_
      simp only [first2, Option.bind_some]
      by_cases h1 : (t.size : Int) > 65536
      · simp only [h1, decide_true, if_true]; exact ev_neg (by omega) (ev_some _)
      · simp only [h1, decide_false, Bool.false_eq_true, if_false]
        cases nameOK t
        · exact ev_neg (by simp) (ev_some _)
        · exact ev_pos (by simp) (ev_bind (impl_num_ev t (by omega)) (ev_some _))
    refine ev_bind hs (ev_bind hi ?_)
    exact ev_pos rfl (ev_pos rfl (ev_some _))

end Go.Proofs.Ytofobhhbhicfaaa.Q.FnExactPackName
