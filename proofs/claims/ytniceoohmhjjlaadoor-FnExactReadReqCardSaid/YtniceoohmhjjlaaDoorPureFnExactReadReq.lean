/- laws.FnExactReadReq answers true, for every input within the bounds that any input that came in has. -/
import Derived.Test.YtniceoohmhjjlaaDoorStFnExactReadReq
namespace Go.Proofs.YtniceoohmhjjlaaDoor.Q.FnExactReadReq
open Go.RowKit Go.Proofs.YtniceoohmhjjlaaDoor.Ext Go.Proofs.YtniceoohmhjjlaaDoor.Q Go.Proofs.YtniceoohmhjjlaaDoorW.PrintWords Go.Proofs.YtniceoohmhjjlaaDoorW.PrintLast Go.Proofs.YtniceoohmhjjlaaDoorW.PrintMore
set_option linter.unusedVariables false
set_option linter.unusedSimpArgs false
theorem pure : st := by
  intro s hs
  refine Ev.rounds ?_
  unfold laws_FnExactReadReq.f
  by_cases h : (s.size : Int) > 1048576
  · exact ev_pos h (ev_some _)
  · obtain ⟨R, h1, h2, _⟩ := readReq_both s
    refine ev_neg h (ev_bind h1 (ev_bind h2 (ev_bind (a := true) (ev_of_eq fun _ => ?_) (ev_pos rfl (ev_pos rfl (ev_some _))))))
    unfold laws_eqReq.f
    simp

end Go.Proofs.YtniceoohmhjjlaaDoor.Q.FnExactReadReq
