/- laws.FnExactImageOK answers true, for every input within the bounds that any input that came in has. -/
import Derived.Test.YtdbcojeblkiidaaStFnExactImageOK
namespace Go.Proofs.Ytdbcojeblkiidaa.Q.FnExactImageOK
open Go.RowKit Go.Proofs.Ytdbcojeblkiidaa.Ext Go.Proofs.Ytdbcojeblkiidaa.Q Go.Proofs.YtdbcojeblkiidaaW.PrintWords Go.Proofs.YtdbcojeblkiidaaW.PrintLast Go.Proofs.YtdbcojeblkiidaaW.PrintMore
set_option linter.unusedVariables false
set_option linter.unusedSimpArgs false
theorem pure : st := by
  intro R T S D hR hT hS hD
  refine Ev.rounds ?_
  unfold laws_FnExactImageOK.f
  obtain ⟨s, h1, h2⟩ := szImage_ev R T S D hR.1 hT.1 hS.1 hD.1 (fun x hx => ⟨(hS.2 x hx).1, (hS.2 x hx).2.1⟩)
  refine ev_bind h1 ?_
  by_cases hs : s < 0
  · exact ev_pos hs (ev_some _)
  · rcases h2 with h2 | ⟨_, hF⟩
    · exact absurd h2 hs
    · have hc := cv_fits hF.hs
      have := hF.hR; have := hF.hT; have := hF.hS; have := hF.hD
      have hl : (S.map cvSnap).length ≤ 1000000000 := by rw [List.length_map]; omega
      refine ev_neg hs (ev_bind (toImage_ev R T S D hF) (ev_bind (spec_ImageOK_ev R T _ D (by omega) (by omega) hl (by omega) hc) (ev_bind (toImage_ev R T S D hF) (ev_bind (impl_ImageOK_ev R T _ D (by omega) hl hc) ?_))))
      exact ev_neg (by simp) (ev_bind (toImage_ev R T S D hF) (ev_bind (eqImage_ev R T S D hF) (ev_pos rfl (ev_some _))))

end Go.Proofs.Ytdbcojeblkiidaa.Q.FnExactImageOK
