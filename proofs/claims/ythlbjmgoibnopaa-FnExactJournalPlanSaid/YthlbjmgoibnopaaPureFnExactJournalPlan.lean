/- laws.FnExactJournalPlan answers true, for every input within the bounds that any input that came in has. -/
import Derived.Test.YthlbjmgoibnopaaStFnExactJournalPlan
namespace Go.Proofs.Ythlbjmgoibnopaa.Q.FnExactJournalPlan
open Go.RowKit Go.Proofs.Ythlbjmgoibnopaa.Ext Go.Proofs.Ythlbjmgoibnopaa.Q Go.Proofs.YthlbjmgoibnopaaW.PrintWords Go.Proofs.YthlbjmgoibnopaaW.PrintLast Go.Proofs.YthlbjmgoibnopaaW.PrintMore
set_option linter.unusedVariables false
set_option linter.unusedSimpArgs false
theorem pure : st := by
  intro h q l _ _ hl
  refine Ev.rounds ?_
  unfold laws_FnExactJournalPlan.f
  obtain ⟨s, h1, h2⟩ := szUpdateS_ev l (fun x hx => (hl.2 x hx).2) hl.1 1048576 (by omega) (by omega)
  refine ev_bind h1 ?_
  by_cases hs : s < 0
  · exact ev_pos hs (ev_some _)
  · refine ev_neg hs ?_
    rcases h2 with h2 | ⟨_, _, b1, b2⟩
    · exact absurd h2 hs
    · have hT := toUpdateS_ev l (by omega)
      have hl' : (l.map cvUpdate).length ≤ 1048576 := by rw [List.length_map]; omega
      generalize l.map cvUpdate = l' at hT hl'
      obtain ⟨⟨r1, r2⟩, hP, hI, hb⟩ := journal_ev h q l' hl'
      dsimp only at hb
      have hEU := eqUpdateS_ev l' (by omega)
      have hMU := markUpdateS_ev l' 1 (by omega) (by omega) (by omega)
      have hE := eqMoveS_ev r1 (by omega)
      have hM := markMoveS_ev r1 1 (by omega) (by omega) (by omega)
      have hH := heldMoveS_ev r1.length 1 (by omega) (by omega) (by omega)
      (repeat (first | exact ev_some _ | (refine ev_bind (by assumption) ?_; try dsimp only) | (refine ev_pos (by first | rfl | assumption | omega) ?_) | (refine ev_neg (by first | exact Bool.false_ne_true | assumption | omega) ?_)))
      simp only [bne_self_eq_false]
      refine Ev.succ ?_
      simp only [laws_FnExactJournalPlan.j0, Bool.false_eq_true, if_false]
      (repeat (first | exact ev_some _ | (refine ev_bind (by assumption) ?_; try dsimp only) | (refine ev_pos (by first | rfl | assumption | omega) ?_) | (refine ev_neg (by first | exact Bool.false_ne_true | assumption | omega) ?_)))
      simp only [bne_self_eq_false]
      refine Ev.succ ?_
      simp only [laws_FnExactJournalPlan.j1, Bool.false_eq_true, if_false]
      (repeat (first | exact ev_some _ | (refine ev_bind (by assumption) ?_; try dsimp only) | (refine ev_pos (by first | rfl | assumption | omega) ?_) | (refine ev_neg (by first | exact Bool.false_ne_true | assumption | omega) ?_)))
      simp only [bne_self_eq_false]
      refine Ev.succ ?_
      simp only [laws_FnExactJournalPlan.j2, Bool.false_eq_true, if_false]
      (repeat (first | exact ev_some _ | (refine ev_bind (by assumption) ?_; try dsimp only) | (refine ev_pos (by first | rfl | assumption | omega) ?_) | (refine ev_neg (by first | exact Bool.false_ne_true | assumption | omega) ?_)))

end Go.Proofs.Ythlbjmgoibnopaa.Q.FnExactJournalPlan
