/- laws.FnExactReplyText answers true, for every input within the bounds that any input that came in has. -/
import Derived.Test.YtniceoohmhjjlaaDoorStFnExactReplyText
namespace Go.Proofs.YtniceoohmhjjlaaDoor.Q.FnExactReplyText
open Go.RowKit Go.Proofs.YtniceoohmhjjlaaDoor.Ext Go.Proofs.YtniceoohmhjjlaaDoor.Q Go.Proofs.YtniceoohmhjjlaaDoorW.PrintWords Go.Proofs.YtniceoohmhjjlaaDoorW.PrintLast Go.Proofs.YtniceoohmhjjlaaDoorW.PrintMore
set_option linter.unusedVariables false
set_option linter.unusedSimpArgs false
theorem cvS (d : List ByteArray) : d.map cvString = d := by induction d with
  | nil => rfl
  | cons x xs ih => rw [List.map_cons, ih]; rfl
theorem pure : st := by
  intro a b c s d v l _ _ _ hs _ _ hl
  have hM : maxLen = 9223372036854775807 := rfl
  refine Ev.rounds ?_
  unfold laws_FnExactReplyText.f laws_toReq.f laws_szReq.f
  rw [w64 (n := 1048576 - (s.size : Int)) (by omega) (by omega)]
  by_cases h : 1048576 - (s.size : Int) < 0
  · simp only [if_pos h, Option.bind_some]
    exact ev_pos (by decide) (ev_some _)
  · simp only [if_neg h, Option.bind_some]
    obtain ⟨z, h1, h2⟩ := szStringS_ev l (fun x hx => hl.2 x hx) hl.1 (1048576 - (s.size : Int)) (by omega) (by omega)
    rcases h2 with h2 | ⟨h2, h3, h4, h5⟩
    · refine ev_bind (a := -1) ?_ (ev_pos (by decide) (ev_some _))
      unfold laws_szReply.f
      exact ev_bind h1 (ev_pos h2 (ev_some _))
    · refine ev_bind (a := z) ?_ (ev_neg (by omega) ?_)
      · unfold laws_szReply.f
        exact ev_bind h1 (ev_neg (by omega) (ev_some _))
      · have hT : Ev (fun k => laws_toReply.f k d v l) (d, v, l) := by
          unfold laws_toReply.f
          have := toStringS_ev l (by omega)
          rw [cvS] at this
          exact ev_bind this (ev_some _)
        have hP := spec_rep a b c s d v l (fun x hx => by have := h5 x hx; omega) (by omega)
        have hI := impl_rep a b c s d v l (fun x hx => by have := h5 x hx; omega) (by omega)
        generalize rep a b c s d v l = r at hP hI
        refine ev_bind hT (ev_bind hP (ev_bind hT (ev_bind hI (ev_pos rfl (ev_pos rfl (ev_bind hT (ev_bind (a := true) ?_ (ev_pos rfl (ev_some _)))))))))
        unfold laws_eqReply.f
        exact ev_pos rfl (ev_pos rfl (ev_bind (eqStringS_ev l (by omega)) (ev_pos rfl (ev_some _))))

end Go.Proofs.YtniceoohmhjjlaaDoor.Q.FnExactReplyText
