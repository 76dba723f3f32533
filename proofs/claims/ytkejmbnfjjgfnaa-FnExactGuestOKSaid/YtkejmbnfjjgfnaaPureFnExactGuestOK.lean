/- laws.FnExactGuestOK answers true, for every input within the bounds that any input that came in has. -/
import Derived.Test.YtkejmbnfjjgfnaaStFnExactGuestOK
namespace Go.Proofs.Ytkejmbnfjjgfnaa.Q.FnExactGuestOK
open Go.RowKit Go.Proofs.Ytkejmbnfjjgfnaa.Ext Go.Proofs.Ytkejmbnfjjgfnaa.Q Go.Proofs.YtkejmbnfjjgfnaaW.PrintWords Go.Proofs.YtkejmbnfjjgfnaaW.PrintLast Go.Proofs.YtkejmbnfjjgfnaaW.PrintMore
set_option linter.unusedVariables false
set_option linter.unusedSimpArgs false
theorem pure : st := by
  intro v l hv hl
  refine Ev.rounds ?_
  unfold laws_FnExactGuestOK.f laws_szGuest.f
  have hM : maxLen = 9223372036854775807 := rfl
  have hz := szIntS_eq v hv.1 1048576 (by omega) (by omega)
  simp only [hz, Option.bind_some]
  by_cases c : (1048576 : Int) - (v.length : Int) < 0
  · rw [if_pos c]; exact ev_bind (ev_pos (by omega) (ev_some _)) (ev_pos (by omega) (ev_some _))
  · rw [if_neg c]
    obtain ⟨s, h1, h2⟩ := szShotS_ev l (fun x hx => ⟨(hl.2 x hx).1, (hl.2 x hx).2.1⟩) hl.1 (1048576 - (v.length : Int)) (by omega) (by omega)
    by_cases hs : s < 0
    · exact ev_bind (ev_neg c (ev_bind h1 (ev_pos hs (ev_some _)))) (ev_pos (by omega) (ev_some _))
    · rcases h2 with h2 | ⟨_, _, b1, b2⟩
      · exact absurd h2 hs
      · refine ev_bind (ev_neg c (ev_bind h1 (ev_neg hs (ev_some _)))) (ev_neg hs ?_)
        have hT : Ev (fun k => laws_toGuest.f k v l) (v, l.map cvShot) := by
          unfold laws_toGuest.f
          exact ev_bind (toIntS_ev v (by omega)) (ev_bind (toShotS_ev l (by omega) (fun x hx => by have := b2 x hx; omega)) (ev_some _))
        have hb : ∀ x ∈ l.map cvShot, x.f0.size ≤ 1000000000 ∧ x.f1.length ≤ 1000000000 := by
          intro x hx
          obtain ⟨y, hy, rfl⟩ := List.mem_map.1 hx
          have := b2 y hy
          show y.f0.size ≤ _ ∧ y.f1.length ≤ _
          omega
        have hl' : (l.map cvShot).length ≤ 1048576 := by rw [List.length_map]; omega
        generalize l.map cvShot = l' at hT hb hl'
        have hP := spec_gok_ev v l' (by omega) (by omega) hb
        have hI := impl_gok_ev v l' (by omega) (fun x hx => (hb x hx).1)
        generalize (valsOK v && (decide ((l'.length : Int) ≤ 3) && (List.range l'.length).all (okAt l'))) = b at hP hI
        have hE : Ev (fun k => laws_eqGuest.f k v l' v l') true := by
          unfold laws_eqGuest.f
          exact ev_bind (eqIntS_ev v (by omega)) (ev_pos rfl (ev_bind (eqShotS_ev l' (by omega) (fun x hx => (hb x hx).2)) (ev_pos rfl (ev_some _))))
        refine ev_bind hT (ev_bind hP (ev_bind hT (ev_bind hI (ev_neg (by simp) (ev_bind hT (ev_bind hE (ev_pos rfl (ev_some _))))))))

end Go.Proofs.Ytkejmbnfjjgfnaa.Q.FnExactGuestOK
