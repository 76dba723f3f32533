/- laws.FnExactGuestText answers true, for every input within the bounds that any input that came in has. -/
import Derived.Test.YtniceoohmhjjlaaDoorStFnExactGuestText
namespace Go.Proofs.YtniceoohmhjjlaaDoor.Q.FnExactGuestText
open Go.RowKit Go.Proofs.YtniceoohmhjjlaaDoor.Ext Go.Proofs.YtniceoohmhjjlaaDoor.Q Go.Proofs.YtniceoohmhjjlaaDoorW.PrintWords Go.Proofs.YtniceoohmhjjlaaDoorW.PrintLast Go.Proofs.YtniceoohmhjjlaaDoorW.PrintMore
set_option linter.unusedVariables false
set_option linter.unusedSimpArgs false
theorem pure : st := by
  intro v l hv hl
  refine Ev.rounds ?_
  unfold laws_FnExactGuestText.f laws_szGuest.f
  have hM : maxLen = 9223372036854775807 := rfl
  have hz := szIntS_eq v hv.1 1048576 (by omega) (by omega)
  simp only [hz, Option.bind_some]
  by_cases c : (1048576 : Int) - (v.length : Int) < 0
  · rw [if_pos c]; exact ev_bind (ev_pos (by omega) (ev_some _)) (ev_pos (by omega) (ev_some _))
  · rw [if_neg c]
    obtain ⟨s, h1, h2⟩ := szShotS_ev l (fun x hx => ⟨(hl.2 x hx).1, (hl.2 x hx).2.1⟩) hl.1 (1048576 - (v.length : Int)) (by omega) (by omega)
    by_cases hs : s < 0
    · exact ev_bind (ev_neg c (ev_bind h1 (ev_pos hs (ev_some _)))) (ev_pos (by omega) (ev_some _))
    · rcases h2 with h2 | ⟨_, _, b1, b2⟩
      · exact absurd h2 hs
      · refine ev_bind (ev_neg c (ev_bind h1 (ev_neg hs (ev_some _)))) (ev_neg hs ?_)
        have hT : Ev (fun k => laws_toGuest.f k v l) (v, l.map cvShot) := by
          unfold laws_toGuest.f
          exact ev_bind (toIntS_ev v (by omega)) (ev_bind (toShotS_ev l (by omega) (fun x hx => by have := b2 x hx; omega)) (ev_some _))
        have hb : ∀ x ∈ l.map cvShot, x.f0.size ≤ 1000000000 ∧ x.f1.length ≤ 1048576 := by
          intro x hx
          obtain ⟨y, hy, rfl⟩ := List.mem_map.1 hx
          have := b2 y hy
          show y.f0.size ≤ _ ∧ y.f1.length ≤ _
          omega
        have hl' : (l.map cvShot).length ≤ 1048576 := by rw [List.length_map]; omega
        generalize l.map cvShot = l' at hT hb hl'
        have hP := spec_gres_ev v l' (by omega) (by omega) (fun x hx => by have := hb x hx; omega)
        have hI := impl_gres_ev v l' (by omega) (fun x hx => (hb x hx).1)
        have hR := gres_size v l'
        generalize gres v l' = r at hP hI hR
        have hE : Ev (fun k => laws_eqGuest.f k v l' v l') true := by
          unfold laws_eqGuest.f
          exact ev_bind (eqIntS_ev v (by omega)) (ev_pos rfl (ev_bind (eqShotS_ev l' (by omega) (fun x hx => by have := hb x hx; omega)) (ev_pos rfl (ev_some _))))
        have hQ : Ev (fun k => laws_eqStringS.f k r.1 r.1) true := eqStringS_ev r.1 (by omega)
        have hmb := mkN_le l' (1 + (v.length : Int)) (fun x hx => (hb x hx).2)
        have hK : Ev (fun k => laws_markGuest.f k v l' 1) (mkN (1 + (v.length : Int)) l', countUp 1 v.length, mkS (1 + (v.length : Int)) l') := by
          unfold laws_markGuest.f
          exact ev_bind (markIntS_ev v 1 (by omega) (by omega)) (ev_bind (markShotS_ev l' _ (fun x hx => (hb x hx).2) (by omega) (by show (0 : Int) ≤ 1 + (v.length : Int); omega) (by show 1 + (v.length : Int) + _ ≤ _; omega)) (ev_some _))
        have hMS := markStringS_ev r.1 1 (by omega) (by omega) (by omega)
        have hHS := heldStringS_ev r.1.length 1 (by omega) (by omega) (by omega)
        refine ev_bind hT (ev_bind hP (ev_bind hT (ev_bind hI (ev_bind hQ (ev_pos rfl (ev_pos rfl (ev_bind hT (ev_bind hE (ev_pos rfl (ev_bind hK (ev_neg (by show ¬ mkN _ _ < 0; omega) (ev_bind hQ (ev_pos rfl (ev_bind hMS (ev_bind hHS (ev_neg (by omega) (ev_pos rfl (ev_bind hT (ev_bind hI (ev_bind hQ (ev_pos rfl (ev_pos rfl (ev_bind hHS (ev_neg (by omega) (ev_pos rfl (ev_some _))))))))))))))))))))))))))

end Go.Proofs.YtniceoohmhjjlaaDoor.Q.FnExactGuestText
