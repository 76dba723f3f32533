/- laws.FnExactReadLeader answers true, for every input within the bounds that any input that came in has. -/
import Derived.Test.YtadelojhfepkeaaStFnExactReadLeader
namespace Go.Proofs.Ytadelojhfepkeaa.Q.FnExactReadLeader
open Go.RowKit Go.Proofs.Ytadelojhfepkeaa.Ext Go.Proofs.Ytadelojhfepkeaa.Q Go.Proofs.YtadelojhfepkeaaW.PrintWords Go.Proofs.YtadelojhfepkeaaW.PrintLast Go.Proofs.YtadelojhfepkeaaW.PrintMore
set_option linter.unusedVariables false
set_option linter.unusedSimpArgs false
theorem both (d : List ByteArray) (l : List S76) (a : Int) (hd : d.length ≤ 1048576) (hl : l.length ≤ 1048576) : ∃ r : Int × Int × Int × Int, Ev (fun k => spec_ReadLeader.f k d l a) r ∧ Ev (fun k => impl_ReadLeader.f k d l a) r := by
  have hA := ask_ev d l a (by omega) (by omega)
  have hC := codes_eq d l a
  unfold spec_ReadLeader.f impl_ReadLeader.f
  simp only [hC, Option.bind_some]
  cases hk : diskOK d l
  · rw [hk] at hA
    exact ⟨(0, 0, 0, 1), ev_bind hA (ev_neg (by simp) (ev_some _)), ev_neg (by simp) (ev_some _)⟩
  · rw [hk] at hA
    cases hi : inB a 0 3
    · rw [hi] at hA
      exact ⟨(0, 0, 0, 4), ev_bind hA (ev_neg (by simp) (ev_some _)), ev_neg (by simp) (ev_some _)⟩
    · rw [hi] at hA
      exact ⟨_, ev_bind hA (ev_pos (by simp) (ev_bind (spec_lead_ev hk a) (ev_some _))), ev_pos (by simp) (ev_bind (impl_lead_ev hk a) (ev_some _))⟩
theorem pure : st := by
  intro d l a hd hl _
  refine Ev.rounds ?_
  unfold laws_FnExactReadLeader.f
  obtain ⟨s, h1, h2⟩ := szDisk_ev d l hd.1 (fun x hx => hd.2 x hx) hl.1 (fun x hx => (hl.2 x hx).2.2)
  refine ev_bind h1 ?_
  by_cases hs : s < 0
  · exact ev_pos hs (ev_some _)
  · refine ev_neg hs ?_
    rcases h2 with h2 | ⟨b1, b2, b3, b4⟩
    · exact absurd h2 hs
    · have hT := toDisk_ev d l b1 b2
      have hl' : (l.map cvIo).length ≤ 1048576 := by simpa using b2
      generalize l.map cvIo = l' at hT hl'
      obtain ⟨⟨r1, r2, r3, r4⟩, hP, hI⟩ := both d l' a (by omega) (by omega)
      have hD := eqDisk_ev d l' (by omega) (by omega)
      have hE : Ev (fun _ => laws_eqLeader.f r1 r2 r3 r1 r2 r3) true := by
        simp only [laws_eqLeader.f, if_true]; exact ev_some _
      refine ev_bind hT (ev_bind hP (ev_bind hT (ev_bind hI (ev_bind hE (ev_pos rfl (Ev.succ ?_))))))
      simp only [laws_FnExactReadLeader.j0]
      exact ev_neg (by simp) (ev_bind hT (ev_bind hD (ev_pos rfl (ev_some _))))

end Go.Proofs.Ytadelojhfepkeaa.Q.FnExactReadLeader
