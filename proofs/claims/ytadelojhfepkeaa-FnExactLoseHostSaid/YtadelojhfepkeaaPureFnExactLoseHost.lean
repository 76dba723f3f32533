/- laws.FnExactLoseHost answers true, for every input within the bounds that any input that came in has. -/
import Derived.Test.YtadelojhfepkeaaStFnExactLoseHost
namespace Go.Proofs.Ytadelojhfepkeaa.Q.FnExactLoseHost
open Go.RowKit Go.Proofs.Ytadelojhfepkeaa.Ext Go.Proofs.Ytadelojhfepkeaa.Q Go.Proofs.YtadelojhfepkeaaW.PrintWords Go.Proofs.YtadelojhfepkeaaW.PrintLast Go.Proofs.YtadelojhfepkeaaW.PrintMore
set_option linter.unusedVariables false
set_option linter.unusedSimpArgs false
theorem both (d : List ByteArray) (l : List S76) (a b : Int) (hd : d.length ≤ 1048576) (hl : l.length ≤ 1048576) : ∃ r : List ByteArray × List S76 × Int, r.1.length ≤ 1048576 ∧ r.2.1.length ≤ 1048576 ∧ Ev (fun k => spec_LoseHost.f k d l a b) r ∧ Ev (fun _ => impl_LoseHost.f d l a b) r := by
  have hA := ask_ev d l a (by omega) (by omega)
  unfold spec_LoseHost.f impl_LoseHost.f
  simp only [impl_DiskOK_eq, impl_isHost.f, within_eq, l01In_eq, Option.bind_some]
  cases hk : diskOK d l
  · rw [hk] at hA
    refine ⟨([], [], 1), by simp, by simp, ev_bind hA (ev_neg (by simp) (ev_some _)), ?_⟩
    simp [impl_first.f, firstO]; exact ev_some _
  · rw [hk] at hA
    cases hi : inB a 0 3
    · rw [hi] at hA
      refine ⟨([], [], 4), by simp, by simp, ev_bind hA (ev_neg (by simp) (ev_some _)), ?_⟩
      simp [impl_first.f, firstO]; exact ev_some _
    · rw [hi] at hA
      cases hj : inB b 0 200
      · refine ⟨([], [], 4), by simp, by simp, ev_bind hA (ev_pos (by simp) (ev_neg (by decide) (ev_some _))), ?_⟩
        simp [impl_first.f, firstO]; exact ev_some _
      · obtain ⟨q, q1, q2, q3, q4⟩ := settled hk a b true
        refine ⟨(q.1, q.2, 0), by show q.1.length ≤ _; omega, by show q.2.length ≤ _; omega, ev_bind hA (ev_pos (by simp) (ev_pos rfl (ev_bind q4 (ev_some _)))), ?_⟩
        simp [impl_first.f, firstO, q3]; exact ev_some _
theorem pure : st := by
  intro d l a b hd hl _ _
  refine Ev.rounds ?_
  unfold laws_FnExactLoseHost.f
  obtain ⟨s, h1, h2⟩ := szDisk_ev d l hd.1 (fun x hx => hd.2 x hx) hl.1 (fun x hx => (hl.2 x hx).2.2)
  refine ev_bind h1 ?_
  by_cases hs : s < 0
  · exact ev_pos hs (ev_some _)
  · refine ev_neg hs ?_
    rcases h2 with h2 | ⟨b1, b2, b3, b4⟩
    · exact absurd h2 hs
    · have hT := toDisk_ev d l b1 b2
      have hl' : (l.map cvIo).length ≤ 1048576 := by simpa using b2
      generalize l.map cvIo = l' at hT hl'
      obtain ⟨⟨r1, r2, r3⟩, hb1, hb2, hP, hI⟩ := both d l' a b (by omega) (by omega)
      have hE := eqDisk_ev r1 r2 (by simp at hb1; omega) (by simp at hb2; omega)
      have hD := eqDisk_ev d l' (by omega) (by omega)
      obtain ⟨m, e1, e2, hm, hM, hH⟩ := markDisk_ev r1 r2 (by simp at hb1; omega) (by simp at hb2; omega)
      obtain ⟨m', e1', e2', hm', hM', _⟩ := markDisk_ev d l' (by omega) (by omega)
      refine ev_bind hT (ev_bind hP (ev_bind hT (ev_bind hI (ev_bind hE (ev_pos rfl (Ev.succ ?_))))))
      simp only [laws_FnExactLoseHost.j0]
      refine ev_neg (by simp) (ev_bind hT (ev_bind hD (ev_pos rfl (ev_bind hM' (ev_neg (by simp; omega) (ev_bind hE (ev_pos rfl (Ev.succ ?_))))))))
      simp only [laws_FnExactLoseHost.j1]
      refine ev_neg (by simp) (ev_bind hM (ev_bind hH (ev_neg (by omega) (ev_pos rfl (ev_bind hT (ev_bind hI (ev_bind hE (ev_pos rfl (Ev.succ ?_)))))))))
      simp only [laws_FnExactLoseHost.j2]
      exact ev_neg (by simp) (ev_bind hH (ev_neg (by omega) (ev_pos rfl (ev_some _))))

end Go.Proofs.Ytadelojhfepkeaa.Q.FnExactLoseHost
