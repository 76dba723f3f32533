/- laws.FnExactFlush answers true, for every input within the bounds that any input that came in has. -/
import Derived.Test.YtadelojhfepkeaaStFnExactFlush
namespace Go.Proofs.Ytadelojhfepkeaa.Q.FnExactFlush
open Go.RowKit Go.Proofs.Ytadelojhfepkeaa.Ext Go.Proofs.Ytadelojhfepkeaa.Q Go.Proofs.YtadelojhfepkeaaW.PrintWords Go.Proofs.YtadelojhfepkeaaW.PrintLast Go.Proofs.YtadelojhfepkeaaW.PrintMore
set_option linter.unusedVariables false
set_option linter.unusedSimpArgs false
theorem both (d : List ByteArray) (l : List S76) (a : Int) (hd : d.length ≤ 1048576) (hl : l.length ≤ 1048576) : ∃ r : List ByteArray × List S76 × Int, r.1.length ≤ 1048576 ∧ r.2.1.length ≤ 1048576 ∧ Ev (fun k => spec_Flush.f k d l a) r ∧ Ev (fun _ => impl_Flush.f d l a) r := by
  have hA := ask_ev d l a (by omega) (by omega)
  have hC := codes_eq d l a
  cases hk : diskOK d l
  · rw [hk] at hA hC
    refine ⟨([], [], 1), by simp, by simp, ?_, ?_⟩
    · unfold spec_Flush.f
      exact ev_bind hA (ev_neg (by simp) (ev_some _))
    · unfold impl_Flush.f
      rw [hC]; exact ev_some _
  · rw [hk] at hA hC
    cases hi : inB a 0 3
    · rw [hi] at hA hC
      refine ⟨([], [], 4), by simp, by simp, ?_, ?_⟩
      · unfold spec_Flush.f
        exact ev_bind hA (ev_neg (by simp) (ev_some _))
      · unfold impl_Flush.f
        rw [hC]; exact ev_some _
    · rw [hi] at hA hC
      obtain ⟨q, q1, q2, q3, q4⟩ := settled hk a 200 false
      refine ⟨(q.1, q.2, 0), by show q.1.length ≤ _; omega, by show q.2.length ≤ _; omega, ?_, ?_⟩
      · unfold spec_Flush.f
        refine ev_bind hA (ev_pos (by simp) ?_)
        unfold spec_l01Flush.f
        exact ev_bind (ev_bind q4 (ev_some _)) (ev_some _)
      · unfold impl_Flush.f
        rw [hC, Option.bind_some]
        refine ev_pos (by simp) ?_
        rw [q3]; exact ev_some _
theorem pure : st := by
  intro d l a hd hl _
  refine Ev.rounds ?_
  unfold laws_FnExactFlush.f
  obtain ⟨s, h1, h2⟩ := szDisk_ev d l hd.1 (fun x hx => hd.2 x hx) hl.1 (fun x hx => (hl.2 x hx).2.2)
  refine ev_bind h1 ?_
  by_cases hs : s < 0
  · exact ev_pos hs (ev_some _)
  · refine ev_neg hs ?_
    rcases h2 with h2 | ⟨b1, b2, b3, b4⟩
    · exact absurd h2 hs
    · have hT := toDisk_ev d l b1 b2
      have hl' : (l.map cvIo).length ≤ 1048576 := by simpa using b2
      generalize l.map cvIo = l' at hT hl'
      obtain ⟨⟨r1, r2, r3⟩, hb1, hb2, hP, hI⟩ := both d l' a (by omega) (by omega)
      have hE := eqDisk_ev r1 r2 (by simp at hb1; omega) (by simp at hb2; omega)
      have hD := eqDisk_ev d l' (by omega) (by omega)
      obtain ⟨m, e1, e2, hm, hM, hH⟩ := markDisk_ev r1 r2 (by simp at hb1; omega) (by simp at hb2; omega)
      obtain ⟨m', e1', e2', hm', hM', _⟩ := markDisk_ev d l' (by omega) (by omega)
      refine ev_bind hT (ev_bind hP (ev_bind hT (ev_bind hI (ev_bind hE (ev_pos rfl (Ev.succ ?_))))))
      simp only [laws_FnExactFlush.j0]
      refine ev_neg (by simp) (ev_bind hT (ev_bind hD (ev_pos rfl (ev_bind hM' (ev_neg (by simp; omega) (ev_bind hE (ev_pos rfl (Ev.succ ?_))))))))
      simp only [laws_FnExactFlush.j1]
      refine ev_neg (by simp) (ev_bind hM (ev_bind hH (ev_neg (by omega) (ev_pos rfl (ev_bind hT (ev_bind hI (ev_bind hE (ev_pos rfl (Ev.succ ?_)))))))))
      simp only [laws_FnExactFlush.j2]
      exact ev_neg (by simp) (ev_bind hH (ev_neg (by omega) (ev_pos rfl (ev_some _))))

end Go.Proofs.Ytadelojhfepkeaa.Q.FnExactFlush
