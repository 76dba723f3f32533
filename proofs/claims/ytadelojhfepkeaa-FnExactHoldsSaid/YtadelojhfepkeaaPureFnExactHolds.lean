/- laws.FnExactHolds answers true, for every input within the bounds that any input that came in has. -/
import Derived.Test.YtadelojhfepkeaaStFnExactHolds
namespace Go.Proofs.Ytadelojhfepkeaa.Q.FnExactHolds
open Go.RowKit Go.Proofs.Ytadelojhfepkeaa.Ext Go.Proofs.Ytadelojhfepkeaa.Q Go.Proofs.YtadelojhfepkeaaW.PrintWords Go.Proofs.YtadelojhfepkeaaW.PrintLast Go.Proofs.YtadelojhfepkeaaW.PrintMore
set_option linter.unusedVariables false
set_option linter.unusedSimpArgs false
theorem both (d : List ByteArray) (l : List S76) (a b : Int) (hd : d.length ≤ 1048576) (hl : l.length ≤ 1048576) : ∃ r : Bool × Int, Ev (fun k => spec_Holds.f k d l a b) r ∧ Ev (fun k => impl_Holds.f k d l a b) r := by
  have hA := ask_ev d l a (by omega) (by omega)
  have hC := codes_eq d l a
  have hh : ∀ x : Int × Int × Int, Ev (fun _ : Nat => if x.2.1 = a then (if x.2.2 = b then some (decide (b > 0), (0 : Int)) else some (false, 0)) else some (false, 0)) (if x.2.1 = a then (if x.2.2 = b then (decide (b > 0), 0) else (false, 0)) else (false, 0)) := by
    intro x
    by_cases c1 : x.2.1 = a
    · by_cases c2 : x.2.2 = b
      · simp only [if_pos c1, if_pos c2]; exact ev_some _
      · simp only [if_pos c1, if_neg c2]; exact ev_some _
    · simp only [if_neg c1]; exact ev_some _
  unfold spec_Holds.f impl_Holds.f
  simp only [hC, Option.bind_some]
  cases hk : diskOK d l
  · rw [hk] at hA
    exact ⟨(false, 1), ev_bind hA (ev_neg (by simp) (ev_some _)), ev_neg (by simp) (ev_some _)⟩
  · rw [hk] at hA
    cases hi : inB a 0 3
    · rw [hi] at hA
      exact ⟨(false, 4), ev_bind hA (ev_neg (by simp) (ev_some _)), ev_neg (by simp) (ev_some _)⟩
    · rw [hi] at hA
      refine ⟨if (lead (readP d l a 0)).2.1 = a then (if (lead (readP d l a 0)).2.2 = b then (decide (b > 0), 0) else (false, 0)) else (false, 0), ev_bind hA (ev_pos (by simp) (ev_bind (spec_lead_ev hk a) ?_)), ev_pos (by simp) (ev_bind (impl_lead_ev hk a) ?_)⟩
      · exact hh _
      · exact hh _
theorem pure : st := by
  intro d l a b hd hl _ _
  refine Ev.rounds ?_
  unfold laws_FnExactHolds.f
  obtain ⟨s, h1, h2⟩ := szDisk_ev d l hd.1 (fun x hx => hd.2 x hx) hl.1 (fun x hx => (hl.2 x hx).2.2)
  refine ev_bind h1 ?_
  by_cases hs : s < 0
  · exact ev_pos hs (ev_some _)
  · refine ev_neg hs ?_
    rcases h2 with h2 | ⟨b1, b2, b3, b4⟩
    · exact absurd h2 hs
    · have hT := toDisk_ev d l b1 b2
      have hl' : (l.map cvIo).length ≤ 1048576 := by simpa using b2
      generalize l.map cvIo = l' at hT hl'
      obtain ⟨⟨r1, r2⟩, hP, hI⟩ := both d l' a b (by omega) (by omega)
      have hD := eqDisk_ev d l' (by omega) (by omega)
      refine ev_bind hT (ev_bind hP (ev_bind hT (ev_bind hI (ev_neg (by simp) (Ev.succ ?_)))))
      simp only [laws_FnExactHolds.j0]
      exact ev_neg (by simp) (ev_bind hT (ev_bind hD (ev_pos rfl (ev_some _))))

end Go.Proofs.Ytadelojhfepkeaa.Q.FnExactHolds
