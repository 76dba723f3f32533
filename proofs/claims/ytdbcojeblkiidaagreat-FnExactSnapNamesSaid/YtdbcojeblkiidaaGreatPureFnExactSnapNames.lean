/- laws.FnExactSnapNames answers true, for every input within the bounds that any input that came in has. -/
import Derived.Test.YtdbcojeblkiidaaGreatStFnExactSnapNames
namespace Go.Proofs.YtdbcojeblkiidaaGreat.Q.FnExactSnapNames
open Go.RowKit Go.Proofs.YtdbcojeblkiidaaGreat.Ext Go.Proofs.YtdbcojeblkiidaaGreat.Q Go.Proofs.YtdbcojeblkiidaaGreatW.PrintWords Go.Proofs.YtdbcojeblkiidaaGreatW.PrintLast Go.Proofs.YtdbcojeblkiidaaGreatW.PrintMore
set_option linter.unusedVariables false
set_option linter.unusedSimpArgs false
def res (R T : List Int) (S : List S108) (D : List Int) : List ByteArray × Int := if imgOK R T S D = true then (S.map (·.f0), 0) else ([], 1)
theorem res_len (R T : List Int) (S : List S108) (D : List Int) : (res R T S D).1.length ≤ 24 := by
  unfold res
  cases h : imgOK R T S D
  · show ([] : List ByteArray).length ≤ 24; simp
  · unfold imgOK at h
    rw [Bool.and_eq_true] at h
    obtain ⟨_, n2, _, _⟩ := near_tabs h.1
    show (S.map (·.f0)).length ≤ 24
    rw [List.length_map]; omega
theorem spec_names_ev (R T : List Int) (S : List S108) (D : List Int) (hl : S.length ≤ 1000000000) : Ev (fun k => spec_l10Names.f k R T S D) (S.map (·.f0)) := by
  unfold spec_l10Names.f
  have h := ev_loop (g := fun k i => spec_l10Names.l0 k ((S.map (·.f0)).take i) (i : Int) R T S D) (r := S.map (·.f0)) S.length ?_ ?_ S.length 0 (by omega) (by omega)
  · simpa using h
  · refine Ev.step (f := fun _ => some (S.map (·.f0))) (fun k => ?_) (ev_some _)
    simp only [spec_l10Names.l0]
    rw [if_neg (by omega), List.take_of_length_le (by simp)]
  · intro i hi
    refine ⟨1, fun k => ⟨?_, by omega⟩⟩
    simp only [spec_l10Names.l0]
    rw [if_pos (by omega), if_pos (by omega), if_pos (by simp; omega), rdE_Snap S i hi, wnext i (by omega), List.take_succ_eq_append_getElem (by simpa using hi), List.getElem_map]
theorem spec_ev (R T : List Int) (S : List S108) (D : List Int) (hR : R.length ≤ 1000000000) (hT : T.length ≤ 1000000000) (hS : S.length ≤ 1000000000) (hD : D.length ≤ 1000000000) (hs : ∀ x ∈ S, x.f0.size ≤ 1000000000 ∧ x.f1.length ≤ 1000000000) :
    Ev (fun k => spec_SnapNames.f k R T S D) (res R T S D) := by
  unfold spec_SnapNames.f res
  refine ev_bind (spec_ImageOK_ev R T S D hR hT hS hD hs) ?_
  cases imgOK R T S D
  · exact ev_neg (by decide) (ev_some _)
  · exact ev_pos rfl (ev_bind (spec_names_ev R T S D hS) (ev_some _))
theorem impl_ev (R T : List Int) (S : List S108) (D : List Int) (hT : T.length ≤ 1000000000) (hS : S.length ≤ 1000000000) (hs : ∀ x ∈ S, x.f0.size ≤ 1000000000 ∧ x.f1.length ≤ 1000000000) :
    Ev (fun k => impl_SnapNames.f k R T S D) (res R T S D) := by
  unfold impl_SnapNames.f res
  refine ev_bind (impl_ImageOK_ev R T S D hT hS hs) ?_
  cases imgOK R T S D
  · exact ev_neg (by decide) (ev_some _)
  · exact ev_pos rfl (ev_bind (impl_names_ev R T S D hS) (ev_some _))
theorem pure : st := by
  intro R T S D hR hT hS hD
  refine Ev.rounds ?_
  unfold laws_FnExactSnapNames.f
  obtain ⟨s, h1, h2⟩ := szImage_ev R T S D hR.1 hT.1 hS.1 hD.1 (fun x hx => ⟨(hS.2 x hx).1, (hS.2 x hx).2.1⟩)
  refine ev_bind h1 ?_
  by_cases hs : s < 0
  · exact ev_pos hs (ev_some _)
  · rcases h2 with h2 | ⟨_, hF⟩
    · exact absurd h2 hs
    · have hc := cv_fits hF.hs
      have := hF.hR; have := hF.hT; have := hF.hS; have := hF.hD
      have hl : (S.map cvSnap).length ≤ 1048576 := by rw [List.length_map]; omega
      have hT1 := toImage_ev R T S D hF
      have hE := eqImage_ev R T S D hF
      have hm1 : ∀ x ∈ S.map cvSnap, x.f1.length ≤ 1048576 := by
        intro x hx
        obtain ⟨y, hy, rfl⟩ := List.mem_map.1 hx
        exact (hF.hs y hy).2
      obtain ⟨mk, hM, hM0⟩ := markImage_ev R T (S.map cvSnap) D hF.hR hF.hT hl hF.hD hm1
      have hP := spec_ev R T (S.map cvSnap) D (by omega) (by omega) (by omega) (by omega) hc
      have hI := impl_ev R T (S.map cvSnap) D (by omega) (by omega) hc
      have hr := res_len R T (S.map cvSnap) D
      generalize res R T (S.map cvSnap) D = r at hP hI hr
      generalize S.map cvSnap = S' at hT1 hE hM hP hI
      have hQ := eqStringS_ev r.1 (by omega)
      have hK := markStringS_ev r.1 1 (by omega) (by omega) (by omega)
      have hH := heldStringS_ev r.1.length 1 (by omega) (by omega) (by omega)
      refine ev_neg hs (ev_bind hT1 (ev_bind hP (ev_bind hT1 (ev_bind hI (ev_bind hQ (ev_pos rfl (Ev.succ ?_)))))))
      simp only [laws_FnExactSnapNames.j0]
      refine ev_neg (by simp) (ev_bind hT1 (ev_bind hE (ev_pos rfl (ev_bind hM (ev_neg (by omega) (ev_bind hQ (ev_pos rfl (Ev.succ ?_))))))))
      simp only [laws_FnExactSnapNames.j1]
      refine ev_neg (by simp) (ev_bind hK (ev_bind hH (ev_neg (by omega) (ev_pos rfl (ev_bind hT1 (ev_bind hI (ev_bind hQ (ev_pos rfl (Ev.succ ?_)))))))))
      simp only [laws_FnExactSnapNames.j2]
      exact ev_neg (by simp) (ev_bind hH (ev_neg (by omega) (ev_pos rfl (ev_some _))))

end Go.Proofs.YtdbcojeblkiidaaGreat.Q.FnExactSnapNames
