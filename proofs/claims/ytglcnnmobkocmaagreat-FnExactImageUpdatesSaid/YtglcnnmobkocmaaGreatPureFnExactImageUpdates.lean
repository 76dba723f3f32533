/- laws.FnExactImageUpdates answers true, for every input within the bounds that any input that came in has. -/
import Derived.Test.YtglcnnmobkocmaaGreatStFnExactImageUpdates
namespace Go.Proofs.YtglcnnmobkocmaaGreat.Q.FnExactImageUpdates
open Go.RowKit Go.Proofs.YtglcnnmobkocmaaGreat.Ext Go.Proofs.YtglcnnmobkocmaaGreat.Q Go.Proofs.YtglcnnmobkocmaaGreatW.PrintWords Go.Proofs.YtglcnnmobkocmaaGreatW.PrintLast Go.Proofs.YtglcnnmobkocmaaGreatW.PrintMore
set_option linter.unusedVariables false
set_option linter.unusedSimpArgs false
def res (R T : List Int) (S : List S103) (D : List Int) : List S77 × Int := if imgOK R T S D = true then (upd R T S D, 0) else ([], 1)
theorem img_facts {R T : List Int} {S : List S103} {D : List Int} (h : imgOK R T S D = true) : refsOK R = true ∧ S.length ≤ 3 ∧ D.length = 24 := by
  unfold imgOK near at h
  simp only [Bool.and_eq_true, decide_eq_true_eq, beq_iff_eq] at h
  exact ⟨h.1.1, by omega, by omega⟩
theorem res_len (R T : List Int) (S : List S103) (D : List Int) : (res R T S D).1.length ≤ 30 := by
  unfold res
  cases h : imgOK R T S D
  · show ([] : List S77).length ≤ 30; simp
  · obtain ⟨_, n2, _⟩ := img_facts h
    have := upd_len R T S D
    show (upd R T S D).length ≤ 30
    omega
theorem spec_ev (R T : List Int) (S : List S103) (D : List Int) (hR : R.length ≤ 1000000000) (hT : T.length ≤ 1048576) (hS : S.length ≤ 1000000000) (hD : D.length ≤ 1000000000) (hs : ∀ x ∈ S, x.f0.size ≤ 1000000000 ∧ x.f1.length ≤ 1000000000) :
    Ev (fun k => spec_ImageUpdates.f k R T S D) (res R T S D) := by
  unfold spec_ImageUpdates.f res
  refine ev_bind (spec_ImageOK_ev R T S D hR (by omega) hS hD hs) ?_
  cases h : imgOK R T S D
  · exact ev_neg (by decide) (ev_some _)
  · obtain ⟨n1, n2, n3⟩ := img_facts h
    exact ev_pos rfl (ev_bind (spec_all_ev R T S D n1 hT (by omega) n3 hs) (ev_some _))
theorem impl_ev (R T : List Int) (S : List S103) (D : List Int) (hT : T.length ≤ 1048576) (hS : S.length ≤ 1000000000) (hs : ∀ x ∈ S, x.f0.size ≤ 1000000000 ∧ x.f1.length ≤ 1000000000) :
    Ev (fun k => impl_ImageUpdates.f k R T S D) (res R T S D) := by
  unfold impl_ImageUpdates.f res
  refine ev_bind (impl_ImageOK_ev R T S D (by omega) hS hs) ?_
  cases h : imgOK R T S D
  · exact ev_neg (by decide) (ev_some _)
  · obtain ⟨n1, n2, n3⟩ := img_facts h
    exact ev_pos rfl (ev_bind (impl_updates_ev R T S D n1 hT (by omega) n3 hs) (ev_some _))
theorem pure : st := by
  intro R T S D hR hT hS hD
  refine Ev.rounds ?_
  unfold laws_FnExactImageUpdates.f
  obtain ⟨s, h1, h2⟩ := szImage_ev R T S D hR.1 hT.1 hS.1 hD.1 (fun x hx => ⟨(hS.2 x hx).1, (hS.2 x hx).2.1⟩)
  refine ev_bind h1 ?_
  by_cases hs : s < 0
  · exact ev_pos hs (ev_some _)
  · rcases h2 with h2 | ⟨_, hF⟩
    · exact absurd h2 hs
    · have hc := cv_fits hF.hs
      have := hF.hR; have := hF.hT; have := hF.hS; have := hF.hD
      have hl : (S.map cvSnap).length ≤ 1048576 := by rw [List.length_map]; omega
      have hT1 := toImage_ev R T S D hF
      have hE := eqImage_ev R T S D hF
      have hm1 : ∀ x ∈ S.map cvSnap, x.f1.length ≤ 1048576 := by
        intro x hx
        obtain ⟨y, hy, rfl⟩ := List.mem_map.1 hx
        exact (hF.hs y hy).2
      obtain ⟨mk, hM, hM0⟩ := markImage_ev R T (S.map cvSnap) D hF.hR hF.hT hl hF.hD hm1
      have hP := spec_ev R T (S.map cvSnap) D (by omega) (by omega) (by omega) (by omega) hc
      have hI := impl_ev R T (S.map cvSnap) D (by omega) (by omega) hc
      have hr := res_len R T (S.map cvSnap) D
      generalize res R T (S.map cvSnap) D = r at hP hI hr
      generalize S.map cvSnap = S' at hT1 hE hM hP hI
      have hQ := eqUpdateS_ev r.1 (by omega)
      have hK := markUpdateS_ev r.1 1 (by omega) (by omega) (by omega)
      have hH := heldUpdateS_ev r.1.length 1 (by omega) (by omega) (by omega)
      exact ev_neg hs (ev_bind hT1 (ev_bind hP (ev_bind hT1 (ev_bind hI (ev_bind hQ (ev_pos rfl (ev_pos rfl (ev_bind hT1 (ev_bind hE (ev_pos rfl (ev_bind hM (ev_neg (by omega) (ev_bind hQ (ev_pos rfl (ev_bind hK (ev_bind hH (ev_neg (by omega) (ev_pos rfl (ev_bind hT1 (ev_bind hI (ev_bind hQ (ev_pos rfl (ev_pos rfl (ev_bind hH (ev_neg (by omega) (ev_pos rfl (ev_some _)))))))))))))))))))))))))))

end Go.Proofs.YtglcnnmobkocmaaGreat.Q.FnExactImageUpdates
