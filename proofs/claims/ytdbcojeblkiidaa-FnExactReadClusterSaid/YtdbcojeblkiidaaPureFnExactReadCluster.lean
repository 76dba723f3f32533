/- laws.FnExactReadCluster answers true, for every input within the bounds that any input that came in has. -/
import Derived.Test.YtdbcojeblkiidaaStFnExactReadCluster
namespace Go.Proofs.Ytdbcojeblkiidaa.Q.FnExactReadCluster
open Go.RowKit Go.Proofs.Ytdbcojeblkiidaa.Ext Go.Proofs.Ytdbcojeblkiidaa.Q Go.Proofs.YtdbcojeblkiidaaW.PrintWords Go.Proofs.YtdbcojeblkiidaaW.PrintLast Go.Proofs.YtdbcojeblkiidaaW.PrintMore
set_option linter.unusedVariables false
set_option linter.unusedSimpArgs false
def valAt (T D : List Int) (g : Int) : Int := if rd T g < 2 then 0 else rd D (rd T g - 2)
def read (R T : List Int) (S : List S45) (D : List Int) (g : Int) : Int × Int := if imgOK R T S D = true then (if inB g 0 ((T.length : Int) - 1) = true then (valAt T D g, 0) else (0, 4)) else (0, 1)
theorem entry {R T : List Int} {S : List S45} {D : List Int} {g : Int} (h : imgOK R T S D = true) (hg : inB g 0 ((T.length : Int) - 1) = true) : 0 ≤ rd T g ∧ rd T g ≤ 25 ∧ D.length = 24 := by
  unfold imgOK at h
  rw [Bool.and_eq_true] at h
  obtain ⟨_, _, h3, h4⟩ := near_tabs h.1
  have hT := h3 T (by simp [tabs])
  unfold tableOK at hT
  simp only [Bool.and_eq_true, List.all_eq_true] at hT
  have hb := inB_iff.1 hg
  have hi : g.toNat < T.length := by omega
  have e : rd T g = T[g.toNat] := by simp [rd, hi]
  have := inB_iff.1 (hT.2 _ (List.getElem_mem hi))
  rw [e]; exact ⟨this.1, this.2, h4⟩
theorem spec_ev (R T : List Int) (S : List S45) (D : List Int) (g : Int) (hR : R.length ≤ 1000000000) (hT : T.length ≤ 1000000000) (hS : S.length ≤ 1000000000) (hD : D.length ≤ 1000000000) (hs : ∀ x ∈ S, x.f0.size ≤ 1000000000 ∧ x.f1.length ≤ 1000000000) :
    Ev (fun k => spec_ReadCluster.f k R T S D g) (read R T S D g) := by
  unfold spec_ReadCluster.f read
  refine ev_bind (spec_ImageOK_ev R T S D hR hT hS hD hs) ?_
  cases hk : imgOK R T S D
  · exact ev_neg (by decide) (ev_some _)
  · refine ev_pos rfl ?_
    simp only [l01In_eq, Option.bind_some, w64 (n := (T.length : Int) - 1) (by omega) (by omega), if_true]
    cases hg : inB g 0 ((T.length : Int) - 1)
    · exact ev_neg (by decide) (ev_some _)
    · have hb := inB_iff.1 hg
      obtain ⟨e1, e2, e3⟩ := entry hk hg
      refine ev_pos rfl (ev_pos (by omega) (ev_pos (by omega) ?_))
      simp only [if_true]
      unfold spec_l10Value.f valAt
      by_cases c : rd T g < 2
      · rw [if_pos c, if_pos c]; exact ev_some _
      · rw [if_neg c, if_neg c, w64 (n := rd T g - 2) (by omega) (by omega), if_pos (by omega), if_pos (by omega)]; exact ev_some _
theorem impl_ev (R T : List Int) (S : List S45) (D : List Int) (g : Int) (hT : T.length ≤ 1000000000) (hS : S.length ≤ 1000000000) (hs : ∀ x ∈ S, x.f0.size ≤ 1000000000 ∧ x.f1.length ≤ 1000000000) :
    Ev (fun k => impl_ReadCluster.f k R T S D g) (read R T S D g) := by
  unfold impl_ReadCluster.f read
  refine ev_bind (impl_ImageOK_ev R T S D hT hS hs) ?_
  simp only [impl_Image_isGuest.f, within_eq, Option.bind_some, w64 (n := (T.length : Int) - 1) (by omega) (by omega)]
  cases hk : imgOK R T S D
  · have e : impl_first.f [Any.b (!false), Any.n 1, Any.b (!inB g 0 ((T.length : Int) - 1)), Any.n 4] = some 1 := by simp [impl_first.f, firstO]
    rw [e]; simp only [Option.bind_some, show ¬ ((1 : Int) = 0) from by decide, if_false, Bool.false_eq_true]; exact ev_some _
  · cases hg : inB g 0 ((T.length : Int) - 1)
    · have e : impl_first.f [Any.b (!true), Any.n 1, Any.b (!false), Any.n 4] = some 4 := by simp [impl_first.f, firstO]
      rw [e]; simp only [Option.bind_some, show ¬ ((4 : Int) = 0) from by decide, if_false, Bool.false_eq_true, if_true]; exact ev_some _
    · have e : impl_first.f [Any.b (!true), Any.n 1, Any.b (!true), Any.n 4] = some 0 := by simp [impl_first.f, firstO]
      have hb := inB_iff.1 hg
      obtain ⟨e1, e2, e3⟩ := entry hk hg
      rw [e]; simp only [Option.bind_some, if_true]
      unfold impl_Image_value.f valAt
      rw [if_pos (by omega), if_pos (by omega)]
      by_cases c : rd T g < 2
      · rw [if_pos c, if_pos c]; exact ev_some _
      · rw [if_neg c, if_neg c, w64 (n := rd T g - 2) (by omega) (by omega), if_pos (by omega), if_pos (by omega)]; exact ev_some _
theorem pure : st := by
  intro R T S D g hR hT hS hD _
  refine Ev.rounds ?_
  unfold laws_FnExactReadCluster.f
  obtain ⟨s, h1, h2⟩ := szImage_ev R T S D hR.1 hT.1 hS.1 hD.1 (fun x hx => ⟨(hS.2 x hx).1, (hS.2 x hx).2.1⟩)
  refine ev_bind h1 ?_
  by_cases hs : s < 0
  · exact ev_pos hs (ev_some _)
  · rcases h2 with h2 | ⟨_, hF⟩
    · exact absurd h2 hs
    · have hc := cv_fits hF.hs
      have := hF.hR; have := hF.hT; have := hF.hS; have := hF.hD
      have hl : (S.map cvSnap).length ≤ 1000000000 := by rw [List.length_map]; omega
      refine ev_neg hs (ev_bind (toImage_ev R T S D hF) (ev_bind (spec_ev R T _ D g (by omega) (by omega) hl (by omega) hc) (ev_bind (toImage_ev R T S D hF) (ev_bind (impl_ev R T _ D g (by omega) hl hc) ?_))))
      refine ev_pos rfl (Ev.succ ?_)
      simp only [laws_FnExactReadCluster.j0]
      exact ev_neg (by simp) (ev_bind (toImage_ev R T S D hF) (ev_bind (eqImage_ev R T S D hF) (ev_pos rfl (ev_some _))))

end Go.Proofs.Ytdbcojeblkiidaa.Q.FnExactReadCluster
