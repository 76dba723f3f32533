/- laws.FnExactWrongRefs answers true, for every input within the bounds that any input that came in has. -/
import Derived.Test.YtdbcojeblkiidaaStFnExactWrongRefs
namespace Go.Proofs.Ytdbcojeblkiidaa.Q.FnExactWrongRefs
open Go.RowKit Go.Proofs.Ytdbcojeblkiidaa.Ext Go.Proofs.Ytdbcojeblkiidaa.Q Go.Proofs.YtdbcojeblkiidaaW.PrintWords Go.Proofs.YtdbcojeblkiidaaW.PrintLast Go.Proofs.YtdbcojeblkiidaaW.PrintMore
set_option linter.unusedVariables false
set_option linter.unusedSimpArgs false
def pk (R T : List Int) (S : List S45) (i : Nat) : Bool := rd R (i : Int) != rd (counts T S) (i : Int)
def res (R T : List Int) (S : List S45) (D : List Int) : List Int × Int := if near R T S D = true then (sel (pk R T S) 24, 0) else ([], 1)
theorem res_len (R T : List Int) (S : List S45) (D : List Int) : (res R T S D).1.length ≤ 24 := by
  unfold res
  cases near R T S D
  · show ([] : List Int).length ≤ 24; simp
  · exact sel_length _ 24
theorem spec_ev (R T : List Int) (S : List S45) (D : List Int) (hR : R.length ≤ 1000000000) (hT : T.length ≤ 1000000000) (hS : S.length ≤ 1000000000) (hD : D.length ≤ 1000000000) (hs : ∀ x ∈ S, x.f0.size ≤ 1000000000 ∧ x.f1.length ≤ 1000000000) :
    Ev (fun k => spec_WrongRefs.f k R T S D) (res R T S D) := by
  unfold spec_WrongRefs.f res
  refine ev_bind (spec_near_ev R T S D hR hT hS hD hs) ?_
  cases hn : near R T S D
  · exact ev_neg (by decide) (ev_some _)
  · obtain ⟨n1, n2, n3, n4⟩ := near_tabs hn
    refine ev_pos rfl (ev_bind (spec_count_ev R T S D n2 n3) ?_)
    have hcl := counts_length T S
    refine ev_down (g := fun k i => spec_WrongRefs.l0 k (sel (pk R T S) i) (counts T S) (i : Int) R T S D) 24 ?_ ?_
    · refine Ev.step (f := fun _ => some (sel (pk R T S) 24, 0)) (fun k => ?_) (ev_some _)
      simp only [spec_WrongRefs.l0]; rw [if_neg (by decide)]
    · intro i hi h
      have hsl := sel_length (pk R T S) i
      rw [sel_succ] at h
      refine Ev.succ ?_
      simp only [spec_WrongRefs.l0]
      refine ev_pos (by omega) (ev_pos (by omega) (ev_pos (by omega) (ev_pos (by omega) ?_)))
      rw [wnext i (by omega)]
      by_cases c : rd (counts T S) (i : Int) = rd R (i : Int)
      · rw [if_neg (by unfold pk; simp [c])] at h; exact ev_pos c h
      · rw [if_pos (by unfold pk; simpa using fun e => c e.symm)] at h; exact ev_neg c (ev_pos (by omega) h)
theorem impl_ev (R T : List Int) (S : List S45) (D : List Int) (hT : T.length ≤ 1000000000) (hS : S.length ≤ 1000000000) (hs : ∀ x ∈ S, x.f0.size ≤ 1000000000 ∧ x.f1.length ≤ 1000000000) :
    Ev (fun k => impl_WrongRefs.f k R T S D) (res R T S D) := by
  unfold impl_WrongRefs.f res
  refine ev_bind (a := if near R T S D = true then (sel (pk R T S) 24, 0) else ([], 1)) ?_ (ev_some _)
  unfold impl_Image_wrong_45.f
  refine ev_bind (impl_near_ev R T S D hT hS hs) ?_
  cases hn : near R T S D
  · exact ev_neg (by decide) (ev_some _)
  · obtain ⟨n1, n2, n3, n4⟩ := near_tabs hn
    refine ev_pos rfl (ev_bind (impl_count_ev R T S D n2 n3) ?_)
    have hcl := counts_length T S
    refine ev_down (g := fun k i => impl_Image_wrong_45.l0 k (sel (pk R T S) i) (counts T S) ((counts T S).length : Int) (i : Int) R T S D) 24 ?_ ?_
    · refine Ev.step (f := fun _ => some (sel (pk R T S) 24, 0)) (fun k => ?_) (ev_some _)
      simp only [impl_Image_wrong_45.l0]; rw [if_neg (by omega)]
    · intro i hi h
      have hsl := sel_length (pk R T S) i
      rw [sel_succ] at h
      refine Ev.succ ?_
      simp only [impl_Image_wrong_45.l0]
      refine ev_pos (by omega) (ev_pos (by omega) (ev_pos (by omega) (ev_pos (by omega) ?_)))
      rw [wnext i (by omega)]
      refine ev_bind (a := pk R T S i) (ev_of_eq fun _ => by simp only [impl_WrongRefs_1.f]; rfl) ?_
      by_cases c : pk R T S i = true
      · rw [if_pos c] at h; exact ev_pos c (ev_pos (by omega) h)
      · rw [if_neg c] at h; exact ev_neg c h
theorem pure : st := by
  intro R T S D hR hT hS hD
  refine Ev.rounds ?_
  unfold laws_FnExactWrongRefs.f
  obtain ⟨s, h1, h2⟩ := szImage_ev R T S D hR.1 hT.1 hS.1 hD.1 (fun x hx => ⟨(hS.2 x hx).1, (hS.2 x hx).2.1⟩)
  refine ev_bind h1 ?_
  by_cases hs : s < 0
  · exact ev_pos hs (ev_some _)
  · rcases h2 with h2 | ⟨_, hF⟩
    · exact absurd h2 hs
    · have hc := cv_fits hF.hs
      have := hF.hR; have := hF.hT; have := hF.hS; have := hF.hD
      have hl : (S.map cvSnap).length ≤ 1048576 := by rw [List.length_map]; omega
      have hT1 := toImage_ev R T S D hF
      have hE := eqImage_ev R T S D hF
      have hm1 : ∀ x ∈ S.map cvSnap, x.f1.length ≤ 1048576 := by
        intro x hx
        obtain ⟨y, hy, rfl⟩ := List.mem_map.1 hx
        exact (hF.hs y hy).2
      obtain ⟨mk, hM, hM0⟩ := markImage_ev R T (S.map cvSnap) D hF.hR hF.hT hl hF.hD hm1
      have hP := spec_ev R T (S.map cvSnap) D (by omega) (by omega) (by omega) (by omega) hc
      have hI := impl_ev R T (S.map cvSnap) D (by omega) (by omega) hc
      have hr := res_len R T (S.map cvSnap) D
      generalize res R T (S.map cvSnap) D = r at hP hI hr
      generalize S.map cvSnap = S' at hT1 hE hM hP hI
      have hQ := eqIntS_ev r.1 (by omega)
      have hK := markIntS_ev r.1 1 (by omega) (by omega)
      have hH := heldIntS_ev r.1.length 1 (by omega) (by omega)
      refine ev_neg hs (ev_bind hT1 (ev_bind hP (ev_bind hT1 (ev_bind hI (ev_bind hQ (ev_pos rfl (Ev.succ ?_)))))))
      simp only [laws_FnExactWrongRefs.j0]
      refine ev_neg (by simp) (ev_bind hT1 (ev_bind hE (ev_pos rfl (ev_bind hM (ev_neg (by omega) (ev_bind hQ (ev_pos rfl (Ev.succ ?_))))))))
      simp only [laws_FnExactWrongRefs.j1]
      refine ev_neg (by simp) (ev_bind hK (ev_bind hH (ev_neg (by omega) (ev_pos rfl (ev_bind hT1 (ev_bind hI (ev_bind hQ (ev_pos rfl (Ev.succ ?_)))))))))
      simp only [laws_FnExactWrongRefs.j2]
      exact ev_neg (by simp) (ev_bind hH (ev_neg (by omega) (ev_pos rfl (ev_some _))))

end Go.Proofs.Ytdbcojeblkiidaa.Q.FnExactWrongRefs
