/- laws.FnExactGuestOf answers true, for every input within the bounds that any input that came in has. -/
import Derived.Test.YtglcnnmobkocmaaGreatStFnExactGuestOf
namespace Go.Proofs.YtglcnnmobkocmaaGreat.Q.FnExactGuestOf
open Go.RowKit Go.Proofs.YtglcnnmobkocmaaGreat.Ext Go.Proofs.YtglcnnmobkocmaaGreat.Q Go.Proofs.YtglcnnmobkocmaaGreatW.PrintWords Go.Proofs.YtglcnnmobkocmaaGreatW.PrintLast Go.Proofs.YtglcnnmobkocmaaGreatW.PrintMore
set_option linter.unusedVariables false
set_option linter.unusedSimpArgs false
def valE (D : List Int) (e : Int) : Int := if e < 2 then 0 else rd D (e - 2)
def vals (D T : List Int) : List Int := T.map (valE D)
def shots (S : List S103) (D : List Int) : List S107 := S.map (fun x => (⟨x.f0, vals D x.f1⟩ : S107))
def res (R T : List Int) (S : List S103) (D : List Int) : List Int × List S107 × Int := if imgOK R T S D = true then (vals D T, shots S D, 0) else ([], [], 1)
structure Fine (T : List Int) (S : List S103) (D : List Int) : Prop where
  hT : ∀ L ∈ tabs T S, L.length ≤ 1000000 ∧ ∀ e ∈ L, 0 ≤ e ∧ e ≤ 25
  hD : D.length = 24
  hS : S.length ≤ 3
theorem fine_of {R T : List Int} {S : List S103} {D : List Int} (h : imgOK R T S D = true) : Fine T S D := by
  unfold imgOK at h
  rw [Bool.and_eq_true] at h
  obtain ⟨_, h2, h3, h4⟩ := near_tabs h.1
  refine ⟨fun L hL => ?_, h4, h2⟩
  have hT := h3 L hL
  unfold tableOK at hT
  simp only [Bool.and_eq_true, List.all_eq_true, decide_eq_true_eq] at hT
  exact ⟨by have := hT.1; omega, fun e he => inB_iff.1 (hT.2 e he)⟩
theorem vals_len (D T : List Int) : (vals D T).length = T.length := by simp [vals]
theorem vals_snoc (D T : List Int) (i : Nat) (h : i < T.length) : vals D (T.take (i + 1)) = vals D (T.take i) ++ [valE D (rd T (i : Int))] := by
  have e : rd T (i : Int) = T[i] := by simp [rd, h]
  rw [e, List.take_succ_eq_append_getElem h]; unfold vals; rw [List.map_append]; rfl
theorem spec_table_ev {R T : List Int} {S : List S103} {D : List Int} (hF : Fine T S D) (L : List Int) (hL : L ∈ tabs T S) : Ev (fun k => spec_l14Table.f k R T S D L) (vals D L) := by
  obtain ⟨h1, h2⟩ := hF.hT L hL
  have hd := hF.hD
  unfold spec_l14Table.f
  refine ev_down (g := fun k i => spec_l14Table.l0 k L (vals D (L.take i)) (i : Int) R T S D) L.length ?_ ?_
  · refine Ev.step (f := fun _ => some (vals D L)) (fun k => ?_) (ev_some _)
    simp only [spec_l14Table.l0]; rw [if_neg (by omega), List.take_of_length_le (Nat.le_refl _)]
  · intro i hi h
    have e : rd L (i : Int) = L[i] := by simp [rd, hi]
    have hb := h2 _ (List.getElem_mem hi)
    have hv : spec_l10Value.f R T S D (rd L (i : Int)) = some (valE D (rd L (i : Int))) := by
      rw [e]
      unfold spec_l10Value.f valE
      by_cases c : L[i] < 2
      · rw [if_pos c, if_pos c]
      · rw [if_neg c, if_neg c, w64 (n := L[i] - 2) (by omega) (by omega), if_pos (by omega), if_pos (by omega)]
    refine Ev.succ ?_
    simp only [spec_l14Table.l0, hv, Option.bind_some]
    refine ev_pos (by omega) (ev_pos (by omega) (ev_pos (by rw [vals_len, List.length_take]; omega) ?_))
    rw [wnext i (by omega), ← vals_snoc D L i hi]
    exact h
theorem impl_table_ev {R T : List Int} {S : List S103} {D : List Int} (hF : Fine T S D) (L : List Int) (hL : L ∈ tabs T S) : Ev (fun k => impl_Image_shown_1.f k L R T S D) (vals D L) := by
  obtain ⟨h1, h2⟩ := hF.hT L hL
  have hd := hF.hD
  unfold impl_Image_shown_1.f
  refine ev_down (g := fun k i => impl_Image_shown_1.l0 k L (vals D (L.take i)) (L.length : Int) (i : Int) R T S D) L.length ?_ ?_
  · refine Ev.step (f := fun _ => some (vals D L)) (fun k => ?_) (ev_some _)
    simp only [impl_Image_shown_1.l0]; rw [if_neg (by omega), List.take_of_length_le (Nat.le_refl _)]
  · intro i hi h
    have e : rd L (i : Int) = L[i] := by simp [rd, hi]
    have hb := h2 _ (List.getElem_mem hi)
    have hv : impl_Image_value.f R T S D L (i : Int) = some (valE D (rd L (i : Int))) := by
      unfold impl_Image_value.f valE
      rw [if_pos (by omega), if_pos (by omega), e]
      by_cases c : L[i] < 2
      · rw [if_pos c, if_pos c]
      · rw [if_neg c, if_neg c, w64 (n := L[i] - 2) (by omega) (by omega), if_pos (by omega), if_pos (by omega)]
    refine Ev.succ ?_
    simp only [impl_Image_shown_1.l0, hv, Option.bind_some]
    refine ev_pos (by omega) (ev_pos (by rw [vals_len, List.length_take]; omega) ?_)
    rw [wnext i (by omega), ← vals_snoc D L i hi]
    exact h
theorem shots_len (S : List S103) (D : List Int) : (shots S D).length = S.length := by simp [shots]
theorem shots_snoc (S : List S103) (D : List Int) (i : Nat) (h : i < S.length) : shots (S.take (i + 1)) D = shots (S.take i) D ++ [(⟨(rd_T103 S (i : Int)).f0, vals D (rd_T103 S (i : Int)).f1⟩ : S107)] := by
  rw [rdE_Snap S i h, List.take_succ_eq_append_getElem h]; unfold shots; rw [List.map_append]; rfl
theorem snap_tab {T : List Int} {S : List S103} (i : Nat) (h : i < S.length) : (rd_T103 S (i : Int)).f1 ∈ tabs T S := by
  rw [rdE_Snap S i h]; simp only [tabs, List.mem_cons, List.mem_map]; exact Or.inr ⟨_, List.getElem_mem h, rfl⟩
theorem spec_of_ev {R T : List Int} {S : List S103} {D : List Int} (hF : Fine T S D) : Ev (fun k => spec_l14Of.f k R T S D) (vals D T, shots S D) := by
  have hS := hF.hS
  unfold spec_l14Of.f
  refine ev_bind (spec_table_ev hF T (by simp [tabs])) ?_
  refine ev_down (g := fun k i => spec_l14Of.l0 k (i : Int) R T S D (vals D T) (shots (S.take i) D)) S.length ?_ ?_
  · refine Ev.step (f := fun _ => some (vals D T, shots S D)) (fun k => ?_) (ev_some _)
    simp only [spec_l14Of.l0]; rw [if_neg (by omega), List.take_of_length_le (Nat.le_refl _)]
  · intro i hi h
    refine Ev.succ ?_
    simp only [spec_l14Of.l0]
    refine ev_pos (by omega) (ev_pos (by omega) (ev_bind (spec_table_ev hF _ (snap_tab i hi)) (ev_pos (by rw [shots_len, List.length_take]; omega) ?_)))
    rw [wnext i (by omega), ← shots_snoc S D i hi]
    exact h
theorem impl_of_ev {R T : List Int} {S : List S103} {D : List Int} (hF : Fine T S D) : Ev (fun k => impl_Image_shown.f k R T S D) (vals D T, shots S D) := by
  have hS := hF.hS
  unfold impl_Image_shown.f
  refine ev_bind (impl_table_ev hF T (by simp [tabs])) ?_
  refine ev_down (g := fun k i => impl_Image_shown.l0 k S (S.length : Int) (i : Int) R T S D (vals D T) (shots (S.take i) D)) S.length ?_ ?_
  · refine Ev.step (f := fun _ => some (vals D T, shots S D)) (fun k => ?_) (ev_some _)
    simp only [impl_Image_shown.l0]; rw [if_neg (by omega), List.take_of_length_le (Nat.le_refl _)]
  · intro i hi h
    refine Ev.succ ?_
    simp only [impl_Image_shown.l0]
    refine ev_pos (by omega) (ev_pos (by omega) (ev_pos (by omega) (ev_bind (impl_table_ev hF _ (snap_tab i hi)) (ev_pos (by rw [shots_len, List.length_take]; omega) ?_))))
    rw [wnext i (by omega), ← shots_snoc S D i hi]
    exact h
theorem res_le (R T : List Int) (S : List S103) (D : List Int) : (res R T S D).1.length ≤ 1000000 ∧ (res R T S D).2.1.length ≤ 3 ∧ ∀ x ∈ (res R T S D).2.1, x.f1.length ≤ 1000000 := by
  unfold res
  cases h : imgOK R T S D
  · simp
  · have hF := fine_of h
    rw [if_pos rfl]
    refine ⟨by rw [vals_len]; exact (hF.hT T (by simp [tabs])).1, by rw [shots_len]; exact hF.hS, ?_⟩
    intro x hx
    simp only [shots, List.mem_map] at hx
    obtain ⟨y, hy, rfl⟩ := hx
    show (vals D y.f1).length ≤ _
    rw [vals_len]
    exact (hF.hT y.f1 (by simp only [tabs, List.mem_cons, List.mem_map]; exact Or.inr ⟨y, hy, rfl⟩)).1
theorem spec_ev (R T : List Int) (S : List S103) (D : List Int) (hR : R.length ≤ 1000000000) (hT : T.length ≤ 1000000000) (hS : S.length ≤ 1000000000) (hD : D.length ≤ 1000000000) (hs : ∀ x ∈ S, x.f0.size ≤ 1000000000 ∧ x.f1.length ≤ 1000000000) :
    Ev (fun k => spec_GuestOf.f k R T S D) (res R T S D) := by
  unfold spec_GuestOf.f res
  refine ev_bind (spec_ImageOK_ev R T S D hR hT hS hD hs) ?_
  cases h : imgOK R T S D
  · exact ev_neg (by decide) (ev_some _)
  · exact ev_pos rfl (ev_bind (spec_of_ev (fine_of h)) (ev_some _))
theorem impl_ev (R T : List Int) (S : List S103) (D : List Int) (hT : T.length ≤ 1000000000) (hS : S.length ≤ 1000000000) (hs : ∀ x ∈ S, x.f0.size ≤ 1000000000 ∧ x.f1.length ≤ 1000000000) :
    Ev (fun k => impl_GuestOf.f k R T S D) (res R T S D) := by
  unfold impl_GuestOf.f res
  refine ev_bind (impl_ImageOK_ev R T S D hT hS hs) ?_
  cases h : imgOK R T S D
  · exact ev_neg (by decide) (ev_some _)
  · exact ev_pos rfl (ev_bind (impl_of_ev (fine_of h)) (ev_some _))
theorem pure : st := by
  intro R T S D hR hT hS hD
  refine Ev.rounds ?_
  unfold laws_FnExactGuestOf.f
  obtain ⟨s, h1, h2⟩ := szImage_ev R T S D hR.1 hT.1 hS.1 hD.1 (fun x hx => ⟨(hS.2 x hx).1, (hS.2 x hx).2.1⟩)
  refine ev_bind h1 ?_
  by_cases hs : s < 0
  · exact ev_pos hs (ev_some _)
  · rcases h2 with h2 | ⟨_, hF⟩
    · exact absurd h2 hs
    · have hc := cv_fits hF.hs
      have := hF.hR; have := hF.hT; have := hF.hS; have := hF.hD
      have hl : (S.map cvSnap).length ≤ 1048576 := by rw [List.length_map]; omega
      have hT1 := toImage_ev R T S D hF
      have hE := eqImage_ev R T S D hF
      have hm1 : ∀ x ∈ S.map cvSnap, x.f1.length ≤ 1048576 := by
        intro x hx
        obtain ⟨y, hy, rfl⟩ := List.mem_map.1 hx
        exact (hF.hs y hy).2
      obtain ⟨mk, hM, hM0⟩ := markImage_ev R T (S.map cvSnap) D hF.hR hF.hT hl hF.hD hm1
      have hP := spec_ev R T (S.map cvSnap) D (by omega) (by omega) (by omega) (by omega) hc
      have hI := impl_ev R T (S.map cvSnap) D (by omega) (by omega) hc
      obtain ⟨r1, r2, r3⟩ := res_le R T (S.map cvSnap) D
      generalize res R T (S.map cvSnap) D = r at hP hI r1 r2 r3
      generalize S.map cvSnap = S' at hT1 hE hM hP hI
      have hQ : Ev (fun k => laws_eqGuest.f k r.1 r.2.1 r.1 r.2.1) true := by
        unfold laws_eqGuest.f
        exact ev_bind (eqIntS_ev _ (by omega)) (ev_pos rfl (ev_bind (eqShotS_ev r.2.1 (by omega) (fun x hx => by have := r3 x hx; omega)) (ev_pos rfl (ev_some _))))
      have hb := mkN_le r.2.1 (1 + (r.1.length : Int)) (fun x hx => by have := r3 x hx; omega)
      have hK : Ev (fun k => laws_markGuest.f k r.1 r.2.1 1) (mkN (1 + (r.1.length : Int)) r.2.1, countUp 1 r.1.length, mkS (1 + (r.1.length : Int)) r.2.1) := by
        unfold laws_markGuest.f
        exact ev_bind (markIntS_ev r.1 1 (by omega) (by omega)) (ev_bind (markShotS_ev r.2.1 _ (fun x hx => by have := r3 x hx; omega) (by omega) (by show (0 : Int) ≤ 1 + (r.1.length : Int); omega) (by show 1 + (r.1.length : Int) + _ ≤ _; omega)) (ev_some _))
      have hH : Ev (fun k => laws_heldGuest.f k (countUp 1 r.1.length) (mkS (1 + (r.1.length : Int)) r.2.1) 1) (mkN (1 + (r.1.length : Int)) r.2.1) := by
        unfold laws_heldGuest.f
        exact ev_bind (heldIntS_ev r.1.length 1 (by omega) (by omega)) (ev_neg (by omega) (ev_bind (heldShotS_ev r.2.1 _ (fun x hx => by have := r3 x hx; omega) (by omega) (by omega) (by omega)) (ev_neg (by omega) (ev_some _))))
      exact ev_neg hs (ev_bind hT1 (ev_bind hP (ev_bind hT1 (ev_bind hI (ev_bind hQ (ev_pos rfl (ev_pos rfl (ev_bind hT1 (ev_bind hE (ev_pos rfl (ev_bind hM (ev_neg (by omega) (ev_bind hQ (ev_pos rfl (ev_bind hK (ev_bind hH (ev_neg (by omega) (ev_pos rfl (ev_bind hT1 (ev_bind hI (ev_bind hQ (ev_pos rfl (ev_pos rfl (ev_bind hH (ev_neg (by omega) (ev_pos rfl (ev_some _)))))))))))))))))))))))))))

end Go.Proofs.YtglcnnmobkocmaaGreat.Q.FnExactGuestOf
