import Derived.Test.YtglcnnmobkocmaaGreatStFnExactDiffUpdates
namespace Go.Proofs.YtglcnnmobkocmaaGreat.Q.FnExactDiffUpdates
open Go.RowKit Go.Proofs.YtglcnnmobkocmaaGreat.Ext Go.Proofs.YtglcnnmobkocmaaGreat.Q Go.Proofs.YtglcnnmobkocmaaGreatW.PrintWords Go.Proofs.YtglcnnmobkocmaaGreatW.PrintLast Go.Proofs.YtglcnnmobkocmaaGreatW.PrintMore
set_option linter.unusedVariables false
set_option linter.unusedSimpArgs false
def eqU (x y : S77) : Bool := x.f0 == y.f0 && (x.f1.toList == y.f1.toList)
def has (own : List S77) (y : S77) : Bool := own.any (fun x => eqU x y)
def dif (own l : List S77) : List S77 := l.filter (fun y => !has own y)
theorem eqU_comm (x y : S77) : eqU x y = eqU y x := by unfold eqU; rw [BEq.comm (a := x.f0), BEq.comm (a := x.f1.toList)]
theorem any_snoc (own : List S77) (f : S77 → Bool) (i : Nat) (h : i < own.length) : (own.take (i + 1)).any f = ((own.take i).any f || f own[i]) := by
 rw [List.take_succ_eq_append_getElem h, List.any_append]; simp only [List.any_cons, List.any_nil, Bool.or_false]
theorem dif_snoc (own l : List S77) (i : Nat) (h : i < l.length) : dif own (l.take (i + 1)) = if has own l[i] = true then dif own (l.take i) else dif own (l.take i) ++ [l[i]] := by
 unfold dif
 rw [List.take_succ_eq_append_getElem h, List.filter_append]
 cases hh : has own l[i] <;> simp [hh]
theorem dif_le (own l : List S77) : (dif own l).length ≤ l.length := List.length_filter_le _ _
theorem spec_loop (own l : List S77) (ho : own.length ≤ 1000000) (hl : l.length ≤ 1000000) : Ev (fun k => spec_l11Diff.l0 k own l [] 0) (dif own l) := by
 refine ev_down (g := fun k i => spec_l11Diff.l0 k own l (dif own (l.take i)) (i : Int)) l.length ?_ ?_
 ·refine Ev.step (f := fun _ => some (dif own l)) (fun k => ?_) (ev_some _)
  simp only [spec_l11Diff.l0]; rw [if_neg (by omega), List.take_of_length_le (Nat.le_refl _)]
 ·intro j hj h
  rw [dif_snoc own l j hj] at h
  have hd := dif_le own (l.take j)
  rw [List.length_take] at hd
  have e : rd_T77 l (j : Int) = l[j] := rdE_Update l j hj
  have hin : Ev (fun k => spec_l11Diff.l1 k own l (dif own (l.take j)) (j : Int) false 0) (dif own l) := by
   refine ev_down (g := fun k i => spec_l11Diff.l1 k own l (dif own (l.take j)) (j : Int) ((own.take i).any (fun x => eqU x l[j])) (i : Int)) own.length ?_ ?_
   ·refine Ev.succ ?_
    simp only [spec_l11Diff.l1, List.take_of_length_le (Nat.le_refl _)]
    refine ev_neg (by omega) ?_
    by_cases hh : has own l[j] = true
    ·rw [if_pos hh] at h
     refine ev_pos hh ?_
     rw [wnext j (by omega)]; exact h
    ·rw [if_neg hh] at h
     refine ev_neg hh (ev_pos (by omega) (ev_pos (by omega) (ev_pos (by omega) ?_)))
     rw [wnext j (by omega), e]; exact h
   ·intro i hi hn
    have ei : rd_T77 own (i : Int) = own[i] := rdE_Update own i hi
    rw [any_snoc own _ i hi] at hn
    refine Ev.succ ?_
    simp only [spec_l11Diff.l1]
    refine ev_pos (by omega) ?_
    rw [wnext i (by omega), e, ei]
    cases hb : (own.take i).any (fun x => eqU x l[j])
    ·rw [hb, Bool.false_or] at hn
     exact ev_neg (by decide) (ev_pos (by omega) (ev_pos (by omega) (ev_pos (by omega) hn)))
    ·rw [hb, Bool.true_or] at hn
     exact ev_pos rfl hn
  refine Ev.succ ?_
  simp only [spec_l11Diff.l0]
  exact ev_pos (by omega) hin
theorem idx_from (own : List S77) (a : Int) (t : ByteArray) (ho : own.length ≤ 1000000) : ∀ d i, i ≤ own.length → own.length - i = d → ∃ r, Ev (fun k => impl_Update_137.l0 k own (own.length : Int) (i : Int) a t) r ∧ decide (r ≥ 0) = (own.drop i).any (fun x => eqU x (⟨a, t⟩ : S77)) := by
 intro d
 induction d with
 | zero =>
  intro i hi hd
  have e : i = own.length := by omega
  subst e
  refine ⟨-1, Ev.step (f := fun _ => some (-1)) (fun k => ?_) (ev_some _), by simp⟩
  simp only [impl_Update_137.l0]; rw [if_neg (by omega)]
 | succ d ih =>
  intro i hi hd
  have hlt : i < own.length := by omega
  have ei : rd_T77 own (i : Int) = own[i] := rdE_Update own i hlt
  rw [List.drop_eq_getElem_cons hlt, List.any_cons]
  have ec : (a == own[i].f0 && (t.toList == own[i].f1.toList)) = eqU own[i] (⟨a, t⟩ : S77) := eqU_comm (⟨a, t⟩ : S77) own[i]
  cases hb : eqU own[i] (⟨a, t⟩ : S77)
  ·obtain ⟨r, h1, h2⟩ := ih (i + 1) (by omega) (by omega)
   refine ⟨r, Ev.succ ?_, by rw [Bool.false_or]; exact h2⟩
   simp only [impl_Update_137.l0, ei, ec, hb]
   refine ev_pos (by omega) (ev_pos (by omega) (ev_pos (by omega) (ev_neg (by decide) ?_)))
   rw [wnext i (by omega)]; exact h1
  ·refine ⟨(i : Int), Ev.succ ?_, by rw [Bool.true_or]; exact decide_eq_true (by omega)⟩
   simp only [impl_Update_137.l0, ei, ec, hb]
   exact ev_pos (by omega) (ev_pos (by omega) (ev_pos (by omega) (ev_pos trivial (ev_some _))))
theorem has_ev (own : List S77) (ho : own.length ≤ 1000000) (x : S77) : Ev (fun k => impl_Update_102.f k own x.f0 x.f1) (has own x) := by
 unfold impl_Update_102.f impl_Update_137.f
 obtain ⟨r, h1, h2⟩ := idx_from own x.f0 x.f1 ho own.length 0 (by omega) (by omega)
 have h3 : decide (r ≥ 0) = has own x := h2
 rw [← h3]
 exact ev_bind h1 (ev_some _)
theorem go_ev (own : List S77) (ho : own.length ≤ 1000000) : ∀ l, Ev (fun k => impl_diff_go (fun x => impl_Update_102.f k own x.f0 x.f1) l) (dif own l) := by
 intro l
 induction l with
 | nil => exact ev_some _
 | cons x l ih =>
  have e : dif own (x :: l) = if has own x = true then dif own l else x :: dif own l := by
   unfold dif
   cases hh : has own x <;> simp [hh]
  rw [e]
  exact ev_bind (has_ev own ho x) (ev_bind ih (ev_some _))
def res (R T : List Int) (S : List S103) (D : List Int) (R' T' : List Int) (S' : List S103) (D' : List Int) : List S77 × Int := if imgOK R T S D = true then (if imgOK R' T' S' D' = true then (dif (upd R T S D) (upd R' T' S' D'), 0) else ([], 1)) else ([], 1)
theorem img_facts {R T : List Int} {S : List S103} {D : List Int} (h : imgOK R T S D = true) : refsOK R = true ∧ S.length ≤ 3 ∧ D.length = 24 ∧ (upd R T S D).length ≤ 30 := by
 have hu := upd_len R T S D
 unfold imgOK near at h
 simp only [Bool.and_eq_true, decide_eq_true_eq, beq_iff_eq] at h
 exact ⟨h.1.1, by omega, by omega, by omega⟩
theorem res_len (R T : List Int) (S : List S103) (D R' T' : List Int) (S' : List S103) (D' : List Int) : (res R T S D R' T' S' D').1.length ≤ 30 := by
 unfold res
 cases h : imgOK R T S D
 ·show ([] : List S77).length ≤ 30; simp
 ·cases h' : imgOK R' T' S' D'
  ·show ([] : List S77).length ≤ 30; simp
  ·have := (img_facts h').2.2.2
   have := dif_le (upd R T S D) (upd R' T' S' D')
   show (dif (upd R T S D) (upd R' T' S' D')).length ≤ 30
   omega
structure Sm (R T : List Int) (S : List S103) (D : List Int) : Prop where
 hR : R.length ≤ 1048576
 hT : T.length ≤ 1048576
 hS : S.length ≤ 1048576
 hD : D.length ≤ 1048576
 hs : ∀ x ∈ S, x.f0.size ≤ 1000000000 ∧ x.f1.length ≤ 1000000000
variable {R T : List Int} {S : List S103} {D R' T' : List Int} {S' : List S103} {D' : List Int}
theorem spec_ev (h : Sm R T S D) (h' : Sm R' T' S' D') :
  Ev (fun k => spec_DiffUpdates.f k R T S D R' T' S' D') (res R T S D R' T' S' D') := by
 obtain ⟨_, _, _, _, _⟩ := id h; obtain ⟨_, _, _, _, _⟩ := id h'
 unfold spec_DiffUpdates.f res
 refine ev_bind (spec_ImageOK_ev R T S D (by omega) (by omega) (by omega) (by omega) h.hs) ?_
 cases hk : imgOK R T S D
 ·exact ev_neg (by decide) (ev_some _)
 ·refine ev_pos rfl (ev_bind (spec_ImageOK_ev R' T' S' D' (by omega) (by omega) (by omega) (by omega) h'.hs) ?_)
  cases hk' : imgOK R' T' S' D'
  ·exact ev_neg (by decide) (ev_some _)
  ·obtain ⟨a1, a2, a3, a4⟩ := img_facts hk
   obtain ⟨b1, b2, b3, b4⟩ := img_facts hk'
   unfold spec_l11Diff.f
   exact ev_pos rfl (ev_bind (ev_bind (spec_all_ev R T S D a1 h.hT (by omega) a3 h.hs) (ev_bind (spec_all_ev R' T' S' D' b1 h'.hT (by omega) b3 h'.hs) (spec_loop _ _ (by omega) (by omega)))) (ev_some _))
theorem impl_ev (h : Sm R T S D) (h' : Sm R' T' S' D') :
  Ev (fun k => impl_DiffUpdates.f k R T S D R' T' S' D') (res R T S D R' T' S' D') := by
 obtain ⟨_, _, _, _, _⟩ := id h; obtain ⟨_, _, _, _, _⟩ := id h'
 unfold impl_DiffUpdates.f res
 refine ev_bind (impl_ImageOK_ev R T S D (by omega) (by omega) h.hs) ?_
 cases hk : imgOK R T S D
 ·exact ev_neg (by decide) (ev_some _)
 ·refine ev_pos rfl (ev_bind (impl_ImageOK_ev R' T' S' D' (by omega) (by omega) h'.hs) ?_)
  cases hk' : imgOK R' T' S' D'
  ·exact ev_neg (by decide) (ev_some _)
  ·obtain ⟨a1, a2, a3, a4⟩ := img_facts hk
   obtain ⟨b1, b2, b3, b4⟩ := img_facts hk'
   unfold impl_diff.f
   exact ev_pos rfl (ev_bind (ev_bind (impl_updates_ev R T S D a1 h.hT (by omega) a3 h.hs) (ev_bind (impl_updates_ev R' T' S' D' b1 h'.hT (by omega) b3 h'.hs) (ev_pos (by omega) (go_ev _ (by omega) _)))) (ev_some _))
theorem szImage_evA (R T : List Int) (S : List S102) (D : List Int) (A : Int) (hA0 : 0 ≤ A) (hA : A ≤ 1048576) (hR : R.length ≤ maxLen) (hT : T.length ≤ maxLen) (hS : S.length ≤ maxLen) (hD : D.length ≤ maxLen) (hs : ∀ x ∈ S, x.f0.size ≤ maxLen ∧ x.f1.length ≤ maxLen) :
  ∃ s, Ev (fun k => laws_szImage.f k R T S D A) s ∧ (s < 0 ∨ (0 ≤ s ∧ s ≤ A ∧ Fits R T S D)) := by
 unfold laws_szImage.f
 have hM : maxLen = 9223372036854775807 := rfl
 simp only [szIntS_eq R hR A (by omega) (by omega), Option.bind_some]
 by_cases c : A - (R.length : Int) < 0
 ·rw [if_pos c]; exact ⟨-1, ev_pos (by omega) (ev_some _), Or.inl (by omega)⟩
 ·rw [if_neg c]
  generalize ha : A - (R.length : Int) = a at c
  simp only [szIntS_eq T hT a (by omega) (by omega), Option.bind_some]
  by_cases c2 : a - (T.length : Int) < 0
  ·rw [if_pos c2]; exact ⟨-1, ev_neg (by omega) (ev_pos (by omega) (ev_some _)), Or.inl (by omega)⟩
  ·rw [if_neg c2]
   generalize hb : a - (T.length : Int) = b at c2
   obtain ⟨s, h1, h2⟩ := szSnapS_ev S hs hS b (by omega) (by omega)
   by_cases hs0 : s < 0
   ·exact ⟨-1, ev_neg (by omega) (ev_neg (by omega) (ev_bind h1 (ev_pos hs0 (ev_some _)))), Or.inl (by omega)⟩
   ·rcases h2 with h2 | ⟨b1, b2, b3, b4⟩
    ·exact absurd h2 hs0
    ·have hz := szIntS_eq D hD s (by omega) (by omega)
     by_cases c4 : s - (D.length : Int) < 0
     ·refine ⟨-1, ev_neg (by omega) (ev_neg (by omega) (ev_bind h1 (ev_neg hs0 (ev_bind (ev_of_eq fun _ => hz) ?_)))), Or.inl (by omega)⟩
      rw [if_pos c4]; exact ev_pos (by omega) (ev_some _)
     ·refine ⟨s - (D.length : Int), ev_neg (by omega) (ev_neg (by omega) (ev_bind h1 (ev_neg hs0 (ev_bind (ev_of_eq fun _ => hz) ?_)))), Or.inr ⟨by omega, by omega, by omega, by omega, by omega, by omega, fun x hx => by have := b4 x hx; omega⟩⟩
      rw [if_neg c4]; exact ev_neg c4 (ev_some _)
theorem markImage_evA (R T : List Int) (S : List S103) (D : List Int) (a : Int) (ha : 0 ≤ a) (ha2 : a ≤ 2000000000000) (hR : R.length ≤ 1048576) (hT : T.length ≤ 1048576) (hS : S.length ≤ 1048576) (hD : D.length ≤ 1048576) (hs : ∀ x ∈ S, x.f1.length ≤ 1048576) : ∃ r, Ev (fun k => laws_markImage.f k R T S D a) r ∧ 0 ≤ r ∧ r ≤ a + 1900000000000 := by
 unfold laws_markImage.f
 obtain ⟨r, h1, h2, h3⟩ := markSnapS_from S.length S 0 (a + (R.length : Int) + (T.length : Int)) hs hS (by omega) (by omega) (by omega) (by omega)
 exact ⟨_, ev_bind (markIntS_ev R a (by omega) (by omega)) (ev_bind (markIntS_ev T _ (by omega) (by omega)) (ev_bind (by unfold laws_markSnapS.f; exact h1) (ev_bind (markIntS_ev D r.1 h2 (by omega)) (ev_some _)))), by show 0 ≤ r.1 + _; omega, by show r.1 + _ ≤ _; omega⟩
theorem pure : st := by
 intro R T S D R' T' S' D' hR hT hS hD hR' hT' hS' hD'
 refine Ev.rounds ?_
 unfold laws_FnExactDiffUpdates.f
 obtain ⟨s, h1, h2⟩ := szImage_evA R T S D 1048576 (by omega) (by omega) hR.1 hT.1 hS.1 hD.1 (fun x hx => ⟨(hS.2 x hx).1, (hS.2 x hx).2.1⟩)
 refine ev_bind h1 ?_
 by_cases hs : s < 0
 ·exact ev_pos hs (ev_some _)
 ·rcases h2 with h2 | ⟨hs0, hsA, hF⟩
  ·exact absurd h2 hs
  ·refine ev_neg hs ?_
   obtain ⟨s', h1', h2'⟩ := szImage_evA R' T' S' D' s hs0 hsA hR'.1 hT'.1 hS'.1 hD'.1 (fun x hx => ⟨(hS'.2 x hx).1, (hS'.2 x hx).2.1⟩)
   refine ev_bind h1' ?_
   by_cases hs' : s' < 0
   ·exact ev_pos hs' (ev_some _)
   ·rcases h2' with h2' | ⟨_, _, hF'⟩
    ·exact absurd h2' hs'
    ·refine ev_neg hs' ?_
     have hT1 := toImage_ev R T S D hF
     have hE := eqImage_ev R T S D hF
     have hT2 := toImage_ev R' T' S' D' hF'
     have hE2 := eqImage_ev R' T' S' D' hF'
     have hm1 : ∀ (V : List S102), (∀ x ∈ V, x.f0.size ≤ 1048576 ∧ x.f1.length ≤ 1048576) → ∀ x ∈ V.map cvSnap, x.f1.length ≤ 1048576 := by
      intro V hV x hx
      obtain ⟨y, hy, rfl⟩ := List.mem_map.1 hx
      exact (hV y hy).2
     have hX : Sm R T (S.map cvSnap) D := ⟨hF.hR, hF.hT, by rw [List.length_map]; exact hF.hS, hF.hD, cv_fits hF.hs⟩
     have hX' : Sm R' T' (S'.map cvSnap) D' := ⟨hF'.hR, hF'.hT, by rw [List.length_map]; exact hF'.hS, hF'.hD, cv_fits hF'.hs⟩
     obtain ⟨mk, hM, hM0, hM1⟩ := markImage_evA R T (S.map cvSnap) D 1 (by omega) (by omega) hX.hR hX.hT hX.hS hX.hD (hm1 S hF.hs)
     obtain ⟨mk', hM', hM0', hM1'⟩ := markImage_evA R' T' (S'.map cvSnap) D' mk (by omega) (by omega) hX'.hR hX'.hT hX'.hS hX'.hD (hm1 S' hF'.hs)
     have hP := spec_ev hX hX'
     have hI := impl_ev hX hX'
     have hr := res_len R T (S.map cvSnap) D R' T' (S'.map cvSnap) D'
     generalize res R T (S.map cvSnap) D R' T' (S'.map cvSnap) D' = r at hP hI hr
     clear hX hX' hm1
     generalize S.map cvSnap = S1 at hT1 hE hM hP hI
     generalize S'.map cvSnap = S2 at hT2 hE2 hM' hP hI
     have hQ := eqUpdateS_ev r.1 (by omega)
     have hK := markUpdateS_ev r.1 1 (by omega) (by omega) (by omega)
     have hH := heldUpdateS_ev r.1.length 1 (by omega) (by omega) (by omega)
     exact (ev_bind hT1 (ev_bind hT2 (ev_bind hP (ev_bind hT1 (ev_bind hT2 (ev_bind hI (ev_bind hQ (ev_pos rfl (ev_pos rfl (ev_bind hT1 (ev_bind hE (ev_pos rfl (ev_bind hT2 (ev_bind hE2 (ev_pos rfl (ev_bind hM (ev_bind hM' (ev_neg (by omega) (ev_bind hQ (ev_pos rfl (ev_bind hK (ev_bind hH (ev_neg (by omega) (ev_pos rfl (ev_bind hT1 (ev_bind hT2 (ev_bind hI (ev_bind hQ (ev_pos rfl (ev_pos rfl (ev_bind hH (ev_neg (by omega) (ev_pos rfl (ev_some _))))))))))))))))))))))))))))))))))

end Go.Proofs.YtglcnnmobkocmaaGreat.Q.FnExactDiffUpdates
