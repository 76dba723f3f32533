import Derived.Test.YtnibgibjfpbagaaGreatStFnCheck
namespace Go.Proofs.YtnibgibjfpbagaaGreat.Q.FnCheck
open Go.RowKit Go.Proofs.YtnibgibjfpbagaaGreat.Ext Go.Proofs.YtnibgibjfpbagaaGreat.Q Go.Proofs.YtnibgibjfpbagaaGreatW.PrintWords Go.Proofs.YtnibgibjfpbagaaGreatW.PrintLast Go.Proofs.YtnibgibjfpbagaaGreatW.PrintMore
set_option linter.unusedVariables false
set_option linter.unusedSimpArgs false
def pkW (R T : List Int) (S : List S66) (i : Nat) : Bool := rd R (i : Int) != rd (counts T S) (i : Int)
def resW (R T : List Int) (S : List S66) (D : List Int) : List Int × Int := if near R T S D = true then (sel (pkW R T S) 24, 0) else ([], 1)
def pkL (R T : List Int) (S : List S66) (i : Nat) : Bool := decide (rd (counts T S) (i : Int) < rd R (i : Int))
def resL (R T : List Int) (S : List S66) (D : List Int) : List Int × Int := if near R T S D = true then (sel (pkL R T S) 24, 0) else ([], 1)
theorem impl_evW (R T : List Int) (S : List S66) (D : List Int) (hT : T.length ≤ 1000000000) (hS : S.length ≤ 1000000000) (hs : ∀ x ∈ S, x.f0.size ≤ 1000000000 ∧ x.f1.length ≤ 1000000000) :
    Ev (fun k => impl_WrongRefs.f k R T S D) (resW R T S D) := by
  unfold impl_WrongRefs.f resW
  refine ev_bind (a := if near R T S D = true then (sel (pkW R T S) 24, 0) else ([], 1)) ?_ (ev_some _)
  unfold impl_Image_wrong_14.f
  refine ev_bind (impl_near_ev R T S D hT hS hs) ?_
  cases hn : near R T S D
  · exact ev_neg (by decide) (ev_some _)
  · obtain ⟨n1, n2, n3, n4⟩ := near_tabs hn
    refine ev_pos rfl (ev_bind (impl_count_ev R T S D n2 n3) ?_)
    have hcl := counts_length T S
    refine ev_down (g := fun k i => impl_Image_wrong_14.l0 k (sel (pkW R T S) i) (counts T S) ((counts T S).length : Int) (i : Int) R T S D) 24 ?_ ?_
    · refine Ev.step (f := fun _ => some (sel (pkW R T S) 24, 0)) (fun k => ?_) (ev_some _)
      simp only [impl_Image_wrong_14.l0]; rw [if_neg (by omega)]
    · intro i hi h
      have hsl := sel_length (pkW R T S) i
      rw [sel_succ] at h
      refine Ev.succ ?_
      simp only [impl_Image_wrong_14.l0]
      refine ev_pos (by omega) (ev_pos (by omega) (ev_pos (by omega) (ev_pos (by omega) ?_)))
      rw [wnext i (by omega)]
      refine ev_bind (a := pkW R T S i) (ev_of_eq fun _ => by simp only [impl_WrongRefs_1.f]; rfl) ?_
      by_cases c : pkW R T S i = true
      · rw [if_pos c] at h; exact ev_pos c (ev_pos (by omega) h)
      · rw [if_neg c] at h; exact ev_neg c h
theorem impl_evL (R T : List Int) (S : List S66) (D : List Int) (hT : T.length ≤ 1000000000) (hS : S.length ≤ 1000000000) (hs : ∀ x ∈ S, x.f0.size ≤ 1000000000 ∧ x.f1.length ≤ 1000000000) :
    Ev (fun k => impl_Leaks.f k R T S D) (resL R T S D) := by
  unfold impl_Leaks.f resL
  refine ev_bind (a := if near R T S D = true then (sel (pkL R T S) 24, 0) else ([], 1)) ?_ (ev_some _)
  unfold impl_Image_wrong_17.f
  refine ev_bind (impl_near_ev R T S D hT hS hs) ?_
  cases hn : near R T S D
  · exact ev_neg (by decide) (ev_some _)
  · obtain ⟨n1, n2, n3, n4⟩ := near_tabs hn
    refine ev_pos rfl (ev_bind (impl_count_ev R T S D n2 n3) ?_)
    have hcl := counts_length T S
    refine ev_down (g := fun k i => impl_Image_wrong_17.l0 k (sel (pkL R T S) i) (counts T S) ((counts T S).length : Int) (i : Int) R T S D) 24 ?_ ?_
    · refine Ev.step (f := fun _ => some (sel (pkL R T S) 24, 0)) (fun k => ?_) (ev_some _)
      simp only [impl_Image_wrong_17.l0]; rw [if_neg (by omega)]
    · intro i hi h
      have hsl := sel_length (pkL R T S) i
      rw [sel_succ] at h
      refine Ev.succ ?_
      simp only [impl_Image_wrong_17.l0]
      refine ev_pos (by omega) (ev_pos (by omega) (ev_pos (by omega) (ev_pos (by omega) ?_)))
      rw [wnext i (by omega)]
      refine ev_bind (a := pkL R T S i) (ev_of_eq fun _ => by simp only [impl_Leaks_1.f]; rfl) ?_
      by_cases c : pkL R T S i = true
      · rw [if_pos c] at h; exact ev_pos c (ev_pos (by omega) h)
      · rw [if_neg c] at h; exact ev_neg c h
theorem impl_cr (R T : List Int) (S : List S66) (D : List Int) (hT : T.length ≤ 1000000000) (hS : S.length ≤ 1000000000) (hs : ∀ x ∈ S, x.f0.size ≤ 1000000000 ∧ x.f1.length ≤ 1000000000) (hn : near R T S D = true) :
    Ev (fun k => impl_CountRefs.f k R T S D) (counts T S, 0) := by
  unfold impl_CountRefs.f
  obtain ⟨n1, n2, n3, n4⟩ := near_tabs hn
  have h := impl_near_ev R T S D hT hS hs
  rw [hn] at h
  exact ev_bind h (ev_pos rfl (ev_bind (impl_count_ev R T S D n2 n3) (ev_some _)))
theorem same_ev (l : List Int) (hl : l.length ≤ 1000000000) : Ev (fun k => laws_sameInts.f k l l) true := by
  unfold laws_sameInts.f
  refine ev_pos rfl ?_
  refine ev_loop (g := fun k i => laws_sameInts.l0 k l l (i : Int)) l.length ?_ ?_ l.length 0 (by omega) (by omega)
  · refine Ev.step (f := fun _ => some true) (fun k => ?_) (ev_some _)
    simp only [laws_sameInts.l0]; rw [if_neg (by omega)]
  · intro i hi
    refine ⟨1, fun k => ⟨?_, by omega⟩⟩
    simp only [laws_sameInts.l0]
    rw [if_pos (by omega), if_pos (by omega), if_pos (by omega), if_pos trivial, wnext i (by omega)]
theorem sel_none (P : Nat → Bool) (n : Nat) (h : ∀ i, i < n → P i = false) : sel P n = [] := by
  induction n with
  | zero => rfl
  | succ n ih =>
    rw [sel_succ, h n (by omega), ih (fun i hi => h i (by omega))]; rfl
theorem sel_one (P : Nat → Bool) (n c : Nat) (hc : c < n) (h : ∀ i, i < n → P i = decide (i = c)) : sel P n = [(c : Int)] := by
  induction n with
  | zero => omega
  | succ n ih =>
    rw [sel_succ, h n (by omega)]
    by_cases hn : n = c
    · subst hn
      rw [sel_none P n (fun i hi => by rw [h i (by omega)]; exact decide_eq_false (by omega))]
      simp
    · rw [if_neg (by simpa using hn)]
      exact ih (by omega) (fun i hi => h i (by omega))
theorem pure : st := by
  intro c m hc hm
  refine Ev.rounds ?_
  have hc' := bytes_of (l := c) (fun x hx => hc.2 x hx)
  have hm' := bytes_of (l := m) (fun x hx => hm.2 x hx)
  unfold laws_FnCheck.f
  by_cases l1 : (c.length : Int) > 1048576
  · exact ev_pos l1 (ev_some _)
  refine ev_neg l1 ?_
  by_cases l2 : (m.length : Int) > 1048576
  · exact ev_pos l2 (ev_some _)
  refine ev_neg l2 ?_
  obtain ⟨R, T, S, D, hI, hR⟩ := image_ok c hc' (by omega)
  refine ev_bind hI ?_
  have hr := hR.w.r; have hd := hR.w.d; have ht := hR.t.l; have hl := hR.l
  have hs : ∀ x ∈ S, x.f0.size ≤ 1000000000 ∧ x.f1.length ≤ 1000000000 := fun x hx => by have h1 := (hR.s x hx).1.l; have h2 := (hR.s x hx).2.2; omega
  have hN := hR.near
  have hC := hR.counts
  have hW := impl_evW R T S D (by omega) (by omega) hs
  have e1 : resW R T S D = ([], 0) := by
    unfold resW
    rw [if_pos hN, sel_none]
    intro i hi
    unfold pkW
    rw [← hC]; simp
  rw [e1] at hW
  refine ev_bind hW ?_
  obtain ⟨x, hx, x0, -, x1⟩ := at_ok m hm' 0 (by omega) (by omega) 24
  have x1' := x1 (by omega)
  refine ev_bind (ev_of_eq fun _ => hx) ?_
  obtain ⟨j, rfl⟩ : ∃ j : Nat, x = (j : Int) := ⟨x.toNat, by omega⟩
  have hj : j < 24 := by omega
  have hCR := impl_cr R T S D (by omega) (by omega) hs hN
  rw [← hC] at hCR
  refine ev_bind hCR (ev_pos rfl (ev_pos rfl (ev_pos rfl (ev_bind (same_ev R (by omega)) (ev_pos rfl (ev_bind (ev_some _) ?_))))))
  have hrj := hR.w.c j hj
  have hfj := hR.few j hj
  simp only [List.nil_append, List.length_nil]
  refine ev_pos (by omega) (ev_bind (ev_some _) (ev_pos (by omega) (ev_pos (by omega) (ev_bind (ev_some _) ?_))))
  rw [w64 (n := rd R (j : Int) + 1) (by omega) (by omega), Int.toNat_natCast]
  have hb : ∀ i : Nat, i < 24 → rd (R.set j (rd R (j : Int) + 1)) (i : Int) = if j = i then rd R (j : Int) + 1 else rd R (i : Int) := fun i hi => rd_set R j i _ (by omega)
  have hbl : (R.set j (rd R (j : Int) + 1)).length = 24 := by rw [List.length_set]; exact hr
  have hbm : ∀ y ∈ R.set j (rd R (j : Int) + 1), 0 ≤ y ∧ y ≤ 15 := by
    intro y hy
    rcases List.mem_or_eq_of_mem_set hy with hy | rfl
    · have := hR.mem y hy; omega
    · omega
  generalize R.set j (rd R (j : Int) + 1) = B at hb hbl hbm
  have hBN := near_of hbl hbm hR.t hR.s hR.l hR.u hR.w.d hR.w.n
  have hBW := impl_evW B T S D (by omega) (by omega) hs
  have hBL := impl_evL B T S D (by omega) (by omega) hs
  have e2 : resW B T S D = ([(j : Int)], 0) := by
    unfold resW
    rw [if_pos hBN, sel_one _ 24 j hj]
    intro i hi
    unfold pkW
    rw [← hC, hb i hi]
    by_cases hij : i = j
    · subst hij; rw [if_pos rfl, decide_eq_true rfl]; simp; omega
    · rw [if_neg (fun h => hij h.symm), decide_eq_false hij]; simp
  have e3 : resL B T S D = ([(j : Int)], 0) := by
    unfold resL
    rw [if_pos hBN, sel_one _ 24 j hj]
    intro i hi
    unfold pkL
    rw [← hC, hb i hi]
    by_cases hij : i = j
    · subst hij; rw [if_pos rfl, decide_eq_true rfl]; simp; omega
    · rw [if_neg (fun h => hij h.symm), decide_eq_false hij]; simp
  rw [e2] at hBW
  rw [e3] at hBL
  have hBI := impl_ImageOK_ev B T S D (by omega) (by omega) hs
  have e4 : imgOK B T S D = false := by
    unfold imgOK
    rw [hBN, ← hC, decide_eq_false (fun h : B = R => by have := hb j hj; rw [if_pos rfl, h] at this; omega)]; rfl
  rw [e4] at hBI
  have hsj := same_ev [(j : Int)] (by simp)
  exact ev_bind hBW (ev_bind hBL (ev_pos rfl (ev_bind hsj (ev_pos rfl (ev_pos rfl (ev_bind hsj (ev_pos rfl (ev_bind hBI (ev_some _)))))))))

end Go.Proofs.YtnibgibjfpbagaaGreat.Q.FnCheck
