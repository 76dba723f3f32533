/- laws.FnTable answers true, for every input within the bounds that any input that came in has. -/
import Derived.Test.YtajflpcihblkfaaStFnTable
namespace Go.Proofs.Ytajflpcihblkfaa.Q.FnTable
open Go.RowKit Go.Proofs.Ytajflpcihblkfaa.Ext Go.Proofs.Ytajflpcihblkfaa.Q Go.Proofs.YtajflpcihblkfaaW.PrintWords Go.Proofs.YtajflpcihblkfaaW.PrintLast Go.Proofs.YtajflpcihblkfaaW.PrintMore
set_option linter.unusedVariables false
set_option linter.unusedSimpArgs false
theorem isLong_tab {l : List Int} (h : l.length ≤ 12) : impl_isLong_int.f l = some false := by
  unfold impl_isLong_int.f
  rw [decide_eq_false (by omega)]
theorem dec_tab {T : List Int} (h : tableOK T = true) : (sealP 3 T).size = 4 + 4 * T.length ∧ isTable (sealP 3 T) = true ∧ recNums (sealP 3 T) = T := by
  obtain ⟨hl, hx⟩ := table_in h
  have hr := recNums_seal 3 T (fun x hm => by have := hx x hm; omega)
  have hk := recOK_seal 3 T rfl (by omega) (fun x hm => by have := hx x hm; omega)
  refine ⟨sealP_size _ _, ?_, hr⟩
  unfold isTable
  rw [hk, hr, h]; rfl
theorem same_ev (l : List Int) (hl : l.length ≤ 1000000000) : Ev (fun k => laws_sameInts.f k l l) true := by
  unfold laws_sameInts.f
  refine ev_pos rfl ?_
  refine ev_loop (g := fun k i => laws_sameInts.l0 k l l (i : Int)) l.length ?_ ?_ l.length 0 (by omega) (by omega)
  · refine Ev.step (f := fun _ => some true) (fun k => ?_) (ev_some _)
    simp only [laws_sameInts.l0]; rw [if_neg (by omega)]
  · intro i hi
    refine ⟨1, fun k => ⟨?_, by omega⟩⟩
    simp only [laws_sameInts.l0]
    rw [if_pos (by omega), if_pos (by omega), if_pos (by omega), if_pos trivial, wnext i (by omega)]
def rz (T : List Int) (n : Nat) : List Int := T.take n ++ List.replicate (n - T.length) 0
theorem rz_len (T : List Int) (n : Nat) : (rz T n).length = n := by unfold rz; simp; omega
theorem rz_rd (T : List Int) (n i : Nat) (hi : i < n) : rd (rz T n) (i : Int) = if i < T.length then rd T (i : Int) else 0 := by
  unfold rz rd
  rw [Int.toNat_natCast]
  by_cases h : i < T.length
  · rw [if_pos h, List.getD_eq_getElem?_getD, List.getD_eq_getElem?_getD, List.getElem?_append_left (by simp; omega), List.getElem?_take, if_pos hi]
  · rw [if_neg h, List.getD_eq_getElem?_getD, List.getElem?_append_right (by simp; omega), List.getElem?_replicate]
    split <;> rfl
theorem rz_ok {T : List Int} (h : tableOK T = true) (n : Nat) (hn : n ≤ 12) : tableOK (rz T n) = true := by
  obtain ⟨hl, hx⟩ := table_in h
  refine table_of (by rw [rz_len]; omega) (fun x hm => ?_)
  unfold rz at hm
  rcases List.mem_append.1 hm with hm | hm
  · exact hx x (List.mem_of_mem_take hm)
  · rw [(List.mem_replicate.1 hm).2]; omega
theorem entry_eq {X : List Int} (h : tableOK X = true) (i : Nat) (hi : i < X.length) : impl_EntryOf.f X (i : Int) = some (mn (rd X (i : Int)) 2, mx (rd X (i : Int) - 2) 0, 0) := by
  obtain ⟨hl, hx⟩ := table_in h
  have hv : 0 ≤ rd X (i : Int) ∧ rd X (i : Int) ≤ 25 := by rw [rdn X i hi]; exact hx _ (List.getElem_mem hi)
  unfold impl_EntryOf.f
  rw [isLong_tab hl]
  simp only [impl_TableOK_eq, h, within_eq, Option.bind_some]
  rw [w64 (n := (X.length : Int) - 1) (by omega) (by omega), inB_iff.2 ⟨by omega, by omega⟩]
  simp only [first3, Bool.not_true, Bool.false_eq_true, if_false, Option.bind_some, if_true]
  rw [if_pos (by omega), if_pos (by omega), w64 (n := rd X (i : Int) - 2) (by omega) (by omega)]
theorem pure : st := by
  intro c m hc hm
  refine Ev.rounds ?_
  have hc' := bytes_of (l := c) (fun x hx => hc.2 x hx)
  have hm' := bytes_of (l := m) (fun x hx => hm.2 x hx)
  have key : ∀ b, Ev (fun k => laws_FnTable.j0 k c m b) true := by
    intro b
    refine Ev.succ ?_
    simp only [laws_FnTable.j0]
    cases b
    · simp only [Bool.false_eq_true, if_false]
      obtain ⟨T, hT, hok⟩ := table_drawn c hc'
      obtain ⟨hl, hx⟩ := table_in hok
      obtain ⟨hz, hisT, hrec⟩ := dec_tab hok
      have hI : Ev (fun k => impl_EncodeTable.f k T) (sealP 3 T, 0) := by
        unfold impl_EncodeTable.f
        simp only [isLong_tab hl, impl_TableOK_eq, hok, Option.bind_some, first2, Bool.not_true, Bool.false_eq_true, if_false, if_true]
        exact ev_bind (impl_seal_ev 3 T (by omega)) (ev_some _)
      have hS : Ev (fun k => spec_EncodeTable.f k T) (sealP 3 T, 0) := by
        unfold spec_EncodeTable.f
        refine ev_neg (by omega) ?_
        have := spec_TableOK_ev T (by omega)
        rw [hok] at this
        exact ev_bind this (ev_pos rfl (ev_bind (ev_bind (spec_seal_ev 3 T (by omega)) (ev_some _)) (ev_some _)))
      have hD : Ev (fun k => impl_DecodeTable.f k (sealP 3 T)) (T, 0) := by
        unfold impl_DecodeTable.f
        refine ev_bind (impl_tableOf_ev _ (by omega)) ?_
        have hlong : ¬ ((sealP 3 T).size : Int) > 65536 := by omega
        simp only [isLongText_eq, Option.bind_some, first2, hisT, isTable_openL hisT, hrec, hlong, decide_false, Bool.false_eq_true, if_false, Bool.not_true, if_true]
        exact ev_some _
      obtain ⟨n, en, n0, -, n1⟩ := at_ok m hm' 0 (by omega) (by omega) 13
      have n1' := n1 (by omega)
      obtain ⟨j, rfl⟩ : ∃ j : Nat, n = (j : Int) := ⟨n.toNat, by omega⟩
      have hR : impl_ResizeTable.f T (j : Int) = some (rz T j, 0) := by
        unfold impl_ResizeTable.f impl_resized.f
        rw [isLong_tab hl]
        simp only [impl_TableOK_eq, hok, within_eq, Option.bind_some]
        rw [inB_iff.2 ⟨by omega, by omega⟩]
        simp only [first3, Bool.not_true, Bool.false_eq_true, if_false, Option.bind_some, if_true]
        rw [if_pos ⟨by omega, by omega⟩, Int.toNat_natCast]; rfl
      have hC : Ev (fun k => impl_ClustersOf.f k T) (clu T, 0) := by
        unfold impl_ClustersOf.f
        simp only [isLong_tab hl, impl_TableOK_eq, hok, Option.bind_some, first2, Bool.not_true, Bool.false_eq_true, if_false, if_true]
        exact ev_bind (impl_clu_ev T (by omega)) (ev_some _)
      have hCS : Ev (fun k => spec_ClustersOf.f k T) (clu T, 0) := by
        unfold spec_ClustersOf.f
        refine ev_neg (by omega) ?_
        have := spec_TableOK_ev T (by omega)
        rw [hok] at this
        exact ev_bind this (ev_pos rfl (ev_bind (spec_clu_ev T (by omega)) (ev_some _)))
      have hcl := clu_length T
      refine ev_bind hT (ev_bind hI (ev_bind hS (ev_bind hD ?_)))
      simp only [en, hR, Option.bind_some, rz_len]
      refine ev_bind hC (ev_bind hCS (ev_pos (by first | rfl | trivial) (ev_pos (by first | rfl | trivial) (ev_pos (by first | rfl | trivial) (ev_bind (same_ev T (by omega)) (ev_pos (by first | rfl | trivial) (ev_pos (by first | rfl | trivial) (ev_pos (by first | rfl | trivial) (ev_pos (by first | rfl | trivial) (ev_bind (same_ev (clu T) (by omega)) (Ev.succ ?_)))))))))))
      simp only [laws_FnTable.j1]
      refine ev_neg (by decide) ?_
      refine ev_down (g := fun k i => laws_FnTable.l0 k T (j : Int) (rz T j) (i : Int)) j ?_ ?_
      · refine Ev.step (f := fun _ => some true) (fun k => ?_) (ev_some _)
        simp only [laws_FnTable.l0]; rw [if_neg (by omega)]
      · intro i hi hnext
        have hb := rz_ok hok j (by omega)
        have he := entry_eq hb i (by rw [rz_len]; exact hi)
        have hq := (table_in hb).2 (rd (rz T j) (i : Int)) (by rw [rdn _ i (by rw [rz_len]; exact hi)]; exact List.getElem_mem _)
        refine Ev.succ ?_
        simp only [laws_FnTable.l0, he, Option.bind_some]
        refine ev_pos (by omega) ?_
        rw [rz_rd T j i hi] at hq ⊢
        by_cases hlt : i < T.length
        · rw [if_pos hlt] at hq ⊢
          generalize rd T (i : Int) = v at hq ⊢
          rw [wnext i (by omega), w64 (n := v - 2) (by omega) (by omega)]
          refine ev_pos (by omega) (ev_pos (by omega) (ev_pos (by first | rfl | trivial) (ev_pos (by first | rfl | trivial) ?_)))
          by_cases h2 : mn v 2 = 2
          · exact ev_pos h2 (ev_pos (by unfold mn at h2; unfold mx; omega) hnext)
          · exact ev_neg h2 (ev_pos (by unfold mn at h2; unfold mx; omega) hnext)
        · rw [if_neg hlt]
          rw [wnext i (by omega)]
          exact ev_neg (by omega) (ev_pos (by first | rfl | trivial) (ev_pos (by first | rfl | trivial) (ev_neg (by decide) (ev_pos (by decide) hnext))))
    · simp only [if_true]; exact ev_some _
  unfold laws_FnTable.f
  by_cases h : (c.length : Int) > 1048576
  · exact ev_pos h (key _)
  · exact ev_neg h (key _)

end Go.Proofs.Ytajflpcihblkfaa.Q.FnTable
