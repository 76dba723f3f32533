/- laws.FnUpdates answers true, for every input within the bounds that any input that came in has. -/
import Derived.Test.YtajflpcihblkfaaStFnUpdates
namespace Go.Proofs.Ytajflpcihblkfaa.Q.FnUpdates
open Go.RowKit Go.Proofs.Ytajflpcihblkfaa.Ext Go.Proofs.Ytajflpcihblkfaa.Q Go.Proofs.YtajflpcihblkfaaW.PrintWords Go.Proofs.YtajflpcihblkfaaW.PrintLast Go.Proofs.YtajflpcihblkfaaW.PrintMore
set_option linter.unusedVariables false
set_option linter.unusedSimpArgs false
theorem dec_enc (a : Int) (d : ByteArray) (h : updateOK a d = true) : decUpdate (sealP 8 [a] ++ d) = (a, d, 0) := by
  have hu := h
  unfold updateOK at hu
  simp only [Bool.and_eq_true, decide_eq_true_eq] at hu
  have h1 := inB_iff.1 hu.1
  have hz : (sealP 8 [a]).size = 8 := sealP_size _ _
  have hh : updHead (sealP 8 [a] ++ d) = sealP 8 [a] := by
    unfold updHead
    rw [← hz]
    exact ByteArray.extract_append_eq_left rfl
  have hb : updBody (sealP 8 [a] ++ d) = d := by
    unfold updBody
    rw [ba_size_append, ← hz]
    exact ByteArray.extract_append_eq_right rfl rfl
  have hr := recNums_seal 8 [a] (fun x hx => by rw [List.mem_singleton.1 hx]; omega)
  have hk := recOK_seal 8 [a] rfl (by simp) (fun x hx => by rw [List.mem_singleton.1 hx]; omega)
  have hi : isUpdate (sealP 8 [a] ++ d) = true := by
    unfold isUpdate
    rw [hh, hb, hr, hk]
    have e : rd [a] 0 = a := rfl
    rw [e, h, decide_eq_true (show 8 ≤ (sealP 8 [a] ++ d).size by rw [ba_size_append]; omega)]; rfl
  unfold decUpdate
  rw [if_neg (by rw [ba_size_append]; omega), if_pos hi, hh, hb, hr]; rfl
theorem slot_eq (h : Int) (h0 : 0 ≤ h) (h1 : h ≤ 3) : impl_SlotOf.f h = some (39 + 6 * h, 0) := by
  unfold impl_SlotOf.f impl_isHost.f impl_slot.f
  simp only [within_eq, Option.bind_some]
  rw [inB_iff.2 ⟨h0, h1⟩, if_pos rfl, w64 (n := 6 * h) (by omega) (by omega), w64 (by omega) (by omega)]
theorem pure : st := by
  intro c m hc hm
  refine Ev.rounds ?_
  have hc' := bytes_of (l := c) (fun x hx => hc.2 x hx)
  have hm' := bytes_of (l := m) (fun x hx => hm.2 x hx)
  have key : ∀ b, Ev (fun k => laws_FnUpdates.j0 k c m b) true := by
    intro b
    refine Ev.succ ?_
    simp only [laws_FnUpdates.j0]
    cases b
    · simp only [Bool.false_eq_true, if_false]
      obtain ⟨L, hL, hl, hu⟩ := updates_drawn c hc'
      refine ev_bind hL ?_
      refine ev_down (g := fun k i => laws_FnUpdates.l0 k m L (i : Int)) L.length ?_ ?_
      · refine Ev.succ ?_
        simp only [laws_FnUpdates.l0]
        refine ev_neg (by omega) ?_
        obtain ⟨n, en, n0, -, n1⟩ := at_ok m hm' 0 (by omega) (by omega) 3
        have n1' := n1 (by omega)
        have hw : wrap64 (n + 1) = n + 1 := w64 (by omega) (by omega)
        simp only [en, Option.bind_some, hw, slot_eq n n0 (by omega), slot_eq (n + 1) (by omega) (by omega)]
        rw [w64 (n := 39 + 6 * n + 6) (by omega) (by omega), w64 (n := 39 + 6 * (n + 1) + 6) (by omega) (by omega)]
        rw [if_pos trivial, if_pos trivial, if_pos (by omega), if_pos (by omega), decide_eq_true (by omega)]
        exact ev_some _
      · intro i hi hnext
        refine Ev.succ ?_
        simp only [laws_FnUpdates.l0]
        have hx := updDrawn_ok (hu _ (List.getElem_mem hi))
        rw [rdE_Update L i hi]
        have hI := impl_EncodeUpdate_ev L[i].f0 L[i].f1
        have hS := spec_EncodeUpdate_ev L[i].f0 L[i].f1
        rw [hx, if_pos rfl] at hI hS
        have hD := impl_DecodeUpdate_ev (sealP 8 [L[i].f0] ++ L[i].f1)
        rw [dec_enc _ _ hx] at hD
        refine ev_pos (by omega) (ev_pos (by omega) (ev_bind hI (ev_bind hS (ev_bind hD (ev_pos rfl (ev_pos rfl (ev_pos rfl (ev_neg (by simp) ?_))))))))
        rw [wnext i (by omega)]
        exact hnext
    · simp only [if_true]; exact ev_some _
  unfold laws_FnUpdates.f
  by_cases h : (c.length : Int) > 1048576
  · exact ev_pos h (key _)
  · exact ev_neg h (key _)

end Go.Proofs.Ytajflpcihblkfaa.Q.FnUpdates
