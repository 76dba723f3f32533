/- laws.FnReqText answers true, for every input within the bounds that any input that came in has. -/
import Derived.Test.YtniceoohmhjjlaaDoorStFnReqText
namespace Go.Proofs.YtniceoohmhjjlaaDoor.Q.FnReqText
open Go.RowKit Go.Proofs.YtniceoohmhjjlaaDoor.Ext Go.Proofs.YtniceoohmhjjlaaDoor.Q Go.Proofs.YtniceoohmhjjlaaDoorW.PrintWords Go.Proofs.YtniceoohmhjjlaaDoorW.PrintLast Go.Proofs.YtniceoohmhjjlaaDoorW.PrintMore
set_option linter.unusedVariables false
set_option linter.unusedSimpArgs false
theorem pure : st := by
  intro l hl
  obtain ⟨_, hx⟩ := hl
  refine Ev.rounds ?_
  unfold laws_FnReqText.f
  by_cases hc : (l.length : Int) > 1048576
  · exact ev_pos hc (ev_some _)
  · obtain ⟨a, b, c, s, hE, hk, ht⟩ := req_ok l (bytes_of hx)
    obtain ⟨r, e1, e2, hg, hq, hz⟩ := txt_words hk ht
    obtain ⟨h0, h1, _⟩ := okQ_facts hk
    have hres : res a b c s = (txt a b c s, 0) := by unfold res; rw [if_pos hk, if_pos ht]
    have hI := impl_ev a b c s
    have hS := spec_ev a b c s
    rw [hres] at hI hS
    obtain ⟨R, _, hR, fR⟩ := readReq_both (txt a b c s)
    obtain ⟨R2, _, hR2, fR2⟩ := readReq_both (txt a b c s ++ (⟨#[32, 120, 32, 121]⟩ : ByteArray))
    have w1 : ws (txt a b c s) = wd a :: r := by rw [e1]; exact ws_jr r _ (gw_wd h0 h1) hg
    have w2 : ws (txt a b c s ++ (⟨#[32, 120, 32, 121]⟩ : ByteArray)) = wd a :: (r ++ XY) := by
      rw [e2]; exact ws_jr _ _ (gw_wd h0 h1) (fun x hx => (List.mem_append.1 hx).elim (hg x) (gw_XY x))
    have z4 : (⟨#[32, 120, 32, 121]⟩ : ByteArray).size = 4 := rfl
    have r1 := (fR (by omega)).1 a b c s (by rw [w1]; exact hq)
    have r2 := (fR2 (by rw [ba_size_append, z4]; omega)).2 (by rw [w2]; exact no_more hq)
    subst r1
    refine ev_neg hc (ev_bind hE (ev_bind hI (ev_bind hS (ev_bind hR (ev_pos (by show (txt a b c s).size + 4 ≤ _; omega) (ev_bind hR2 (ev_pos rfl (ev_pos rfl (ev_pos rfl (ev_pos (by simp) ?_))))))))))
    rw [r2]; exact ev_some _

end Go.Proofs.YtniceoohmhjjlaaDoor.Q.FnReqText
