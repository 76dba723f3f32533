/- laws.FnExactNewGuest answers true, for every input within the bounds that any input that came in has. -/
import Derived.Test.YtnehachhddfblaaStFnExactNewGuest
namespace Go.Proofs.Ytnehachhddfblaa.Q.FnExactNewGuest
open Go.RowKit Go.Proofs.Ytnehachhddfblaa.Ext Go.Proofs.Ytnehachhddfblaa.Q Go.Proofs.YtnehachhddfblaaW.PrintWords Go.Proofs.YtnehachhddfblaaW.PrintLast Go.Proofs.YtnehachhddfblaaW.PrintMore
set_option linter.unusedVariables false
set_option linter.unusedSimpArgs false
def rows (n : Int) : List Int := if inB n 0 12 = true then List.replicate n.toNat 0 else []
def code (n : Int) : Int := if inB n 0 12 = true then 0 else 4
theorem rows_len (n : Int) : (rows n).length ≤ 12 := by
  unfold rows
  cases h : inB n 0 12
  · simp
  · have := inB_iff.1 h
    simp; omega
theorem spec_eq (n : Int) : spec_NewGuest.f n = some (rows n, [], code n) := by
  unfold spec_NewGuest.f rows code
  rw [l01In_eq, Option.bind_some]
  cases h : inB n 0 12
  · rfl
  · have := inB_iff.1 h
    simp only [if_true]
    rw [if_pos (by omega), if_pos (by omega)]
theorem impl_eq (n : Int) : impl_NewGuest.f n = some (rows n, [], code n) := by
  unfold impl_NewGuest.f impl_isSize.f rows code
  rw [within_eq, Option.bind_some, Option.bind_some]
  cases h : inB n 0 12
  · rfl
  · have := inB_iff.1 h
    simp only [if_true]
    rw [if_pos (by omega), if_pos (by omega)]
theorem pure : st := by
  intro n _
  refine Ev.rounds ?_
  unfold laws_FnExactNewGuest.f
  simp only [spec_eq, impl_eq, Option.bind_some]
  have hl := rows_len n
  have hE : Ev (fun k => laws_eqGuest.f k (rows n) [] (rows n) []) true := by
    unfold laws_eqGuest.f
    refine ev_bind (eqIntS_ev _ (by omega)) (ev_pos rfl (ev_bind (a := true) ?_ (ev_pos rfl (ev_some _))))
    unfold laws_eqShotS.f
    refine ev_pos rfl (Ev.succ ?_)
    simp only [laws_eqShotS.l0]
    exact ev_neg (by simp) (ev_some _)
  have hM : Ev (fun k => laws_markGuest.f k (rows n) [] 1) (1 + ((rows n).length : Int), countUp 1 (rows n).length) := by
    unfold laws_markGuest.f
    exact ev_pos rfl (markIntS_ev _ 1 (by omega) (by omega))
  have hH : Ev (fun k => laws_heldGuest.f k (countUp 1 (rows n).length) [] 1) (1 + ((rows n).length : Int)) := by
    unfold laws_heldGuest.f
    refine ev_bind (heldIntS_ev _ 1 (by omega) (by omega)) (ev_neg (by omega) (ev_bind (a := 1 + ((rows n).length : Int)) ?_ (ev_neg (by omega) (ev_some _))))
    unfold laws_heldShotS.f
    refine Ev.succ ?_
    simp only [laws_heldShotS.l0]
    exact ev_neg (by simp) (ev_some _)
  refine ev_bind hE (ev_pos rfl (Ev.succ ?_))
  simp only [laws_FnExactNewGuest.j0, impl_eq, Option.bind_some]
  refine ev_neg (by simp) (ev_bind hM (ev_bind hH (ev_neg (by omega) (ev_pos rfl (ev_bind hE (ev_pos rfl (Ev.succ ?_)))))))
  simp only [laws_FnExactNewGuest.j1]
  exact ev_neg (by simp) (ev_bind hH (ev_neg (by omega) (ev_pos rfl (ev_some _))))

end Go.Proofs.Ytnehachhddfblaa.Q.FnExactNewGuest
