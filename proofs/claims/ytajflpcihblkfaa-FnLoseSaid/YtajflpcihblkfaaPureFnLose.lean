/- laws.FnLose answers true, for every input within the bounds that any input that came in has. -/
import Derived.Test.YtajflpcihblkfaaStFnLose
namespace Go.Proofs.Ytajflpcihblkfaa.Q.FnLose
open Go.RowKit Go.Proofs.Ytajflpcihblkfaa.Ext Go.Proofs.Ytajflpcihblkfaa.Q Go.Proofs.YtajflpcihblkfaaW.PrintWords Go.Proofs.YtajflpcihblkfaaW.PrintLast Go.Proofs.YtajflpcihblkfaaW.PrintMore
set_option linter.unusedVariables false
set_option linter.unusedSimpArgs false
theorem lose_loop {D : List ByteArray} {P : List S92} (hok : diskOK D P = true) {a : Int} (a0 : 0 ≤ a) (a1 : a ≤ 3) (q m : Nat) (hm : m = min q (countOf a P)) : ∀ d j, j + d = m →
    Ev (fun k => laws_FnLose.l0 k a (q : Int) ((countOf a P : Nat) : Int) (j : Int) (landS a P j D) (landP a false P j)) (landS a P m D, landP a false P m) := by
  have hcl := count_le a P
  have hpl := (disk_in hok).2.1
  intro d
  induction d with
  | zero =>
    intro j hj
    have e : j = m := by omega
    subst e
    refine Ev.step (f := fun _ => some (landS a P j D, landP a false P j)) (fun k => ?_) (ev_some _)
    simp only [laws_FnLose.l0]
    by_cases c : (j : Int) < (q : Int)
    · rw [if_pos c, if_neg (by omega)]
    · rw [if_neg c]
  | succ d ih =>
    intro j hj
    have h1 := landOne_ev (land_ok hok a j false) a0 a1 (by rw [count_landP]; omega)
    rw [landS_step, landP_step] at h1
    refine Ev.succ ?_
    simp only [laws_FnLose.l0]
    refine ev_pos (by omega) (ev_pos (by omega) (ev_bind h1 (ev_pos rfl ?_)))
    rw [wnext j (by omega)]
    exact ih (j + 1) (by omega)
theorem pure : st := by
  intro c m hc hm
  refine Ev.rounds ?_
  have hc' := bytes_of (l := c) (fun x hx => hc.2 x hx)
  have hm' := bytes_of (l := m) (fun x hx => hm.2 x hx)
  unfold laws_FnLose.f
  by_cases g1 : (c.length : Int) > 1048576
  · exact ev_pos g1 (ev_some _)
  · refine ev_neg g1 ?_
    by_cases g2 : (m.length : Int) > 1048576
    · exact ev_pos g2 (ev_some _)
    · refine ev_neg g2 ?_
      obtain ⟨D, P, hD, hok, hP⟩ := disk_drawn c hc'
      obtain ⟨d1, d2, d3, d4⟩ := disk_in hok
      obtain ⟨a, ea, a0, -, a1⟩ := at_ok m hm' 0 (by omega) (by omega) 4
      have a1' : a ≤ 3 := by have := a1 (by omega); omega
      obtain ⟨q, eq, q0, -, q1⟩ := at_ok m hm' 1 (by omega) (by omega) 6
      have q1' := q1 (by omega)
      obtain ⟨j, rfl⟩ : ∃ j : Nat, q = (j : Int) := ⟨q.toNat, by omega⟩
      have hcl := count_le a P
      have eL := lose_eq hok a0 a1' j (by omega)
      have sL := lose_spec hok a0 a1' j (by omega)
      have hN := pending_ev hok a0 a1'
      have hX := land_ok hok a j true
      have hNX := pending_ev hX a0 a1'
      rw [landP_true, count_filter] at hNX
      obtain ⟨i, hi⟩ : ∃ i, i = min j (countOf a P) := ⟨_, rfl⟩
      have hY := lose_loop hok a0 a1' j i hi i 0 (by omega)
      rw [landS0, landP0] at hY
      have hYok := land_ok hok a i false
      have eG := lose_eq hYok a0 a1' 0 (by omega)
      have hS : landS a P i D = landS a P j D := by
        by_cases h : j ≤ countOf a P
        · rw [show i = j by omega]
        · exact landS_more a P i j D (by omega) (by omega)
      have eG2 : impl_LoseHost.f (landS a P i D) (landP a false P i) a 0 = some (landS a P j D, P.filter (fun x => !(x.f0 == a)), 0) := by
        rw [landS0, landP_true, landP_filter] at eG
        rw [← hS]; exact eG
      rw [landP_true] at eL sL hX
      have hXl := disk_in hX
      refine ev_bind hD ?_
      simp only [ea, eq, eL, Option.bind_some]
      refine ev_bind sL (ev_bind hN (ev_bind hNX (ev_bind hY ?_)))
      simp only [eG2, Option.bind_some]
      refine ev_bind (sameDisk_ev _ _ (by omega) (by omega)) (ev_bind (sameDisk_ev _ _ (by omega) (by omega)) (ev_pos ⟨(by first | rfl | trivial), (by first | rfl | trivial), (by first | rfl | trivial), (by first | rfl | trivial), (by first | rfl | trivial), (by first | rfl | trivial), (by first | rfl | trivial), ?_, ?_⟩ (ev_some _)))
      · have := hXl.1; omega
      · have := filter_count a P
        rw [w64 (by omega) (by omega)]; omega

end Go.Proofs.Ytajflpcihblkfaa.Q.FnLose
