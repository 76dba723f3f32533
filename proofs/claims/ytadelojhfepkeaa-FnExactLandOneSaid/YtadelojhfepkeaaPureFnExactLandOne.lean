/- laws.FnExactLandOne answers true, for every input within the bounds that any input that came in has. -/
import Derived.Test.YtadelojhfepkeaaStFnExactLandOne
namespace Go.Proofs.Ytadelojhfepkeaa.Q.FnExactLandOne
open Go.RowKit Go.Proofs.Ytadelojhfepkeaa.Ext Go.Proofs.Ytadelojhfepkeaa.Q Go.Proofs.YtadelojhfepkeaaW.PrintWords Go.Proofs.YtadelojhfepkeaaW.PrintLast Go.Proofs.YtadelojhfepkeaaW.PrintMore
set_option linter.unusedVariables false
set_option linter.unusedSimpArgs false
def countOf (host : Int) (l : List S76) : Nat := (l.filter (fun x => x.f0 == host)).length
theorem count_take (host : Int) (l : List S76) (i : Nat) (h : i < l.length) : countOf host (l.take (i + 1)) = if l[i].f0 = host then countOf host (l.take i) + 1 else countOf host (l.take i) := by
  unfold countOf
  rw [List.take_succ_eq_append_getElem h, List.filter_append, List.length_append]
  by_cases c : l[i].f0 = host
  · rw [if_pos c]; simp [c]
  · rw [if_neg c]; simp [c]
theorem count_le (host : Int) (l : List S76) : countOf host l ≤ l.length := by unfold countOf; exact List.length_filter_le _ _
theorem count_take_le (host : Int) (l : List S76) (i : Nat) : countOf host (l.take i) ≤ l.length := Nat.le_trans (count_le _ _) (by simp; omega)
theorem spec_count_ev (d : List ByteArray) (l : List S76) (a : Int) (hl : l.length ≤ 1048576) : Ev (fun k => spec_l01Count.f k d l a) ((countOf a l : Nat) : Int) := by
  unfold spec_l01Count.f
  have h := ev_loop (g := fun k i => spec_l01Count.l0 k a ((countOf a (l.take i) : Nat) : Int) (i : Int) d l) (r := ((countOf a l : Nat) : Int)) l.length ?_ ?_ l.length 0 (by omega) (by omega)
  · simpa [countOf] using h
  · refine Ev.step (f := fun _ => some ((countOf a l : Nat) : Int)) (fun k => ?_) (ev_some _)
    simp only [spec_l01Count.l0]; rw [if_neg (by omega), List.take_of_length_le (by omega)]
  · intro i hi
    have hb := count_take_le a l i
    refine ⟨1, fun k => ⟨?_, by omega⟩⟩
    simp only [spec_l01Count.l0, spec_l01Bit.f]
    rw [if_pos (by omega), if_pos (by omega), rdE_Io l i hi, wnext i (by omega), count_take a l i hi]
    by_cases c : l[i].f0 = a
    · rw [if_pos c, show (l[i].f0 == a) = true from beq_iff_eq.2 c, if_pos rfl, Option.bind_some, w64 (by omega) (by omega)]; rfl
    · rw [if_neg c, show (l[i].f0 == a) = false from beq_eq_false_iff_ne.2 c, if_neg (by decide), Option.bind_some, w64 (by omega) (by omega)]; simp
theorem impl_count_ev (d : List ByteArray) (l : List S76) (a : Int) (hl : l.length ≤ 1048576) : Ev (fun k => impl_Disk_pending.f k d l a) ((countOf a l : Nat) : Int) := by
  unfold impl_Disk_pending.f
  have h := ev_loop (g := fun k i => impl_Disk_pending.l0 k a ((countOf a (l.take i) : Nat) : Int) l (l.length : Int) (i : Int)) (r := ((countOf a l : Nat) : Int)) l.length ?_ ?_ l.length 0 (by omega) (by omega)
  · simpa [countOf] using h
  · refine Ev.step (f := fun _ => some ((countOf a l : Nat) : Int)) (fun k => ?_) (ev_some _)
    simp only [impl_Disk_pending.l0]; rw [if_neg (by omega), List.take_of_length_le (by omega)]
  · intro i hi
    have hb := count_take_le a l i
    refine ⟨1, fun k => ⟨?_, by omega⟩⟩
    simp only [impl_Disk_pending.l0]
    rw [if_pos (by omega), if_pos (by omega), if_pos (by omega), rdE_Io l i hi, wnext i (by omega), count_take a l i hi]
    by_cases c : l[i].f0 = a
    · rw [if_pos c, if_pos c, w64 (by omega) (by omega)]; rfl
    · rw [if_neg c, if_neg c]
theorem both (d : List ByteArray) (l : List S76) (a : Int) (hd : d.length ≤ 1048576) (hl : l.length ≤ 1048576) : ∃ r : List ByteArray × List S76 × Int, r.1.length ≤ 1048576 ∧ r.2.1.length ≤ 1048576 ∧ Ev (fun k => spec_LandOne.f k d l a) r ∧ Ev (fun k => impl_LandOne.f k d l a) r := by
  have hA := ask_ev d l a (by omega) (by omega)
  have hC := codes_eq d l a
  unfold spec_LandOne.f impl_LandOne.f
  simp only [hC, Option.bind_some]
  cases hk : diskOK d l
  · rw [hk] at hA
    exact ⟨([], [], 1), by simp, by simp, ev_bind hA (ev_neg (by simp) (ev_some _)), ev_neg (by simp) (ev_some _)⟩
  · rw [hk] at hA
    cases hi : inB a 0 3
    · rw [hi] at hA
      exact ⟨([], [], 4), by simp, by simp, ev_bind hA (ev_neg (by simp) (ev_some _)), ev_neg (by simp) (ev_some _)⟩
    · rw [hi] at hA
      have h1 := spec_count_ev d l a hl
      have h2 := impl_count_ev d l a hl
      by_cases c : ((countOf a l : Nat) : Int) = 0
      · refine ⟨(d, l, 5), hd, hl, ev_bind hA (ev_pos (by simp) (ev_bind h1 (ev_pos c ?_))), ev_pos (by simp) (ev_bind h2 (ev_pos c ?_))⟩
        · rw [own_eq d l (by omega) (by omega)]; exact ev_some _
        · rw [copied_eq d l (by omega) (by omega)]; exact ev_some _
      · obtain ⟨q, q1, q2, q3, q4⟩ := settled hk a 1 false
        refine ⟨(q.1, q.2, 0), by show q.1.length ≤ _; omega, by show q.2.length ≤ _; omega, ev_bind hA (ev_pos (by simp) (ev_bind h1 (ev_neg c (ev_bind q4 (ev_some _))))), ev_pos (by simp) (ev_bind h2 (ev_neg c ?_))⟩
        rw [q3]; exact ev_some _
theorem pure : st := by
  intro d l a hd hl _
  refine Ev.rounds ?_
  unfold laws_FnExactLandOne.f
  obtain ⟨s, h1, h2⟩ := szDisk_ev d l hd.1 (fun x hx => hd.2 x hx) hl.1 (fun x hx => (hl.2 x hx).2.2)
  refine ev_bind h1 ?_
  by_cases hs : s < 0
  · exact ev_pos hs (ev_some _)
  · refine ev_neg hs ?_
    rcases h2 with h2 | ⟨b1, b2, b3, b4⟩
    · exact absurd h2 hs
    · have hT := toDisk_ev d l b1 b2
      have hl' : (l.map cvIo).length ≤ 1048576 := by simpa using b2
      generalize l.map cvIo = l' at hT hl'
      obtain ⟨⟨r1, r2, r3⟩, hb1, hb2, hP, hI⟩ := both d l' a (by omega) (by omega)
      have hE := eqDisk_ev r1 r2 (by simp at hb1; omega) (by simp at hb2; omega)
      have hD := eqDisk_ev d l' (by omega) (by omega)
      obtain ⟨m, e1, e2, hm, hM, hH⟩ := markDisk_ev r1 r2 (by simp at hb1; omega) (by simp at hb2; omega)
      obtain ⟨m', e1', e2', hm', hM', _⟩ := markDisk_ev d l' (by omega) (by omega)
      refine ev_bind hT (ev_bind hP (ev_bind hT (ev_bind hI (ev_bind hE (ev_pos rfl (Ev.succ ?_))))))
      simp only [laws_FnExactLandOne.j0]
      refine ev_neg (by simp) (ev_bind hT (ev_bind hD (ev_pos rfl (ev_bind hM' (ev_neg (by simp; omega) (ev_bind hE (ev_pos rfl (Ev.succ ?_))))))))
      simp only [laws_FnExactLandOne.j1]
      refine ev_neg (by simp) (ev_bind hM (ev_bind hH (ev_neg (by omega) (ev_pos rfl (ev_bind hT (ev_bind hI (ev_bind hE (ev_pos rfl (Ev.succ ?_)))))))))
      simp only [laws_FnExactLandOne.j2]
      exact ev_neg (by simp) (ev_bind hH (ev_neg (by omega) (ev_pos rfl (ev_some _))))

end Go.Proofs.Ytadelojhfepkeaa.Q.FnExactLandOne
