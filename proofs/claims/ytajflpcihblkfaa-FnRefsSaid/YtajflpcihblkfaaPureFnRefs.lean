/- laws.FnRefs answers true, for every input within the bounds that any input that came in has. -/
import Derived.Test.YtajflpcihblkfaaStFnRefs
namespace Go.Proofs.Ytajflpcihblkfaa.Q.FnRefs
open Go.RowKit Go.Proofs.Ytajflpcihblkfaa.Ext Go.Proofs.Ytajflpcihblkfaa.Q Go.Proofs.YtajflpcihblkfaaW.PrintWords Go.Proofs.YtajflpcihblkfaaW.PrintLast Go.Proofs.YtajflpcihblkfaaW.PrintMore
set_option linter.unusedVariables false
set_option linter.unusedSimpArgs false
theorem refs_fill (l : List Int) (h : ∀ x ∈ l, 0 ≤ x ∧ x ≤ 255) (m : Int) (hm0 : 2 ≤ m) (hm1 : m ≤ 16) : ∀ (d i : Nat) (out : List Int) (at_ seed : Int) (n : Nat), i + d = 24 → out.length = i → n + 9 * d ≤ 10000000000 → (∀ x ∈ out, 0 ≤ x ∧ x ≤ 15) → srcOK at_ seed n →
    ∃ r a s, Ev (fun k => spec_l00Src_refs.l0 k out m (i : Int) l at_ seed) (r, a, s) ∧ r.length = 24 ∧ (∀ x ∈ r, 0 ≤ x ∧ x ≤ 15) := by
  intro d
  induction d with
  | zero =>
    intro i out at_ seed n hi ho hn hx hs
    obtain ⟨r, a, s, e, r0, -, r1, o⟩ := next_ok l h at_ seed n hs (by omega) 6
    have hfill : ∀ (d j : Nat) (out : List Int), j + d = 24 → out.length = 24 → (∀ x ∈ out, 0 ≤ x ∧ x ≤ 15) → ∃ r', Ev (fun k => spec_l00Src_refs.l1 k out (j : Int) l a s) (r', a, s) ∧ r'.length = 24 ∧ (∀ x ∈ r', 0 ≤ x ∧ x ≤ 15) := by
      intro d
      induction d with
      | zero =>
        intro j out hj ho hx
        refine ⟨out, Ev.step (f := fun _ => some (out, a, s)) (fun k => ?_) (ev_some _), ho, hx⟩
        simp only [spec_l00Src_refs.l1]; rw [if_neg (by omega)]
      | succ d ih =>
        intro j out hj ho hx
        have hjl : j < out.length := by omega
        have hb := hx out[j] (List.getElem_mem hjl)
        obtain ⟨r', e', h1, h2⟩ := ih (j + 1) (out.set j (mx 1 (rd out (j : Int)))) (by omega) (by simpa using ho) (by
          intro x hm
          rcases List.mem_or_eq_of_mem_set hm with hm | rfl
          · exact hx x hm
          · rw [rdn out j hjl]; unfold mx; split <;> omega)
        refine ⟨r', Ev.step (f := fun k => spec_l00Src_refs.l1 k (out.set j (mx 1 (rd out (j : Int)))) ((j + 1 : Nat) : Int) l a s) (fun k => ?_) e', h1, h2⟩
        simp only [spec_l00Src_refs.l1]
        rw [if_pos (by omega), if_pos (by omega), if_pos (by omega), Int.toNat_natCast, wnext j (by omega)]
    obtain ⟨r', e', h1, h2⟩ := hfill 24 0 out (by omega) (by omega) hx
    by_cases hc : (r == (wrap64 (6 - 1))) = true
    · refine ⟨r', a, s, Ev.step (f := fun k => spec_l00Src_refs.l1 k out ((0 : Nat) : Int) l a s) (fun k => ?_) e', h1, h2⟩
      simp only [spec_l00Src_refs.l0, spec_l00Src_chance.f]
      rw [if_neg (by omega), e]
      simp only [Option.bind_some, hc, if_true]; rfl
    · refine ⟨out, a, s, Ev.step (f := fun _ => some (out, a, s)) (fun k => ?_) (ev_some _), by omega, hx⟩
      simp only [spec_l00Src_refs.l0, spec_l00Src_chance.f]
      rw [if_neg (by omega), e]
      simp only [Option.bind_some, hc, if_false]; rfl
  | succ d ih =>
    intro i out at_ seed n hi ho hn hx hs
    obtain ⟨r, a, s, e, r0, -, r1, o⟩ := next_ok l h at_ seed n hs (by omega) m
    have r1' := r1 (by omega)
    obtain ⟨r', a', s', e', h1, h2⟩ := ih (i + 1) (out ++ [r]) a s (n + 3) (by omega) (by simp; omega) (by omega) (by
      intro x hm
      rcases List.mem_append.1 hm with hm | hm
      · exact hx x hm
      · rw [List.mem_singleton.1 hm]; omega) o
    refine ⟨r', a', s', Ev.step (f := fun k => spec_l00Src_refs.l0 k (out ++ [r]) m ((i + 1 : Nat) : Int) l a s) (fun k => ?_) e', h1, h2⟩
    simp only [spec_l00Src_refs.l0]
    rw [if_pos (by omega), e, Option.bind_some, if_pos (by omega), wnext i (by omega)]
theorem refs_drawn (l : List Int) (h : ∀ x ∈ l, 0 ≤ x ∧ x ≤ 255) : ∃ r, Ev (fun k => spec_RefsOf.f k l) r ∧ refsOK r = true := by
  unfold spec_RefsOf.f spec_l00Source.f spec_l00Src_refs.f
  simp only [Option.bind_some]
  obtain ⟨m, a1, s1, e1, m0, -, m1, o1⟩ := next_ok l h _ _ _ (source_ok l) (by omega) 15
  rw [e1]; simp only [Option.bind_some]
  have m1' := m1 (by omega)
  rw [w64 (n := 2 + m) (by omega) (by omega)]
  obtain ⟨r, a, s, e, h1, h2⟩ := refs_fill l h (2 + m) (by omega) (by omega) 24 0 [] a1 s1 _ (by omega) rfl (by omega) (by simp) o1
  exact ⟨r, ev_bind e (ev_some _), refs_of h1 h2⟩
theorem isLong_refs {l : List Int} (h : l.length = 24) : impl_isLong_int.f l = some false := by
  unfold impl_isLong_int.f
  simp [h]
def sumL : List Int → Int
  | [] => 0
  | x :: xs => x + sumL xs
theorem sumL_take (l : List Int) (i : Nat) (h : i < l.length) : sumL (l.take (i + 1)) = sumL (l.take i) + l[i] := by
  induction l generalizing i with
  | nil => simp at h
  | cons x xs ih =>
    cases i with
    | zero => simp [sumL]
    | succ i => simp only [List.take_succ_cons, sumL, List.getElem_cons_succ]; rw [ih i (by simpa using h)]; omega
theorem sumL_bound (l : List Int) (h : ∀ x ∈ l, 0 ≤ x ∧ x ≤ 15) (i : Nat) (hi : i ≤ l.length) : 0 ≤ sumL (l.take i) ∧ sumL (l.take i) ≤ 15 * (i : Int) := by
  induction i with
  | zero => simp [sumL]
  | succ i ih =>
    have := ih (by omega)
    have hb := h l[i] (List.getElem_mem (by omega))
    rw [sumL_take l i (by omega)]; omega
theorem sumL_set (l : List Int) (i : Nat) (v : Int) (h : i < l.length) : sumL (l.set i v) = sumL l - l[i] + v := by
  induction l generalizing i with
  | nil => simp at h
  | cons x xs ih =>
    cases i with
    | zero => simp only [List.set_cons_zero, sumL, List.getElem_cons_zero]; omega
    | succ i => simp only [List.set_cons_succ, sumL, List.getElem_cons_succ]; rw [ih i (by simpa using h)]; omega
theorem sum_ev (l : List Int) (h : refsOK l = true) : Ev (fun k => impl_RefSum.f k l) (sumL l, 0) := by
  have hl := refs_len h
  have hin := refs_in h
  unfold impl_RefSum.f
  simp only [isLong_refs hl, impl_RefsOK_eq, h, Option.bind_some, first2, Bool.not_true, Bool.false_eq_true, if_false, if_true]
  have hgo := ev_loop (g := fun k i => impl_RefSum.l0 k (sumL (l.take i)) l (l.length : Int) (i : Int)) (r := (sumL l, (0 : Int))) l.length ?_ ?_ l.length 0 (by omega) (by omega)
  · simpa [sumL] using hgo
  · refine Ev.step (f := fun _ => some (sumL l, 0)) (fun k => ?_) (ev_some _)
    simp only [impl_RefSum.l0]; rw [if_neg (by omega), List.take_of_length_le (by omega)]
  · intro i hi
    refine ⟨1, fun k => ⟨?_, by omega⟩⟩
    have hb := sumL_bound l hin i (by omega)
    have hx := hin l[i] (List.getElem_mem hi)
    simp only [impl_RefSum.l0]
    rw [if_pos (by omega), if_pos (by omega), if_pos (by omega), rdn l i hi, w64 (n := sumL (l.take i) + l[i]) (by omega) (by omega), wnext i (by omega), sumL_take l i hi]
theorem codes_ok {l : List Int} (h : refsOK l = true) {c : Int} (c0 : 0 ≤ c) (c1 : c < 24) : impl_refCodes.f l c = some 0 := by
  have hl := refs_len h
  have hc : impl_isCluster.f c = some true := by
    simp only [impl_isCluster.f, within_eq, Option.bind_some]
    have : inB c 0 23 = true := by unfold inB; simp only [Bool.and_eq_true, decide_eq_true_eq]; omega
    rw [this]
  unfold impl_refCodes.f
  simp only [isLong_refs hl, impl_RefsOK_eq, h, hc, Option.bind_some, first3, Bool.not_true, Bool.false_eq_true, if_false]
theorem same_ev (l : List Int) (hl : l.length ≤ 1000000000) : Ev (fun k => laws_sameInts.f k l l) true := by
  unfold laws_sameInts.f
  refine ev_pos rfl ?_
  refine ev_loop (g := fun k i => laws_sameInts.l0 k l l (i : Int)) l.length ?_ ?_ l.length 0 (by omega) (by omega)
  · refine Ev.step (f := fun _ => some true) (fun k => ?_) (ev_some _)
    simp only [laws_sameInts.l0]; rw [if_neg (by omega)]
  · intro i hi
    refine ⟨1, fun k => ⟨?_, by omega⟩⟩
    simp only [laws_sameInts.l0]
    rw [if_pos (by omega), if_pos (by omega), if_pos (by omega), if_pos trivial, wnext i (by omega)]
set_option maxHeartbeats 1000000 in
theorem pure : st := by
  intro c m hc hm
  refine Ev.rounds ?_
  have hc' := bytes_of (l := c) (fun x hx => hc.2 x hx)
  have hm' := bytes_of (l := m) (fun x hx => hm.2 x hx)
  have key : ∀ b, Ev (fun k => laws_FnRefs.j0 k c m b) true := by
    intro b
    refine Ev.succ ?_
    simp only [laws_FnRefs.j0]
    cases b
    · simp only [Bool.false_eq_true, if_false]
      obtain ⟨R, hR, hok⟩ := refs_drawn c hc'
      have hl := refs_len hok
      have hin := refs_in hok
      obtain ⟨t1, t2, t3, t4⟩ := refs_text hok
      have hI : Ev (fun k => impl_EncodeRefs.f k R) (sealP 2 (four R), 0) := by
        unfold impl_EncodeRefs.f
        simp only [isLong_refs hl, impl_RefsOK_eq, hok, Option.bind_some, first2, Bool.not_true, Bool.false_eq_true, if_false, if_true]
        exact ev_bind t1 (ev_some _)
      have hS : Ev (fun k => spec_EncodeRefs.f k R) (sealP 2 (four R), 0) := by
        unfold spec_EncodeRefs.f
        refine ev_neg (by omega) ?_
        have := spec_RefsOK_ev R (by omega)
        rw [hok] at this
        exact ev_bind this (ev_pos rfl (ev_bind t2 (ev_some _)))
      have hD : Ev (fun k => impl_DecodeRefs.f k (sealP 2 (four R))) (R, 0) := by
        unfold impl_DecodeRefs.f
        refine ev_bind (impl_refsOf_ev _ (by omega)) ?_
        rw [t3]
        simp only [isLongText_eq, Option.bind_some, first2]
        have : ¬ ((sealP 2 (four R)).size : Int) > 65536 := by omega
        simp only [this, decide_false, Bool.false_eq_true, if_false, Bool.not_true, if_true]
        exact ev_some _
      obtain ⟨n, en, n0, -, n1⟩ := at_ok m hm' 0 (by omega) (by omega) 24
      have n1' := n1 (by omega)
      obtain ⟨j, rfl⟩ : ∃ j : Nat, n = (j : Int) := ⟨n.toNat, by omega⟩
      have hj : j < R.length := by omega
      have hx := hin R[j] (List.getElem_mem hj)
      refine ev_bind hR (ev_bind hI (ev_bind hS (ev_bind hD ?_)))
      simp only [en, Option.bind_some]
      refine ev_bind (sum_ev R hok) ?_
      have hcl : slices_Clone_int_int.f R = some R := by unfold slices_Clone_int_int.f; rw [if_pos (by omega)]
      have hU : impl_RefUp.f R (j : Int) = some (if R[j] = 15 then (R, 6) else (R.set j (R[j] + 1), 0)) := by
        unfold impl_RefUp.f
        simp only [codes_ok hok n0 n1', Option.bind_some, hcl, if_true]
        rw [if_pos (by omega), if_pos (by omega), rdn R j hj, Int.toNat_natCast]
        by_cases h15 : R[j] = 15
        · rw [if_pos h15, if_pos h15]
        · rw [if_neg h15, if_neg h15, w64 (by omega) (by omega)]
      simp only [hU, Option.bind_some]
      refine ev_pos (by first | rfl | trivial) (ev_pos (by first | rfl | trivial) (ev_pos (by first | rfl | trivial) (ev_bind (same_ev R (by omega)) (ev_pos (by first | rfl | trivial) (ev_pos (by first | rfl | trivial) ?_)))))
      by_cases h15 : R[j] = 15
      · rw [if_pos h15]
        refine Ev.succ ?_
        simp only [laws_FnRefs.j1, rdn R j hj]
        refine ev_neg (by simp [hl]) (ev_pos (by omega) (ev_pos (by omega) (ev_pos h15 (ev_pos (by first | rfl | trivial) (ev_bind (same_ev R (by omega)) (ev_some _))))))
      · rw [if_neg h15]
        have hup : refsOK (R.set j (R[j] + 1)) = true := refs_of (by simpa using hl) (by
          intro x hmx
          rcases List.mem_or_eq_of_mem_set hmx with hmx | rfl
          · exact hin x hmx
          · omega)
        have hul : (R.set j (R[j] + 1)).length = 24 := by simpa using hl
        have hrd : rd (R.set j (R[j] + 1)) (j : Int) = R[j] + 1 := by rw [rdn _ j (by omega)]; simp
        have hcl2 : slices_Clone_int_int.f (R.set j (R[j] + 1)) = some (R.set j (R[j] + 1)) := by unfold slices_Clone_int_int.f; rw [if_pos (by omega)]
        have hDn : impl_RefDown.f (R.set j (R[j] + 1)) (j : Int) = some (R, 0) := by
          unfold impl_RefDown.f
          simp only [codes_ok hup n0 n1', Option.bind_some, hcl2, if_true]
          rw [if_pos (by omega), if_pos (by omega), hrd, if_neg (by omega), Int.toNat_natCast, w64 (by omega) (by omega), List.set_set]
          rw [show R[j] + 1 - 1 = R[j] by omega, List.set_getElem_self]
        have hsum := sum_ev _ hup
        rw [sumL_set R j _ hj, show sumL R - R[j] + (R[j] + 1) = sumL R + 1 by omega] at hsum
        have hsb := sumL_bound R hin R.length (by omega)
        rw [List.take_length] at hsb
        refine Ev.succ ?_
        simp only [laws_FnRefs.j1, rdn R j hj, hDn, Option.bind_some, hrd]
        refine ev_neg (by simp [hl]) (ev_pos (by omega) (ev_pos (by omega) (ev_neg h15 (ev_bind hsum (ev_pos (by first | rfl | trivial) (ev_pos (by omega) (ev_pos (by rw [w64 (by omega) (by omega)]) (ev_pos (by first | rfl | trivial) (ev_bind (same_ev R (by omega)) (ev_pos (by first | rfl | trivial) (ev_pos (by first | rfl | trivial) ?_)))))))))))
        rw [w64 (n := sumL R + 1) (by omega) (by omega)]
        simp only [beq_self_eq_true]
        exact ev_some _
    · simp only [if_true]; exact ev_some _
  unfold laws_FnRefs.f
  by_cases h : (c.length : Int) > 1048576
  · exact ev_pos h (key _)
  · exact ev_neg h (key _)

end Go.Proofs.Ytajflpcihblkfaa.Q.FnRefs
