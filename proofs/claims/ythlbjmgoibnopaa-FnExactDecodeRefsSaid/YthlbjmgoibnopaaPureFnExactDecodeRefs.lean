/- laws.FnExactDecodeRefs answers true, for every input within the bounds that any input that came in has. -/
import Derived.Test.YthlbjmgoibnopaaStFnExactDecodeRefs
namespace Go.Proofs.Ythlbjmgoibnopaa.Q.FnExactDecodeRefs
open Go.RowKit Go.Proofs.Ythlbjmgoibnopaa.Ext Go.Proofs.Ythlbjmgoibnopaa.Q Go.Proofs.YthlbjmgoibnopaaW.PrintWords Go.Proofs.YthlbjmgoibnopaaW.PrintLast Go.Proofs.YthlbjmgoibnopaaW.PrintMore
set_option linter.unusedVariables false
set_option linter.unusedSimpArgs false
def ans (t : ByteArray) : List Int × Int := if (t.size : Int) > 65536 then ([], 2) else if (refsAt t).2 = true then ((refsAt t).1, 0) else ([], 3)
theorem spec_ev (t : ByteArray) (ht : t.size ≤ 1048576) : Ev (fun k => spec_DecodeRefs.f k t) (ans t) := by
  unfold spec_DecodeRefs.f ans
  by_cases h1 : (t.size : Int) > 65536
  · rw [if_pos h1]; exact ev_pos h1 (ev_some _)
  · rw [if_neg h1]; refine ev_neg h1 (ev_bind (spec_l08Decode_ev t (by omega)) ?_)
    cases (refsAt t).2
    · exact ev_some _
    · exact ev_some _
theorem impl_ev (t : ByteArray) (ht : t.size ≤ 1048576) : Ev (fun k => impl_DecodeRefs.f k t) (ans t) := by
  unfold impl_DecodeRefs.f
  refine ev_bind (impl_refsOf_ev t (by omega)) ?_
  simp only [isLongText_eq, Option.bind_some, first2]
  unfold ans
  by_cases h1 : (t.size : Int) > 65536
  · simp only [h1, decide_true, if_true]
    exact ev_neg (by omega) (ev_some _)
  · simp only [h1, decide_false, Bool.false_eq_true, if_false]
    cases h2 : (refsAt t).2
    · exact ev_some _
    · exact ev_some _
theorem ans_len (t : ByteArray) (ht : t.size ≤ 1048576) : (ans t).1.length ≤ 1048576 := by
  have := refsAt_len t
  unfold ans
  split
  · simp
  · split
    · show (refsAt t).1.length ≤ _; omega
    · simp
theorem pure : st := by
  intro t _
  refine Ev.rounds ?_
  unfold laws_FnExactDecodeRefs.f
  by_cases h : (t.size : Int) > 1048576
  · exact ev_pos h (ev_some _)
  · refine ev_neg h ?_
    have ht : t.size ≤ 1048576 := by omega
    have hl := ans_len t ht
    refine ev_bind (spec_ev t ht) (ev_bind (impl_ev t ht) ?_)
    refine ev_bind (eqIntS_ev _ (by omega)) (ev_pos rfl ?_)
    have e0 : ((ans t).2 != (ans t).2) = false := by simp
    rw [e0]
    have hM := markIntS_ev (ans t).1 1 (by omega) (by omega)
    have hH := heldIntS_ev (ans t).1.length 1 (by omega) (by omega)
    refine Ev.step (f := fun k => (laws_markIntS.f k (ans t).1 1).bind fun bt561 => ((laws_heldIntS.f k bt561.2 1).bind fun t563 => (if t563 < 0 then (some false) else (if t563 = bt561.1 then ((impl_DecodeRefs.f k t).bind fun bt564 => ((laws_eqIntS.f k bt564.1 (ans t).1).bind fun t568 => (if t568 = true then (laws_FnExactDecodeRefs.j1 k bt561.2 bt561.1 (bt564.2 != (ans t).2)) else (laws_FnExactDecodeRefs.j1 k bt561.2 bt561.1 true)))) else (some false))))) (fun k => ?_) ?_
    · simp only [laws_FnExactDecodeRefs.j0, Bool.false_eq_true, if_false]
    · refine ev_bind hM (ev_bind hH (ev_neg (by omega) (ev_pos rfl ?_)))
      refine ev_bind (impl_ev t ht) (ev_bind (eqIntS_ev _ (by omega)) (ev_pos rfl ?_))
      rw [e0]
      refine Ev.step (f := fun k => (laws_heldIntS.f k (countUp 1 (ans t).1.length) 1).bind fun t569 => (if t569 < 0 then (some false) else (if t569 = 1 + ((ans t).1.length : Int) then (some true) else (some false)))) (fun k => ?_) ?_
      · simp only [laws_FnExactDecodeRefs.j1, Bool.false_eq_true, if_false]
      · exact ev_bind hH (ev_neg (by omega) (ev_pos rfl (ev_some _)))

end Go.Proofs.Ythlbjmgoibnopaa.Q.FnExactDecodeRefs
