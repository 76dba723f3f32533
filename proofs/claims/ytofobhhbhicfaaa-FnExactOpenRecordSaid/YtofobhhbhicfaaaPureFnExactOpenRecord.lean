/- laws.FnExactOpenRecord answers true, for every input within the bounds that any input that came in has. -/
import Derived.Test.YtofobhhbhicfaaaStFnExactOpenRecord
namespace Go.Proofs.Ytofobhhbhicfaaa.Q.FnExactOpenRecord
open Go.RowKit Go.Proofs.Ytofobhhbhicfaaa.Ext Go.Proofs.Ytofobhhbhicfaaa.Q Go.Proofs.YtofobhhbhicfaaaW.PrintWords Go.Proofs.YtofobhhbhicfaaaW.PrintLast Go.Proofs.YtofobhhbhicfaaaW.PrintMore
set_option linter.unusedVariables false
set_option linter.unusedSimpArgs false
def ans (t : ByteArray) (kind : Int) : List Int × Int := if (t.size : Int) > 65536 then ([], 2) else if inB kind 1 9 = true then (if recOK t kind = true then (recNums t, 0) else ([], 3)) else ([], 4)
theorem spec_ev (t : ByteArray) (kind : Int) (ht : t.size ≤ 1048576) : Ev (fun k => spec_OpenRecord.f k t kind) (ans t kind) := by
  unfold spec_OpenRecord.f ans
  by_cases h1 : (t.size : Int) > 65536
  · rw [if_pos h1]; exact ev_pos h1 (ev_some _)
  · rw [if_neg h1]; refine ev_neg h1 ?_
    simp only [spec_l02Kind.f, l01In_eq, Option.bind_some]
    by_cases h2 : inB kind 1 9 = true
    · rw [if_pos h2]; refine ev_pos h2 ?_
      refine ev_bind (spec_open_ev t kind (by omega)) ?_
      by_cases h3 : recOK t kind = true
      · simp only [if_pos h3]; exact ev_some _
      · simp only [if_neg h3]; exact ev_neg (by simp) (ev_some _)
    · rw [if_neg h2]; exact ev_neg h2 (ev_some _)
theorem impl_ev (t : ByteArray) (kind : Int) (ht : t.size ≤ 1048576) : Ev (fun k => impl_OpenRecord.f k t kind) (ans t kind) := by
  unfold impl_OpenRecord.f
  refine ev_bind (impl_open_ev t kind (by omega)) ?_
  simp only [isLongText_eq, impl_isKind.f, within_eq, Option.bind_some, first3]
  unfold ans
  by_cases h1 : (t.size : Int) > 65536
  · simp only [h1, decide_true, if_true]
    exact ev_neg (by omega) (ev_some _)
  · simp only [h1, decide_false, Bool.false_eq_true, if_false]
    by_cases h2 : inB kind 1 9 = true
    · simp only [h2, Bool.not_true, Bool.false_eq_true, if_false, if_true]
      by_cases h3 : recOK t kind = true
      · simp only [h3, Bool.not_true, Bool.false_eq_true, if_false, if_true, recOK_openL h3]
        exact ev_some _
      · have h3' : recOK t kind = false := by simpa using h3
        simp only [h3', Bool.not_false, if_true, Bool.false_eq_true, if_false]
        exact ev_neg (by omega) (ev_some _)
    · have h2' : inB kind 1 9 = false := by simpa using h2
      simp only [h2', Bool.not_false, if_true, Bool.false_eq_true, if_false]
      exact ev_neg (by omega) (ev_some _)
theorem ans_len (t : ByteArray) (kind : Int) (ht : t.size ≤ 1048576) : (ans t kind).1.length ≤ 1048576 := by
  have : (recNums t).length ≤ 1048576 := by unfold recNums; rw [numsP_length, ext_size]; omega
  unfold ans
  split
  · simp
  · split
    · split
      · exact this
      · simp
    · simp
theorem pure : st := by
  intro t kind _ _
  refine Ev.rounds ?_
  unfold laws_FnExactOpenRecord.f
  by_cases h : (t.size : Int) > 1048576
  · exact ev_pos h (ev_some _)
  · refine ev_neg h ?_
    have ht : t.size ≤ 1048576 := by omega
    have hl := ans_len t kind ht
    refine ev_bind (spec_ev t kind ht) (ev_bind (impl_ev t kind ht) ?_)
    refine ev_bind (eqIntS_ev _ (by omega)) (ev_pos rfl ?_)
    have e0 : ((ans t kind).2 != (ans t kind).2) = false := by simp
    rw [e0]
    have hM := markIntS_ev (ans t kind).1 1 (by omega) (by omega)
    have hH := heldIntS_ev (ans t kind).1.length 1 (by omega) (by omega)
    refine Ev.step (f := fun k => (laws_markIntS.f k (ans t kind).1 1).bind fun bt561 => ((laws_heldIntS.f k bt561.2 1).bind fun t563 => (if t563 < 0 then (some false) else (if t563 = bt561.1 then ((impl_OpenRecord.f k t kind).bind fun bt564 => ((laws_eqIntS.f k bt564.1 (ans t kind).1).bind fun t568 => (if t568 = true then (laws_FnExactOpenRecord.j1 k bt561.2 bt561.1 (bt564.2 != (ans t kind).2)) else (laws_FnExactOpenRecord.j1 k bt561.2 bt561.1 true)))) else (some false))))) (fun k => ?_) ?_
    · simp only [laws_FnExactOpenRecord.j0, Bool.false_eq_true, if_false]
    · refine ev_bind hM (ev_bind hH (ev_neg (by omega) (ev_pos rfl ?_)))
      refine ev_bind (impl_ev t kind ht) (ev_bind (eqIntS_ev _ (by omega)) (ev_pos rfl ?_))
      rw [e0]
      refine Ev.step (f := fun k => (laws_heldIntS.f k (countUp 1 (ans t kind).1.length) 1).bind fun t569 => (if t569 < 0 then (some false) else (if t569 = 1 + ((ans t kind).1.length : Int) then (some true) else (some false)))) (fun k => ?_) ?_
      · simp only [laws_FnExactOpenRecord.j1, Bool.false_eq_true, if_false]
      · exact ev_bind hH (ev_neg (by omega) (ev_pos rfl (ev_some _)))

end Go.Proofs.Ytofobhhbhicfaaa.Q.FnExactOpenRecord
