/- laws.FnExactReqOK answers true, for every input within the bounds that any input that came in has. -/
import Derived.Test.YtofobhhbhicfaaaStFnExactReqOK
import Derived.Test.YtofobhhbhicfaaaUIn
namespace Go.Proofs.Ytofobhhbhicfaaa.Q.FnExactReqOK
open Go.RowKit Go.Proofs.Ytofobhhbhicfaaa.Ext Go.Proofs.Ytofobhhbhicfaaa.Q Go.Proofs.YtofobhhbhicfaaaW.PrintWords Go.Proofs.YtofobhhbhicfaaaW.PrintLast Go.Proofs.YtofobhhbhicfaaaW.PrintMore
set_option linter.unusedVariables false
set_option linter.unusedSimpArgs false
theorem toList_nil (s : ByteArray) : (s.toList == ([] : List UInt8)) = (s.toList == (⟨#[]⟩ : ByteArray).toList) := by
  have : (⟨#[]⟩ : ByteArray).toList = [] := by rw [ByteArray.toList_eq]
  rw [this]
theorem pure : st := by
  intro a b c s _ _ _ hs
  refine ⟨5, ?_⟩
  unfold maxLen at hs
  unfold laws_FnExactReqOK.f laws_toReq.f laws_szReq.f
  by_cases h : (wrap64 (1048576 - (s.size : Int))) < 0
  · simp only [if_pos h, Option.bind_some]
    rfl
  · simp only [if_neg h, Option.bind_some, spec_ReqOK.f, impl_ReqOK.f, l01In_eq, within_eq, impl_isLongText.f]
    by_cases h1 : inB a 1 8 = true
    · simp only [h1, if_true]
      by_cases h2 : (s.size : Int) > 65536
      · simp [h2, spec_ReqOK.j0]
      · simp only [h2, decide_false, spec_ReqOK.j0, Bool.false_eq_true, if_false]
        simp only [inB_iff] at h1
        have ha : a = 1 ∨ a = 2 ∨ a = 3 ∨ a = 4 ∨ a = 5 ∨ a = 6 ∨ a = 7 ∨ a = 8 := by omega
        rcases ha with rfl | rfl | rfl | rfl | rfl | rfl | rfl | rfl <;> (simp [spec_ReqOK.j1, impl_Req_used.f, impl_Req_used.j0, toList_nil]; try (by_cases hb : b = 0 <;> by_cases hc : c = 0 <;> simp [hb, hc]))
    · have h1' : inB a 1 8 = false := by simpa using h1
      simp [h1', spec_ReqOK.j0]

end Go.Proofs.Ytofobhhbhicfaaa.Q.FnExactReqOK
