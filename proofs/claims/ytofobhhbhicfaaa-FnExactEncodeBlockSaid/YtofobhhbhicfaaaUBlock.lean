/- Plain laws: blocks; their texts. -/
import Derived.Test.YtofobhhbhicfaaaQ7
import Derived.Test.YtofobhhbhicfaaaUBase
import Derived.Test.YtofobhhbhicfaaaUIn
import Derived.Test.YtofobhhbhicfaaaUCodec
import Derived.Test.YtofobhhbhicfaaaExt
namespace Go.Proofs.Ytofobhhbhicfaaa.Q
open Go.RowKit Go.Proofs.Ytofobhhbhicfaaa.Ext Go.Proofs.YtofobhhbhicfaaaW.PrintWords Go.Proofs.YtofobhhbhicfaaaW.PrintLast Go.Proofs.YtofobhhbhicfaaaW.PrintMore
set_option linter.unusedVariables false
set_option linter.unusedSimpArgs false
def blockOK (a b c d : Int) : Bool := inB a 0 1000000 && (inB b 0 1000000 && (inB c 0 b && (inB d 0 2147483647 && (decide (c > 0) || d == 0))))
theorem or_opt (c d : Int) : (if c > 0 then some true else some (d == 0)) = some (decide (c > 0) || d == 0) := by
  by_cases h : c > 0 <;> simp [h]
theorem spec_BlockOK_eq (a b c d : Int) : spec_BlockOK.f a b c d = some (blockOK a b c d) := by
  simp only [spec_BlockOK.f, l01In_eq, Option.bind_some]
  exact and_opt (and_opt (and_opt (and_opt (or_opt c d))))
theorem impl_BlockOK_eq (a b c d : Int) : impl_BlockOK.f a b c d = some (blockOK a b c d) := by
  simp only [impl_BlockOK.f, impl_isVer.f, impl_isNumber.f, within_eq, Option.bind_some]
  exact and_opt (and_opt (and_opt (and_opt (or_opt c d))))
theorem spec_EncodeBlock_ev (a b c d : Int) : Ev (fun k => spec_EncodeBlock.f k a b c d) (if blockOK a b c d = true then (sealP 5 [a, b, c, d], 0) else ((⟨#[]⟩ : ByteArray), 1)) := by
  unfold spec_EncodeBlock.f spec_l05Encode.f
  simp only [spec_BlockOK_eq, Option.bind_some]
  cases blockOK a b c d
  · exact ev_some _
  · simp only [if_true]
    exact ev_bind (ev_bind (spec_seal_ev 5 [a, b, c, d] (by simp)) (ev_some _)) (ev_some _)
theorem impl_EncodeBlock_ev (a b c d : Int) : Ev (fun k => impl_EncodeBlock.f k a b c d) (if blockOK a b c d = true then (sealP 5 [a, b, c, d], 0) else ((⟨#[]⟩ : ByteArray), 1)) := by
  unfold impl_EncodeBlock.f impl_Block_text.f
  simp only [impl_BlockOK_eq, Option.bind_some]
  cases blockOK a b c d
  · exact ev_some _
  · simp only [if_true]
    exact ev_bind (ev_bind (impl_seal_ev 5 [a, b, c, d] (by simp)) (ev_some _)) (ev_some _)

end Go.Proofs.Ytofobhhbhicfaaa.Q
