/- Plain laws: generations; their texts. -/
import Derived.Test.YtofobhhbhicfaaaQ5
import Derived.Test.YtofobhhbhicfaaaQ6
import Derived.Test.YtofobhhbhicfaaaUBase
import Derived.Test.YtofobhhbhicfaaaUIn
import Derived.Test.YtofobhhbhicfaaaUCodec
import Derived.Test.YtofobhhbhicfaaaExt
namespace Go.Proofs.Ytofobhhbhicfaaa.Q
open Go.RowKit Go.Proofs.Ytofobhhbhicfaaa.Ext Go.Proofs.YtofobhhbhicfaaaW.PrintWords Go.Proofs.YtofobhhbhicfaaaW.PrintLast Go.Proofs.YtofobhhbhicfaaaW.PrintMore
set_option linter.unusedVariables false
set_option linter.unusedSimpArgs false
def deltaOK (a b c : Int) : Bool := inB a 0 3 && (inB b 1 1000000 && inB c 0 10000000)
theorem spec_DeltaOK_eq (a b c : Int) : spec_DeltaOK.f a b c = some (deltaOK a b c) := by
  simp only [spec_DeltaOK.f, spec_l04Host.f, l01In_eq, Option.bind_some]
  exact and_opt (and_opt rfl)
theorem impl_DeltaOK_eq (a b c : Int) : impl_DeltaOK.f a b c = some (deltaOK a b c) := by
  simp only [impl_DeltaOK.f, impl_isHost.f, impl_isGen.f, impl_isStamp.f, within_eq, Option.bind_some]
  exact and_opt (and_opt rfl)
theorem spec_EncodeDelta_ev (a b c : Int) : Ev (fun k => spec_EncodeDelta.f k a b c) (if deltaOK a b c = true then (sealP 9 [a, b, c], 0) else ((⟨#[]⟩ : ByteArray), 1)) := by
  unfold spec_EncodeDelta.f spec_l04Encode.f
  simp only [spec_DeltaOK_eq, Option.bind_some]
  cases deltaOK a b c
  · exact ev_some _
  · simp only [if_true]
    exact ev_bind (ev_bind (spec_seal_ev 9 [a, b, c] (by simp)) (ev_some _)) (ev_some _)
theorem impl_EncodeDelta_ev (a b c : Int) : Ev (fun k => impl_EncodeDelta.f k a b c) (if deltaOK a b c = true then (sealP 9 [a, b, c], 0) else ((⟨#[]⟩ : ByteArray), 1)) := by
  unfold impl_EncodeDelta.f impl_Delta_text.f
  simp only [impl_DeltaOK_eq, Option.bind_some]
  cases deltaOK a b c
  · exact ev_some _
  · simp only [if_true]
    exact ev_bind (ev_bind (impl_seal_ev 9 [a, b, c] (by simp)) (ev_some _)) (ev_some _)

end Go.Proofs.Ytofobhhbhicfaaa.Q
