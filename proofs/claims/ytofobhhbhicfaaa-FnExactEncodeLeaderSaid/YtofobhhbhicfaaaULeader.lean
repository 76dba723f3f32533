/- Plain laws: leaders; their texts. -/
import Derived.Test.YtofobhhbhicfaaaQ10
import Derived.Test.YtofobhhbhicfaaaQ5
import Derived.Test.YtofobhhbhicfaaaQ6
import Derived.Test.YtofobhhbhicfaaaQ7
import Derived.Test.YtofobhhbhicfaaaQ8
import Derived.Test.YtofobhhbhicfaaaQ9
import Derived.Test.YtofobhhbhicfaaaUBase
import Derived.Test.YtofobhhbhicfaaaUIn
import Derived.Test.YtofobhhbhicfaaaUCodec
import Derived.Test.YtofobhhbhicfaaaExt
namespace Go.Proofs.Ytofobhhbhicfaaa.Q
open Go.RowKit Go.Proofs.Ytofobhhbhicfaaa.Ext Go.Proofs.YtofobhhbhicfaaaW.PrintWords Go.Proofs.YtofobhhbhicfaaaW.PrintLast Go.Proofs.YtofobhhbhicfaaaW.PrintMore
set_option linter.unusedVariables false
set_option linter.unusedSimpArgs false
def leaderOK (a b c : Int) : Bool := inB a 0 1000000 && ((b == -1 && c == 0) || (decide (a > 0) && (inB b 0 3 && inB c 1 1000000)))
theorem spec_LeaderOK_eq (a b c : Int) : spec_LeaderOK.f a b c = some (leaderOK a b c) := by
  simp only [spec_LeaderOK.f, spec_l04Host.f, l01In_eq, Option.bind_some]
  refine and_opt ?_
  by_cases h1 : b = -1 <;> by_cases h2 : c = 0 <;> by_cases h3 : a > 0 <;> cases h4 : inB b 0 3 <;> cases h5 : inB c 1 1000000 <;> simp [h1, h2, h3]
theorem impl_LeaderOK_eq (a b c : Int) : impl_LeaderOK.f a b c = some (leaderOK a b c) := by
  simp only [impl_LeaderOK.f, impl_isVer.f, impl_nobody.f, impl_isHost.f, impl_isGen.f, within_eq, Option.bind_some]
  refine and_opt ?_
  by_cases h1 : b = -1 <;> by_cases h2 : c = 0 <;> by_cases h3 : a > 0 <;> cases h4 : inB b 0 3 <;> cases h5 : inB c 1 1000000 <;> simp [h1, h2, h3]
theorem spec_EncodeLeader_ev (a b c : Int) : Ev (fun k => spec_EncodeLeader.f k a b c) (if leaderOK a b c = true then (sealP 6 [a, wrap64 (b + 1), c], 0) else ((⟨#[]⟩ : ByteArray), 1)) := by
  unfold spec_EncodeLeader.f spec_l06Encode.f
  simp only [spec_LeaderOK_eq, Option.bind_some]
  cases leaderOK a b c
  · exact ev_some _
  · simp only [if_true]
    exact ev_bind (ev_bind (spec_seal_ev 6 _ (by simp)) (ev_some _)) (ev_some _)
theorem impl_EncodeLeader_ev (a b c : Int) : Ev (fun k => impl_EncodeLeader.f k a b c) (if leaderOK a b c = true then (sealP 6 [a, wrap64 (b + 1), c], 0) else ((⟨#[]⟩ : ByteArray), 1)) := by
  unfold impl_EncodeLeader.f impl_Leader_text.f
  simp only [impl_LeaderOK_eq, Option.bind_some]
  cases leaderOK a b c
  · exact ev_some _
  · simp only [if_true]
    exact ev_bind (ev_bind (impl_seal_ev 6 _ (by simp)) (ev_some _)) (ev_some _)

end Go.Proofs.Ytofobhhbhicfaaa.Q
