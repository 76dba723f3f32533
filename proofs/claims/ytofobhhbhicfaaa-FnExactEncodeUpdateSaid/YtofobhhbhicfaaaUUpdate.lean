/- Plain laws: updates; their texts. -/
import Derived.Test.YtofobhhbhicfaaaQ7
import Derived.Test.YtofobhhbhicfaaaQ8
import Derived.Test.YtofobhhbhicfaaaUBase
import Derived.Test.YtofobhhbhicfaaaUIn
import Derived.Test.YtofobhhbhicfaaaUCodec
import Derived.Test.YtofobhhbhicfaaaExt
namespace Go.Proofs.Ytofobhhbhicfaaa.Q
open Go.RowKit Go.Proofs.Ytofobhhbhicfaaa.Ext Go.Proofs.YtofobhhbhicfaaaW.PrintWords Go.Proofs.YtofobhhbhicfaaaW.PrintLast Go.Proofs.YtofobhhbhicfaaaW.PrintMore
set_option linter.unusedVariables false
set_option linter.unusedSimpArgs false
def updateOK (a : Int) (d : ByteArray) : Bool := inB a 9 38 && decide ((d.size : Int) ≤ 72)
theorem spec_Update_eq (a : Int) (d : ByteArray) : spec_l07Update.f a d = some (updateOK a d) := by
  simp only [spec_l07Update.f, l01In_eq, Option.bind_some]
  exact and_opt rfl
theorem impl_updateOK_eq (a : Int) (d : ByteArray) : impl_updateOK.f a d = some (updateOK a d) := by
  simp only [impl_updateOK.f, within_eq, Option.bind_some]
  exact and_opt rfl
theorem updateOK_size {a : Int} {d : ByteArray} (h : updateOK a d = true) : d.size ≤ 72 := by
  simp [updateOK] at h; omega
theorem spec_l07Encode_ev (a : Int) (d : ByteArray) (h : d.size ≤ 1000000) : Ev (fun k => spec_l07Encode.f k a d) (sealP 8 [a] ++ d) := by
  unfold spec_l07Encode.f
  refine ev_bind (spec_seal_ev 8 _ (by simp)) ?_
  exact ev_pos (by rw [sealP_size]; simp; omega) (ev_some _)
theorem impl_Update_text_ev (a : Int) (d : ByteArray) (h : d.size ≤ 1000000) : Ev (fun k => impl_Update_text.f k a d) (sealP 8 [a] ++ d) := by
  unfold impl_Update_text.f
  refine ev_bind (impl_seal_ev 8 _ (by simp)) ?_
  exact ev_pos (by rw [sealP_size]; simp; omega) (ev_some _)
theorem spec_EncodeUpdate_ev (a : Int) (d : ByteArray) : Ev (fun k => spec_EncodeUpdate.f k a d) (if updateOK a d = true then (sealP 8 [a] ++ d, 0) else ((⟨#[]⟩ : ByteArray), 1)) := by
  unfold spec_EncodeUpdate.f
  simp only [spec_Update_eq, Option.bind_some]
  cases h : updateOK a d
  · exact ev_some _
  · simp only [if_true]
    exact ev_bind (spec_l07Encode_ev a d (by have := updateOK_size h; omega)) (ev_some _)
theorem impl_EncodeUpdate_ev (a : Int) (d : ByteArray) : Ev (fun k => impl_EncodeUpdate.f k a d) (if updateOK a d = true then (sealP 8 [a] ++ d, 0) else ((⟨#[]⟩ : ByteArray), 1)) := by
  unfold impl_EncodeUpdate.f
  simp only [impl_updateOK_eq, Option.bind_some]
  cases h : updateOK a d
  · exact ev_some _
  · simp only [if_true]
    exact ev_bind (impl_Update_text_ev a d (by have := updateOK_size h; omega)) (ev_some _)

end Go.Proofs.Ytofobhhbhicfaaa.Q
