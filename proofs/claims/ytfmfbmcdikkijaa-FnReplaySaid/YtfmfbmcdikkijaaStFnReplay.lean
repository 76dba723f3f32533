import Derived.Test.YtfmfbmcdikkijaaKFnReplay1
import Derived.Test.YtfmfbmcdikkijaaKFnReplay2
import Derived.Test.YtfmfbmcdikkijaaKFnReplay3
import Derived.Test.YtfmfbmcdikkijaaKFnReplay4
import Derived.Test.YtfmfbmcdikkijaaKFnReplay5
import Derived.Test.YtfmfbmcdikkijaaKFnReplay6
import Derived.Test.YtfmfbmcdikkijaaKFnReplay7
import Derived.Test.YtfmfbmcdikkijaaKFnReplay8
namespace Go.Proofs.Ytfmfbmcdikkijaa.Q.FnReplay
open Go.RowKit Go.Proofs.Ytfmfbmcdikkijaa.Ext Go.Proofs.Ytfmfbmcdikkijaa.Q Go.Proofs.YtfmfbmcdikkijaaW.PrintWords Go.Proofs.YtfmfbmcdikkijaaW.PrintLast Go.Proofs.YtfmfbmcdikkijaaW.PrintMore
set_option linter.unusedVariables false
def st : Prop := ∀ (l0 : (List Int)) (l1 : (List Int)), (l0.length ≤ maxLen ∧ ∀ y ∈ l0, okU8 y) → (l1.length ≤ maxLen ∧ ∀ y ∈ l1, okU8 y) → ∃ k, laws_FnReplay.f k l0 l1 = some true
end Go.Proofs.Ytfmfbmcdikkijaa.Q.FnReplay
