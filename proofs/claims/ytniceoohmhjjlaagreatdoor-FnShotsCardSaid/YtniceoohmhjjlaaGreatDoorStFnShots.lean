import Derived.Test.YtniceoohmhjjlaaGreatDoorKFnShots1
import Derived.Test.YtniceoohmhjjlaaGreatDoorKFnShots2
import Derived.Test.YtniceoohmhjjlaaGreatDoorKFnShots3
import Derived.Test.YtniceoohmhjjlaaGreatDoorKFnShots4
import Derived.Test.YtniceoohmhjjlaaGreatDoorKFnShots5
import Derived.Test.YtniceoohmhjjlaaGreatDoorKFnShots6
import Derived.Test.YtniceoohmhjjlaaGreatDoorKFnShots7
import Derived.Test.YtniceoohmhjjlaaGreatDoorKFnShots8
import Derived.Test.YtniceoohmhjjlaaGreatDoorKFnShots9
import Derived.Test.YtniceoohmhjjlaaGreatDoorKFnShots10
namespace Go.Proofs.YtniceoohmhjjlaaGreatDoor.Q.FnShots
open Go.RowKit Go.Proofs.YtniceoohmhjjlaaGreatDoor.Ext Go.Proofs.YtniceoohmhjjlaaGreatDoor.Q Go.Proofs.YtniceoohmhjjlaaGreatDoorW.PrintWords Go.Proofs.YtniceoohmhjjlaaGreatDoorW.PrintLast Go.Proofs.YtniceoohmhjjlaaGreatDoorW.PrintMore
set_option linter.unusedVariables false
def st : Prop := ∀ (l0 : (List Int)) (l1 : (List Int)), (l0.length ≤ maxLen ∧ ∀ y ∈ l0, okU8 y) → (l1.length ≤ maxLen ∧ ∀ y ∈ l1, okU8 y) → ∃ k, laws_FnShots.f k l0 l1 = some true
end Go.Proofs.YtniceoohmhjjlaaGreatDoor.Q.FnShots
