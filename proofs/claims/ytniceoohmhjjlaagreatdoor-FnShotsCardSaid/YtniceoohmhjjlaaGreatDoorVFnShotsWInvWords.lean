/- The print's words (WInvWords). -/
import Derived.Test.YtniceoohmhjjlaaGreatDoorVFnShotsWInv
import Derived.Test.YtniceoohmhjjlaaGreatDoorVFnShotsWFootNe
namespace Go.Proofs.YtniceoohmhjjlaaGreatDoorW.PrintWords
open Go.RowKit
end Go.Proofs.YtniceoohmhjjlaaGreatDoorW.PrintWords
namespace Go.Proofs.YtniceoohmhjjlaaGreatDoorW.PrintLast
section
variable {ops : Array Oper} {a : Act} {o og : Oper} {g : Nat} {t : Tmp} {u : Bool}
theorem eval_of {v : Value} (h : a.tmps[t]? = some v) : a.eval (.tmp t) = v := by simp [Act.eval, h]
end
end Go.Proofs.YtniceoohmhjjlaaGreatDoorW.PrintLast
