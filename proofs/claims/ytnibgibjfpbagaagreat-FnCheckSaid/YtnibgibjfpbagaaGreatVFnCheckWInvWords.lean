/- The print's words (WInvWords). -/
import Derived.Test.YtnibgibjfpbagaaGreatVFnCheckWInv
import Derived.Test.YtnibgibjfpbagaaGreatVFnCheckWFootNe
namespace Go.Proofs.YtnibgibjfpbagaaGreatW.PrintWords
open Go.RowKit
end Go.Proofs.YtnibgibjfpbagaaGreatW.PrintWords
namespace Go.Proofs.YtnibgibjfpbagaaGreatW.PrintLast
section
variable {ops : Array Oper} {a : Act} {o og : Oper} {g : Nat} {t : Tmp} {u : Bool}
theorem eval_of {v : Value} (h : a.tmps[t]? = some v) : a.eval (.tmp t) = v := by simp [Act.eval, h]
end
end Go.Proofs.YtnibgibjfpbagaaGreatW.PrintLast
