import Derived.Test.YtnibgibjfpbagaaGreatKFnCheck1
import Derived.Test.YtnibgibjfpbagaaGreatKFnCheck2
import Derived.Test.YtnibgibjfpbagaaGreatKFnCheck3
import Derived.Test.YtnibgibjfpbagaaGreatKFnCheck4
import Derived.Test.YtnibgibjfpbagaaGreatKFnCheck5
import Derived.Test.YtnibgibjfpbagaaGreatKFnCheck6
import Derived.Test.YtnibgibjfpbagaaGreatKFnCheck7
import Derived.Test.YtnibgibjfpbagaaGreatKFnCheck8
import Derived.Test.YtnibgibjfpbagaaGreatKFnCheck9
import Derived.Test.YtnibgibjfpbagaaGreatKFnCheck10
namespace Go.Proofs.YtnibgibjfpbagaaGreat.Q.FnCheck
open Go.RowKit Go.Proofs.YtnibgibjfpbagaaGreat.Ext Go.Proofs.YtnibgibjfpbagaaGreat.Q Go.Proofs.YtnibgibjfpbagaaGreatW.PrintWords Go.Proofs.YtnibgibjfpbagaaGreatW.PrintLast Go.Proofs.YtnibgibjfpbagaaGreatW.PrintMore
set_option linter.unusedVariables false
def st : Prop := ∀ (l0 : (List Int)) (l1 : (List Int)), (l0.length ≤ maxLen ∧ ∀ y ∈ l0, okU8 y) → (l1.length ≤ maxLen ∧ ∀ y ∈ l1, okU8 y) → ∃ k, laws_FnCheck.f k l0 l1 = some true
end Go.Proofs.YtnibgibjfpbagaaGreat.Q.FnCheck
