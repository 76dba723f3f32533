/- What the pure statement of laws.FnExactReplyText says (its bounds and the statement). -/
import Derived.Test.YtniceoohmhjjlaaDoorKFnExactReplyText1
import Derived.Test.YtniceoohmhjjlaaDoorKFnExactReplyText2
import Derived.Test.YtniceoohmhjjlaaDoorKFnExactReplyText3
import Derived.Test.YtniceoohmhjjlaaDoorKFnExactReplyText4
namespace Go.Proofs.YtniceoohmhjjlaaDoor.Q.FnExactReplyText
open Go.RowKit Go.Proofs.YtniceoohmhjjlaaDoor.Ext Go.Proofs.YtniceoohmhjjlaaDoor.Q Go.Proofs.YtniceoohmhjjlaaDoorW.PrintWords Go.Proofs.YtniceoohmhjjlaaDoorW.PrintLast Go.Proofs.YtniceoohmhjjlaaDoorW.PrintMore
set_option linter.unusedVariables false
def okLS (x : (List ByteArray)) : Prop := x.length ≤ maxLen ∧ ∀ y ∈ x, okS y
def st : Prop := ∀ (a0_0 : Int) (a0_1 : Int) (a0_2 : Int) (a0_3 : ByteArray) (a1_0 : Int) (a1_1 : Int) (l1_2 : (List ByteArray)), ((Lit.int .i64 a0_0).wf = true) → ((Lit.int .i64 a0_1).wf = true) → ((Lit.int .i64 a0_2).wf = true) → (a0_3.size ≤ maxLen) → ((Lit.int .i64 a1_0).wf = true) → ((Lit.int .i64 a1_1).wf = true) → (l1_2.length ≤ maxLen ∧ ∀ y ∈ l1_2, okS y) → ∃ k, laws_FnExactReplyText.f k a0_0 a0_1 a0_2 a0_3 a1_0 a1_1 l1_2 = some true
end Go.Proofs.YtniceoohmhjjlaaDoor.Q.FnExactReplyText
