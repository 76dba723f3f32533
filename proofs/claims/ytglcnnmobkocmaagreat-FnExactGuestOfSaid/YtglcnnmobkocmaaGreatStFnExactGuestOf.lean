/- What the pure statement of laws.FnExactGuestOf says (its bounds and the statement). -/
import Derived.Test.YtglcnnmobkocmaaGreatKFnExactGuestOf1
import Derived.Test.YtglcnnmobkocmaaGreatKFnExactGuestOf2
import Derived.Test.YtglcnnmobkocmaaGreatKFnExactGuestOf3
import Derived.Test.YtglcnnmobkocmaaGreatKFnExactGuestOf4
import Derived.Test.YtglcnnmobkocmaaGreatKFnExactGuestOf5
import Derived.Test.YtglcnnmobkocmaaGreatKFnExactGuestOf6
import Derived.Test.YtglcnnmobkocmaaGreatKFnExactGuestOf7
import Derived.Test.YtglcnnmobkocmaaGreatKFnExactGuestOf8
import Derived.Test.YtglcnnmobkocmaaGreatKFnExactGuestOf9
import Derived.Test.YtglcnnmobkocmaaGreatKFnExactGuestOf10
namespace Go.Proofs.YtglcnnmobkocmaaGreat.Q.FnExactGuestOf
open Go.RowKit Go.Proofs.YtglcnnmobkocmaaGreat.Ext Go.Proofs.YtglcnnmobkocmaaGreat.Q Go.Proofs.YtglcnnmobkocmaaGreatW.PrintWords Go.Proofs.YtglcnnmobkocmaaGreatW.PrintLast Go.Proofs.YtglcnnmobkocmaaGreatW.PrintMore
set_option linter.unusedVariables false
def okLI (x : (List Int)) : Prop := x.length ≤ maxLen ∧ ∀ y ∈ x, okI y
def ok102 (x : S102) : Prop := (x.f0.size ≤ maxLen) ∧ (x.f1.length ≤ maxLen ∧ ∀ y ∈ x.f1, okI y)
def okL102 (x : (List S102)) : Prop := x.length ≤ maxLen ∧ ∀ y ∈ x, ok102 y
def st : Prop := ∀ (l0_0 : (List Int)) (l0_1 : (List Int)) (l0_2 : (List S102)) (l0_3 : (List Int)), (l0_0.length ≤ maxLen ∧ ∀ y ∈ l0_0, okI y) → (l0_1.length ≤ maxLen ∧ ∀ y ∈ l0_1, okI y) → (l0_2.length ≤ maxLen ∧ ∀ y ∈ l0_2, ok102 y) → (l0_3.length ≤ maxLen ∧ ∀ y ∈ l0_3, okI y) → ∃ k, laws_FnExactGuestOf.f k l0_0 l0_1 l0_2 l0_3 = some true
end Go.Proofs.YtglcnnmobkocmaaGreat.Q.FnExactGuestOf
