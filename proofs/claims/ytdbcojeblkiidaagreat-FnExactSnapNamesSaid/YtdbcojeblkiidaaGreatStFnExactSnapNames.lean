/- What the pure statement of laws.FnExactSnapNames says (its bounds and the statement). -/
import Derived.Test.YtdbcojeblkiidaaGreatKFnExactSnapNames1
import Derived.Test.YtdbcojeblkiidaaGreatKFnExactSnapNames2
import Derived.Test.YtdbcojeblkiidaaGreatKFnExactSnapNames3
import Derived.Test.YtdbcojeblkiidaaGreatKFnExactSnapNames4
import Derived.Test.YtdbcojeblkiidaaGreatKFnExactSnapNames5
import Derived.Test.YtdbcojeblkiidaaGreatKFnExactSnapNames6
import Derived.Test.YtdbcojeblkiidaaGreatKFnExactSnapNames7
import Derived.Test.YtdbcojeblkiidaaGreatKFnExactSnapNames8
import Derived.Test.YtdbcojeblkiidaaGreatKFnExactSnapNames9
import Derived.Test.YtdbcojeblkiidaaGreatKFnExactSnapNames10
namespace Go.Proofs.YtdbcojeblkiidaaGreat.Q.FnExactSnapNames
open Go.RowKit Go.Proofs.YtdbcojeblkiidaaGreat.Ext Go.Proofs.YtdbcojeblkiidaaGreat.Q Go.Proofs.YtdbcojeblkiidaaGreatW.PrintWords Go.Proofs.YtdbcojeblkiidaaGreatW.PrintLast Go.Proofs.YtdbcojeblkiidaaGreatW.PrintMore
set_option linter.unusedVariables false
def okLI (x : (List Int)) : Prop := x.length ≤ maxLen ∧ ∀ y ∈ x, okI y
def ok107 (x : S107) : Prop := (x.f0.size ≤ maxLen) ∧ (x.f1.length ≤ maxLen ∧ ∀ y ∈ x.f1, okI y)
def okL107 (x : (List S107)) : Prop := x.length ≤ maxLen ∧ ∀ y ∈ x, ok107 y
def st : Prop := ∀ (l0_0 : (List Int)) (l0_1 : (List Int)) (l0_2 : (List S107)) (l0_3 : (List Int)), (l0_0.length ≤ maxLen ∧ ∀ y ∈ l0_0, okI y) → (l0_1.length ≤ maxLen ∧ ∀ y ∈ l0_1, okI y) → (l0_2.length ≤ maxLen ∧ ∀ y ∈ l0_2, ok107 y) → (l0_3.length ≤ maxLen ∧ ∀ y ∈ l0_3, okI y) → ∃ k, laws_FnExactSnapNames.f k l0_0 l0_1 l0_2 l0_3 = some true
end Go.Proofs.YtdbcojeblkiidaaGreat.Q.FnExactSnapNames
