import Derived.Test.YtglcnnmobkocmaaGreatKFnExactDiffUpdates1
import Derived.Test.YtglcnnmobkocmaaGreatKFnExactDiffUpdates2
import Derived.Test.YtglcnnmobkocmaaGreatKFnExactDiffUpdates3
import Derived.Test.YtglcnnmobkocmaaGreatKFnExactDiffUpdates4
import Derived.Test.YtglcnnmobkocmaaGreatKFnExactDiffUpdates5
import Derived.Test.YtglcnnmobkocmaaGreatKFnExactDiffUpdates6
import Derived.Test.YtglcnnmobkocmaaGreatKFnExactDiffUpdates7
import Derived.Test.YtglcnnmobkocmaaGreatKFnExactDiffUpdates8
import Derived.Test.YtglcnnmobkocmaaGreatKFnExactDiffUpdates9
namespace Go.Proofs.YtglcnnmobkocmaaGreat.Q.FnExactDiffUpdates
open Go.RowKit Go.Proofs.YtglcnnmobkocmaaGreat.Ext Go.Proofs.YtglcnnmobkocmaaGreat.Q Go.Proofs.YtglcnnmobkocmaaGreatW.PrintWords Go.Proofs.YtglcnnmobkocmaaGreatW.PrintLast Go.Proofs.YtglcnnmobkocmaaGreatW.PrintMore
set_option linter.unusedVariables false
def okLI (x : (List Int)) : Prop := x.length ≤ maxLen ∧ ∀ y ∈ x, okI y
def ok102 (x : S102) : Prop := (x.f0.size ≤ maxLen) ∧ (x.f1.length ≤ maxLen ∧ ∀ y ∈ x.f1, okI y)
def okL102 (x : (List S102)) : Prop := x.length ≤ maxLen ∧ ∀ y ∈ x, ok102 y
def st : Prop := ∀ (l0_0 : (List Int)) (l0_1 : (List Int)) (l0_2 : (List S102)) (l0_3 : (List Int)) (l1_0 : (List Int)) (l1_1 : (List Int)) (l1_2 : (List S102)) (l1_3 : (List Int)), (l0_0.length ≤ maxLen ∧ ∀ y ∈ l0_0, okI y) → (l0_1.length ≤ maxLen ∧ ∀ y ∈ l0_1, okI y) → (l0_2.length ≤ maxLen ∧ ∀ y ∈ l0_2, ok102 y) → (l0_3.length ≤ maxLen ∧ ∀ y ∈ l0_3, okI y) → (l1_0.length ≤ maxLen ∧ ∀ y ∈ l1_0, okI y) → (l1_1.length ≤ maxLen ∧ ∀ y ∈ l1_1, okI y) → (l1_2.length ≤ maxLen ∧ ∀ y ∈ l1_2, ok102 y) → (l1_3.length ≤ maxLen ∧ ∀ y ∈ l1_3, okI y) → ∃ k, laws_FnExactDiffUpdates.f k l0_0 l0_1 l0_2 l0_3 l1_0 l1_1 l1_2 l1_3 = some true
end Go.Proofs.YtglcnnmobkocmaaGreat.Q.FnExactDiffUpdates
