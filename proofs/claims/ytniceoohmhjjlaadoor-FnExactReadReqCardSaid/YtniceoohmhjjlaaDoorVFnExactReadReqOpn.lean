/- Of what the print wrote for this claim (Opn): what its texts use. -/
import Derived.Test.YtniceoohmhjjlaaDoorVFnExactReadReqWWords
import Derived.WalkKit
import Derived.ProofKit
import Derived.OpenShut
import Derived.Deep.Slices
namespace Go.Proofs.YtniceoohmhjjlaaDoor.Opn
open Go.RowKit Go.Deep Go.Proofs.YtniceoohmhjjlaaDoorW.PrintWords
set_option linter.unusedVariables false
structure Opn {α : Type} (P : Program) (t : TypeId) (d : Kd α) (ok : α → Prop) : Prop where
  sz : P.cellsOf t = d.sz
  op : ∀ {H : Type} {enc : TypeId × Value → H} {W : World} {base : Nat} {spare : Nat → Bool} {held : Bool} {fuel : Nat} {cs : List Value} {x : DataW H × List MemPlace},
    DataW.trod enc P W base spare held fuel t cs = some x → ∃ a, d.K W a cs ∧ ok a

theorem opn_string {P : Program} {t : TypeId} (ht : P.underlying t = some .string) (hc : P.cellsOf t = 1) : Opn P t Kd.string (fun s => s.size ≤ maxLen) where
  sz := hc
  op h := by
    obtain ⟨n, rfl, _, hw⟩ := DataW.trod_string ht h
    exact ⟨n, rfl, hw⟩
end Go.Proofs.YtniceoohmhjjlaaDoor.Opn
