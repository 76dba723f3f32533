/-
  DERIVED. GIVEN WITH THE SEED: THE CARDS: each row of YtniceoohmhjjlaaGreatDoorRows.lean that lists a variable, with what it lists TIED to the program's text (the seventh form; the later family's looks); each row that meets fmt, with fmt's text TOLD by the authors' own Lean function (tested against real Go, not proved from fmt's source: count such statements apart). THE CARD IS WHAT COUNTS. Prove the row's statement (the work); the ties are given (YtniceoohmhjjlaaGreatDoorTie.lean); close each card by the builder's one call (the guide's Derived/Test/ToyasCard.lean, 'card_holds'). Laid BY PROGRAM, IN A SANDBOX (cutbox-door.mjs). By AI agents, Wed Nov 11 2026. No macro, syntax, notation, axiom, sorry.
-/
import Derived.Test.YtniceoohmhjjlaaGreatDoorRows
import GoSem.ClaimSeven
namespace Go.Proofs.YtniceoohmhjjlaaGreatDoor
namespace Rows

/-- THE TIED CARD OF 'laws.FnShots'. -/
def fnShotsCard : Claim7 := { stood := { row := fnShotsRow, standIns := [], harness := (true, "b74d08c3ac349eb1b5417b97c3a6fbb765aece81227ab4b87ad9e252fa954fd9"), looks := true }, kinds := [], alts := [], laidByText := true, laidKinds := [.data, .data, .data], laidTests := true, laidLooks := .later }
def FnShotsCardSaid : Prop := Claim7.holds Tryz.pinned (.plain (OpenSpec.ofChange fnShotsSpec)) fnShotsCard

/-- THE SECOND FORM's CARD OF 'laws.FnShots'. -/
def fnShotsUptoCard : Claim7 := { stood := { row := fnShotsUptoRow, standIns := [], harness := (true, "b74d08c3ac349eb1b5417b97c3a6fbb765aece81227ab4b87ad9e252fa954fd9"), looks := true }, kinds := [], alts := [], laidByText := true, laidKinds := [.data, .data, .data], laidTests := true, laidLooks := .later }
def FnShotsUptoCardSaid : Prop := Claim7.holds Tryz.pinned (.plain (OpenSpec.upto fnShotsSpec)) fnShotsUptoCard
end Rows
end Go.Proofs.YtniceoohmhjjlaaGreatDoor
