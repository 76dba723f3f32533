/-
  DERIVED. GIVEN WITH THE SEED: THE CARDS: each row of YtniceoohmhjjlaaDoorRows.lean that lists a variable, with what it lists TIED to the program's text (the seventh form; the later family's looks); each row that meets fmt, with fmt's text TOLD by the authors' own Lean function (tested against real Go, not proved from fmt's source: count such statements apart). THE CARD IS WHAT COUNTS. Prove the row's statement (the work); the ties are given (YtniceoohmhjjlaaDoorTie.lean); close each card by the builder's one call (the guide's Derived/Test/ToyasCard.lean, 'card_holds'). Laid BY PROGRAM, IN A SANDBOX (cutbox-door.mjs). By AI agents, Wed Nov 11 2026. No macro, syntax, notation, axiom, sorry.
-/
import Derived.Test.YtniceoohmhjjlaaDoorRows
import GoSem.ClaimSeven
namespace Go.Proofs.YtniceoohmhjjlaaDoor
namespace Rows

/-- THE TIED CARD OF 'laws.FnExactReadReq'. -/
def fnExactReadReqCard : Claim7 := { stood := { row := fnExactReadReqRow, standIns := [], harness := (true, "a70e6f9c3d73d59c4e3cdffbf282935af71a7cba78a1de181424bf8af6721979"), looks := true }, kinds := [], alts := [], laidByText := true, laidKinds := [.data, .data, .data, .data, .sentinel, .sentinel, .pinned], laidTests := true, laidLooks := .later }
def FnExactReadReqCardSaid : Prop := Claim7.holds Tryd.pinned (.plain (OpenSpec.ofChange fnExactReadReqSpec)) fnExactReadReqCard

/-- THE TIED CARD OF 'laws.FnReqText'. -/
def fnReqTextCard : Claim7 := { stood := { row := fnReqTextRow, standIns := [], harness := (true, "a70e6f9c3d73d59c4e3cdffbf282935af71a7cba78a1de181424bf8af6721979"), looks := true }, kinds := [], alts := [], laidByText := true, laidKinds := [.data, .data, .data, .data, .sentinel, .sentinel, .pinned], laidTests := true, laidLooks := .later }
def FnReqTextCardSaid : Prop := Claim7.holds Tryd.pinned (.plain (OpenSpec.ofChange fnReqTextSpec)) fnReqTextCard

/-- THE TIED CARD OF 'laws.FnExactReqText'. -/
def fnExactReqTextCard : Claim7 := { stood := { row := fnExactReqTextRow, standIns := [], harness := (true, "a70e6f9c3d73d59c4e3cdffbf282935af71a7cba78a1de181424bf8af6721979"), looks := true }, kinds := [], alts := [], laidByText := true, laidKinds := [.data, .data, .data], laidTests := true, laidLooks := .later }
def FnExactReqTextCardSaid : Prop := Claim7.holds Tryd.pinned (.plain (OpenSpec.ofChange fnExactReqTextSpec)) fnExactReqTextCard

/-- THE TIED CARD OF 'laws.FnExactReplyText'. -/
def fnExactReplyTextCard : Claim7 := { stood := { row := fnExactReplyTextRow, standIns := [], harness := (true, "a70e6f9c3d73d59c4e3cdffbf282935af71a7cba78a1de181424bf8af6721979"), looks := true }, kinds := [], alts := [], laidByText := true, laidKinds := [.data, .data, .data], laidTests := true, laidLooks := .later }
def FnExactReplyTextCardSaid : Prop := Claim7.holds Tryd.pinned (.plain (OpenSpec.ofChange fnExactReplyTextSpec)) fnExactReplyTextCard

/-- THE TIED CARD OF 'laws.FnExactGuestText'. -/
def fnExactGuestTextCard : Claim7 := { stood := { row := fnExactGuestTextRow, standIns := [], harness := (true, "a70e6f9c3d73d59c4e3cdffbf282935af71a7cba78a1de181424bf8af6721979"), looks := true }, kinds := [], alts := [], laidByText := true, laidKinds := [.data, .data, .data], laidTests := true, laidLooks := .later }
def FnExactGuestTextCardSaid : Prop := Claim7.holds Tryd.pinned (.plain (OpenSpec.ofChange fnExactGuestTextSpec)) fnExactGuestTextCard

/-- THE SECOND FORM's CARD OF 'laws.FnExactReadReq'. -/
def fnExactReadReqUptoCard : Claim7 := { stood := { row := fnExactReadReqUptoRow, standIns := [], harness := (true, "a70e6f9c3d73d59c4e3cdffbf282935af71a7cba78a1de181424bf8af6721979"), looks := true }, kinds := [], alts := [], laidByText := true, laidKinds := [.data, .data, .data, .data, .sentinel, .sentinel, .pinned], laidTests := true, laidLooks := .later }
def FnExactReadReqUptoCardSaid : Prop := Claim7.holds Tryd.pinned (.plain (OpenSpec.upto fnExactReadReqSpec)) fnExactReadReqUptoCard

/-- THE SECOND FORM's CARD OF 'laws.FnReqText'. -/
def fnReqTextUptoCard : Claim7 := { stood := { row := fnReqTextUptoRow, standIns := [], harness := (true, "a70e6f9c3d73d59c4e3cdffbf282935af71a7cba78a1de181424bf8af6721979"), looks := true }, kinds := [], alts := [], laidByText := true, laidKinds := [.data, .data, .data, .data, .sentinel, .sentinel, .pinned], laidTests := true, laidLooks := .later }
def FnReqTextUptoCardSaid : Prop := Claim7.holds Tryd.pinned (.plain (OpenSpec.upto fnReqTextSpec)) fnReqTextUptoCard

/-- THE SECOND FORM's CARD OF 'laws.FnExactReqText'. -/
def fnExactReqTextUptoCard : Claim7 := { stood := { row := fnExactReqTextUptoRow, standIns := [], harness := (true, "a70e6f9c3d73d59c4e3cdffbf282935af71a7cba78a1de181424bf8af6721979"), looks := true }, kinds := [], alts := [], laidByText := true, laidKinds := [.data, .data, .data], laidTests := true, laidLooks := .later }
def FnExactReqTextUptoCardSaid : Prop := Claim7.holds Tryd.pinned (.plain (OpenSpec.upto fnExactReqTextSpec)) fnExactReqTextUptoCard

/-- THE SECOND FORM's CARD OF 'laws.FnExactReplyText'. -/
def fnExactReplyTextUptoCard : Claim7 := { stood := { row := fnExactReplyTextUptoRow, standIns := [], harness := (true, "a70e6f9c3d73d59c4e3cdffbf282935af71a7cba78a1de181424bf8af6721979"), looks := true }, kinds := [], alts := [], laidByText := true, laidKinds := [.data, .data, .data], laidTests := true, laidLooks := .later }
def FnExactReplyTextUptoCardSaid : Prop := Claim7.holds Tryd.pinned (.plain (OpenSpec.upto fnExactReplyTextSpec)) fnExactReplyTextUptoCard

/-- THE SECOND FORM's CARD OF 'laws.FnExactGuestText'. -/
def fnExactGuestTextUptoCard : Claim7 := { stood := { row := fnExactGuestTextUptoRow, standIns := [], harness := (true, "a70e6f9c3d73d59c4e3cdffbf282935af71a7cba78a1de181424bf8af6721979"), looks := true }, kinds := [], alts := [], laidByText := true, laidKinds := [.data, .data, .data], laidTests := true, laidLooks := .later }
def FnExactGuestTextUptoCardSaid : Prop := Claim7.holds Tryd.pinned (.plain (OpenSpec.upto fnExactGuestTextSpec)) fnExactGuestTextUptoCard
end Rows
end Go.Proofs.YtniceoohmhjjlaaDoor
