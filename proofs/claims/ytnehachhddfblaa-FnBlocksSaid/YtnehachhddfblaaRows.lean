/-
  No cell of these rows narrows 'for every input' (looked for: loops, veiled, ifaces, maps, wideKeys, modest, calm, conditions, laid).
  DERIVED. THE GIVEN ROWS OF THIS SEAT. 4 by the template 'for every input the law returns true; each argument reads behind the call as it read before'; 0 by the template 'total and deterministic' (their statements: YtnehachhddfblaaTotals.lean).
  GIVEN WITH THE SEED: the statements are not yours to turn. If you find one false, say at which input.
  Laid BY PROGRAM, IN A SANDBOX (cutbox-rows.mjs): the forced cells as the released guide's own fill.sh prints them over the translation 2f9d39b12c918f42… (all of the seat's roots in one cut). By AI agents, Wed Nov 11 2026. No macro, syntax, notation, axiom, sorry.
-/
import Derived.Test.YtnehachhddfblaaChecked
import GoSem.Claim
import GoSem.ClaimJoined
import GoSem.ClaimMapViews
import Derived.JoinedTies
import Derived.KernelRfl
namespace Go.Proofs.Ytnehachhddfblaa
/- THE CELL 'sum', in the pinned program and in every row, IS THE sha256 OF THE DUMP (.gsa) THAT YtnehachhddfblaaProg.lean LOADS. Nothing in Lean hashes anything: it is a label: what it is worth is what the hold of that sum in a sandbox is worth. -/
noncomputable def Try.pinned : Pinned := { name := "ytnehachhddfblaa", sum := "2f9d39b12c918f42adc224cb532d48b21a78ca38227722a1bd3c218001737362", checked := Try.checked }
namespace Rows
def none {H : Type} : Left H := { results := [], args := [] }

/-- 'laws.FnExactNewGuest': WHATEVER THE INPUT: true; the input reads as it did. -/
def fnExactNewGuestSpec : ChangeSpec := { name := "fnExactNewGuest", fn := fun _ => fun
  | [d] => { results := [.lit (.bool true)], args := [d] }
  | _ => none }
def fnExactNewGuestRow : OpenClaim := { program := "ytnehachhddfblaa", sum := "2f9d39b12c918f42adc224cb532d48b21a78ca38227722a1bd3c218001737362", func := "loop.example/g00456/laws.FnExactNewGuest", spec := "fnExactNewGuest", apart := false }
def FnExactNewGuestSaid : Prop := fnExactNewGuestRow.holds Try.pinned (OpenSpec.ofChange fnExactNewGuestSpec)

/-- ITS FALSE NEIGHBOUR: 'it returns false'. Refute it at one input. -/
def fnExactNewGuestWrong : ChangeSpec := { name := "fnExactNewGuest", fn := fun _ => fun
  | [d] => { results := [.lit (.bool false)], args := [d] }
  | _ => none }
def FnExactNewGuestWrongFalsely : Prop := fnExactNewGuestRow.holds Try.pinned (OpenSpec.ofChange fnExactNewGuestWrong)

/-- 'laws.FnExactSameGuest': WHATEVER THE INPUT: true; the input reads as it did. -/
def fnExactSameGuestSpec : ChangeSpec := { name := "fnExactSameGuest", fn := fun _ => fun
  | [d1, d2] => { results := [.lit (.bool true)], args := [d1, d2] }
  | _ => none }
def fnExactSameGuestRow : OpenClaim := { program := "ytnehachhddfblaa", sum := "2f9d39b12c918f42adc224cb532d48b21a78ca38227722a1bd3c218001737362", func := "loop.example/g00456/laws.FnExactSameGuest", spec := "fnExactSameGuest", unfollowed := true, recurses := true, apart := false }
def FnExactSameGuestSaid : Prop := fnExactSameGuestRow.holds Try.pinned (OpenSpec.ofChange fnExactSameGuestSpec)

/-- ITS FALSE NEIGHBOUR: 'it returns false'. Refute it at one input. -/
def fnExactSameGuestWrong : ChangeSpec := { name := "fnExactSameGuest", fn := fun _ => fun
  | [d1, d2] => { results := [.lit (.bool false)], args := [d1, d2] }
  | _ => none }
def FnExactSameGuestWrongFalsely : Prop := fnExactSameGuestRow.holds Try.pinned (OpenSpec.ofChange fnExactSameGuestWrong)

/-- 'laws.FnBlocks': WHATEVER THE INPUT: true; the input reads as it did. -/
def fnBlocksSpec : ChangeSpec := { name := "fnBlocks", fn := fun _ => fun
  | [d1, d2] => { results := [.lit (.bool true)], args := [d1, d2] }
  | _ => none }
def fnBlocksRow : OpenClaim := { program := "ytnehachhddfblaa", sum := "2f9d39b12c918f42adc224cb532d48b21a78ca38227722a1bd3c218001737362", func := "loop.example/g00456/laws.FnBlocks", spec := "fnBlocks", unfollowed := true, recurses := true, apart := false }
def FnBlocksSaid : Prop := fnBlocksRow.holds Try.pinned (OpenSpec.ofChange fnBlocksSpec)

/-- ITS FALSE NEIGHBOUR: 'it returns false'. Refute it at one input. -/
def fnBlocksWrong : ChangeSpec := { name := "fnBlocks", fn := fun _ => fun
  | [d1, d2] => { results := [.lit (.bool false)], args := [d1, d2] }
  | _ => none }
def FnBlocksWrongFalsely : Prop := fnBlocksRow.holds Try.pinned (OpenSpec.ofChange fnBlocksWrong)

/-- 'laws.FnUpdates': WHATEVER THE INPUT: true; the input reads as it did. -/
def fnUpdatesSpec : ChangeSpec := { name := "fnUpdates", fn := fun _ => fun
  | [d1, d2] => { results := [.lit (.bool true)], args := [d1, d2] }
  | _ => none }
def fnUpdatesRow : OpenClaim := { program := "ytnehachhddfblaa", sum := "2f9d39b12c918f42adc224cb532d48b21a78ca38227722a1bd3c218001737362", func := "loop.example/g00456/laws.FnUpdates", spec := "fnUpdates", unfollowed := true, recurses := true, apart := false }
def FnUpdatesSaid : Prop := fnUpdatesRow.holds Try.pinned (OpenSpec.ofChange fnUpdatesSpec)

/-- ITS FALSE NEIGHBOUR: 'it returns false'. Refute it at one input. -/
def fnUpdatesWrong : ChangeSpec := { name := "fnUpdates", fn := fun _ => fun
  | [d1, d2] => { results := [.lit (.bool false)], args := [d1, d2] }
  | _ => none }
def FnUpdatesWrongFalsely : Prop := fnUpdatesRow.holds Try.pinned (OpenSpec.ofChange fnUpdatesWrong)

/- THE SECOND FORM. 'bulk': how many values and letters a reading holds, each counted each time it is reached (what is shared counts as often as it is met; a slice's spare places count too). A statement '..UptoSaid' is the law's where the arguments, and the package variables that the reading takes, are together of bulk at most 1048576: NARROWER than '..Said'. Prove '..Said' where nothing that the law and all that it calls make is longer than what came in: it says more and counts as full. Else prove '..UptoSaid'. A law counts once. -/
mutual
def uptoBulk {H : Type} : DataW H → Nat
  | .lit (.string bytes) => bytes.length + 1
  | .lit _ => 1
  | .nil => 1
  | .ptr d => uptoBulk d + 1
  | .slice elems spare => uptoBulkAll elems + uptoBulkAll spare + 1
  | .agg parts => uptoBulkAll parts + 1
  | .iface _ d => uptoBulk d + 1
  | .map entries => uptoBulkEntries entries + 1
  | .held _ => 1
def uptoBulkAll {H : Type} : List (DataW H) → Nat
  | [] => 0
  | d :: r => uptoBulk d + uptoBulkAll r
def uptoBulkEntries {H : Type} : List (Lit × DataW H) → Nat
  | [] => 0
  | x :: r => uptoBulkEntry x + uptoBulkEntries r
def uptoBulkEntry {H : Type} : Lit × DataW H → Nat
  | (.string bytes, d) => bytes.length + uptoBulk d + 1
  | (_, d) => uptoBulk d + 1
 end
def uptoSmall : (H : Type) → List (DataW H) → Bool := fun _ ds => decide (uptoBulkAll ds ≤ 1048576)
def OpenSpec.upto (s : _root_.Go.ChangeSpec) : _root_.Go.OpenSpec := { _root_.Go.OpenSpec.ofChange s with cond := some uptoSmall }

/-- 'laws.FnExactNewGuest', WHERE WHAT IT READS IS OF BULK AT MOST 1048576: true; the input reads as it did. -/
def fnExactNewGuestUptoRow : OpenClaim := { program := "ytnehachhddfblaa", sum := "2f9d39b12c918f42adc224cb532d48b21a78ca38227722a1bd3c218001737362", func := "loop.example/g00456/laws.FnExactNewGuest", spec := "fnExactNewGuest", apart := false, narrowed := true }
def FnExactNewGuestUptoSaid : Prop := fnExactNewGuestUptoRow.holds Try.pinned (OpenSpec.upto fnExactNewGuestSpec)

/-- 'laws.FnExactSameGuest', WHERE WHAT IT READS IS OF BULK AT MOST 1048576: true; the input reads as it did. -/
def fnExactSameGuestUptoRow : OpenClaim := { program := "ytnehachhddfblaa", sum := "2f9d39b12c918f42adc224cb532d48b21a78ca38227722a1bd3c218001737362", func := "loop.example/g00456/laws.FnExactSameGuest", spec := "fnExactSameGuest", unfollowed := true, recurses := true, apart := false, narrowed := true }
def FnExactSameGuestUptoSaid : Prop := fnExactSameGuestUptoRow.holds Try.pinned (OpenSpec.upto fnExactSameGuestSpec)

/-- 'laws.FnBlocks', WHERE WHAT IT READS IS OF BULK AT MOST 1048576: true; the input reads as it did. -/
def fnBlocksUptoRow : OpenClaim := { program := "ytnehachhddfblaa", sum := "2f9d39b12c918f42adc224cb532d48b21a78ca38227722a1bd3c218001737362", func := "loop.example/g00456/laws.FnBlocks", spec := "fnBlocks", unfollowed := true, recurses := true, apart := false, narrowed := true }
def FnBlocksUptoSaid : Prop := fnBlocksUptoRow.holds Try.pinned (OpenSpec.upto fnBlocksSpec)

/-- 'laws.FnUpdates', WHERE WHAT IT READS IS OF BULK AT MOST 1048576: true; the input reads as it did. -/
def fnUpdatesUptoRow : OpenClaim := { program := "ytnehachhddfblaa", sum := "2f9d39b12c918f42adc224cb532d48b21a78ca38227722a1bd3c218001737362", func := "loop.example/g00456/laws.FnUpdates", spec := "fnUpdates", unfollowed := true, recurses := true, apart := false, narrowed := true }
def FnUpdatesUptoSaid : Prop := fnUpdatesUptoRow.holds Try.pinned (OpenSpec.upto fnUpdatesSpec)

end Rows
end Go.Proofs.Ytnehachhddfblaa
