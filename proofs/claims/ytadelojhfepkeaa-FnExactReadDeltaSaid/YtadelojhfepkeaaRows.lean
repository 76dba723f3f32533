/-
  No cell of these rows narrows 'for every input' (looked for: loops, veiled, ifaces, maps, wideKeys, modest, calm, conditions, laid).
  DERIVED. THE GIVEN ROWS OF THIS SEAT. 6 by the template 'for every input the law returns true; each argument reads behind the call as it read before'; 0 by the template 'total and deterministic' (their statements: YtadelojhfepkeaaTotals.lean).
  GIVEN WITH THE SEED: the statements are not yours to turn. If you find one false, say at which input.
  Laid BY PROGRAM, IN A SANDBOX (cutbox-rows.mjs): the forced cells as the released guide's own fill.sh prints them over the translation 76fa872d9ff9155c… (all of the seat's roots in one cut). By AI agents, Wed Nov 11 2026. No macro, syntax, notation, axiom, sorry.
-/
import Derived.Test.YtadelojhfepkeaaChecked
import GoSem.Claim
import GoSem.ClaimJoined
import GoSem.ClaimMapViews
import Derived.JoinedTies
import Derived.KernelRfl
namespace Go.Proofs.Ytadelojhfepkeaa
/- THE CELL 'sum', in the pinned program and in every row, IS THE sha256 OF THE DUMP (.gsa) THAT YtadelojhfepkeaaProg.lean LOADS. Nothing in Lean hashes anything: it is a label: what it is worth is what the hold of that sum in a sandbox is worth. -/
noncomputable def Try.pinned : Pinned := { name := "ytadelojhfepkeaa", sum := "76fa872d9ff9155cfb7f76e47cf0f04b9f78d3ef8564281f7319702532b5b64a", checked := Try.checked }
namespace Rows
def none {H : Type} : Left H := { results := [], args := [] }

/-- 'laws.FnExactFlush': WHATEVER THE INPUT: true; the input reads as it did. -/
def fnExactFlushSpec : ChangeSpec := { name := "fnExactFlush", fn := fun _ => fun
  | [d1, d2] => { results := [.lit (.bool true)], args := [d1, d2] }
  | _ => none }
def fnExactFlushRow : OpenClaim := { program := "ytadelojhfepkeaa", sum := "76fa872d9ff9155cfb7f76e47cf0f04b9f78d3ef8564281f7319702532b5b64a", func := "loop.example/g00456/laws.FnExactFlush", spec := "fnExactFlush", unfollowed := true, recurses := true, apart := false }
def FnExactFlushSaid : Prop := fnExactFlushRow.holds Try.pinned (OpenSpec.ofChange fnExactFlushSpec)

/-- ITS FALSE NEIGHBOUR: 'it returns false'. Refute it at one input. -/
def fnExactFlushWrong : ChangeSpec := { name := "fnExactFlush", fn := fun _ => fun
  | [d1, d2] => { results := [.lit (.bool false)], args := [d1, d2] }
  | _ => none }
def FnExactFlushWrongFalsely : Prop := fnExactFlushRow.holds Try.pinned (OpenSpec.ofChange fnExactFlushWrong)

/-- 'laws.FnExactLoseHost': WHATEVER THE INPUT: true; the input reads as it did. -/
def fnExactLoseHostSpec : ChangeSpec := { name := "fnExactLoseHost", fn := fun _ => fun
  | [d1, d2, d3] => { results := [.lit (.bool true)], args := [d1, d2, d3] }
  | _ => none }
def fnExactLoseHostRow : OpenClaim := { program := "ytadelojhfepkeaa", sum := "76fa872d9ff9155cfb7f76e47cf0f04b9f78d3ef8564281f7319702532b5b64a", func := "loop.example/g00456/laws.FnExactLoseHost", spec := "fnExactLoseHost", unfollowed := true, recurses := true, apart := false }
def FnExactLoseHostSaid : Prop := fnExactLoseHostRow.holds Try.pinned (OpenSpec.ofChange fnExactLoseHostSpec)

/-- ITS FALSE NEIGHBOUR: 'it returns false'. Refute it at one input. -/
def fnExactLoseHostWrong : ChangeSpec := { name := "fnExactLoseHost", fn := fun _ => fun
  | [d1, d2, d3] => { results := [.lit (.bool false)], args := [d1, d2, d3] }
  | _ => none }
def FnExactLoseHostWrongFalsely : Prop := fnExactLoseHostRow.holds Try.pinned (OpenSpec.ofChange fnExactLoseHostWrong)

/-- 'laws.FnExactLandOne': WHATEVER THE INPUT: true; the input reads as it did. -/
def fnExactLandOneSpec : ChangeSpec := { name := "fnExactLandOne", fn := fun _ => fun
  | [d1, d2] => { results := [.lit (.bool true)], args := [d1, d2] }
  | _ => none }
def fnExactLandOneRow : OpenClaim := { program := "ytadelojhfepkeaa", sum := "76fa872d9ff9155cfb7f76e47cf0f04b9f78d3ef8564281f7319702532b5b64a", func := "loop.example/g00456/laws.FnExactLandOne", spec := "fnExactLandOne", unfollowed := true, recurses := true, apart := false }
def FnExactLandOneSaid : Prop := fnExactLandOneRow.holds Try.pinned (OpenSpec.ofChange fnExactLandOneSpec)

/-- ITS FALSE NEIGHBOUR: 'it returns false'. Refute it at one input. -/
def fnExactLandOneWrong : ChangeSpec := { name := "fnExactLandOne", fn := fun _ => fun
  | [d1, d2] => { results := [.lit (.bool false)], args := [d1, d2] }
  | _ => none }
def FnExactLandOneWrongFalsely : Prop := fnExactLandOneRow.holds Try.pinned (OpenSpec.ofChange fnExactLandOneWrong)

/-- 'laws.FnExactHolds': WHATEVER THE INPUT: true; the input reads as it did. -/
def fnExactHoldsSpec : ChangeSpec := { name := "fnExactHolds", fn := fun _ => fun
  | [d1, d2, d3] => { results := [.lit (.bool true)], args := [d1, d2, d3] }
  | _ => none }
def fnExactHoldsRow : OpenClaim := { program := "ytadelojhfepkeaa", sum := "76fa872d9ff9155cfb7f76e47cf0f04b9f78d3ef8564281f7319702532b5b64a", func := "loop.example/g00456/laws.FnExactHolds", spec := "fnExactHolds", unfollowed := true, recurses := true, apart := false }
def FnExactHoldsSaid : Prop := fnExactHoldsRow.holds Try.pinned (OpenSpec.ofChange fnExactHoldsSpec)

/-- ITS FALSE NEIGHBOUR: 'it returns false'. Refute it at one input. -/
def fnExactHoldsWrong : ChangeSpec := { name := "fnExactHolds", fn := fun _ => fun
  | [d1, d2, d3] => { results := [.lit (.bool false)], args := [d1, d2, d3] }
  | _ => none }
def FnExactHoldsWrongFalsely : Prop := fnExactHoldsRow.holds Try.pinned (OpenSpec.ofChange fnExactHoldsWrong)

/-- 'laws.FnExactReadLeader': WHATEVER THE INPUT: true; the input reads as it did. -/
def fnExactReadLeaderSpec : ChangeSpec := { name := "fnExactReadLeader", fn := fun _ => fun
  | [d1, d2] => { results := [.lit (.bool true)], args := [d1, d2] }
  | _ => none }
def fnExactReadLeaderRow : OpenClaim := { program := "ytadelojhfepkeaa", sum := "76fa872d9ff9155cfb7f76e47cf0f04b9f78d3ef8564281f7319702532b5b64a", func := "loop.example/g00456/laws.FnExactReadLeader", spec := "fnExactReadLeader", unfollowed := true, recurses := true, apart := false }
def FnExactReadLeaderSaid : Prop := fnExactReadLeaderRow.holds Try.pinned (OpenSpec.ofChange fnExactReadLeaderSpec)

/-- ITS FALSE NEIGHBOUR: 'it returns false'. Refute it at one input. -/
def fnExactReadLeaderWrong : ChangeSpec := { name := "fnExactReadLeader", fn := fun _ => fun
  | [d1, d2] => { results := [.lit (.bool false)], args := [d1, d2] }
  | _ => none }
def FnExactReadLeaderWrongFalsely : Prop := fnExactReadLeaderRow.holds Try.pinned (OpenSpec.ofChange fnExactReadLeaderWrong)

/-- 'laws.FnExactReadDelta': WHATEVER THE INPUT: true; the input reads as it did. -/
def fnExactReadDeltaSpec : ChangeSpec := { name := "fnExactReadDelta", fn := fun _ => fun
  | [d1, d2, d3] => { results := [.lit (.bool true)], args := [d1, d2, d3] }
  | _ => none }
def fnExactReadDeltaRow : OpenClaim := { program := "ytadelojhfepkeaa", sum := "76fa872d9ff9155cfb7f76e47cf0f04b9f78d3ef8564281f7319702532b5b64a", func := "loop.example/g00456/laws.FnExactReadDelta", spec := "fnExactReadDelta", unfollowed := true, recurses := true, apart := false }
def FnExactReadDeltaSaid : Prop := fnExactReadDeltaRow.holds Try.pinned (OpenSpec.ofChange fnExactReadDeltaSpec)

/-- ITS FALSE NEIGHBOUR: 'it returns false'. Refute it at one input. -/
def fnExactReadDeltaWrong : ChangeSpec := { name := "fnExactReadDelta", fn := fun _ => fun
  | [d1, d2, d3] => { results := [.lit (.bool false)], args := [d1, d2, d3] }
  | _ => none }
def FnExactReadDeltaWrongFalsely : Prop := fnExactReadDeltaRow.holds Try.pinned (OpenSpec.ofChange fnExactReadDeltaWrong)

/- THE SECOND FORM. 'bulk': how many values and letters a reading holds, each counted each time it is reached (what is shared counts as often as it is met; a slice's spare places count too). A statement '..UptoSaid' is the law's where the arguments, and the package variables that the reading takes, are together of bulk at most 1048576: NARROWER than '..Said'. Prove '..Said' where nothing that the law and all that it calls make is longer than what came in: it says more and counts as full. Else prove '..UptoSaid'. A law counts once. -/
mutual
def uptoBulk {H : Type} : DataW H → Nat
  | .lit (.string bytes) => bytes.length + 1
  | .lit _ => 1
  | .nil => 1
  | .ptr d => uptoBulk d + 1
  | .slice elems spare => uptoBulkAll elems + uptoBulkAll spare + 1
  | .agg parts => uptoBulkAll parts + 1
  | .iface _ d => uptoBulk d + 1
  | .map entries => uptoBulkEntries entries + 1
  | .held _ => 1
def uptoBulkAll {H : Type} : List (DataW H) → Nat
  | [] => 0
  | d :: r => uptoBulk d + uptoBulkAll r
def uptoBulkEntries {H : Type} : List (Lit × DataW H) → Nat
  | [] => 0
  | x :: r => uptoBulkEntry x + uptoBulkEntries r
def uptoBulkEntry {H : Type} : Lit × DataW H → Nat
  | (.string bytes, d) => bytes.length + uptoBulk d + 1
  | (_, d) => uptoBulk d + 1
 end
def uptoSmall : (H : Type) → List (DataW H) → Bool := fun _ ds => decide (uptoBulkAll ds ≤ 1048576)
def OpenSpec.upto (s : _root_.Go.ChangeSpec) : _root_.Go.OpenSpec := { _root_.Go.OpenSpec.ofChange s with cond := some uptoSmall }

/-- 'laws.FnExactFlush', WHERE WHAT IT READS IS OF BULK AT MOST 1048576: true; the input reads as it did. -/
def fnExactFlushUptoRow : OpenClaim := { program := "ytadelojhfepkeaa", sum := "76fa872d9ff9155cfb7f76e47cf0f04b9f78d3ef8564281f7319702532b5b64a", func := "loop.example/g00456/laws.FnExactFlush", spec := "fnExactFlush", unfollowed := true, recurses := true, apart := false, narrowed := true }
def FnExactFlushUptoSaid : Prop := fnExactFlushUptoRow.holds Try.pinned (OpenSpec.upto fnExactFlushSpec)

/-- 'laws.FnExactLoseHost', WHERE WHAT IT READS IS OF BULK AT MOST 1048576: true; the input reads as it did. -/
def fnExactLoseHostUptoRow : OpenClaim := { program := "ytadelojhfepkeaa", sum := "76fa872d9ff9155cfb7f76e47cf0f04b9f78d3ef8564281f7319702532b5b64a", func := "loop.example/g00456/laws.FnExactLoseHost", spec := "fnExactLoseHost", unfollowed := true, recurses := true, apart := false, narrowed := true }
def FnExactLoseHostUptoSaid : Prop := fnExactLoseHostUptoRow.holds Try.pinned (OpenSpec.upto fnExactLoseHostSpec)

/-- 'laws.FnExactLandOne', WHERE WHAT IT READS IS OF BULK AT MOST 1048576: true; the input reads as it did. -/
def fnExactLandOneUptoRow : OpenClaim := { program := "ytadelojhfepkeaa", sum := "76fa872d9ff9155cfb7f76e47cf0f04b9f78d3ef8564281f7319702532b5b64a", func := "loop.example/g00456/laws.FnExactLandOne", spec := "fnExactLandOne", unfollowed := true, recurses := true, apart := false, narrowed := true }
def FnExactLandOneUptoSaid : Prop := fnExactLandOneUptoRow.holds Try.pinned (OpenSpec.upto fnExactLandOneSpec)

/-- 'laws.FnExactHolds', WHERE WHAT IT READS IS OF BULK AT MOST 1048576: true; the input reads as it did. -/
def fnExactHoldsUptoRow : OpenClaim := { program := "ytadelojhfepkeaa", sum := "76fa872d9ff9155cfb7f76e47cf0f04b9f78d3ef8564281f7319702532b5b64a", func := "loop.example/g00456/laws.FnExactHolds", spec := "fnExactHolds", unfollowed := true, recurses := true, apart := false, narrowed := true }
def FnExactHoldsUptoSaid : Prop := fnExactHoldsUptoRow.holds Try.pinned (OpenSpec.upto fnExactHoldsSpec)

/-- 'laws.FnExactReadLeader', WHERE WHAT IT READS IS OF BULK AT MOST 1048576: true; the input reads as it did. -/
def fnExactReadLeaderUptoRow : OpenClaim := { program := "ytadelojhfepkeaa", sum := "76fa872d9ff9155cfb7f76e47cf0f04b9f78d3ef8564281f7319702532b5b64a", func := "loop.example/g00456/laws.FnExactReadLeader", spec := "fnExactReadLeader", unfollowed := true, recurses := true, apart := false, narrowed := true }
def FnExactReadLeaderUptoSaid : Prop := fnExactReadLeaderUptoRow.holds Try.pinned (OpenSpec.upto fnExactReadLeaderSpec)

/-- 'laws.FnExactReadDelta', WHERE WHAT IT READS IS OF BULK AT MOST 1048576: true; the input reads as it did. -/
def fnExactReadDeltaUptoRow : OpenClaim := { program := "ytadelojhfepkeaa", sum := "76fa872d9ff9155cfb7f76e47cf0f04b9f78d3ef8564281f7319702532b5b64a", func := "loop.example/g00456/laws.FnExactReadDelta", spec := "fnExactReadDelta", unfollowed := true, recurses := true, apart := false, narrowed := true }
def FnExactReadDeltaUptoSaid : Prop := fnExactReadDeltaUptoRow.holds Try.pinned (OpenSpec.upto fnExactReadDeltaSpec)

end Rows
end Go.Proofs.Ytadelojhfepkeaa
