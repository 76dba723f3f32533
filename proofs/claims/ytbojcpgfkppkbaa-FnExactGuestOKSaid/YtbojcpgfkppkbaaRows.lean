/-
  No cell of these rows narrows 'for every input' (looked for: loops, veiled, ifaces, maps, wideKeys, modest, calm, conditions, laid).
  DERIVED. THE GIVEN ROWS OF THIS SEAT. 8 by the template 'for every input the law returns true; each argument reads behind the call as it read before'; 0 by the template 'total and deterministic' (their statements: YtbojcpgfkppkbaaTotals.lean).
  GIVEN WITH THE SEED: the statements are not yours to turn. If you find one false, say at which input.
  Laid BY PROGRAM, IN A SANDBOX (cutbox-rows.mjs): the forced cells as the released guide's own fill.sh prints them over the translation ffbd71f56657b48d… (all of the seat's roots in one cut). By AI agents, Wed Nov 11 2026. No macro, syntax, notation, axiom, sorry.
-/
import Derived.Test.YtbojcpgfkppkbaaChecked
import GoSem.Claim
import GoSem.ClaimJoined
import GoSem.ClaimMapViews
import Derived.JoinedTies
import Derived.KernelRfl
namespace Go.Proofs.Ytbojcpgfkppkbaa
/- THE CELL 'sum', in the pinned program and in every row, IS THE sha256 OF THE DUMP (.gsa) THAT YtbojcpgfkppkbaaProg.lean LOADS. Nothing in Lean hashes anything: it is a label: what it is worth is what the hold of that sum in a sandbox is worth. -/
noncomputable def Try.pinned : Pinned := { name := "ytbojcpgfkppkbaa", sum := "ffbd71f56657b48dc8146fc8e4695a2df65140295bdc0e7e575e7342bb296481", checked := Try.checked }
namespace Rows
def none {H : Type} : Left H := { results := [], args := [] }

/-- 'laws.FnExactFlush': WHATEVER THE INPUT: true; the input reads as it did. -/
def fnExactFlushSpec : ChangeSpec := { name := "fnExactFlush", fn := fun _ => fun
  | [d1, d2] => { results := [.lit (.bool true)], args := [d1, d2] }
  | _ => none }
def fnExactFlushRow : OpenClaim := { program := "ytbojcpgfkppkbaa", sum := "ffbd71f56657b48dc8146fc8e4695a2df65140295bdc0e7e575e7342bb296481", func := "loop.example/g00456/laws.FnExactFlush", spec := "fnExactFlush", unfollowed := true, recurses := true, apart := false }
def FnExactFlushSaid : Prop := fnExactFlushRow.holds Try.pinned (OpenSpec.ofChange fnExactFlushSpec)

/-- ITS FALSE NEIGHBOUR: 'it returns false'. Refute it at one input. -/
def fnExactFlushWrong : ChangeSpec := { name := "fnExactFlush", fn := fun _ => fun
  | [d1, d2] => { results := [.lit (.bool false)], args := [d1, d2] }
  | _ => none }
def FnExactFlushWrongFalsely : Prop := fnExactFlushRow.holds Try.pinned (OpenSpec.ofChange fnExactFlushWrong)

/-- 'laws.FnExactLoseHost': WHATEVER THE INPUT: true; the input reads as it did. -/
def fnExactLoseHostSpec : ChangeSpec := { name := "fnExactLoseHost", fn := fun _ => fun
  | [d1, d2, d3] => { results := [.lit (.bool true)], args := [d1, d2, d3] }
  | _ => none }
def fnExactLoseHostRow : OpenClaim := { program := "ytbojcpgfkppkbaa", sum := "ffbd71f56657b48dc8146fc8e4695a2df65140295bdc0e7e575e7342bb296481", func := "loop.example/g00456/laws.FnExactLoseHost", spec := "fnExactLoseHost", unfollowed := true, recurses := true, apart := false }
def FnExactLoseHostSaid : Prop := fnExactLoseHostRow.holds Try.pinned (OpenSpec.ofChange fnExactLoseHostSpec)

/-- ITS FALSE NEIGHBOUR: 'it returns false'. Refute it at one input. -/
def fnExactLoseHostWrong : ChangeSpec := { name := "fnExactLoseHost", fn := fun _ => fun
  | [d1, d2, d3] => { results := [.lit (.bool false)], args := [d1, d2, d3] }
  | _ => none }
def FnExactLoseHostWrongFalsely : Prop := fnExactLoseHostRow.holds Try.pinned (OpenSpec.ofChange fnExactLoseHostWrong)

/-- 'laws.FnExactLandOne': WHATEVER THE INPUT: true; the input reads as it did. -/
def fnExactLandOneSpec : ChangeSpec := { name := "fnExactLandOne", fn := fun _ => fun
  | [d1, d2] => { results := [.lit (.bool true)], args := [d1, d2] }
  | _ => none }
def fnExactLandOneRow : OpenClaim := { program := "ytbojcpgfkppkbaa", sum := "ffbd71f56657b48dc8146fc8e4695a2df65140295bdc0e7e575e7342bb296481", func := "loop.example/g00456/laws.FnExactLandOne", spec := "fnExactLandOne", unfollowed := true, recurses := true, apart := false }
def FnExactLandOneSaid : Prop := fnExactLandOneRow.holds Try.pinned (OpenSpec.ofChange fnExactLandOneSpec)

/-- ITS FALSE NEIGHBOUR: 'it returns false'. Refute it at one input. -/
def fnExactLandOneWrong : ChangeSpec := { name := "fnExactLandOne", fn := fun _ => fun
  | [d1, d2] => { results := [.lit (.bool false)], args := [d1, d2] }
  | _ => none }
def FnExactLandOneWrongFalsely : Prop := fnExactLandOneRow.holds Try.pinned (OpenSpec.ofChange fnExactLandOneWrong)

/-- 'laws.FnReplay': WHATEVER THE INPUT: true; the input reads as it did. -/
def fnReplaySpec : ChangeSpec := { name := "fnReplay", fn := fun _ => fun
  | [d1, d2] => { results := [.lit (.bool true)], args := [d1, d2] }
  | _ => none }
def fnReplayRow : OpenClaim := { program := "ytbojcpgfkppkbaa", sum := "ffbd71f56657b48dc8146fc8e4695a2df65140295bdc0e7e575e7342bb296481", func := "loop.example/g00456/laws.FnReplay", spec := "fnReplay", unfollowed := true, recurses := true, apart := false }
def FnReplaySaid : Prop := fnReplayRow.holds Try.pinned (OpenSpec.ofChange fnReplaySpec)

/-- ITS FALSE NEIGHBOUR: 'it returns false'. Refute it at one input. -/
def fnReplayWrong : ChangeSpec := { name := "fnReplay", fn := fun _ => fun
  | [d1, d2] => { results := [.lit (.bool false)], args := [d1, d2] }
  | _ => none }
def FnReplayWrongFalsely : Prop := fnReplayRow.holds Try.pinned (OpenSpec.ofChange fnReplayWrong)

/-- 'laws.FnExactHolds': WHATEVER THE INPUT: true; the input reads as it did. -/
def fnExactHoldsSpec : ChangeSpec := { name := "fnExactHolds", fn := fun _ => fun
  | [d1, d2, d3] => { results := [.lit (.bool true)], args := [d1, d2, d3] }
  | _ => none }
def fnExactHoldsRow : OpenClaim := { program := "ytbojcpgfkppkbaa", sum := "ffbd71f56657b48dc8146fc8e4695a2df65140295bdc0e7e575e7342bb296481", func := "loop.example/g00456/laws.FnExactHolds", spec := "fnExactHolds", unfollowed := true, recurses := true, apart := false }
def FnExactHoldsSaid : Prop := fnExactHoldsRow.holds Try.pinned (OpenSpec.ofChange fnExactHoldsSpec)

/-- ITS FALSE NEIGHBOUR: 'it returns false'. Refute it at one input. -/
def fnExactHoldsWrong : ChangeSpec := { name := "fnExactHolds", fn := fun _ => fun
  | [d1, d2, d3] => { results := [.lit (.bool false)], args := [d1, d2, d3] }
  | _ => none }
def FnExactHoldsWrongFalsely : Prop := fnExactHoldsRow.holds Try.pinned (OpenSpec.ofChange fnExactHoldsWrong)

/-- 'laws.FnExactReadLeader': WHATEVER THE INPUT: true; the input reads as it did. -/
def fnExactReadLeaderSpec : ChangeSpec := { name := "fnExactReadLeader", fn := fun _ => fun
  | [d1, d2] => { results := [.lit (.bool true)], args := [d1, d2] }
  | _ => none }
def fnExactReadLeaderRow : OpenClaim := { program := "ytbojcpgfkppkbaa", sum := "ffbd71f56657b48dc8146fc8e4695a2df65140295bdc0e7e575e7342bb296481", func := "loop.example/g00456/laws.FnExactReadLeader", spec := "fnExactReadLeader", unfollowed := true, recurses := true, apart := false }
def FnExactReadLeaderSaid : Prop := fnExactReadLeaderRow.holds Try.pinned (OpenSpec.ofChange fnExactReadLeaderSpec)

/-- ITS FALSE NEIGHBOUR: 'it returns false'. Refute it at one input. -/
def fnExactReadLeaderWrong : ChangeSpec := { name := "fnExactReadLeader", fn := fun _ => fun
  | [d1, d2] => { results := [.lit (.bool false)], args := [d1, d2] }
  | _ => none }
def FnExactReadLeaderWrongFalsely : Prop := fnExactReadLeaderRow.holds Try.pinned (OpenSpec.ofChange fnExactReadLeaderWrong)

/-- 'laws.FnExactReadDelta': WHATEVER THE INPUT: true; the input reads as it did. -/
def fnExactReadDeltaSpec : ChangeSpec := { name := "fnExactReadDelta", fn := fun _ => fun
  | [d1, d2, d3] => { results := [.lit (.bool true)], args := [d1, d2, d3] }
  | _ => none }
def fnExactReadDeltaRow : OpenClaim := { program := "ytbojcpgfkppkbaa", sum := "ffbd71f56657b48dc8146fc8e4695a2df65140295bdc0e7e575e7342bb296481", func := "loop.example/g00456/laws.FnExactReadDelta", spec := "fnExactReadDelta", unfollowed := true, recurses := true, apart := false }
def FnExactReadDeltaSaid : Prop := fnExactReadDeltaRow.holds Try.pinned (OpenSpec.ofChange fnExactReadDeltaSpec)

/-- ITS FALSE NEIGHBOUR: 'it returns false'. Refute it at one input. -/
def fnExactReadDeltaWrong : ChangeSpec := { name := "fnExactReadDelta", fn := fun _ => fun
  | [d1, d2, d3] => { results := [.lit (.bool false)], args := [d1, d2, d3] }
  | _ => none }
def FnExactReadDeltaWrongFalsely : Prop := fnExactReadDeltaRow.holds Try.pinned (OpenSpec.ofChange fnExactReadDeltaWrong)

/-- 'laws.FnExactGuestOK': WHATEVER THE INPUT: true; the input reads as it did. -/
def fnExactGuestOKSpec : ChangeSpec := { name := "fnExactGuestOK", fn := fun _ => fun
  | [d] => { results := [.lit (.bool true)], args := [d] }
  | _ => none }
def fnExactGuestOKRow : OpenClaim := { program := "ytbojcpgfkppkbaa", sum := "ffbd71f56657b48dc8146fc8e4695a2df65140295bdc0e7e575e7342bb296481", func := "loop.example/g00456/laws.FnExactGuestOK", spec := "fnExactGuestOK", unfollowed := true, recurses := true, apart := false }
def FnExactGuestOKSaid : Prop := fnExactGuestOKRow.holds Try.pinned (OpenSpec.ofChange fnExactGuestOKSpec)

/-- ITS FALSE NEIGHBOUR: 'it returns false'. Refute it at one input. -/
def fnExactGuestOKWrong : ChangeSpec := { name := "fnExactGuestOK", fn := fun _ => fun
  | [d] => { results := [.lit (.bool false)], args := [d] }
  | _ => none }
def FnExactGuestOKWrongFalsely : Prop := fnExactGuestOKRow.holds Try.pinned (OpenSpec.ofChange fnExactGuestOKWrong)

/- THE SECOND FORM. 'bulk': how many values and letters a reading holds, each counted each time it is reached (what is shared counts as often as it is met; a slice's spare places count too). A statement '..UptoSaid' is the law's where the arguments, and the package variables that the reading takes, are together of bulk at most 1048576: NARROWER than '..Said'. Prove '..Said' where nothing that the law and all that it calls make is longer than what came in: it says more and counts as full. Else prove '..UptoSaid'. A law counts once. -/
mutual
def uptoBulk {H : Type} : DataW H → Nat
  | .lit (.string bytes) => bytes.length + 1
  | .lit _ => 1
  | .nil => 1
  | .ptr d => uptoBulk d + 1
  | .slice elems spare => uptoBulkAll elems + uptoBulkAll spare + 1
  | .agg parts => uptoBulkAll parts + 1
  | .iface _ d => uptoBulk d + 1
  | .map entries => uptoBulkEntries entries + 1
  | .held _ => 1
def uptoBulkAll {H : Type} : List (DataW H) → Nat
  | [] => 0
  | d :: r => uptoBulk d + uptoBulkAll r
def uptoBulkEntries {H : Type} : List (Lit × DataW H) → Nat
  | [] => 0
  | x :: r => uptoBulkEntry x + uptoBulkEntries r
def uptoBulkEntry {H : Type} : Lit × DataW H → Nat
  | (.string bytes, d) => bytes.length + uptoBulk d + 1
  | (_, d) => uptoBulk d + 1
 end
def uptoSmall : (H : Type) → List (DataW H) → Bool := fun _ ds => decide (uptoBulkAll ds ≤ 1048576)
def OpenSpec.upto (s : _root_.Go.ChangeSpec) : _root_.Go.OpenSpec := { _root_.Go.OpenSpec.ofChange s with cond := some uptoSmall }

/-- 'laws.FnExactFlush', WHERE WHAT IT READS IS OF BULK AT MOST 1048576: true; the input reads as it did. -/
def fnExactFlushUptoRow : OpenClaim := { program := "ytbojcpgfkppkbaa", sum := "ffbd71f56657b48dc8146fc8e4695a2df65140295bdc0e7e575e7342bb296481", func := "loop.example/g00456/laws.FnExactFlush", spec := "fnExactFlush", unfollowed := true, recurses := true, apart := false, narrowed := true }
def FnExactFlushUptoSaid : Prop := fnExactFlushUptoRow.holds Try.pinned (OpenSpec.upto fnExactFlushSpec)

/-- 'laws.FnExactLoseHost', WHERE WHAT IT READS IS OF BULK AT MOST 1048576: true; the input reads as it did. -/
def fnExactLoseHostUptoRow : OpenClaim := { program := "ytbojcpgfkppkbaa", sum := "ffbd71f56657b48dc8146fc8e4695a2df65140295bdc0e7e575e7342bb296481", func := "loop.example/g00456/laws.FnExactLoseHost", spec := "fnExactLoseHost", unfollowed := true, recurses := true, apart := false, narrowed := true }
def FnExactLoseHostUptoSaid : Prop := fnExactLoseHostUptoRow.holds Try.pinned (OpenSpec.upto fnExactLoseHostSpec)

/-- 'laws.FnExactLandOne', WHERE WHAT IT READS IS OF BULK AT MOST 1048576: true; the input reads as it did. -/
def fnExactLandOneUptoRow : OpenClaim := { program := "ytbojcpgfkppkbaa", sum := "ffbd71f56657b48dc8146fc8e4695a2df65140295bdc0e7e575e7342bb296481", func := "loop.example/g00456/laws.FnExactLandOne", spec := "fnExactLandOne", unfollowed := true, recurses := true, apart := false, narrowed := true }
def FnExactLandOneUptoSaid : Prop := fnExactLandOneUptoRow.holds Try.pinned (OpenSpec.upto fnExactLandOneSpec)

/-- 'laws.FnReplay', WHERE WHAT IT READS IS OF BULK AT MOST 1048576: true; the input reads as it did. -/
def fnReplayUptoRow : OpenClaim := { program := "ytbojcpgfkppkbaa", sum := "ffbd71f56657b48dc8146fc8e4695a2df65140295bdc0e7e575e7342bb296481", func := "loop.example/g00456/laws.FnReplay", spec := "fnReplay", unfollowed := true, recurses := true, apart := false, narrowed := true }
def FnReplayUptoSaid : Prop := fnReplayUptoRow.holds Try.pinned (OpenSpec.upto fnReplaySpec)

/-- 'laws.FnExactHolds', WHERE WHAT IT READS IS OF BULK AT MOST 1048576: true; the input reads as it did. -/
def fnExactHoldsUptoRow : OpenClaim := { program := "ytbojcpgfkppkbaa", sum := "ffbd71f56657b48dc8146fc8e4695a2df65140295bdc0e7e575e7342bb296481", func := "loop.example/g00456/laws.FnExactHolds", spec := "fnExactHolds", unfollowed := true, recurses := true, apart := false, narrowed := true }
def FnExactHoldsUptoSaid : Prop := fnExactHoldsUptoRow.holds Try.pinned (OpenSpec.upto fnExactHoldsSpec)

/-- 'laws.FnExactReadLeader', WHERE WHAT IT READS IS OF BULK AT MOST 1048576: true; the input reads as it did. -/
def fnExactReadLeaderUptoRow : OpenClaim := { program := "ytbojcpgfkppkbaa", sum := "ffbd71f56657b48dc8146fc8e4695a2df65140295bdc0e7e575e7342bb296481", func := "loop.example/g00456/laws.FnExactReadLeader", spec := "fnExactReadLeader", unfollowed := true, recurses := true, apart := false, narrowed := true }
def FnExactReadLeaderUptoSaid : Prop := fnExactReadLeaderUptoRow.holds Try.pinned (OpenSpec.upto fnExactReadLeaderSpec)

/-- 'laws.FnExactReadDelta', WHERE WHAT IT READS IS OF BULK AT MOST 1048576: true; the input reads as it did. -/
def fnExactReadDeltaUptoRow : OpenClaim := { program := "ytbojcpgfkppkbaa", sum := "ffbd71f56657b48dc8146fc8e4695a2df65140295bdc0e7e575e7342bb296481", func := "loop.example/g00456/laws.FnExactReadDelta", spec := "fnExactReadDelta", unfollowed := true, recurses := true, apart := false, narrowed := true }
def FnExactReadDeltaUptoSaid : Prop := fnExactReadDeltaUptoRow.holds Try.pinned (OpenSpec.upto fnExactReadDeltaSpec)

/-- 'laws.FnExactGuestOK', WHERE WHAT IT READS IS OF BULK AT MOST 1048576: true; the input reads as it did. -/
def fnExactGuestOKUptoRow : OpenClaim := { program := "ytbojcpgfkppkbaa", sum := "ffbd71f56657b48dc8146fc8e4695a2df65140295bdc0e7e575e7342bb296481", func := "loop.example/g00456/laws.FnExactGuestOK", spec := "fnExactGuestOK", unfollowed := true, recurses := true, apart := false, narrowed := true }
def FnExactGuestOKUptoSaid : Prop := fnExactGuestOKUptoRow.holds Try.pinned (OpenSpec.upto fnExactGuestOKSpec)

end Rows
end Go.Proofs.Ytbojcpgfkppkbaa
