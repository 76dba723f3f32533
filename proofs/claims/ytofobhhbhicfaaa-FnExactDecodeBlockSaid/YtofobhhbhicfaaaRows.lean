/-
  No cell of these rows narrows 'for every input' (looked for: loops, veiled, ifaces, maps, wideKeys, modest, calm, conditions, laid).
  DERIVED. THE GIVEN ROWS OF THIS SEAT. 12 by the template 'for every input the law returns true; each argument reads behind the call as it read before'; 0 by the template 'total and deterministic' (their statements: YtofobhhbhicfaaaTotals.lean).
  GIVEN WITH THE SEED: the statements are not yours to turn. If you find one false, say at which input.
  Laid BY PROGRAM, IN A SANDBOX (cutbox-rows.mjs): the forced cells as the released guide's own fill.sh prints them over the translation c55b4ff5b21f94ab… (all of the seat's roots in one cut). By AI agents, Wed Nov 11 2026. No macro, syntax, notation, axiom, sorry.
-/
import Derived.Test.YtofobhhbhicfaaaChecked
import GoSem.Claim
import GoSem.ClaimJoined
import GoSem.ClaimMapViews
import Derived.JoinedTies
import Derived.KernelRfl
namespace Go.Proofs.Ytofobhhbhicfaaa
/- THE CELL 'sum', in the pinned program and in every row, IS THE sha256 OF THE DUMP (.gsa) THAT YtofobhhbhicfaaaProg.lean LOADS. Nothing in Lean hashes anything: it is a label: what it is worth is what the hold of that sum in a sandbox is worth. -/
noncomputable def Try.pinned : Pinned := { name := "ytofobhhbhicfaaa", sum := "c55b4ff5b21f94abfdb90669c4763ba74fe536bc7b271f8b427eb3adcbeb614d", checked := Try.checked }
namespace Rows
def none {H : Type} : Left H := { results := [], args := [] }

/-- 'laws.FnExactReqOK': WHATEVER THE INPUT: true; the input reads as it did. -/
def fnExactReqOKSpec : ChangeSpec := { name := "fnExactReqOK", fn := fun _ => fun
  | [d] => { results := [.lit (.bool true)], args := [d] }
  | _ => none }
def fnExactReqOKRow : OpenClaim := { program := "ytofobhhbhicfaaa", sum := "c55b4ff5b21f94abfdb90669c4763ba74fe536bc7b271f8b427eb3adcbeb614d", func := "loop.example/g00456/laws.FnExactReqOK", spec := "fnExactReqOK", apart := false }
def FnExactReqOKSaid : Prop := fnExactReqOKRow.holds Try.pinned (OpenSpec.ofChange fnExactReqOKSpec)

/-- ITS FALSE NEIGHBOUR: 'it returns false'. Refute it at one input. -/
def fnExactReqOKWrong : ChangeSpec := { name := "fnExactReqOK", fn := fun _ => fun
  | [d] => { results := [.lit (.bool false)], args := [d] }
  | _ => none }
def FnExactReqOKWrongFalsely : Prop := fnExactReqOKRow.holds Try.pinned (OpenSpec.ofChange fnExactReqOKWrong)

/-- 'laws.FnExactPackName': WHATEVER THE INPUT: true; the input reads as it did. -/
def fnExactPackNameSpec : ChangeSpec := { name := "fnExactPackName", fn := fun _ => fun
  | [d] => { results := [.lit (.bool true)], args := [d] }
  | _ => none }
def fnExactPackNameRow : OpenClaim := { program := "ytofobhhbhicfaaa", sum := "c55b4ff5b21f94abfdb90669c4763ba74fe536bc7b271f8b427eb3adcbeb614d", func := "loop.example/g00456/laws.FnExactPackName", spec := "fnExactPackName", apart := false }
def FnExactPackNameSaid : Prop := fnExactPackNameRow.holds Try.pinned (OpenSpec.ofChange fnExactPackNameSpec)

/-- ITS FALSE NEIGHBOUR: 'it returns false'. Refute it at one input. -/
def fnExactPackNameWrong : ChangeSpec := { name := "fnExactPackName", fn := fun _ => fun
  | [d] => { results := [.lit (.bool false)], args := [d] }
  | _ => none }
def FnExactPackNameWrongFalsely : Prop := fnExactPackNameRow.holds Try.pinned (OpenSpec.ofChange fnExactPackNameWrong)

/-- 'laws.FnExactEncodeDelta': WHATEVER THE INPUT: true; the input reads as it did. -/
def fnExactEncodeDeltaSpec : ChangeSpec := { name := "fnExactEncodeDelta", fn := fun _ => fun
  | [d] => { results := [.lit (.bool true)], args := [d] }
  | _ => none }
def fnExactEncodeDeltaRow : OpenClaim := { program := "ytofobhhbhicfaaa", sum := "c55b4ff5b21f94abfdb90669c4763ba74fe536bc7b271f8b427eb3adcbeb614d", func := "loop.example/g00456/laws.FnExactEncodeDelta", spec := "fnExactEncodeDelta", apart := false }
def FnExactEncodeDeltaSaid : Prop := fnExactEncodeDeltaRow.holds Try.pinned (OpenSpec.ofChange fnExactEncodeDeltaSpec)

/-- ITS FALSE NEIGHBOUR: 'it returns false'. Refute it at one input. -/
def fnExactEncodeDeltaWrong : ChangeSpec := { name := "fnExactEncodeDelta", fn := fun _ => fun
  | [d] => { results := [.lit (.bool false)], args := [d] }
  | _ => none }
def FnExactEncodeDeltaWrongFalsely : Prop := fnExactEncodeDeltaRow.holds Try.pinned (OpenSpec.ofChange fnExactEncodeDeltaWrong)

/-- 'laws.FnExactEncodeBlock': WHATEVER THE INPUT: true; the input reads as it did. -/
def fnExactEncodeBlockSpec : ChangeSpec := { name := "fnExactEncodeBlock", fn := fun _ => fun
  | [d] => { results := [.lit (.bool true)], args := [d] }
  | _ => none }
def fnExactEncodeBlockRow : OpenClaim := { program := "ytofobhhbhicfaaa", sum := "c55b4ff5b21f94abfdb90669c4763ba74fe536bc7b271f8b427eb3adcbeb614d", func := "loop.example/g00456/laws.FnExactEncodeBlock", spec := "fnExactEncodeBlock", apart := false }
def FnExactEncodeBlockSaid : Prop := fnExactEncodeBlockRow.holds Try.pinned (OpenSpec.ofChange fnExactEncodeBlockSpec)

/-- ITS FALSE NEIGHBOUR: 'it returns false'. Refute it at one input. -/
def fnExactEncodeBlockWrong : ChangeSpec := { name := "fnExactEncodeBlock", fn := fun _ => fun
  | [d] => { results := [.lit (.bool false)], args := [d] }
  | _ => none }
def FnExactEncodeBlockWrongFalsely : Prop := fnExactEncodeBlockRow.holds Try.pinned (OpenSpec.ofChange fnExactEncodeBlockWrong)

/-- 'laws.FnExactEncodeUpdate': WHATEVER THE INPUT: true; the input reads as it did. -/
def fnExactEncodeUpdateSpec : ChangeSpec := { name := "fnExactEncodeUpdate", fn := fun _ => fun
  | [d] => { results := [.lit (.bool true)], args := [d] }
  | _ => none }
def fnExactEncodeUpdateRow : OpenClaim := { program := "ytofobhhbhicfaaa", sum := "c55b4ff5b21f94abfdb90669c4763ba74fe536bc7b271f8b427eb3adcbeb614d", func := "loop.example/g00456/laws.FnExactEncodeUpdate", spec := "fnExactEncodeUpdate", apart := false }
def FnExactEncodeUpdateSaid : Prop := fnExactEncodeUpdateRow.holds Try.pinned (OpenSpec.ofChange fnExactEncodeUpdateSpec)

/-- ITS FALSE NEIGHBOUR: 'it returns false'. Refute it at one input. -/
def fnExactEncodeUpdateWrong : ChangeSpec := { name := "fnExactEncodeUpdate", fn := fun _ => fun
  | [d] => { results := [.lit (.bool false)], args := [d] }
  | _ => none }
def FnExactEncodeUpdateWrongFalsely : Prop := fnExactEncodeUpdateRow.holds Try.pinned (OpenSpec.ofChange fnExactEncodeUpdateWrong)

/-- 'laws.FnExactEncodeLeader': WHATEVER THE INPUT: true; the input reads as it did. -/
def fnExactEncodeLeaderSpec : ChangeSpec := { name := "fnExactEncodeLeader", fn := fun _ => fun
  | [d] => { results := [.lit (.bool true)], args := [d] }
  | _ => none }
def fnExactEncodeLeaderRow : OpenClaim := { program := "ytofobhhbhicfaaa", sum := "c55b4ff5b21f94abfdb90669c4763ba74fe536bc7b271f8b427eb3adcbeb614d", func := "loop.example/g00456/laws.FnExactEncodeLeader", spec := "fnExactEncodeLeader", apart := false }
def FnExactEncodeLeaderSaid : Prop := fnExactEncodeLeaderRow.holds Try.pinned (OpenSpec.ofChange fnExactEncodeLeaderSpec)

/-- ITS FALSE NEIGHBOUR: 'it returns false'. Refute it at one input. -/
def fnExactEncodeLeaderWrong : ChangeSpec := { name := "fnExactEncodeLeader", fn := fun _ => fun
  | [d] => { results := [.lit (.bool false)], args := [d] }
  | _ => none }
def FnExactEncodeLeaderWrongFalsely : Prop := fnExactEncodeLeaderRow.holds Try.pinned (OpenSpec.ofChange fnExactEncodeLeaderWrong)

/-- 'laws.FnExactNewGuest': WHATEVER THE INPUT: true; the input reads as it did. -/
def fnExactNewGuestSpec : ChangeSpec := { name := "fnExactNewGuest", fn := fun _ => fun
  | [d] => { results := [.lit (.bool true)], args := [d] }
  | _ => none }
def fnExactNewGuestRow : OpenClaim := { program := "ytofobhhbhicfaaa", sum := "c55b4ff5b21f94abfdb90669c4763ba74fe536bc7b271f8b427eb3adcbeb614d", func := "loop.example/g00456/laws.FnExactNewGuest", spec := "fnExactNewGuest", apart := false }
def FnExactNewGuestSaid : Prop := fnExactNewGuestRow.holds Try.pinned (OpenSpec.ofChange fnExactNewGuestSpec)

/-- ITS FALSE NEIGHBOUR: 'it returns false'. Refute it at one input. -/
def fnExactNewGuestWrong : ChangeSpec := { name := "fnExactNewGuest", fn := fun _ => fun
  | [d] => { results := [.lit (.bool false)], args := [d] }
  | _ => none }
def FnExactNewGuestWrongFalsely : Prop := fnExactNewGuestRow.holds Try.pinned (OpenSpec.ofChange fnExactNewGuestWrong)

/-- 'laws.FnExactSameGuest': WHATEVER THE INPUT: true; the input reads as it did. -/
def fnExactSameGuestSpec : ChangeSpec := { name := "fnExactSameGuest", fn := fun _ => fun
  | [d1, d2] => { results := [.lit (.bool true)], args := [d1, d2] }
  | _ => none }
def fnExactSameGuestRow : OpenClaim := { program := "ytofobhhbhicfaaa", sum := "c55b4ff5b21f94abfdb90669c4763ba74fe536bc7b271f8b427eb3adcbeb614d", func := "loop.example/g00456/laws.FnExactSameGuest", spec := "fnExactSameGuest", unfollowed := true, recurses := true, apart := false }
def FnExactSameGuestSaid : Prop := fnExactSameGuestRow.holds Try.pinned (OpenSpec.ofChange fnExactSameGuestSpec)

/-- ITS FALSE NEIGHBOUR: 'it returns false'. Refute it at one input. -/
def fnExactSameGuestWrong : ChangeSpec := { name := "fnExactSameGuest", fn := fun _ => fun
  | [d1, d2] => { results := [.lit (.bool false)], args := [d1, d2] }
  | _ => none }
def FnExactSameGuestWrongFalsely : Prop := fnExactSameGuestRow.holds Try.pinned (OpenSpec.ofChange fnExactSameGuestWrong)

/-- 'laws.FnExactOpenRecord': WHATEVER THE INPUT: true; the input reads as it did. -/
def fnExactOpenRecordSpec : ChangeSpec := { name := "fnExactOpenRecord", fn := fun _ => fun
  | [d1, d2] => { results := [.lit (.bool true)], args := [d1, d2] }
  | _ => none }
def fnExactOpenRecordRow : OpenClaim := { program := "ytofobhhbhicfaaa", sum := "c55b4ff5b21f94abfdb90669c4763ba74fe536bc7b271f8b427eb3adcbeb614d", func := "loop.example/g00456/laws.FnExactOpenRecord", spec := "fnExactOpenRecord", unfollowed := true, recurses := true, apart := false }
def FnExactOpenRecordSaid : Prop := fnExactOpenRecordRow.holds Try.pinned (OpenSpec.ofChange fnExactOpenRecordSpec)

/-- ITS FALSE NEIGHBOUR: 'it returns false'. Refute it at one input. -/
def fnExactOpenRecordWrong : ChangeSpec := { name := "fnExactOpenRecord", fn := fun _ => fun
  | [d1, d2] => { results := [.lit (.bool false)], args := [d1, d2] }
  | _ => none }
def FnExactOpenRecordWrongFalsely : Prop := fnExactOpenRecordRow.holds Try.pinned (OpenSpec.ofChange fnExactOpenRecordWrong)

/-- 'laws.FnBlocks': WHATEVER THE INPUT: true; the input reads as it did. -/
def fnBlocksSpec : ChangeSpec := { name := "fnBlocks", fn := fun _ => fun
  | [d1, d2] => { results := [.lit (.bool true)], args := [d1, d2] }
  | _ => none }
def fnBlocksRow : OpenClaim := { program := "ytofobhhbhicfaaa", sum := "c55b4ff5b21f94abfdb90669c4763ba74fe536bc7b271f8b427eb3adcbeb614d", func := "loop.example/g00456/laws.FnBlocks", spec := "fnBlocks", unfollowed := true, recurses := true, apart := false }
def FnBlocksSaid : Prop := fnBlocksRow.holds Try.pinned (OpenSpec.ofChange fnBlocksSpec)

/-- ITS FALSE NEIGHBOUR: 'it returns false'. Refute it at one input. -/
def fnBlocksWrong : ChangeSpec := { name := "fnBlocks", fn := fun _ => fun
  | [d1, d2] => { results := [.lit (.bool false)], args := [d1, d2] }
  | _ => none }
def FnBlocksWrongFalsely : Prop := fnBlocksRow.holds Try.pinned (OpenSpec.ofChange fnBlocksWrong)

/-- 'laws.FnExactDecodeDelta': WHATEVER THE INPUT: true; the input reads as it did. -/
def fnExactDecodeDeltaSpec : ChangeSpec := { name := "fnExactDecodeDelta", fn := fun _ => fun
  | [d] => { results := [.lit (.bool true)], args := [d] }
  | _ => none }
def fnExactDecodeDeltaRow : OpenClaim := { program := "ytofobhhbhicfaaa", sum := "c55b4ff5b21f94abfdb90669c4763ba74fe536bc7b271f8b427eb3adcbeb614d", func := "loop.example/g00456/laws.FnExactDecodeDelta", spec := "fnExactDecodeDelta", unfollowed := true, recurses := true, apart := false }
def FnExactDecodeDeltaSaid : Prop := fnExactDecodeDeltaRow.holds Try.pinned (OpenSpec.ofChange fnExactDecodeDeltaSpec)

/-- ITS FALSE NEIGHBOUR: 'it returns false'. Refute it at one input. -/
def fnExactDecodeDeltaWrong : ChangeSpec := { name := "fnExactDecodeDelta", fn := fun _ => fun
  | [d] => { results := [.lit (.bool false)], args := [d] }
  | _ => none }
def FnExactDecodeDeltaWrongFalsely : Prop := fnExactDecodeDeltaRow.holds Try.pinned (OpenSpec.ofChange fnExactDecodeDeltaWrong)

/-- 'laws.FnExactDecodeBlock': WHATEVER THE INPUT: true; the input reads as it did. -/
def fnExactDecodeBlockSpec : ChangeSpec := { name := "fnExactDecodeBlock", fn := fun _ => fun
  | [d] => { results := [.lit (.bool true)], args := [d] }
  | _ => none }
def fnExactDecodeBlockRow : OpenClaim := { program := "ytofobhhbhicfaaa", sum := "c55b4ff5b21f94abfdb90669c4763ba74fe536bc7b271f8b427eb3adcbeb614d", func := "loop.example/g00456/laws.FnExactDecodeBlock", spec := "fnExactDecodeBlock", unfollowed := true, recurses := true, apart := false }
def FnExactDecodeBlockSaid : Prop := fnExactDecodeBlockRow.holds Try.pinned (OpenSpec.ofChange fnExactDecodeBlockSpec)

/-- ITS FALSE NEIGHBOUR: 'it returns false'. Refute it at one input. -/
def fnExactDecodeBlockWrong : ChangeSpec := { name := "fnExactDecodeBlock", fn := fun _ => fun
  | [d] => { results := [.lit (.bool false)], args := [d] }
  | _ => none }
def FnExactDecodeBlockWrongFalsely : Prop := fnExactDecodeBlockRow.holds Try.pinned (OpenSpec.ofChange fnExactDecodeBlockWrong)

/- THE SECOND FORM. 'bulk': how many values and letters a reading holds, each counted each time it is reached (what is shared counts as often as it is met; a slice's spare places count too). A statement '..UptoSaid' is the law's where the arguments, and the package variables that the reading takes, are together of bulk at most 1048576: NARROWER than '..Said'. Prove '..Said' where nothing that the law and all that it calls make is longer than what came in: it says more and counts as full. Else prove '..UptoSaid'. A law counts once. -/
mutual
def uptoBulk {H : Type} : DataW H → Nat
  | .lit (.string bytes) => bytes.length + 1
  | .lit _ => 1
  | .nil => 1
  | .ptr d => uptoBulk d + 1
  | .slice elems spare => uptoBulkAll elems + uptoBulkAll spare + 1
  | .agg parts => uptoBulkAll parts + 1
  | .iface _ d => uptoBulk d + 1
  | .map entries => uptoBulkEntries entries + 1
  | .held _ => 1
def uptoBulkAll {H : Type} : List (DataW H) → Nat
  | [] => 0
  | d :: r => uptoBulk d + uptoBulkAll r
def uptoBulkEntries {H : Type} : List (Lit × DataW H) → Nat
  | [] => 0
  | x :: r => uptoBulkEntry x + uptoBulkEntries r
def uptoBulkEntry {H : Type} : Lit × DataW H → Nat
  | (.string bytes, d) => bytes.length + uptoBulk d + 1
  | (_, d) => uptoBulk d + 1
 end
def uptoSmall : (H : Type) → List (DataW H) → Bool := fun _ ds => decide (uptoBulkAll ds ≤ 1048576)
def OpenSpec.upto (s : _root_.Go.ChangeSpec) : _root_.Go.OpenSpec := { _root_.Go.OpenSpec.ofChange s with cond := some uptoSmall }

/-- 'laws.FnExactReqOK', WHERE WHAT IT READS IS OF BULK AT MOST 1048576: true; the input reads as it did. -/
def fnExactReqOKUptoRow : OpenClaim := { program := "ytofobhhbhicfaaa", sum := "c55b4ff5b21f94abfdb90669c4763ba74fe536bc7b271f8b427eb3adcbeb614d", func := "loop.example/g00456/laws.FnExactReqOK", spec := "fnExactReqOK", apart := false, narrowed := true }
def FnExactReqOKUptoSaid : Prop := fnExactReqOKUptoRow.holds Try.pinned (OpenSpec.upto fnExactReqOKSpec)

/-- 'laws.FnExactPackName', WHERE WHAT IT READS IS OF BULK AT MOST 1048576: true; the input reads as it did. -/
def fnExactPackNameUptoRow : OpenClaim := { program := "ytofobhhbhicfaaa", sum := "c55b4ff5b21f94abfdb90669c4763ba74fe536bc7b271f8b427eb3adcbeb614d", func := "loop.example/g00456/laws.FnExactPackName", spec := "fnExactPackName", apart := false, narrowed := true }
def FnExactPackNameUptoSaid : Prop := fnExactPackNameUptoRow.holds Try.pinned (OpenSpec.upto fnExactPackNameSpec)

/-- 'laws.FnExactEncodeDelta', WHERE WHAT IT READS IS OF BULK AT MOST 1048576: true; the input reads as it did. -/
def fnExactEncodeDeltaUptoRow : OpenClaim := { program := "ytofobhhbhicfaaa", sum := "c55b4ff5b21f94abfdb90669c4763ba74fe536bc7b271f8b427eb3adcbeb614d", func := "loop.example/g00456/laws.FnExactEncodeDelta", spec := "fnExactEncodeDelta", apart := false, narrowed := true }
def FnExactEncodeDeltaUptoSaid : Prop := fnExactEncodeDeltaUptoRow.holds Try.pinned (OpenSpec.upto fnExactEncodeDeltaSpec)

/-- 'laws.FnExactEncodeBlock', WHERE WHAT IT READS IS OF BULK AT MOST 1048576: true; the input reads as it did. -/
def fnExactEncodeBlockUptoRow : OpenClaim := { program := "ytofobhhbhicfaaa", sum := "c55b4ff5b21f94abfdb90669c4763ba74fe536bc7b271f8b427eb3adcbeb614d", func := "loop.example/g00456/laws.FnExactEncodeBlock", spec := "fnExactEncodeBlock", apart := false, narrowed := true }
def FnExactEncodeBlockUptoSaid : Prop := fnExactEncodeBlockUptoRow.holds Try.pinned (OpenSpec.upto fnExactEncodeBlockSpec)

/-- 'laws.FnExactEncodeUpdate', WHERE WHAT IT READS IS OF BULK AT MOST 1048576: true; the input reads as it did. -/
def fnExactEncodeUpdateUptoRow : OpenClaim := { program := "ytofobhhbhicfaaa", sum := "c55b4ff5b21f94abfdb90669c4763ba74fe536bc7b271f8b427eb3adcbeb614d", func := "loop.example/g00456/laws.FnExactEncodeUpdate", spec := "fnExactEncodeUpdate", apart := false, narrowed := true }
def FnExactEncodeUpdateUptoSaid : Prop := fnExactEncodeUpdateUptoRow.holds Try.pinned (OpenSpec.upto fnExactEncodeUpdateSpec)

/-- 'laws.FnExactEncodeLeader', WHERE WHAT IT READS IS OF BULK AT MOST 1048576: true; the input reads as it did. -/
def fnExactEncodeLeaderUptoRow : OpenClaim := { program := "ytofobhhbhicfaaa", sum := "c55b4ff5b21f94abfdb90669c4763ba74fe536bc7b271f8b427eb3adcbeb614d", func := "loop.example/g00456/laws.FnExactEncodeLeader", spec := "fnExactEncodeLeader", apart := false, narrowed := true }
def FnExactEncodeLeaderUptoSaid : Prop := fnExactEncodeLeaderUptoRow.holds Try.pinned (OpenSpec.upto fnExactEncodeLeaderSpec)

/-- 'laws.FnExactNewGuest', WHERE WHAT IT READS IS OF BULK AT MOST 1048576: true; the input reads as it did. -/
def fnExactNewGuestUptoRow : OpenClaim := { program := "ytofobhhbhicfaaa", sum := "c55b4ff5b21f94abfdb90669c4763ba74fe536bc7b271f8b427eb3adcbeb614d", func := "loop.example/g00456/laws.FnExactNewGuest", spec := "fnExactNewGuest", apart := false, narrowed := true }
def FnExactNewGuestUptoSaid : Prop := fnExactNewGuestUptoRow.holds Try.pinned (OpenSpec.upto fnExactNewGuestSpec)

/-- 'laws.FnExactSameGuest', WHERE WHAT IT READS IS OF BULK AT MOST 1048576: true; the input reads as it did. -/
def fnExactSameGuestUptoRow : OpenClaim := { program := "ytofobhhbhicfaaa", sum := "c55b4ff5b21f94abfdb90669c4763ba74fe536bc7b271f8b427eb3adcbeb614d", func := "loop.example/g00456/laws.FnExactSameGuest", spec := "fnExactSameGuest", unfollowed := true, recurses := true, apart := false, narrowed := true }
def FnExactSameGuestUptoSaid : Prop := fnExactSameGuestUptoRow.holds Try.pinned (OpenSpec.upto fnExactSameGuestSpec)

/-- 'laws.FnExactOpenRecord', WHERE WHAT IT READS IS OF BULK AT MOST 1048576: true; the input reads as it did. -/
def fnExactOpenRecordUptoRow : OpenClaim := { program := "ytofobhhbhicfaaa", sum := "c55b4ff5b21f94abfdb90669c4763ba74fe536bc7b271f8b427eb3adcbeb614d", func := "loop.example/g00456/laws.FnExactOpenRecord", spec := "fnExactOpenRecord", unfollowed := true, recurses := true, apart := false, narrowed := true }
def FnExactOpenRecordUptoSaid : Prop := fnExactOpenRecordUptoRow.holds Try.pinned (OpenSpec.upto fnExactOpenRecordSpec)

/-- 'laws.FnBlocks', WHERE WHAT IT READS IS OF BULK AT MOST 1048576: true; the input reads as it did. -/
def fnBlocksUptoRow : OpenClaim := { program := "ytofobhhbhicfaaa", sum := "c55b4ff5b21f94abfdb90669c4763ba74fe536bc7b271f8b427eb3adcbeb614d", func := "loop.example/g00456/laws.FnBlocks", spec := "fnBlocks", unfollowed := true, recurses := true, apart := false, narrowed := true }
def FnBlocksUptoSaid : Prop := fnBlocksUptoRow.holds Try.pinned (OpenSpec.upto fnBlocksSpec)

/-- 'laws.FnExactDecodeDelta', WHERE WHAT IT READS IS OF BULK AT MOST 1048576: true; the input reads as it did. -/
def fnExactDecodeDeltaUptoRow : OpenClaim := { program := "ytofobhhbhicfaaa", sum := "c55b4ff5b21f94abfdb90669c4763ba74fe536bc7b271f8b427eb3adcbeb614d", func := "loop.example/g00456/laws.FnExactDecodeDelta", spec := "fnExactDecodeDelta", unfollowed := true, recurses := true, apart := false, narrowed := true }
def FnExactDecodeDeltaUptoSaid : Prop := fnExactDecodeDeltaUptoRow.holds Try.pinned (OpenSpec.upto fnExactDecodeDeltaSpec)

/-- 'laws.FnExactDecodeBlock', WHERE WHAT IT READS IS OF BULK AT MOST 1048576: true; the input reads as it did. -/
def fnExactDecodeBlockUptoRow : OpenClaim := { program := "ytofobhhbhicfaaa", sum := "c55b4ff5b21f94abfdb90669c4763ba74fe536bc7b271f8b427eb3adcbeb614d", func := "loop.example/g00456/laws.FnExactDecodeBlock", spec := "fnExactDecodeBlock", unfollowed := true, recurses := true, apart := false, narrowed := true }
def FnExactDecodeBlockUptoSaid : Prop := fnExactDecodeBlockUptoRow.holds Try.pinned (OpenSpec.upto fnExactDecodeBlockSpec)

end Rows
end Go.Proofs.Ytofobhhbhicfaaa
