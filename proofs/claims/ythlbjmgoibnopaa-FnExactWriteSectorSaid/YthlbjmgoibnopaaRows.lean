/-
  No cell of these rows narrows 'for every input' (looked for: loops, veiled, ifaces, maps, wideKeys, modest, calm, conditions, laid).
  DERIVED. THE GIVEN ROWS OF THIS SEAT. 12 by the template 'for every input the law returns true; each argument reads behind the call as it read before'; 0 by the template 'total and deterministic' (their statements: YthlbjmgoibnopaaTotals.lean).
  GIVEN WITH THE SEED: the statements are not yours to turn. If you find one false, say at which input.
  Laid BY PROGRAM, IN A SANDBOX (cutbox-rows.mjs): the forced cells as the released guide's own fill.sh prints them over the translation 50d66186dc866797… (all of the seat's roots in one cut). By AI agents, Wed Nov 11 2026. No macro, syntax, notation, axiom, sorry.
-/
import Derived.Test.YthlbjmgoibnopaaChecked
import GoSem.Claim
import GoSem.ClaimJoined
import GoSem.ClaimMapViews
import Derived.JoinedTies
import Derived.KernelRfl
namespace Go.Proofs.Ythlbjmgoibnopaa
/- THE CELL 'sum', in the pinned program and in every row, IS THE sha256 OF THE DUMP (.gsa) THAT YthlbjmgoibnopaaProg.lean LOADS. Nothing in Lean hashes anything: it is a label: what it is worth is what the hold of that sum in a sandbox is worth. -/
noncomputable def Try.pinned : Pinned := { name := "ythlbjmgoibnopaa", sum := "50d66186dc866797399a36d985fae0b97ec7948d70fffce2c333c74fba4e6c3b", checked := Try.checked }
namespace Rows
def none {H : Type} : Left H := { results := [], args := [] }

/-- 'laws.FnExactDecodeUpdate': WHATEVER THE INPUT: true; the input reads as it did. -/
def fnExactDecodeUpdateSpec : ChangeSpec := { name := "fnExactDecodeUpdate", fn := fun _ => fun
  | [d] => { results := [.lit (.bool true)], args := [d] }
  | _ => none }
def fnExactDecodeUpdateRow : OpenClaim := { program := "ythlbjmgoibnopaa", sum := "50d66186dc866797399a36d985fae0b97ec7948d70fffce2c333c74fba4e6c3b", func := "loop.example/g00456/laws.FnExactDecodeUpdate", spec := "fnExactDecodeUpdate", unfollowed := true, recurses := true, apart := false }
def FnExactDecodeUpdateSaid : Prop := fnExactDecodeUpdateRow.holds Try.pinned (OpenSpec.ofChange fnExactDecodeUpdateSpec)

/-- ITS FALSE NEIGHBOUR: 'it returns false'. Refute it at one input. -/
def fnExactDecodeUpdateWrong : ChangeSpec := { name := "fnExactDecodeUpdate", fn := fun _ => fun
  | [d] => { results := [.lit (.bool false)], args := [d] }
  | _ => none }
def FnExactDecodeUpdateWrongFalsely : Prop := fnExactDecodeUpdateRow.holds Try.pinned (OpenSpec.ofChange fnExactDecodeUpdateWrong)

/-- 'laws.FnExactDecodeLeader': WHATEVER THE INPUT: true; the input reads as it did. -/
def fnExactDecodeLeaderSpec : ChangeSpec := { name := "fnExactDecodeLeader", fn := fun _ => fun
  | [d] => { results := [.lit (.bool true)], args := [d] }
  | _ => none }
def fnExactDecodeLeaderRow : OpenClaim := { program := "ythlbjmgoibnopaa", sum := "50d66186dc866797399a36d985fae0b97ec7948d70fffce2c333c74fba4e6c3b", func := "loop.example/g00456/laws.FnExactDecodeLeader", spec := "fnExactDecodeLeader", unfollowed := true, recurses := true, apart := false }
def FnExactDecodeLeaderSaid : Prop := fnExactDecodeLeaderRow.holds Try.pinned (OpenSpec.ofChange fnExactDecodeLeaderSpec)

/-- ITS FALSE NEIGHBOUR: 'it returns false'. Refute it at one input. -/
def fnExactDecodeLeaderWrong : ChangeSpec := { name := "fnExactDecodeLeader", fn := fun _ => fun
  | [d] => { results := [.lit (.bool false)], args := [d] }
  | _ => none }
def FnExactDecodeLeaderWrongFalsely : Prop := fnExactDecodeLeaderRow.holds Try.pinned (OpenSpec.ofChange fnExactDecodeLeaderWrong)

/-- 'laws.FnUpdates': WHATEVER THE INPUT: true; the input reads as it did. -/
def fnUpdatesSpec : ChangeSpec := { name := "fnUpdates", fn := fun _ => fun
  | [d1, d2] => { results := [.lit (.bool true)], args := [d1, d2] }
  | _ => none }
def fnUpdatesRow : OpenClaim := { program := "ythlbjmgoibnopaa", sum := "50d66186dc866797399a36d985fae0b97ec7948d70fffce2c333c74fba4e6c3b", func := "loop.example/g00456/laws.FnUpdates", spec := "fnUpdates", unfollowed := true, recurses := true, apart := false }
def FnUpdatesSaid : Prop := fnUpdatesRow.holds Try.pinned (OpenSpec.ofChange fnUpdatesSpec)

/-- ITS FALSE NEIGHBOUR: 'it returns false'. Refute it at one input. -/
def fnUpdatesWrong : ChangeSpec := { name := "fnUpdates", fn := fun _ => fun
  | [d1, d2] => { results := [.lit (.bool false)], args := [d1, d2] }
  | _ => none }
def FnUpdatesWrongFalsely : Prop := fnUpdatesRow.holds Try.pinned (OpenSpec.ofChange fnUpdatesWrong)

/-- 'laws.FnExactDecodeTable': WHATEVER THE INPUT: true; the input reads as it did. -/
def fnExactDecodeTableSpec : ChangeSpec := { name := "fnExactDecodeTable", fn := fun _ => fun
  | [d] => { results := [.lit (.bool true)], args := [d] }
  | _ => none }
def fnExactDecodeTableRow : OpenClaim := { program := "ythlbjmgoibnopaa", sum := "50d66186dc866797399a36d985fae0b97ec7948d70fffce2c333c74fba4e6c3b", func := "loop.example/g00456/laws.FnExactDecodeTable", spec := "fnExactDecodeTable", unfollowed := true, recurses := true, apart := false }
def FnExactDecodeTableSaid : Prop := fnExactDecodeTableRow.holds Try.pinned (OpenSpec.ofChange fnExactDecodeTableSpec)

/-- ITS FALSE NEIGHBOUR: 'it returns false'. Refute it at one input. -/
def fnExactDecodeTableWrong : ChangeSpec := { name := "fnExactDecodeTable", fn := fun _ => fun
  | [d] => { results := [.lit (.bool false)], args := [d] }
  | _ => none }
def FnExactDecodeTableWrongFalsely : Prop := fnExactDecodeTableRow.holds Try.pinned (OpenSpec.ofChange fnExactDecodeTableWrong)

/-- 'laws.FnRecords': WHATEVER THE INPUT: true; the input reads as it did. -/
def fnRecordsSpec : ChangeSpec := { name := "fnRecords", fn := fun _ => fun
  | [d1, d2] => { results := [.lit (.bool true)], args := [d1, d2] }
  | _ => none }
def fnRecordsRow : OpenClaim := { program := "ythlbjmgoibnopaa", sum := "50d66186dc866797399a36d985fae0b97ec7948d70fffce2c333c74fba4e6c3b", func := "loop.example/g00456/laws.FnRecords", spec := "fnRecords", unfollowed := true, recurses := true, apart := false }
def FnRecordsSaid : Prop := fnRecordsRow.holds Try.pinned (OpenSpec.ofChange fnRecordsSpec)

/-- ITS FALSE NEIGHBOUR: 'it returns false'. Refute it at one input. -/
def fnRecordsWrong : ChangeSpec := { name := "fnRecords", fn := fun _ => fun
  | [d1, d2] => { results := [.lit (.bool false)], args := [d1, d2] }
  | _ => none }
def FnRecordsWrongFalsely : Prop := fnRecordsRow.holds Try.pinned (OpenSpec.ofChange fnRecordsWrong)

/-- 'laws.FnExactDecodeRefs': WHATEVER THE INPUT: true; the input reads as it did. -/
def fnExactDecodeRefsSpec : ChangeSpec := { name := "fnExactDecodeRefs", fn := fun _ => fun
  | [d] => { results := [.lit (.bool true)], args := [d] }
  | _ => none }
def fnExactDecodeRefsRow : OpenClaim := { program := "ythlbjmgoibnopaa", sum := "50d66186dc866797399a36d985fae0b97ec7948d70fffce2c333c74fba4e6c3b", func := "loop.example/g00456/laws.FnExactDecodeRefs", spec := "fnExactDecodeRefs", unfollowed := true, recurses := true, apart := false }
def FnExactDecodeRefsSaid : Prop := fnExactDecodeRefsRow.holds Try.pinned (OpenSpec.ofChange fnExactDecodeRefsSpec)

/-- ITS FALSE NEIGHBOUR: 'it returns false'. Refute it at one input. -/
def fnExactDecodeRefsWrong : ChangeSpec := { name := "fnExactDecodeRefs", fn := fun _ => fun
  | [d] => { results := [.lit (.bool false)], args := [d] }
  | _ => none }
def FnExactDecodeRefsWrongFalsely : Prop := fnExactDecodeRefsRow.holds Try.pinned (OpenSpec.ofChange fnExactDecodeRefsWrong)

/-- 'laws.FnTable': WHATEVER THE INPUT: true; the input reads as it did. -/
def fnTableSpec : ChangeSpec := { name := "fnTable", fn := fun _ => fun
  | [d1, d2] => { results := [.lit (.bool true)], args := [d1, d2] }
  | _ => none }
def fnTableRow : OpenClaim := { program := "ythlbjmgoibnopaa", sum := "50d66186dc866797399a36d985fae0b97ec7948d70fffce2c333c74fba4e6c3b", func := "loop.example/g00456/laws.FnTable", spec := "fnTable", unfollowed := true, recurses := true, apart := false }
def FnTableSaid : Prop := fnTableRow.holds Try.pinned (OpenSpec.ofChange fnTableSpec)

/-- ITS FALSE NEIGHBOUR: 'it returns false'. Refute it at one input. -/
def fnTableWrong : ChangeSpec := { name := "fnTable", fn := fun _ => fun
  | [d1, d2] => { results := [.lit (.bool false)], args := [d1, d2] }
  | _ => none }
def FnTableWrongFalsely : Prop := fnTableRow.holds Try.pinned (OpenSpec.ofChange fnTableWrong)

/-- 'laws.FnLose': WHATEVER THE INPUT: true; the input reads as it did. -/
def fnLoseSpec : ChangeSpec := { name := "fnLose", fn := fun _ => fun
  | [d1, d2] => { results := [.lit (.bool true)], args := [d1, d2] }
  | _ => none }
def fnLoseRow : OpenClaim := { program := "ythlbjmgoibnopaa", sum := "50d66186dc866797399a36d985fae0b97ec7948d70fffce2c333c74fba4e6c3b", func := "loop.example/g00456/laws.FnLose", spec := "fnLose", unfollowed := true, recurses := true, apart := false }
def FnLoseSaid : Prop := fnLoseRow.holds Try.pinned (OpenSpec.ofChange fnLoseSpec)

/-- ITS FALSE NEIGHBOUR: 'it returns false'. Refute it at one input. -/
def fnLoseWrong : ChangeSpec := { name := "fnLose", fn := fun _ => fun
  | [d1, d2] => { results := [.lit (.bool false)], args := [d1, d2] }
  | _ => none }
def FnLoseWrongFalsely : Prop := fnLoseRow.holds Try.pinned (OpenSpec.ofChange fnLoseWrong)

/-- 'laws.FnRefs': WHATEVER THE INPUT: true; the input reads as it did. -/
def fnRefsSpec : ChangeSpec := { name := "fnRefs", fn := fun _ => fun
  | [d1, d2] => { results := [.lit (.bool true)], args := [d1, d2] }
  | _ => none }
def fnRefsRow : OpenClaim := { program := "ythlbjmgoibnopaa", sum := "50d66186dc866797399a36d985fae0b97ec7948d70fffce2c333c74fba4e6c3b", func := "loop.example/g00456/laws.FnRefs", spec := "fnRefs", unfollowed := true, recurses := true, apart := false }
def FnRefsSaid : Prop := fnRefsRow.holds Try.pinned (OpenSpec.ofChange fnRefsSpec)

/-- ITS FALSE NEIGHBOUR: 'it returns false'. Refute it at one input. -/
def fnRefsWrong : ChangeSpec := { name := "fnRefs", fn := fun _ => fun
  | [d1, d2] => { results := [.lit (.bool false)], args := [d1, d2] }
  | _ => none }
def FnRefsWrongFalsely : Prop := fnRefsRow.holds Try.pinned (OpenSpec.ofChange fnRefsWrong)

/-- 'laws.FnExactJournalPlan': WHATEVER THE INPUT: true; the input reads as it did. -/
def fnExactJournalPlanSpec : ChangeSpec := { name := "fnExactJournalPlan", fn := fun _ => fun
  | [d1, d2, d3] => { results := [.lit (.bool true)], args := [d1, d2, d3] }
  | _ => none }
def fnExactJournalPlanRow : OpenClaim := { program := "ythlbjmgoibnopaa", sum := "50d66186dc866797399a36d985fae0b97ec7948d70fffce2c333c74fba4e6c3b", func := "loop.example/g00456/laws.FnExactJournalPlan", spec := "fnExactJournalPlan", unfollowed := true, recurses := true, apart := false }
def FnExactJournalPlanSaid : Prop := fnExactJournalPlanRow.holds Try.pinned (OpenSpec.ofChange fnExactJournalPlanSpec)

/-- ITS FALSE NEIGHBOUR: 'it returns false'. Refute it at one input. -/
def fnExactJournalPlanWrong : ChangeSpec := { name := "fnExactJournalPlan", fn := fun _ => fun
  | [d1, d2, d3] => { results := [.lit (.bool false)], args := [d1, d2, d3] }
  | _ => none }
def FnExactJournalPlanWrongFalsely : Prop := fnExactJournalPlanRow.holds Try.pinned (OpenSpec.ofChange fnExactJournalPlanWrong)

/-- 'laws.FnDisk': WHATEVER THE INPUT: true; the input reads as it did. -/
def fnDiskSpec : ChangeSpec := { name := "fnDisk", fn := fun _ => fun
  | [d1, d2] => { results := [.lit (.bool true)], args := [d1, d2] }
  | _ => none }
def fnDiskRow : OpenClaim := { program := "ythlbjmgoibnopaa", sum := "50d66186dc866797399a36d985fae0b97ec7948d70fffce2c333c74fba4e6c3b", func := "loop.example/g00456/laws.FnDisk", spec := "fnDisk", unfollowed := true, recurses := true, apart := false }
def FnDiskSaid : Prop := fnDiskRow.holds Try.pinned (OpenSpec.ofChange fnDiskSpec)

/-- ITS FALSE NEIGHBOUR: 'it returns false'. Refute it at one input. -/
def fnDiskWrong : ChangeSpec := { name := "fnDisk", fn := fun _ => fun
  | [d1, d2] => { results := [.lit (.bool false)], args := [d1, d2] }
  | _ => none }
def FnDiskWrongFalsely : Prop := fnDiskRow.holds Try.pinned (OpenSpec.ofChange fnDiskWrong)

/-- 'laws.FnExactWriteSector': WHATEVER THE INPUT: true; the input reads as it did. -/
def fnExactWriteSectorSpec : ChangeSpec := { name := "fnExactWriteSector", fn := fun _ => fun
  | [d1, d2, d3, d4] => { results := [.lit (.bool true)], args := [d1, d2, d3, d4] }
  | _ => none }
def fnExactWriteSectorRow : OpenClaim := { program := "ythlbjmgoibnopaa", sum := "50d66186dc866797399a36d985fae0b97ec7948d70fffce2c333c74fba4e6c3b", func := "loop.example/g00456/laws.FnExactWriteSector", spec := "fnExactWriteSector", unfollowed := true, recurses := true, apart := false }
def FnExactWriteSectorSaid : Prop := fnExactWriteSectorRow.holds Try.pinned (OpenSpec.ofChange fnExactWriteSectorSpec)

/-- ITS FALSE NEIGHBOUR: 'it returns false'. Refute it at one input. -/
def fnExactWriteSectorWrong : ChangeSpec := { name := "fnExactWriteSector", fn := fun _ => fun
  | [d1, d2, d3, d4] => { results := [.lit (.bool false)], args := [d1, d2, d3, d4] }
  | _ => none }
def FnExactWriteSectorWrongFalsely : Prop := fnExactWriteSectorRow.holds Try.pinned (OpenSpec.ofChange fnExactWriteSectorWrong)

/- THE SECOND FORM. 'bulk': how many values and letters a reading holds, each counted each time it is reached (what is shared counts as often as it is met; a slice's spare places count too). A statement '..UptoSaid' is the law's where the arguments, and the package variables that the reading takes, are together of bulk at most 1048576: NARROWER than '..Said'. Prove '..Said' where nothing that the law and all that it calls make is longer than what came in: it says more and counts as full. Else prove '..UptoSaid'. A law counts once. -/
mutual
def uptoBulk {H : Type} : DataW H → Nat
  | .lit (.string bytes) => bytes.length + 1
  | .lit _ => 1
  | .nil => 1
  | .ptr d => uptoBulk d + 1
  | .slice elems spare => uptoBulkAll elems + uptoBulkAll spare + 1
  | .agg parts => uptoBulkAll parts + 1
  | .iface _ d => uptoBulk d + 1
  | .map entries => uptoBulkEntries entries + 1
  | .held _ => 1
def uptoBulkAll {H : Type} : List (DataW H) → Nat
  | [] => 0
  | d :: r => uptoBulk d + uptoBulkAll r
def uptoBulkEntries {H : Type} : List (Lit × DataW H) → Nat
  | [] => 0
  | x :: r => uptoBulkEntry x + uptoBulkEntries r
def uptoBulkEntry {H : Type} : Lit × DataW H → Nat
  | (.string bytes, d) => bytes.length + uptoBulk d + 1
  | (_, d) => uptoBulk d + 1
 end
def uptoSmall : (H : Type) → List (DataW H) → Bool := fun _ ds => decide (uptoBulkAll ds ≤ 1048576)
def OpenSpec.upto (s : _root_.Go.ChangeSpec) : _root_.Go.OpenSpec := { _root_.Go.OpenSpec.ofChange s with cond := some uptoSmall }

/-- 'laws.FnExactDecodeUpdate', WHERE WHAT IT READS IS OF BULK AT MOST 1048576: true; the input reads as it did. -/
def fnExactDecodeUpdateUptoRow : OpenClaim := { program := "ythlbjmgoibnopaa", sum := "50d66186dc866797399a36d985fae0b97ec7948d70fffce2c333c74fba4e6c3b", func := "loop.example/g00456/laws.FnExactDecodeUpdate", spec := "fnExactDecodeUpdate", unfollowed := true, recurses := true, apart := false, narrowed := true }
def FnExactDecodeUpdateUptoSaid : Prop := fnExactDecodeUpdateUptoRow.holds Try.pinned (OpenSpec.upto fnExactDecodeUpdateSpec)

/-- 'laws.FnExactDecodeLeader', WHERE WHAT IT READS IS OF BULK AT MOST 1048576: true; the input reads as it did. -/
def fnExactDecodeLeaderUptoRow : OpenClaim := { program := "ythlbjmgoibnopaa", sum := "50d66186dc866797399a36d985fae0b97ec7948d70fffce2c333c74fba4e6c3b", func := "loop.example/g00456/laws.FnExactDecodeLeader", spec := "fnExactDecodeLeader", unfollowed := true, recurses := true, apart := false, narrowed := true }
def FnExactDecodeLeaderUptoSaid : Prop := fnExactDecodeLeaderUptoRow.holds Try.pinned (OpenSpec.upto fnExactDecodeLeaderSpec)

/-- 'laws.FnUpdates', WHERE WHAT IT READS IS OF BULK AT MOST 1048576: true; the input reads as it did. -/
def fnUpdatesUptoRow : OpenClaim := { program := "ythlbjmgoibnopaa", sum := "50d66186dc866797399a36d985fae0b97ec7948d70fffce2c333c74fba4e6c3b", func := "loop.example/g00456/laws.FnUpdates", spec := "fnUpdates", unfollowed := true, recurses := true, apart := false, narrowed := true }
def FnUpdatesUptoSaid : Prop := fnUpdatesUptoRow.holds Try.pinned (OpenSpec.upto fnUpdatesSpec)

/-- 'laws.FnExactDecodeTable', WHERE WHAT IT READS IS OF BULK AT MOST 1048576: true; the input reads as it did. -/
def fnExactDecodeTableUptoRow : OpenClaim := { program := "ythlbjmgoibnopaa", sum := "50d66186dc866797399a36d985fae0b97ec7948d70fffce2c333c74fba4e6c3b", func := "loop.example/g00456/laws.FnExactDecodeTable", spec := "fnExactDecodeTable", unfollowed := true, recurses := true, apart := false, narrowed := true }
def FnExactDecodeTableUptoSaid : Prop := fnExactDecodeTableUptoRow.holds Try.pinned (OpenSpec.upto fnExactDecodeTableSpec)

/-- 'laws.FnRecords', WHERE WHAT IT READS IS OF BULK AT MOST 1048576: true; the input reads as it did. -/
def fnRecordsUptoRow : OpenClaim := { program := "ythlbjmgoibnopaa", sum := "50d66186dc866797399a36d985fae0b97ec7948d70fffce2c333c74fba4e6c3b", func := "loop.example/g00456/laws.FnRecords", spec := "fnRecords", unfollowed := true, recurses := true, apart := false, narrowed := true }
def FnRecordsUptoSaid : Prop := fnRecordsUptoRow.holds Try.pinned (OpenSpec.upto fnRecordsSpec)

/-- 'laws.FnExactDecodeRefs', WHERE WHAT IT READS IS OF BULK AT MOST 1048576: true; the input reads as it did. -/
def fnExactDecodeRefsUptoRow : OpenClaim := { program := "ythlbjmgoibnopaa", sum := "50d66186dc866797399a36d985fae0b97ec7948d70fffce2c333c74fba4e6c3b", func := "loop.example/g00456/laws.FnExactDecodeRefs", spec := "fnExactDecodeRefs", unfollowed := true, recurses := true, apart := false, narrowed := true }
def FnExactDecodeRefsUptoSaid : Prop := fnExactDecodeRefsUptoRow.holds Try.pinned (OpenSpec.upto fnExactDecodeRefsSpec)

/-- 'laws.FnTable', WHERE WHAT IT READS IS OF BULK AT MOST 1048576: true; the input reads as it did. -/
def fnTableUptoRow : OpenClaim := { program := "ythlbjmgoibnopaa", sum := "50d66186dc866797399a36d985fae0b97ec7948d70fffce2c333c74fba4e6c3b", func := "loop.example/g00456/laws.FnTable", spec := "fnTable", unfollowed := true, recurses := true, apart := false, narrowed := true }
def FnTableUptoSaid : Prop := fnTableUptoRow.holds Try.pinned (OpenSpec.upto fnTableSpec)

/-- 'laws.FnLose', WHERE WHAT IT READS IS OF BULK AT MOST 1048576: true; the input reads as it did. -/
def fnLoseUptoRow : OpenClaim := { program := "ythlbjmgoibnopaa", sum := "50d66186dc866797399a36d985fae0b97ec7948d70fffce2c333c74fba4e6c3b", func := "loop.example/g00456/laws.FnLose", spec := "fnLose", unfollowed := true, recurses := true, apart := false, narrowed := true }
def FnLoseUptoSaid : Prop := fnLoseUptoRow.holds Try.pinned (OpenSpec.upto fnLoseSpec)

/-- 'laws.FnRefs', WHERE WHAT IT READS IS OF BULK AT MOST 1048576: true; the input reads as it did. -/
def fnRefsUptoRow : OpenClaim := { program := "ythlbjmgoibnopaa", sum := "50d66186dc866797399a36d985fae0b97ec7948d70fffce2c333c74fba4e6c3b", func := "loop.example/g00456/laws.FnRefs", spec := "fnRefs", unfollowed := true, recurses := true, apart := false, narrowed := true }
def FnRefsUptoSaid : Prop := fnRefsUptoRow.holds Try.pinned (OpenSpec.upto fnRefsSpec)

/-- 'laws.FnExactJournalPlan', WHERE WHAT IT READS IS OF BULK AT MOST 1048576: true; the input reads as it did. -/
def fnExactJournalPlanUptoRow : OpenClaim := { program := "ythlbjmgoibnopaa", sum := "50d66186dc866797399a36d985fae0b97ec7948d70fffce2c333c74fba4e6c3b", func := "loop.example/g00456/laws.FnExactJournalPlan", spec := "fnExactJournalPlan", unfollowed := true, recurses := true, apart := false, narrowed := true }
def FnExactJournalPlanUptoSaid : Prop := fnExactJournalPlanUptoRow.holds Try.pinned (OpenSpec.upto fnExactJournalPlanSpec)

/-- 'laws.FnDisk', WHERE WHAT IT READS IS OF BULK AT MOST 1048576: true; the input reads as it did. -/
def fnDiskUptoRow : OpenClaim := { program := "ythlbjmgoibnopaa", sum := "50d66186dc866797399a36d985fae0b97ec7948d70fffce2c333c74fba4e6c3b", func := "loop.example/g00456/laws.FnDisk", spec := "fnDisk", unfollowed := true, recurses := true, apart := false, narrowed := true }
def FnDiskUptoSaid : Prop := fnDiskUptoRow.holds Try.pinned (OpenSpec.upto fnDiskSpec)

/-- 'laws.FnExactWriteSector', WHERE WHAT IT READS IS OF BULK AT MOST 1048576: true; the input reads as it did. -/
def fnExactWriteSectorUptoRow : OpenClaim := { program := "ythlbjmgoibnopaa", sum := "50d66186dc866797399a36d985fae0b97ec7948d70fffce2c333c74fba4e6c3b", func := "loop.example/g00456/laws.FnExactWriteSector", spec := "fnExactWriteSector", unfollowed := true, recurses := true, apart := false, narrowed := true }
def FnExactWriteSectorUptoSaid : Prop := fnExactWriteSectorUptoRow.holds Try.pinned (OpenSpec.upto fnExactWriteSectorSpec)

end Rows
end Go.Proofs.Ythlbjmgoibnopaa
