/-
  No cell of these rows narrows 'for every input' (looked for: loops, veiled, ifaces, maps, wideKeys, modest, calm, conditions, laid).
  DERIVED. THE GIVEN ROWS OF THIS SEAT. 5 by the template 'for every input the law returns true; each argument reads behind the call as it read before'; 0 by the template 'total and deterministic' (their statements: YtdbcojeblkiidaaTotals.lean).
  GIVEN WITH THE SEED: the statements are not yours to turn. If you find one false, say at which input.
  Laid BY PROGRAM, IN A SANDBOX (cutbox-rows.mjs): the forced cells as the released guide's own fill.sh prints them over the translation 1b769276ca71b621… (all of the seat's roots in one cut). By AI agents, Wed Nov 11 2026. No macro, syntax, notation, axiom, sorry.
-/
import Derived.Test.YtdbcojeblkiidaaChecked
import GoSem.Claim
import GoSem.ClaimJoined
import GoSem.ClaimMapViews
import Derived.JoinedTies
import Derived.KernelRfl
namespace Go.Proofs.Ytdbcojeblkiidaa
/- THE CELL 'sum', in the pinned program and in every row, IS THE sha256 OF THE DUMP (.gsa) THAT YtdbcojeblkiidaaProg.lean LOADS. Nothing in Lean hashes anything: it is a label: what it is worth is what the hold of that sum in a sandbox is worth. -/
noncomputable def Try.pinned : Pinned := { name := "ytdbcojeblkiidaa", sum := "1b769276ca71b621cb1be90285bb057cea3ae0388a01b3da76d4b4e56255fe7c", checked := Try.checked }
namespace Rows
def none {H : Type} : Left H := { results := [], args := [] }

/-- 'laws.FnExactImageOK': WHATEVER THE INPUT: true; the input reads as it did. -/
def fnExactImageOKSpec : ChangeSpec := { name := "fnExactImageOK", fn := fun _ => fun
  | [d] => { results := [.lit (.bool true)], args := [d] }
  | _ => none }
def fnExactImageOKRow : OpenClaim := { program := "ytdbcojeblkiidaa", sum := "1b769276ca71b621cb1be90285bb057cea3ae0388a01b3da76d4b4e56255fe7c", func := "loop.example/g00456/laws.FnExactImageOK", spec := "fnExactImageOK", unfollowed := true, recurses := true, apart := false }
def FnExactImageOKSaid : Prop := fnExactImageOKRow.holds Try.pinned (OpenSpec.ofChange fnExactImageOKSpec)

/-- ITS FALSE NEIGHBOUR: 'it returns false'. Refute it at one input. -/
def fnExactImageOKWrong : ChangeSpec := { name := "fnExactImageOK", fn := fun _ => fun
  | [d] => { results := [.lit (.bool false)], args := [d] }
  | _ => none }
def FnExactImageOKWrongFalsely : Prop := fnExactImageOKRow.holds Try.pinned (OpenSpec.ofChange fnExactImageOKWrong)

/-- 'laws.FnExactCountRefs': WHATEVER THE INPUT: true; the input reads as it did. -/
def fnExactCountRefsSpec : ChangeSpec := { name := "fnExactCountRefs", fn := fun _ => fun
  | [d] => { results := [.lit (.bool true)], args := [d] }
  | _ => none }
def fnExactCountRefsRow : OpenClaim := { program := "ytdbcojeblkiidaa", sum := "1b769276ca71b621cb1be90285bb057cea3ae0388a01b3da76d4b4e56255fe7c", func := "loop.example/g00456/laws.FnExactCountRefs", spec := "fnExactCountRefs", unfollowed := true, recurses := true, apart := false }
def FnExactCountRefsSaid : Prop := fnExactCountRefsRow.holds Try.pinned (OpenSpec.ofChange fnExactCountRefsSpec)

/-- ITS FALSE NEIGHBOUR: 'it returns false'. Refute it at one input. -/
def fnExactCountRefsWrong : ChangeSpec := { name := "fnExactCountRefs", fn := fun _ => fun
  | [d] => { results := [.lit (.bool false)], args := [d] }
  | _ => none }
def FnExactCountRefsWrongFalsely : Prop := fnExactCountRefsRow.holds Try.pinned (OpenSpec.ofChange fnExactCountRefsWrong)

/-- 'laws.FnExactReadCluster': WHATEVER THE INPUT: true; the input reads as it did. -/
def fnExactReadClusterSpec : ChangeSpec := { name := "fnExactReadCluster", fn := fun _ => fun
  | [d1, d2] => { results := [.lit (.bool true)], args := [d1, d2] }
  | _ => none }
def fnExactReadClusterRow : OpenClaim := { program := "ytdbcojeblkiidaa", sum := "1b769276ca71b621cb1be90285bb057cea3ae0388a01b3da76d4b4e56255fe7c", func := "loop.example/g00456/laws.FnExactReadCluster", spec := "fnExactReadCluster", unfollowed := true, recurses := true, apart := false }
def FnExactReadClusterSaid : Prop := fnExactReadClusterRow.holds Try.pinned (OpenSpec.ofChange fnExactReadClusterSpec)

/-- ITS FALSE NEIGHBOUR: 'it returns false'. Refute it at one input. -/
def fnExactReadClusterWrong : ChangeSpec := { name := "fnExactReadCluster", fn := fun _ => fun
  | [d1, d2] => { results := [.lit (.bool false)], args := [d1, d2] }
  | _ => none }
def FnExactReadClusterWrongFalsely : Prop := fnExactReadClusterRow.holds Try.pinned (OpenSpec.ofChange fnExactReadClusterWrong)

/-- 'laws.FnExactLeaks': WHATEVER THE INPUT: true; the input reads as it did. -/
def fnExactLeaksSpec : ChangeSpec := { name := "fnExactLeaks", fn := fun _ => fun
  | [d] => { results := [.lit (.bool true)], args := [d] }
  | _ => none }
def fnExactLeaksRow : OpenClaim := { program := "ytdbcojeblkiidaa", sum := "1b769276ca71b621cb1be90285bb057cea3ae0388a01b3da76d4b4e56255fe7c", func := "loop.example/g00456/laws.FnExactLeaks", spec := "fnExactLeaks", unfollowed := true, recurses := true, apart := false }
def FnExactLeaksSaid : Prop := fnExactLeaksRow.holds Try.pinned (OpenSpec.ofChange fnExactLeaksSpec)

/-- ITS FALSE NEIGHBOUR: 'it returns false'. Refute it at one input. -/
def fnExactLeaksWrong : ChangeSpec := { name := "fnExactLeaks", fn := fun _ => fun
  | [d] => { results := [.lit (.bool false)], args := [d] }
  | _ => none }
def FnExactLeaksWrongFalsely : Prop := fnExactLeaksRow.holds Try.pinned (OpenSpec.ofChange fnExactLeaksWrong)

/-- 'laws.FnExactWrongRefs': WHATEVER THE INPUT: true; the input reads as it did. -/
def fnExactWrongRefsSpec : ChangeSpec := { name := "fnExactWrongRefs", fn := fun _ => fun
  | [d] => { results := [.lit (.bool true)], args := [d] }
  | _ => none }
def fnExactWrongRefsRow : OpenClaim := { program := "ytdbcojeblkiidaa", sum := "1b769276ca71b621cb1be90285bb057cea3ae0388a01b3da76d4b4e56255fe7c", func := "loop.example/g00456/laws.FnExactWrongRefs", spec := "fnExactWrongRefs", unfollowed := true, recurses := true, apart := false }
def FnExactWrongRefsSaid : Prop := fnExactWrongRefsRow.holds Try.pinned (OpenSpec.ofChange fnExactWrongRefsSpec)

/-- ITS FALSE NEIGHBOUR: 'it returns false'. Refute it at one input. -/
def fnExactWrongRefsWrong : ChangeSpec := { name := "fnExactWrongRefs", fn := fun _ => fun
  | [d] => { results := [.lit (.bool false)], args := [d] }
  | _ => none }
def FnExactWrongRefsWrongFalsely : Prop := fnExactWrongRefsRow.holds Try.pinned (OpenSpec.ofChange fnExactWrongRefsWrong)

/- THE SECOND FORM. 'bulk': how many values and letters a reading holds, each counted each time it is reached (what is shared counts as often as it is met; a slice's spare places count too). A statement '..UptoSaid' is the law's where the arguments, and the package variables that the reading takes, are together of bulk at most 1048576: NARROWER than '..Said'. Prove '..Said' where nothing that the law and all that it calls make is longer than what came in: it says more and counts as full. Else prove '..UptoSaid'. A law counts once. -/
mutual
def uptoBulk {H : Type} : DataW H → Nat
  | .lit (.string bytes) => bytes.length + 1
  | .lit _ => 1
  | .nil => 1
  | .ptr d => uptoBulk d + 1
  | .slice elems spare => uptoBulkAll elems + uptoBulkAll spare + 1
  | .agg parts => uptoBulkAll parts + 1
  | .iface _ d => uptoBulk d + 1
  | .map entries => uptoBulkEntries entries + 1
  | .held _ => 1
def uptoBulkAll {H : Type} : List (DataW H) → Nat
  | [] => 0
  | d :: r => uptoBulk d + uptoBulkAll r
def uptoBulkEntries {H : Type} : List (Lit × DataW H) → Nat
  | [] => 0
  | x :: r => uptoBulkEntry x + uptoBulkEntries r
def uptoBulkEntry {H : Type} : Lit × DataW H → Nat
  | (.string bytes, d) => bytes.length + uptoBulk d + 1
  | (_, d) => uptoBulk d + 1
 end
def uptoSmall : (H : Type) → List (DataW H) → Bool := fun _ ds => decide (uptoBulkAll ds ≤ 1048576)
def OpenSpec.upto (s : _root_.Go.ChangeSpec) : _root_.Go.OpenSpec := { _root_.Go.OpenSpec.ofChange s with cond := some uptoSmall }

/-- 'laws.FnExactImageOK', WHERE WHAT IT READS IS OF BULK AT MOST 1048576: true; the input reads as it did. -/
def fnExactImageOKUptoRow : OpenClaim := { program := "ytdbcojeblkiidaa", sum := "1b769276ca71b621cb1be90285bb057cea3ae0388a01b3da76d4b4e56255fe7c", func := "loop.example/g00456/laws.FnExactImageOK", spec := "fnExactImageOK", unfollowed := true, recurses := true, apart := false, narrowed := true }
def FnExactImageOKUptoSaid : Prop := fnExactImageOKUptoRow.holds Try.pinned (OpenSpec.upto fnExactImageOKSpec)

/-- 'laws.FnExactCountRefs', WHERE WHAT IT READS IS OF BULK AT MOST 1048576: true; the input reads as it did. -/
def fnExactCountRefsUptoRow : OpenClaim := { program := "ytdbcojeblkiidaa", sum := "1b769276ca71b621cb1be90285bb057cea3ae0388a01b3da76d4b4e56255fe7c", func := "loop.example/g00456/laws.FnExactCountRefs", spec := "fnExactCountRefs", unfollowed := true, recurses := true, apart := false, narrowed := true }
def FnExactCountRefsUptoSaid : Prop := fnExactCountRefsUptoRow.holds Try.pinned (OpenSpec.upto fnExactCountRefsSpec)

/-- 'laws.FnExactReadCluster', WHERE WHAT IT READS IS OF BULK AT MOST 1048576: true; the input reads as it did. -/
def fnExactReadClusterUptoRow : OpenClaim := { program := "ytdbcojeblkiidaa", sum := "1b769276ca71b621cb1be90285bb057cea3ae0388a01b3da76d4b4e56255fe7c", func := "loop.example/g00456/laws.FnExactReadCluster", spec := "fnExactReadCluster", unfollowed := true, recurses := true, apart := false, narrowed := true }
def FnExactReadClusterUptoSaid : Prop := fnExactReadClusterUptoRow.holds Try.pinned (OpenSpec.upto fnExactReadClusterSpec)

/-- 'laws.FnExactLeaks', WHERE WHAT IT READS IS OF BULK AT MOST 1048576: true; the input reads as it did. -/
def fnExactLeaksUptoRow : OpenClaim := { program := "ytdbcojeblkiidaa", sum := "1b769276ca71b621cb1be90285bb057cea3ae0388a01b3da76d4b4e56255fe7c", func := "loop.example/g00456/laws.FnExactLeaks", spec := "fnExactLeaks", unfollowed := true, recurses := true, apart := false, narrowed := true }
def FnExactLeaksUptoSaid : Prop := fnExactLeaksUptoRow.holds Try.pinned (OpenSpec.upto fnExactLeaksSpec)

/-- 'laws.FnExactWrongRefs', WHERE WHAT IT READS IS OF BULK AT MOST 1048576: true; the input reads as it did. -/
def fnExactWrongRefsUptoRow : OpenClaim := { program := "ytdbcojeblkiidaa", sum := "1b769276ca71b621cb1be90285bb057cea3ae0388a01b3da76d4b4e56255fe7c", func := "loop.example/g00456/laws.FnExactWrongRefs", spec := "fnExactWrongRefs", unfollowed := true, recurses := true, apart := false, narrowed := true }
def FnExactWrongRefsUptoSaid : Prop := fnExactWrongRefsUptoRow.holds Try.pinned (OpenSpec.upto fnExactWrongRefsSpec)

end Rows
end Go.Proofs.Ytdbcojeblkiidaa
