/- Of what the print wrote for this claim (WEqStruct): what its texts use. -/
import Derived.Test.YtdbcojeblkiidaaVFnExactWrongRefsWWords
import Derived.Laws.StructEq
namespace Go.Proofs.YtdbcojeblkiidaaW.PrintWords
open Go.RowKit
section
variable {P : Program} {d : Nat} {xs ys : Array Value} {f : Field} {fs : List Field} {a b : Value} {r s : Bool} {w : World}
end
end Go.Proofs.YtdbcojeblkiidaaW.PrintWords
