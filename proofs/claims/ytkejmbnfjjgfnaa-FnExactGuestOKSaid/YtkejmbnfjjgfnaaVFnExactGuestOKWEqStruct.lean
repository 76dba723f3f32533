/- Of what the print wrote for this claim (WEqStruct): what its texts use. -/
import Derived.Test.YtkejmbnfjjgfnaaVFnExactGuestOKWWords
import Derived.Laws.StructEq
namespace Go.Proofs.YtkejmbnfjjgfnaaW.PrintWords
open Go.RowKit
section
variable {P : Program} {d : Nat} {xs ys : Array Value} {f : Field} {fs : List Field} {a b : Value} {r s : Bool} {w : World}
end
end Go.Proofs.YtkejmbnfjjgfnaaW.PrintWords
