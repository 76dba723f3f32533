/- Of what the print wrote for this claim (WGuard): what its texts use. -/
import Derived.Test.YtnehachhddfblaaVFnExactNewGuestWWords
namespace Go.Proofs.YtnehachhddfblaaW.PrintWords
open Go.RowKit
section
variable {P : Program} {ops : Array Oper} {rest : List Oper} {o : Oper} {a : Act} {Q : Exit → Act → World → Prop} {W : World}
end
end Go.Proofs.YtnehachhddfblaaW.PrintWords
