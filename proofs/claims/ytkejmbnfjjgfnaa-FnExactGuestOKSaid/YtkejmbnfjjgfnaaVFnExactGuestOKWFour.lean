/- Of what the print wrote for this claim (WFour): what its texts use. -/
import Derived.Test.YtkejmbnfjjgfnaaVFnExactGuestOKWTab
namespace Go.Proofs.YtkejmbnfjjgfnaaW.PrintLast
section
variable {P : Program} {ops : Array Oper} {Q : Exit → Act → World → Prop} {md : Region.Mode} {S : World → Prop} {ds : List Nat} {T : Bool × List (List Nat × List Nat)}
end
end Go.Proofs.YtkejmbnfjjgfnaaW.PrintLast
