/- Of what the print wrote for this claim (WGuard): what its texts use. -/
import Derived.Test.YtajflpcihblkfaaVFnTableWWords
namespace Go.Proofs.YtajflpcihblkfaaW.PrintWords
open Go.RowKit
section
variable {P : Program} {ops : Array Oper} {rest : List Oper} {o : Oper} {a : Act} {Q : Exit → Act → World → Prop} {W : World}
end
end Go.Proofs.YtajflpcihblkfaaW.PrintWords
