/- Of what the print wrote for this claim (Ext): what its texts use. -/
import Derived.Test.YtnehachhddfblaaVFnExactNewGuestWMore
import Derived.Test.YtnehachhddfblaaVFnExactNewGuestWWords
import Derived.Test.YtnehachhddfblaaVFnExactNewGuestWLast
import Derived.Test.YtnehachhddfblaaProg
import Derived.WalkKit
import Derived.Deep.LoopGhost
import Derived.WalkSpells
import Derived.StillTailTactics
namespace Go.Proofs.Ytnehachhddfblaa.Ext
open Go.RowKit Go.Proofs.YtnehachhddfblaaW.PrintWords Go.Proofs.YtnehachhddfblaaW.PrintLast Go.Proofs.YtnehachhddfblaaW.PrintMore
set_option linter.unusedVariables false
set_option linter.unusedSimpArgs false
inductive Any where
  | b (x : Bool)
  | n (x : Int)
  | s (x : ByteArray)
section
variable {P : Program} {ops : Array Oper} {Q : Exit → Act → World → Prop}
end
end Go.Proofs.Ytnehachhddfblaa.Ext
