/- Of what the print wrote for this claim (WFootNe): what its texts use. -/
import Derived.Test.YtkejmbnfjjgfnaaVFnExactGuestOKWN
namespace Go.Proofs.YtkejmbnfjjgfnaaW.PrintWords
open Go.RowKit
namespace Kd
section
variable {α : Type} {d : Kd α} {W : World} {g n : Nat} {S ok : Nat → Prop} {A : Option Addr} {ad : Addr} {xs : List α}
end
end Kd
end Go.Proofs.YtkejmbnfjjgfnaaW.PrintWords
