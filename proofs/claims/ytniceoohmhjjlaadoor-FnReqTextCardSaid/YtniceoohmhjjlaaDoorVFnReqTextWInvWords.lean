/- Of what the print wrote for this claim (WInvWords): what its texts use. -/
import Derived.Test.YtniceoohmhjjlaaDoorVFnReqTextWInv
import Derived.Test.YtniceoohmhjjlaaDoorVFnReqTextWFootNe
namespace Go.Proofs.YtniceoohmhjjlaaDoorW.PrintWords
open Go.RowKit
end Go.Proofs.YtniceoohmhjjlaaDoorW.PrintWords
namespace Go.Proofs.YtniceoohmhjjlaaDoorW.PrintLast
section
variable {ops : Array Oper} {a : Act} {o og : Oper} {g : Nat} {t : Tmp} {u : Bool}
/-- A guarded operation whose guard has yielded what it wants. -/
theorem wanted_on (hg : o.guard = some (g, u)) (ho : ops[g]? = some og) (hd : og.dst = some t) (hv : a.tmps[t]? = some (.bool u)) : Region.wanted o (yielded ops a.tmps) = true := by
  simp [Region.wanted, hg, yielded, ho, hd, hv]
end
end Go.Proofs.YtniceoohmhjjlaaDoorW.PrintLast
