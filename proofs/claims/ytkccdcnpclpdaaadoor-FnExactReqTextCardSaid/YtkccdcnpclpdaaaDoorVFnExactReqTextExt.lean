/- Of what the print wrote for this claim (Ext): what its texts use. -/
import Derived.Test.YtkccdcnpclpdaaaDoorVFnExactReqTextWMore
import Derived.Test.YtkccdcnpclpdaaaDoorVFnExactReqTextWWords
import Derived.Test.YtkccdcnpclpdaaaDoorVFnExactReqTextWLast
import Derived.Test.YtkccdcnpclpdaaaDoorProg
import Derived.WalkKit
import Derived.Deep.LoopGhost
import Derived.WalkSpells
import Derived.StillTailTactics
namespace Go.Proofs.YtkccdcnpclpdaaaDoor.Ext
open Go.RowKit Go.Proofs.YtkccdcnpclpdaaaDoorW.PrintWords Go.Proofs.YtkccdcnpclpdaaaDoorW.PrintLast Go.Proofs.YtkccdcnpclpdaaaDoorW.PrintMore
set_option linter.unusedVariables false
set_option linter.unusedSimpArgs false
inductive Any where
  | b (x : Bool)
  | n (x : Int)
  | s (x : ByteArray)
def encAny : Any → Value
  | .b x => .iface 4 (.bool x)
  | .n x => .iface 3 (.int .i64 x)
  | .s x => .iface 9 (.string x)
def kAny : Kd Any := Kd.scalar encAny (fun x => by cases x <;> rfl)

/-- Of a list: whether each element is told true, in order; none where one is not told. -/
def allO {α : Type} (p : α → Option Bool) : List α → Option Bool
  | [] => some true
  | x :: xs => (p x).bind fun b => if b = true then allO p xs else some false
section
variable {P : Program} {ops : Array Oper} {Q : Exit → Act → World → Prop}
end
/-- A goal at which the walk stops. -/
structure Stop (p : Prop) : Prop where
  out : p
theorem any_at {w : World} {A : Option Addr} {n : Nat} {xs : List Any} (h : Kd.C kAny w A n xs) (i : Nat) (h1 : i < n) (x : Any) (hx : xs[i]? = some x) : ∃ ad, A = some ad ∧ w.cell? (ad.add i) = some (encAny x) := by
  obtain ⟨ad, c, e, _, hK, hc0⟩ := Kd.C_get h x (i : Int) (by omega) (by omega)
  have hxx : xs.getD ((i : Int).toNat) x = x := by rw [Int.toNat_natCast, List.getD_eq_getElem?_getD, hx]; rfl
  rw [hxx] at hK
  have hK' : c = [encAny x] := hK
  subst hK'
  have := hc0 0 _ rfl
  exact ⟨ad, e, by simpa [kAny, Kd.scalar] using this⟩
end Go.Proofs.YtkccdcnpclpdaaaDoor.Ext
