/- Of what the print wrote for this claim (Ext): what its texts use. -/
import Derived.Test.YtniceoohmhjjlaaDoorVFnExactReqTextWMore
import Derived.Test.YtniceoohmhjjlaaDoorVFnExactReqTextWWords
import Derived.Test.YtniceoohmhjjlaaDoorVFnExactReqTextWLast
import Derived.Test.YtniceoohmhjjlaaDoorProg
import Derived.WalkKit
import Derived.Deep.LoopGhost
import Derived.WalkSpells
import Derived.StillTailTactics
namespace Go.Proofs.YtniceoohmhjjlaaDoor.Ext
open Go.RowKit Go.Proofs.YtniceoohmhjjlaaDoorW.PrintWords Go.Proofs.YtniceoohmhjjlaaDoorW.PrintLast Go.Proofs.YtniceoohmhjjlaaDoorW.PrintMore
set_option linter.unusedVariables false
set_option linter.unusedSimpArgs false
inductive Any where
  | b (x : Bool)
  | n (x : Int)
  | s (x : ByteArray)
  | ss (v : Value) (x : List ByteArray)
  | ns (v : Value) (x : List Int)
def encAny : Any → Value
  | .b x => .iface 4 (.bool x)
  | .n x => .iface 3 (.int .i64 x)
  | .s x => .iface 9 (.string x)
  | .ss v _ => .iface 37 v
  | .ns v _ => .iface 46 v
def kAny : Kd Any := Kd.scalar encAny (fun x => by cases x <;> rfl)

/-- Of a row that a value of type any leads to: it is read as it is told. -/
def Sim1 (w : World) : Any → Prop
  | .ss v l => ∃ A c, v = .slice A l.length c ∧ l.length ≤ c ∧ Kd.C Kd.string w A l.length l
  | .ns v l => ∃ A c, v = .slice A l.length c ∧ l.length ≤ c ∧ Kd.C (Kd.int .i64) w A l.length l
  | _ => True
def Sims (w : World) : List Any → Prop
  | [] => True
  | x :: r => Sim1 w x ∧ Sims w r
theorem Sims.at {w : World} : ∀ {l : List Any}, Sims w l → ∀ x ∈ l, Sim1 w x
  | _ :: _, h, x, hx => by
    rcases List.mem_cons.1 hx with rfl | hx
    · exact h.1
    · exact h.2.at x hx
theorem Sims.below {w w' : World} (hb : Below w.heap.size w w') : ∀ {l : List Any}, Sims w l → Sims w' l
  | [], _ => trivial
  | x :: r, h => ⟨by
      cases x with
      | ss v l => obtain ⟨A, c, e, h1, h2⟩ := h.1; exact ⟨A, c, e, h1, Kd.C_below h2 hb⟩
      | ns v l => obtain ⟨A, c, e, h1, h2⟩ := h.1; exact ⟨A, c, e, h1, Kd.C_below h2 hb⟩
      | _ => trivial, h.2.below hb⟩

/-- Of a list: whether each element is told true, in order; none where one is not told. -/
def allO {α : Type} (p : α → Option Bool) : List α → Option Bool
  | [] => some true
  | x :: xs => (p x).bind fun b => if b = true then allO p xs else some false
section
variable {P : Program} {ops : Array Oper} {Q : Exit → Act → World → Prop}
end
/-- A goal at which the walk stops. -/
structure Stop (p : Prop) : Prop where
  out : p
theorem any_at {w : World} {A : Option Addr} {n : Nat} {xs : List Any} (h : Kd.C kAny w A n xs) (i : Nat) (h1 : i < n) (x : Any) (hx : xs[i]? = some x) : ∃ ad, A = some ad ∧ w.cell? (ad.add i) = some (encAny x) := by
  obtain ⟨ad, c, e, _, hK, hc0⟩ := Kd.C_get h x (i : Int) (by omega) (by omega)
  have hxx : xs.getD ((i : Int).toNat) x = x := by rw [Int.toNat_natCast, List.getD_eq_getElem?_getD, hx]; rfl
  rw [hxx] at hK
  have hK' : c = [encAny x] := hK
  subst hK'
  have := hc0 0 _ rfl
  exact ⟨ad, e, by simpa [kAny, Kd.scalar] using this⟩
section
variable {α : Type} {d : Kd α} {e base c z : Nat} {W w1 : World} {o : Nat → Nat} {ok : Nat → Prop} {u v : Value} {xs : List α}
end
end Go.Proofs.YtniceoohmhjjlaaDoor.Ext
