/- Of what the print wrote for this claim (Ext): what its texts use. -/
import Derived.Test.YtkejmbnfjjgfnaaVFnExactGuestOKWMore
import Derived.Test.YtkejmbnfjjgfnaaVFnExactGuestOKWWords
import Derived.Test.YtkejmbnfjjgfnaaVFnExactGuestOKWLast
import Derived.Test.YtkejmbnfjjgfnaaProg
import Derived.WalkKit
import Derived.Deep.LoopGhost
import Derived.WalkSpells
import Derived.StillTailTactics
namespace Go.Proofs.Ytkejmbnfjjgfnaa.Ext
open Go.RowKit Go.Proofs.YtkejmbnfjjgfnaaW.PrintWords Go.Proofs.YtkejmbnfjjgfnaaW.PrintLast Go.Proofs.YtkejmbnfjjgfnaaW.PrintMore
set_option linter.unusedVariables false
set_option linter.unusedSimpArgs false
inductive Any where
  | b (x : Bool)
  | n (x : Int)
  | s (x : ByteArray)
  | ss (v : Value) (x : List ByteArray)
  | ns (v : Value) (x : List Int)
/-- The same, without where a row lies. -/
def Any.bare : Any → Any
  | .ss _ x => .ss (.bool false) x
  | .ns _ x => .ns (.bool false) x
  | x => x
/-- Of a row that a value of type any leads to: it is read as it is told. -/
def Sim1 (w : World) : Any → Prop
  | .ss v l => ∃ A c, v = .slice A l.length c ∧ l.length ≤ c ∧ Kd.C Kd.string w A l.length l
  | .ns v l => ∃ A c, v = .slice A l.length c ∧ l.length ≤ c ∧ Kd.C (Kd.int .i64) w A l.length l
  | _ => True
def Sims (w : World) : List Any → Prop
  | [] => True
  | x :: r => Sim1 w x ∧ Sims w r
theorem Sims.at {w : World} : ∀ {l : List Any}, Sims w l → ∀ x ∈ l, Sim1 w x
  | _ :: _, h, x, hx => by
    rcases List.mem_cons.1 hx with rfl | hx
    · exact h.1
    · exact h.2.at x hx
theorem Sims.below {w w' : World} (hb : Below w.heap.size w w') : ∀ {l : List Any}, Sims w l → Sims w' l
  | [], _ => trivial
  | x :: r, h => ⟨by
      cases x with
      | ss v l => obtain ⟨A, c, e, h1, h2⟩ := h.1; exact ⟨A, c, e, h1, Kd.C_below h2 hb⟩
      | ns v l => obtain ⟨A, c, e, h1, h2⟩ := h.1; exact ⟨A, c, e, h1, Kd.C_below h2 hb⟩
      | _ => trivial, h.2.below hb⟩

/-- Of a list: whether each element is told true, in order; none where one is not told. -/
def allO {α : Type} (p : α → Option Bool) : List α → Option Bool
  | [] => some true
  | x :: xs => (p x).bind fun b => if b = true then allO p xs else some false
theorem allO_mono {α : Type} {p q : α → Option Bool} (h : ∀ x, LeO (p x) (q x)) : ∀ l, LeO (allO p l) (allO q l)
  | [] => LeO.refl _
  | x :: xs => LeO.bind (h x) fun b => LeO.ite (allO_mono h xs) (LeO.refl _)
theorem allO_some {α : Type} {p : α → Option Bool} (q : α → Bool) : ∀ (l : List α), (∀ x ∈ l, p x = some (q x)) → allO p l = some (l.all q)
  | [], _ => rfl
  | x :: xs, h => by
    simp only [allO, h x (by simp), Option.bind_some, List.all_cons]
    cases q x
    · simp
    · simp [allO_some q xs (fun y hy => h y (by simp [hy]))]

section
variable {P : Program} {ops : Array Oper} {Q : Exit → Act → World → Prop}
/-- A call through a function's value, in a plain region. -/
theorem goesV {rest : List Oper} {oi : Oper} {a : Act} {w : World} (N : Option Tmp) (hd : oi.dst = N) (hg : oi.guard = none) {f : FuncId} {fn : Func} {x : Operand} {cap : Array Value} {ars : Array Operand} {ts : Array TypeId} (hf : P.funcs[f]? = some fn) (hname : (fn.name == "runtime.NumGoroutine") = false) (hb : fn.body.isSome = true) (args : Array Value)
    (hop : oi.op = .call { callee := .value x, args := ars, argTypes := ts }) (hx : a.eval x = .func (.func f) #[] cap) (hargs : ars.map a.eval ++ cap = args)
    (h : Calls P f args w fun e w' => ∃ v, e = .returned v ∧ wpList P ops Q rest (a.put N v) w') : wpList P ops Q (oi :: rest) a w := by
  refine wpList_plain hg fun K hK => ?_
  have he := enters_ hf hname hb args w
  have hrun : (execOp a.eval oi).run P w = .ok (.enter f args) w := by
    unfold execOp
    simp [hop, hx, resolve, Deferred.ofValue, invoke, hargs, he]
  unfold Oper.wp
  rw [hrun, Oper.upon_enter]
  refine h.mono fun e w'' hh => ?_
  obtain ⟨v, rfl, hk⟩ := hh
  subst hd
  exact hK _ _ hk
end
/-- What is known of a function that asks something of an element: its number, and that it answers p. -/
structure Asks1 {α : Type} (F : FuncId) (d : Kd α) (val : List Value → Value) (p : α → Option Bool) : Prop where
  body : ∃ fn, Try.prog.funcs[F]? = some fn ∧ (fn.name == "runtime.NumGoroutine") = false ∧ fn.body.isSome = true
  calls : ∀ (x : α) (cs : List Value) (r : Bool) (w : World), d.K w x cs → p x = some r → Calls Try.prog F #[val cs] w fun e w' => e = .returned (.bool r) ∧ Below w.heap.size w w'
def IdxPost (r : Bool) (w : World) (e : Ending) (w' : World) : Prop := ∃ j : Int, e = .returned (.int .i64 j) ∧ decide (j ≥ 0) = !r ∧ Below w.heap.size w w'
/-- A goal at which the walk stops. -/
structure Stop (p : Prop) : Prop where
  out : p
/-- Rows told apart by an owner o: a block's owner is the event that made it. -/
theorem own_ne {o : Nat → Nat} {i j k : Nat} {v : Value} (hk : o k = i) (h : ∀ k, v.ownBlock = some k → o k = j) (hne : i ≠ j) : some k ≠ v.ownBlock := fun e => hne (hk.symm.trans (h k e.symm))
section
variable {α : Type} {d : Kd α} {e base c z : Nat} {W w1 : World} {o : Nat → Nat} {ok : Nat → Prop} {u v : Value} {xs : List α}
end
end Go.Proofs.Ytkejmbnfjjgfnaa.Ext
