/- The print's words (Ext). -/
import Derived.Test.YtglcnnmobkocmaaGreatVFnExactDiffUpdatesWMore
import Derived.Test.YtglcnnmobkocmaaGreatVFnExactDiffUpdatesWWords
import Derived.Test.YtglcnnmobkocmaaGreatVFnExactDiffUpdatesWLast
import Derived.Test.YtglcnnmobkocmaaGreatProg
import Derived.WalkKit
import Derived.Deep.LoopGhost
import Derived.WalkSpells
import Derived.StillTailTactics
namespace Go.Proofs.YtglcnnmobkocmaaGreat.Ext
open Go.RowKit Go.Proofs.YtglcnnmobkocmaaGreatW.PrintWords Go.Proofs.YtglcnnmobkocmaaGreatW.PrintLast Go.Proofs.YtglcnnmobkocmaaGreatW.PrintMore
set_option linter.unusedVariables false
set_option linter.unusedSimpArgs false
inductive Any where
  | b (x : Bool)
  | n (x : Int)
  | s (x : ByteArray)
def allO {α : Type} (p : α → Option Bool) : List α → Option Bool
  | [] => some true
  | x :: xs => (p x).bind fun b => if b = true then allO p xs else some false
theorem allO_mono {α : Type} {p q : α → Option Bool} (h : ∀ x, LeO (p x) (q x)) : ∀ l, LeO (allO p l) (allO q l)
  | [] => LeO.refl _
  | x :: xs => LeO.bind (h x) fun b => LeO.ite (allO_mono h xs) (LeO.refl _)
theorem allO_some {α : Type} {p : α → Option Bool} (q : α → Bool) : ∀ (l : List α), (∀ x ∈ l, p x = some (q x)) → allO p l = some (l.all q)
  | [], _ => rfl
  | x :: xs, h => by
    simp only [allO, h x (by simp), Option.bind_some, List.all_cons]
    cases q x
    · simp
    · simp [allO_some q xs (fun y hy => h y (by simp [hy]))]
section
variable {P : Program} {ops : Array Oper} {Q : Exit → Act → World → Prop}
theorem goesV {rest : List Oper} {oi : Oper} {a : Act} {w : World} (N : Option Tmp) (hd : oi.dst = N) (hg : oi.guard = none) {f : FuncId} {fn : Func} {x : Operand} {cap : Array Value} {ars : Array Operand} {ts : Array TypeId} (hf : P.funcs[f]? = some fn) (hname : (fn.name == "runtime.NumGoroutine") = false) (hb : fn.body.isSome = true) (args : Array Value)
    (hop : oi.op = .call { callee := .value x, args := ars, argTypes := ts }) (hx : a.eval x = .func (.func f) #[] cap) (hargs : ars.map a.eval ++ cap = args)
    (h : Calls P f args w fun e w' => ∃ v, e = .returned v ∧ wpList P ops Q rest (a.put N v) w') : wpList P ops Q (oi :: rest) a w := by
  refine wpList_plain hg fun K hK => ?_
  have he := enters_ hf hname hb args w
  have hrun : (execOp a.eval oi).run P w = .ok (.enter f args) w := by
    unfold execOp
    simp [hop, hx, resolve, Deferred.ofValue, invoke, hargs, he]
  unfold Oper.wp
  rw [hrun, Oper.upon_enter]
  refine h.mono fun e w'' hh => ?_
  obtain ⟨v, rfl, hk⟩ := hh
  subst hd
  exact hK _ _ hk
end
structure Asks1 {α : Type} (F : FuncId) (d : Kd α) (val : List Value → Value) (p : α → Option Bool) : Prop where
  body : ∃ fn, Tryz.prog.funcs[F]? = some fn ∧ (fn.name == "runtime.NumGoroutine") = false ∧ fn.body.isSome = true
  calls : ∀ (x : α) (cs : List Value) (r : Bool) (w : World), d.K w x cs → p x = some r → Calls Tryz.prog F #[val cs] w fun e w' => e = .returned (.bool r) ∧ Below w.heap.size w w'
def IdxPost (r : Bool) (w : World) (e : Ending) (w' : World) : Prop := ∃ j : Int, e = .returned (.int .i64 j) ∧ decide (j ≥ 0) = !r ∧ Below w.heap.size w w'
structure Stop (p : Prop) : Prop where
  out : p
end Go.Proofs.YtglcnnmobkocmaaGreat.Ext
