/- The print's words (Ext). -/
import Derived.Test.YtniceoohmhjjlaaGreatDoorVFnShotsWMore
import Derived.Test.YtniceoohmhjjlaaGreatDoorVFnShotsWWords
import Derived.Test.YtniceoohmhjjlaaGreatDoorVFnShotsWLast
import Derived.Test.YtniceoohmhjjlaaGreatDoorProg
import Derived.WalkKit
import Derived.Deep.LoopGhost
import Derived.WalkSpells
import Derived.StillTailTactics
namespace Go.Proofs.YtniceoohmhjjlaaGreatDoor.Ext
open Go.RowKit Go.Proofs.YtniceoohmhjjlaaGreatDoorW.PrintWords Go.Proofs.YtniceoohmhjjlaaGreatDoorW.PrintLast Go.Proofs.YtniceoohmhjjlaaGreatDoorW.PrintMore
set_option linter.unusedVariables false
set_option linter.unusedSimpArgs false
inductive Any where
  | b (x : Bool)
  | n (x : Int)
  | s (x : ByteArray)
  | ss (v : Value) (x : List ByteArray)
  | ns (v : Value) (x : List Int)
def encAny : Any → Value
  | .b x => .iface 4 (.bool x)
  | .n x => .iface 3 (.int .i64 x)
  | .s x => .iface 9 (.string x)
  | .ss v _ => .iface 33 v
  | .ns v _ => .iface 23 v
def Any.bare : Any → Any
  | .ss _ x => .ss (.bool false) x
  | .ns _ x => .ns (.bool false) x
  | x => x
def kAny : Kd Any := Kd.scalar encAny (fun x => by cases x <;> rfl)
def Sim1 (w : World) : Any → Prop
  | .ss v l => ∃ A c, v = .slice A l.length c ∧ l.length ≤ c ∧ Kd.C Kd.string w A l.length l
  | .ns v l => ∃ A c, v = .slice A l.length c ∧ l.length ≤ c ∧ Kd.C (Kd.int .i64) w A l.length l
  | _ => True
def Sims (w : World) : List Any → Prop
  | [] => True
  | x :: r => Sim1 w x ∧ Sims w r
theorem Sims.at {w : World} : ∀ {l : List Any}, Sims w l → ∀ x ∈ l, Sim1 w x
  | _ :: _, h, x, hx => by
    rcases List.mem_cons.1 hx with rfl | hx
    · exact h.1
    · exact h.2.at x hx
theorem Sims.below {w w' : World} (hb : Below w.heap.size w w') : ∀ {l : List Any}, Sims w l → Sims w' l
  | [], _ => trivial
  | x :: r, h => ⟨by
      cases x with
      | ss v l => obtain ⟨A, c, e, h1, h2⟩ := h.1; exact ⟨A, c, e, h1, Kd.C_below h2 hb⟩
      | ns v l => obtain ⟨A, c, e, h1, h2⟩ := h.1; exact ⟨A, c, e, h1, Kd.C_below h2 hb⟩
      | _ => trivial, h.2.below hb⟩
def allO {α : Type} (p : α → Option Bool) : List α → Option Bool
  | [] => some true
  | x :: xs => (p x).bind fun b => if b = true then allO p xs else some false
theorem allO_some {α : Type} {p : α → Option Bool} (q : α → Bool) : ∀ (l : List α), (∀ x ∈ l, p x = some (q x)) → allO p l = some (l.all q)
  | [], _ => rfl
  | x :: xs, h => by
    simp only [allO, h x (by simp), Option.bind_some, List.all_cons]
    cases q x
    · simp
    · simp [allO_some q xs (fun y hy => h y (by simp [hy]))]
section
variable {P : Program} {ops : Array Oper} {Q : Exit → Act → World → Prop}
theorem goesV {rest : List Oper} {oi : Oper} {a : Act} {w : World} (N : Option Tmp) (hd : oi.dst = N) (hg : oi.guard = none) {f : FuncId} {fn : Func} {x : Operand} {cap : Array Value} {ars : Array Operand} {ts : Array TypeId} (hf : P.funcs[f]? = some fn) (hname : (fn.name == "runtime.NumGoroutine") = false) (hb : fn.body.isSome = true) (args : Array Value)
    (hop : oi.op = .call { callee := .value x, args := ars, argTypes := ts }) (hx : a.eval x = .func (.func f) #[] cap) (hargs : ars.map a.eval ++ cap = args)
    (h : Calls P f args w fun e w' => ∃ v, e = .returned v ∧ wpList P ops Q rest (a.put N v) w') : wpList P ops Q (oi :: rest) a w := by
  refine wpList_plain hg fun K hK => ?_
  have he := enters_ hf hname hb args w
  have hrun : (execOp a.eval oi).run P w = .ok (.enter f args) w := by
    unfold execOp
    simp [hop, hx, resolve, Deferred.ofValue, invoke, hargs, he]
  unfold Oper.wp
  rw [hrun, Oper.upon_enter]
  refine h.mono fun e w'' hh => ?_
  obtain ⟨v, rfl, hk⟩ := hh
  subst hd
  exact hK _ _ hk
theorem goesW {oi : Oper} {N : Option Tmp} {a : Act} {w : World} {K : Act → World → Prop} {f : FuncId} {fn : Func} {x : Operand} {cap : Array Value} {ars : Array Operand} {ts : Array TypeId} (hf : P.funcs[f]? = some fn) (hname : (fn.name == "runtime.NumGoroutine") = false) (hb : fn.body.isSome = true) (args : Array Value)
    (hw : Region.wanted oi (yielded ops a.tmps) = true) (hN : oi.dst = N) (hop : oi.op = .call { callee := .value x, args := ars, argTypes := ts }) (hx : a.eval x = .func (.func f) #[] cap) (hargs : ars.map a.eval ++ cap = args)
    (h : Calls P f args w fun e w' => ∃ v, e = .returned v ∧ K (a.put N v) w') : if Region.wanted oi (yielded ops a.tmps) = true then Oper.wp P oi a w K Q else K (a.put N undef) w := by
  refine call_ f args hw hN ?_ h
  have he := enters_ hf hname hb args w
  unfold execOp
  simp [hop, hx, resolve, Deferred.ofValue, invoke, hargs, he]
end
structure Asks1 {α : Type} (F : FuncId) (d : Kd α) (val : List Value → Value) (p : α → Option Bool) : Prop where
  body : ∃ fn, Tryz.prog.funcs[F]? = some fn ∧ (fn.name == "runtime.NumGoroutine") = false ∧ fn.body.isSome = true
  calls : ∀ (x : α) (cs : List Value) (r : Bool) (w : World), d.K w x cs → p x = some r → Calls Tryz.prog F #[val cs] w fun e w' => e = .returned (.bool r) ∧ Below w.heap.size w w'
def IdxPost (r : Bool) (w : World) (e : Ending) (w' : World) : Prop := ∃ j : Int, e = .returned (.int .i64 j) ∧ decide (j ≥ 0) = !r ∧ Below w.heap.size w w'
structure Stop (p : Prop) : Prop where
  out : p
theorem any_at {w : World} {A : Option Addr} {n : Nat} {xs : List Any} (h : Kd.C kAny w A n xs) (i : Nat) (h1 : i < n) (x : Any) (hx : xs[i]? = some x) : ∃ ad, A = some ad ∧ w.cell? (ad.add i) = some (encAny x) := by
  obtain ⟨ad, c, e, _, hK, hc0⟩ := Kd.C_get h x (i : Int) (by omega) (by omega)
  have hxx : xs.getD ((i : Int).toNat) x = x := by rw [Int.toNat_natCast, List.getD_eq_getElem?_getD, hx]; rfl
  rw [hxx] at hK
  have hK' : c = [encAny x] := hK
  subst hK'
  have := hc0 0 _ rfl
  exact ⟨ad, e, by simpa [kAny, Kd.scalar] using this⟩
theorem own_ne {o : Nat → Nat} {i j k : Nat} {v : Value} (hk : o k = i) (h : ∀ k, v.ownBlock = some k → o k = j) (hne : i ≠ j) : some k ≠ v.ownBlock := fun e => hne (hk.symm.trans (h k e.symm))
section
variable {α : Type} {d : Kd α} {e base c z : Nat} {W w1 : World} {o : Nat → Nat} {ok : Nat → Prop} {u v : Value} {xs : List α}
theorem Kd.R_ownB (h : d.R e W base (fun k => o k = c) v xs) (hb : Below W.heap.size W w1) : d.R e w1 base (fun k => (if k < W.heap.size then o k else z) = c) v xs :=
  Kd.R_mono (Kd.R_below (Kd.R_bound h) hb) (fun k hk => by rw [if_pos hk.2.2.1]; exact hk.1)
theorem Kd.S_ownB (h : Kd.S d e W base (fun k => o k = c) v xs) (hb : Below W.heap.size W w1) : Kd.S d e w1 base (fun k => (if k < W.heap.size then o k else z) = c) v xs :=
  Kd.S_mono (Kd.S_below (Kd.S_bound h) hb) (fun k hk => by rw [if_pos hk.2.2.1]; exact hk.1)
theorem Kd.R_ownG (h : d.R e W base (fun k => o k = c) v xs) (hu : ∀ k, u.ownBlock = some k → o k = z) (hne : c ≠ z) (hg : W.grownBy w1 u.ownBlock) : d.R e w1 base (fun k => (if k < W.heap.size then o k else z) = c) v xs :=
  Kd.R_mono (Kd.R_grown (Kd.R_bound h) hg (fun k hk e => hne (hk.1.symm.trans (hu k e.symm)))) (fun k hk => by rw [if_pos hk.2.2.1]; exact hk.1)
theorem Kd.S_ownG (h : Kd.S d e W base (fun k => o k = c) v xs) (hu : ∀ k, u.ownBlock = some k → o k = z) (hne : c ≠ z) (hg : W.grownBy w1 u.ownBlock) : Kd.S d e w1 base (fun k => (if k < W.heap.size then o k else z) = c) v xs :=
  Kd.S_mono (Kd.S_grown (Kd.S_bound h) hg (fun k hk e => hne (hk.1.symm.trans (hu k e.symm)))) (fun k hk => by rw [if_pos hk.2.2.1]; exact hk.1)
theorem Kd.R_ownN (h : d.R e w1 W.heap.size ok v xs) (hle : base ≤ W.heap.size) : d.R e w1 base (fun k => (if k < W.heap.size then o k else z) = z) v xs :=
  Kd.R_mono (Kd.R_lower (Kd.R_bound h) hle) (fun k hk => by rw [if_neg (Nat.not_lt.2 hk.2.1)])
theorem Kd.S_ownN (h : Kd.S d e w1 W.heap.size ok v xs) (hle : base ≤ W.heap.size) : Kd.S d e w1 base (fun k => (if k < W.heap.size then o k else z) = z) v xs :=
  Kd.S_mono (Kd.S_lower (Kd.S_bound h) hle) (fun k hk => by rw [if_neg (Nat.not_lt.2 hk.2.1)])
theorem Kd.R_ownA (hE : d.E = []) (h : d.R e w1 base ok v xs) (hat : v.ownBlock = u.ownBlock ∨ ∃ b, v.ownBlock = some b ∧ W.heap.size ≤ b) (hu : ∀ k, u.ownBlock = some k → o k = z) : d.R e w1 base (fun k => (if k < W.heap.size then o k else z) = z) v xs :=
  Kd.R_reok hE h (fun k hk => by
    by_cases h1 : k < W.heap.size
    · rw [if_pos h1]
      rcases hat with h2 | ⟨b, h2, h3⟩
      · exact hu k (h2.symm.trans hk)
      · rw [h2] at hk
        injection hk with hk
        omega
    · rw [if_neg h1])
end
theorem Kd.C_entry {α : Type} {d : Kd α} {w : World} {A : Option Addr} {n : Nat} {xs : List α} (hd : Kd.Heap d) (h : d.C w A n xs) : ∀ W', Kept w W' (fun _ => False) → d.C W' A n xs := fun W' hk => hd.C (fun k hlt => hk.2 k hlt (fun f => f)) h
theorem Kd.V_own {α : Type} {d : Kd α} {e base n c : Nat} {W : World} {ok : Nat → Prop} {ad : Addr} {xs : List α} (hsz : 0 < d.sz) (hn : 0 < n) (h : Kd.V d e W base ok (.slice (some ad) n c) xs) : ok ad.block := by
  refine Classical.byContradiction fun hno => ?_
  have h2 := Kd.V_F h { W with heap := W.heap.setIfInBounds ad.block (.cells #[] 0 (0, 0)) } (fun k hk _ => by
    show (W.heap.setIfInBounds ad.block (.cells #[] 0 (0, 0)))[k]? = _
    rw [Array.getElem?_setIfInBounds_ne (fun e_ => hno (by rw [e_]; exact hk))])
  obtain ⟨hl, _, h3⟩ := h2
  obtain ⟨ad', he, h4⟩ := h3 hn
  injection he with he
  subst he
  obtain ⟨cs, hc, _, h5⟩ := h4 0 xs[0] (List.getElem?_eq_getElem (by omega))
  have h6 := h5 0 cs[0] (List.getElem?_eq_getElem (by omega))
  unfold World.cell? at h6
  rw [add_block] at h6
  by_cases hb : ad.block < W.heap.size
  · rw [Array.getElem?_setIfInBounds_self_of_lt hb] at h6
    simp at h6
  · rw [Array.getElem?_eq_none (by simpa using hb)] at h6
    cases h6
end Go.Proofs.YtniceoohmhjjlaaGreatDoor.Ext
