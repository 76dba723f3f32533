/- What laws.FnShots reaches, part 1: the functions as Lean functions, the proofs that the program's functions answer so, and plain laws about them. -/
import Derived.Test.YtniceoohmhjjlaaGreatDoorProg
import Derived.Test.YtniceoohmhjjlaaGreatDoorVFnShotsExt
import Derived.Test.YtniceoohmhjjlaaGreatDoorShelf
import Derived.Below
import Derived.Deep.Draws
import Derived.Deep.AppendLies
import Derived.Maps.AppendAt
import Derived.OwnWalk
import Derived.Laws.BytesArg
import Derived.Laws.MakeOwn
import Derived.Laws.OwnMore
import Derived.Deep.OwnRows
import Derived.Tactics
import Derived.Lib.ConvBytes
import Derived.Laws.Slices
import Derived.WalkKit
import Derived.KernelRfl
import Derived.RowKit3
import Derived.Deep.LoopGhost
import Derived.Deep.QuietTactic
import Derived.BigQuiet
import Derived.WideLaws
import Derived.Deep.DeepCutAuto
import Derived.Deep.CutBlock
import Derived.Deep.RegionHeld3
import Derived.Laws.Rows
import Derived.Lib.AppendStr
import Derived.ArgAppend
import Derived.Laws.IdiomCopy
import Derived.OrdersHeld
import Derived.Laws.BitsLemmas
import Derived.RowKit
import Derived.Test.YtniceoohmhjjlaaGreatDoorVFnShotsWWords
import Derived.Test.YtniceoohmhjjlaaGreatDoorVFnShotsWLast
import Derived.Test.YtniceoohmhjjlaaGreatDoorVFnShotsWTab
import Derived.Test.YtniceoohmhjjlaaGreatDoorVFnShotsWFour
import Derived.Test.YtniceoohmhjjlaaGreatDoorVFnShotsWQPut
import Derived.Test.YtniceoohmhjjlaaGreatDoorVFnShotsWApart
import Derived.Test.YtniceoohmhjjlaaGreatDoorVFnShotsWArr
import Derived.Test.YtniceoohmhjjlaaGreatDoorVFnShotsWZeros
import Derived.Test.YtniceoohmhjjlaaGreatDoorVFnShotsWFoot
import Derived.Test.YtniceoohmhjjlaaGreatDoorVFnShotsWKept
import Derived.Test.YtniceoohmhjjlaaGreatDoorVFnShotsWShare
import Derived.Test.YtniceoohmhjjlaaGreatDoorVFnShotsWN
import Derived.Test.YtniceoohmhjjlaaGreatDoorVFnShotsWFootNe
import Derived.Test.YtniceoohmhjjlaaGreatDoorVFnShotsWAt
import Derived.Test.YtniceoohmhjjlaaGreatDoorVFnShotsWEqStruct
import Derived.Test.YtniceoohmhjjlaaGreatDoorVFnShotsWRepsOne
import Derived.Test.YtniceoohmhjjlaaGreatDoorVFnShotsWInv
import Derived.Test.YtniceoohmhjjlaaGreatDoorVFnShotsWInvWords
import Derived.Test.YtniceoohmhjjlaaGreatDoorVFnShotsWGuard
import Derived.Test.YtniceoohmhjjlaaGreatDoorVFnShotsWNEv
import Derived.Test.YtniceoohmhjjlaaGreatDoorVFnShotsWMore
namespace Go.Proofs.YtniceoohmhjjlaaGreatDoor.Q
open Go.RowKit Go.Proofs.YtniceoohmhjjlaaGreatDoor.Ext Go.Proofs.YtniceoohmhjjlaaGreatDoorW.PrintWords Go.Proofs.YtniceoohmhjjlaaGreatDoorW.PrintLast Go.Proofs.YtniceoohmhjjlaaGreatDoorW.PrintMore
attribute [local go_sem] max2_int min2_int max_two min_two max_three min_three max_four min_four   -- for this text's walks alone
theorem _root_.Go.Proofs.YtniceoohmhjjlaaGreatDoorW.PrintWords.Aside0.o {p : Prop} (h : Aside0 p) : p := h.out
open Go.Value renaming ownBlock → ob
open Go renaming calls_of_every_depth → kL
open Go.Act renaming eval → lY
open Go.Lib renaming compact → lB
open Go.Proofs.Tryz renaming func50 → oH, func51 → nI, prog → fM, underlying23 → iP, underlying31 → fW, underlying33 → kG, underlying60 → nE
open Go.Proofs.YtniceoohmhjjlaaGreatDoorW.PrintLast renaming goesL_ → gU
open Go.Proofs.YtniceoohmhjjlaaGreatDoorW.PrintWords renaming below_alloc → gO, below_drew1 → gA, below_set → iG, below_size → eV, below_step → eZ, blk_alloc → fV, blk_below → fB, blk_cell → eY, blk_drew → fU, blk_drewN → gG, blk_far → kE, blk_frozen → gL, blk_grown → gW, blk_put → jS, box_event → fS, gate_builtin → kF, gate_callee → fJ, gate_dst → fP, keep_drew → nR, pw_below_drewN → gB
open Go.Proofs.YtniceoohmhjjlaaGreatDoorW.PrintWords.Drawn0 renaming refl → hJ, step → hM
open Go.Proofs.YtniceoohmhjjlaaGreatDoorW.PrintWords.Kd renaming C_alloc → mM, C_below → fE, C_drew → mH, C_drewN → mN, K_below → nH, N_alloc → kR, N_drew → jR, N_drewN → kS, N_far → kQ, N_mono → fN, R_alloc → fY, R_base → fH, R_drew → fK, R_drewN → fZ, R_far → fR, R_lit → lT, R_lower → fL, R_mono → eX, R_ne → gJ, R_slice → fA, S_far → iW, V_afterv → kV, V_alloc → jP, V_below → lX, V_drew → jN, V_drewN → jQ, V_elder' → oE, V_elderB → lM, V_far → kK, V_mk → nF, V_mono → iE, V_reads' → lN, at_int → gY, freshB → iB, int → fG, slice → kZ, string → gV
open Go.Proofs.YtniceoohmhjjlaaGreatDoorW.PrintWords.KeepBut renaming set_ → nQ
open Go.Proofs.YtniceoohmhjjlaaGreatDoorW.PrintWords.Kept renaming setCell → oO
open Go.Proofs.YtniceoohmhjjlaaGreatDoorW.PrintWords.Reps renaming none → jD
open Go.RowKit.Below renaming refl → fX
open Go.Value renaming int → nT
open Go.World renaming block_lt_of_cell? → eU
open _root_.ByteArray renaming empty → iH
open _root_.Int renaming reduceToNat → gX, toNat_natCast → iX
open _root_.List renaming drop_eq_getElem_cons → hP, drop_of_length_le → iV, getElem?_eq_getElem → mO, getElem_map → lW, length_map → iA, replicate → iJ
open _root_.Nat renaming le_of_eq → jC, le_refl → fQ, le_trans → hU, lt_of_lt_of_le → lZ, ne_of_gt → gT, ne_of_lt → gN, not_le → kB
open _root_.Option renaming bind_eq_some_iff → eW, bind_some → gH
open _root_.Option.some renaming inj → fF
open _root_.Or renaming elim → gM
set_option linter.unusedVariables false
set_option linter.unusedSimpArgs false

set_option linter.unusedVariables false
set_option linter.unusedSimpArgs false
def errW : Option Int → Value
  | none => .nilIface
  | some c => .iface 0 (.int .i64 c)
theorem errW_none : errW none = .nilIface := rfl
theorem errW_some (c : Int) : errW (some c) = .iface 0 (.int .i64 c) := rfl

theorem info3 : (Tryz.prog.info? 3).map (fun i => (i.zero, i.size, i.bytes)) = some (some (.int .i64 0), 1, 8) := by kernel_rfl
theorem info5 : (Tryz.prog.info? 5).map (fun i => (i.zero, i.size, i.bytes)) = some (some (.int .u8 0), 1, 1) := by kernel_rfl
theorem info9 : (Tryz.prog.info? 9).map (fun i => (i.zero, i.size, i.bytes)) = some (some (.string ⟨#[]⟩), 1, 16) := by kernel_rfl
theorem info20 : (Tryz.prog.info? 20).map (fun i => (i.zero, i.size, i.bytes)) = some (some (.nilIface), 1, 16) := by kernel_rfl
theorem info23 : (Tryz.prog.info? 23).map (fun i => (i.zero, i.size, i.bytes)) = some (some (.slice none 0 0), 1, 24) := by kernel_rfl
theorem info53 : (Tryz.prog.info? 53).map (fun i => (i.zero, i.size, i.bytes)) = some (some (.agg #[(.string ⟨#[]⟩), (.slice none 0 0)]), 2, 40) := by kernel_rfl
theorem info60 : (Tryz.prog.info? 60).map (fun i => (i.zero, i.size, i.bytes)) = some (some (.agg #[(.string ⟨#[]⟩), (.slice none 0 0)]), 2, 40) := by kernel_rfl
-- the values' own types
def dK (xs : List (List Int)) (i : Int) : (List Int) := xs.getD i.toNat ([] : List Int)
theorem at_L2 {w : World} {A : Option Addr} {n : Nat} {xs : List (List Int)} (h : Kd.C (kZ 3 (fG .i64)) w A n xs) (i : Int) (h0 : 0 ≤ i) (h1 : i < n) : ∃ ad A0 c0, A = some ad ∧ w.cell? (ad.add i.toNat) = some (.slice A0 (dK xs i).length c0) ∧ (dK xs i).length ≤ c0 ∧ (fG .i64).C w A0 (dK xs i).length (dK xs i) := by
  obtain ⟨ad, c, e, _, hK, hc0⟩ := Kd.C_get h ([] : List Int) i h0 h1
  have hc : ∀ j u, c[j]? = some u → w.cell? (ad.add (i.toNat * 1 + j)) = some u := hc0
  obtain ⟨A0, c0, rfl, l0, g0⟩ := hK
  exact ⟨ad, A0, c0, e, by have hq := hc 0 _ rfl; rwa [Nat.mul_one, Nat.add_zero] at hq, l0, g0⟩

structure S60 where
  f0 : ByteArray
  f1 : (List Int)
def z60 : S60 := ⟨(⟨#[]⟩ : ByteArray), ([] : List Int)⟩
def k60 : Kd S60 := Kd.iso (Kd.pair gV (kZ 3 (fG .i64))) (fun x : S60 => (x.f0, x.f1))
theorem k60_heap : Kd.Heap k60 := Kd.heap_iso _ (Kd.heap_pair Kd.heap_string (Kd.heap_slice 3 (Kd.heap_int .i64)))
theorem k60_open {w : World} {x : S60} {cs : List Value} (h : k60.K w x cs) : ∃ A1 c1, cs = [.string x.f0, .slice A1 x.f1.length c1] ∧ x.f1.length ≤ c1 ∧ (fG .i64).C w A1 x.f1.length x.f1 := by
  obtain ⟨_, _, rfl, rfl, ⟨A1, c1, rfl, l1, g1⟩⟩ := h
  exact ⟨A1, c1, rfl, l1, g1⟩
theorem k60_openM {w : World} {base : Nat} {ok : Nat → Prop} {x : S60} {cs : List Value} (h : k60.M w base ok x cs) : ∃ v1, cs = [.string x.f0, v1] ∧ (fG .i64).R 3 w base ok v1 x.f1 := by
  obtain ⟨_, _, rfl, rfl, ⟨v1, rfl, g1⟩⟩ := h
  exact ⟨v1, rfl, g1⟩
theorem k60_mkM (w : World) (base : Nat) (ok : Nat → Prop) (x : S60) {v1 : Value} (g1 : (fG .i64).R 3 w base ok v1 x.f1) : k60.M w base ok x [.string x.f0, v1] := ⟨[.string x.f0], [v1], rfl, rfl, ⟨v1, rfl, g1⟩⟩
theorem k60_openF {W : World} {ok : Nat → Prop} {x : S60} {cs : List Value} (h : Kd.FK k60 W ok x cs) : ∃ A1 c1, cs = [.string x.f0, .slice A1 x.f1.length c1] ∧ x.f1.length ≤ c1 ∧ Kd.F (fG .i64) W ok A1 x.f1.length x.f1 := by
  obtain ⟨A1, c1, rfl, l1, _⟩ := k60_open (Kd.FK_now h)
  exact ⟨A1, c1, rfl, l1, (fun W' hW => by obtain ⟨A1_, c1_, he, l1_, g1_⟩ := k60_open (h W' hW); injection (fF (show some (Value.slice A1 x.f1.length c1) = some (Value.slice A1_ x.f1.length c1_) from congrArg (fun l => l[1]?) he)) with ha_ _ _; rw [ha_]; exact g1_)⟩
def aH (xs : List S60) (i : Int) : S60 := xs.getD i.toNat z60
theorem at_T60 {w : World} {A : Option Addr} {n : Nat} {xs : List S60} (h : Kd.C k60 w A n xs) (i : Int) (h0 : 0 ≤ i) (h1 : i < n) : ∃ ad A1 c1, A = some ad ∧ w.cell? (ad.add (i.toNat * 2)) = some (.string (aH xs i).f0) ∧ w.cell? ⟨(ad.add (i.toNat * 2)).block, (ad.add (i.toNat * 2)).off + 1, none⟩ = some (.slice A1 (aH xs i).f1.length c1) ∧ (aH xs i).f1.length ≤ c1 ∧ (fG .i64).C w A1 (aH xs i).f1.length (aH xs i).f1 := by
  obtain ⟨ad, c, e, _, hK, hc0⟩ := Kd.C_get h z60 i h0 h1
  have hc : ∀ j u, c[j]? = some u → w.cell? (ad.add (i.toNat * 2 + j)) = some u := hc0
  obtain ⟨A1, c1, rfl, l1, g1⟩ := k60_open hK
  exact ⟨ad, A1, c1, e, hc 0 _ rfl, by rw [← add_field _ _ 1 (by omega)]; exact hc 1 _ rfl, l1, g1⟩

def rd_L4 (xs : List (List ByteArray)) (i : Int) : (List ByteArray) := xs.getD i.toNat ([] : List ByteArray)
structure S53 where
  f0 : ByteArray
  f1 : (List Int)
def z53 : S53 := ⟨(⟨#[]⟩ : ByteArray), ([] : List Int)⟩
def k53 : Kd S53 := Kd.iso (Kd.pair gV (kZ 3 (fG .i64))) (fun x : S53 => (x.f0, x.f1))
theorem k53_open {w : World} {x : S53} {cs : List Value} (h : k53.K w x cs) : ∃ A1 c1, cs = [.string x.f0, .slice A1 x.f1.length c1] ∧ x.f1.length ≤ c1 ∧ (fG .i64).C w A1 x.f1.length x.f1 := by
  obtain ⟨_, _, rfl, rfl, ⟨A1, c1, rfl, l1, g1⟩⟩ := h
  exact ⟨A1, c1, rfl, l1, g1⟩
theorem k53_mk (w : World) (x : S53) {A1 : Option Addr} {c1 : Nat} (l1 : x.f1.length ≤ c1) (g1 : (fG .i64).C w A1 x.f1.length x.f1) : k53.K w x [.string x.f0, .slice A1 x.f1.length c1] := ⟨[.string x.f0], [.slice A1 x.f1.length c1], rfl, rfl, ⟨A1, c1, rfl, l1, g1⟩⟩
theorem k53_mkM (w : World) (base : Nat) (ok : Nat → Prop) (x : S53) {v1 : Value} (g1 : (fG .i64).R 3 w base ok v1 x.f1) : k53.M w base ok x [.string x.f0, v1] := ⟨[.string x.f0], [v1], rfl, rfl, ⟨v1, rfl, g1⟩⟩
def aC (xs : List S53) (i : Int) : S53 := xs.getD i.toNat z53
theorem at_T53 {w : World} {A : Option Addr} {n : Nat} {xs : List S53} (h : Kd.C k53 w A n xs) (i : Int) (h0 : 0 ≤ i) (h1 : i < n) : ∃ ad A1 c1, A = some ad ∧ w.cell? (ad.add (i.toNat * 2)) = some (.string (aC xs i).f0) ∧ w.cell? ⟨(ad.add (i.toNat * 2)).block, (ad.add (i.toNat * 2)).off + 1, none⟩ = some (.slice A1 (aC xs i).f1.length c1) ∧ (aC xs i).f1.length ≤ c1 ∧ (fG .i64).C w A1 (aC xs i).f1.length (aC xs i).f1 := by
  obtain ⟨ad, c, e, _, hK, hc0⟩ := Kd.C_get h z53 i h0 h1
  have hc : ∀ j u, c[j]? = some u → w.cell? (ad.add (i.toNat * 2 + j)) = some u := hc0
  obtain ⟨A1, c1, rfl, l1, g1⟩ := k53_open hK
  exact ⟨ad, A1, c1, e, hc 0 _ rfl, by rw [← add_field _ _ 1 (by omega)]; exact hc 1 _ rfl, l1, g1⟩
theorem zb2 {w : World} {g t : Nat} {a0 a1 : Value} (h : w.heap[g]? = some (.cells #[a0, a1] t (0, 0))) : w.cell? ⟨g, 0, none⟩ = some a0 ∧ w.cell? ⟨g, 1, none⟩ = some a1 ∧ w.frozen? ⟨g, 0, none⟩ = false ∧ w.frozen? ⟨g, 1, none⟩ = false := ⟨(eY h 0).trans rfl, (eY h 1).trans rfl, gL h 0, gL h 1⟩
theorem zb4 {w : World} {g t : Nat} {a0 a1 a2 a3 : Value} (h : w.heap[g]? = some (.cells #[a0, a1, a2, a3] t (0, 0))) : w.cell? ⟨g, 0, none⟩ = some a0 ∧ w.cell? ⟨g, 1, none⟩ = some a1 ∧ w.cell? ⟨g, 2, none⟩ = some a2 ∧ w.cell? ⟨g, 3, none⟩ = some a3 ∧ w.frozen? ⟨g, 0, none⟩ = false ∧ w.frozen? ⟨g, 1, none⟩ = false ∧ w.frozen? ⟨g, 2, none⟩ = false ∧ w.frozen? ⟨g, 3, none⟩ = false := ⟨(eY h 0).trans rfl, (eY h 1).trans rfl, (eY h 2).trans rfl, (eY h 3).trans rfl, gL h 0, gL h 1, gL h 2, gL h 3⟩
theorem zy {P Q E : Prop} (h_ : P) (e_ : E) (q : P → E → Q := by intro H e_; first | (rw [e_]; with_reducible exact H) | (have H2_ := (Option.bind_some _ _).symm.trans H; rw [e_]; with_reducible exact H2_) | (have H2_ := (Option.bind_some _ _).symm.trans H; with_reducible exact H2_) | with_reducible exact H | (rw [e_]; exact H) | exact H) : Q := q h_ e_
theorem zo {p : Prop} (h : p := by rfl) : p := h
theorem zh {p : Prop} (h : p := by first | (go_simp; done) | (go_simp; rfl)) : p := h
theorem ze {p : Prop} (h : p := by first | rfl | (simp [errW_none, errW_some] <;> rfl) | (simp [*, errW_none, errW_some] <;> rfl)) : p := h
theorem zn {p : Prop} (h : p := by first | exact ⟨rfl, _, World.drewN_drewN _ _ _⟩ | exact ⟨rfl, _, Eq.trans (World.drewN_drewN _ _ _) (congrArg (World.drewN _) (Nat.add_assoc _ _ _))⟩) : p := h
theorem zl {P Q : Prop} (h_ : P) (q : P → Q := by intro h_; (with_reducible repeat (first | refine blk_drewN ?_ _ | refine blk_drew ?_ | refine blk_alloc ?_ _)); exact h_) : Q := q h_
theorem zlR {P Q : Prop} (h_ : P) (q : P → Q := by intro h_; (with_reducible repeat (first | apply Kd.R_alloc | apply Kd.R_drewN | apply Kd.R_drew)); exact h_) : Q := q h_
theorem zlS {P Q : Prop} (h_ : P) (q : P → Q := by intro h_; (with_reducible repeat (first | apply Kd.S_alloc | apply Kd.S_drewN | apply Kd.S_drew)); exact h_) : Q := q h_
theorem zlN {P Q : Prop} (h_ : P) (q : P → Q := by intro h_; (with_reducible repeat (first | apply Kd.N_alloc | apply Kd.N_drewN | apply Kd.N_drew)); exact h_) : Q := q h_
theorem zput4 {w : World} {g t : Nat} {a0 a1 a2 a3 b0 b1 b2 b3 : Value} (h : w.heap[g]? = some (.cells #[a0, a1, a2, a3] t (0, 0))) : ((((w.setCell ⟨g, 0, none⟩ b0).setCell ⟨g, 1, none⟩ b1).setCell ⟨g, 2, none⟩ b2).setCell ⟨g, 3, none⟩ b3).heap[g]? = some (.cells #[b0, b1, b2, b3] t (0, 0)) := jS (jS (jS (jS h 0 _ rfl) 1 _ rfl) 2 _ rfl) 3 _ rfl
theorem zfar4 {w : World} {g g' t : Nat} {cs : Array Value} {b0 b1 b2 b3 : Value} (h : w.heap[g']? = some (.cells cs t (0, 0))) (n : g' ≠ g) : ((((w.setCell ⟨g, 0, none⟩ b0).setCell ⟨g, 1, none⟩ b1).setCell ⟨g, 2, none⟩ b2).setCell ⟨g, 3, none⟩ b3).heap[g']? = some (.cells cs t (0, 0)) := kE (kE (kE (kE h n _) n _) n _) n _
theorem zR4 {α : Type} {d : Kd α} {e base g : Nat} {w : World} {ok : Nat → Prop} {v b0 b1 b2 b3 : Value} {xs : List α} (h : Kd.R d e w base (fun k => ok k ∧ k ≠ g) v xs) : Kd.R d e ((((w.setCell ⟨g, 0, none⟩ b0).setCell ⟨g, 1, none⟩ b1).setCell ⟨g, 2, none⟩ b2).setCell ⟨g, 3, none⟩ b3) base (fun k => ok k ∧ k ≠ g) v xs := fR (fR (fR (fR h (fun _ hk => hk.2) _) (fun _ hk => hk.2) _) (fun _ hk => hk.2) _) (fun _ hk => hk.2) _
theorem zS4 {α : Type} {d : Kd α} {e base g : Nat} {w : World} {ok : Nat → Prop} {v b0 b1 b2 b3 : Value} {xs : List α} (h : Kd.S d e w base (fun k => ok k ∧ k ≠ g) v xs) : Kd.S d e ((((w.setCell ⟨g, 0, none⟩ b0).setCell ⟨g, 1, none⟩ b1).setCell ⟨g, 2, none⟩ b2).setCell ⟨g, 3, none⟩ b3) base (fun k => ok k ∧ k ≠ g) v xs := iW (iW (iW (iW h (fun _ hk => hk.2) _) (fun _ hk => hk.2) _) (fun _ hk => hk.2) _) (fun _ hk => hk.2) _
theorem zN4 {α : Type} {d : Kd α} {e base g : Nat} {w : World} {ok : Nat → Prop} {v b0 b1 b2 b3 : Value} {xs : List α} (h : Kd.N d e w base (fun k => ok k ∧ k ≠ g) v xs) : Kd.N d e ((((w.setCell ⟨g, 0, none⟩ b0).setCell ⟨g, 1, none⟩ b1).setCell ⟨g, 2, none⟩ b2).setCell ⟨g, 3, none⟩ b3) base (fun k => ok k ∧ k ≠ g) v xs := kQ (kQ (kQ (kQ h (fun _ hk => hk.2) _) (fun _ hk => hk.2) _) (fun _ hk => hk.2) _) (fun _ hk => hk.2) _
theorem zd {p : Prop} [Decidable p] (h : decide p = true := by first | (with_reducible assumption) | assumption) : p := of_decide_eq_true h
theorem zC {P Q : Prop} (h_ : P) (q : P → Q := by intro h_; repeat (first | exact h_ | (with_reducible refine Kd.C_alloc ?_ _) | (with_reducible refine Kd.C_drewN ?_ _) | (with_reducible refine Kd.C_drew ?_))) : Q := q h_
theorem zq {p : Prop} (h : p := by (try simp only [List.map_toArray, List.map_cons, List.map_nil]); first | done | rfl | (simp only [List.length_drop, List.length_take]; rfl)) : p := h
theorem zr {p : Prop} (h : p := by first | rfl | (simp; done) | (simp [*]; done)) : p := h
theorem zm {p : Prop} (h : p) : Aside0 p := ⟨h⟩
theorem zs {α : Type} {l : List α} {i : Nat} {a : α} : l.toArray.setIfInBounds i a = (l.set i a).toArray := List.setIfInBounds_toArray ..
theorem zz {α : Type} {a b : α} {l : List α} : (a :: l).set 0 b = b :: l := rfl
theorem zt {α : Type} {a b : α} {l : List α} {i : Nat} : (a :: l).set (i + 1) b = a :: l.set i b := rfl
theorem zg_0 {P Q : Prop} (h_ : P) (q : P → Q := by intro h_; (with_reducible repeat (first | apply Kd.V_alloc | apply Kd.V_drewN | apply Kd.V_drew)); exact h_) : Q := q h_
theorem zg_1 {P Q  : Prop} (h_ : P)  (q : P → Q := by intro h_ ; repeat (first | (with_reducible first | exact h_ | apply below_alloc | apply pw_below_drewN | apply below_drew1) | exact h_)) : Q := q h_ 
theorem zg_2 {P Q A0 : Prop} (h_ : P) (a0_ : A0) (q : P → A0 → Q := by intro h_ a0_; repeat (first | (with_reducible first | exact h_ | apply below_alloc | apply pw_below_drewN | apply below_drew1 | refine below_set ?_ a0_) | exact h_)) : Q := q h_ a0_
theorem zg_3 {P Q : Prop} (h_ : P) (q : P → Q := by intro h_; (with_reducible repeat (first | refine blk_drewN ?_ _ | refine blk_drew ?_ | refine blk_alloc ?_ _)); exact h_) : Q := q h_
theorem zg_4 {P Q : Prop} (h_ : P) (q : P → Q := by intro h_; (with_reducible repeat (first | apply Kd.N_alloc | apply Kd.N_drewN | apply Kd.N_drew)); exact h_) : Q := q h_
theorem zg_5 {P Q A0 A1 : Prop} (h_ : P) (a0_ : A0) (a1_ : A1) (q : P → A0 → A1 → Q := by intro h_ a0_ a1_; repeat (first | (with_reducible first | exact h_ | apply below_alloc | apply pw_below_drewN | apply below_drew1 | refine below_set ?_ a0_ | refine below_set ?_ a1_) | exact h_)) : Q := q h_ a0_ a1_
theorem zg_6 {P Q : Prop} (h_ : P) (q : P → Q := by intro h_; (with_reducible repeat (first | apply Kd.R_alloc | apply Kd.R_drewN | apply Kd.R_drew)); exact h_) : Q := q h_
theorem zg_7 {P Q : Prop} (h_ : P) (q : P → Q := by intro h_; (with_reducible repeat (first | apply Kd.S_alloc | apply Kd.S_drewN | apply Kd.S_drew)); exact h_) : Q := q h_
theorem zg_8 {P Q A0 A1 A2 : Prop} (h_ : P) (a0_ : A0) (a1_ : A1) (a2_ : A2) (q : P → A0 → A1 → A2 → Q := by intro h_ a0_ a1_ a2_; repeat (first | (with_reducible first | exact h_ | apply below_alloc | apply pw_below_drewN | apply below_drew1 | refine below_set ?_ a0_ | refine below_set ?_ a1_ | refine below_set ?_ a2_) | exact h_)) : Q := q h_ a0_ a1_ a2_
theorem zg_9 {P Q A0 A1 A2 A3 : Prop} (h_ : P) (a0_ : A0) (a1_ : A1) (a2_ : A2) (a3_ : A3) (q : P → A0 → A1 → A2 → A3 → Q := by intro h_ a0_ a1_ a2_ a3_; repeat (first | (with_reducible first | exact h_ | apply below_alloc | apply pw_below_drewN | apply below_drew1 | refine below_set ?_ a0_ | refine below_set ?_ a1_ | refine below_set ?_ a2_ | refine below_set ?_ a3_) | exact h_)) : Q := q h_ a0_ a1_ a2_ a3_
theorem zg_10 {P Q  : Prop} (h_ : P)  (q : P → Q := by intro h_ ; repeat (first | (with_reducible first | exact h_ | apply IsS62.alloc | apply IsS62.drewN | apply IsS62.drew | apply IsS62.set_1 | apply IsS62.set_2) | exact h_)) : Q := q h_ 
theorem zg_11 {P Q A0 : Prop} (h_ : P) (a0_ : A0) (q : P → A0 → Q := by intro h_ a0_; repeat (first | (with_reducible first | exact h_ | apply below_alloc | apply pw_below_drewN | apply below_drew1 | refine below_set ?_ (IsS62.ge a0_)) | exact h_)) : Q := q h_ a0_
theorem zg_12 {P Q  : Prop} (h_ : P)  (q : P → Q := by intro h_ ; repeat (first | (with_reducible first | exact h_ | apply KeepBut.set_ | apply keep_drewN | apply keep_drew | apply keep_alloc) | exact h_)) : Q := q h_ 
theorem zg_13 {P Q  : Prop} (h_ : P)  (q : P → Q := by intro h_ ; repeat (first | (with_reducible first | exact h_ | apply Kept.alloc | apply Kept.drewN | apply Kept.drew) | exact h_)) : Q := q h_ 
theorem zg_14 {P Q A0 : Prop} (h_ : P) (a0_ : A0) (q : P → A0 → Q := by intro h_ a0_; repeat (first | (with_reducible first | exact h_ | apply Kept.alloc | apply Kept.drewN | apply Kept.drew | refine Kept.setCell ?_ (.inr a0_) _) | exact h_)) : Q := q h_ a0_
theorem zg_15 {P Q A0 A1 : Prop} (h_ : P) (a0_ : A0) (a1_ : A1) (q : P → A0 → A1 → Q := by intro h_ a0_ a1_; repeat (first | (with_reducible first | exact h_ | apply Kept.alloc | apply Kept.drewN | apply Kept.drew | refine Kept.setCell ?_ (.inr a0_) _ | refine Kept.setCell ?_ (.inr a1_) _) | exact h_)) : Q := q h_ a0_ a1_
theorem zg_16 {P Q A0 A1 A2 : Prop} (h_ : P) (a0_ : A0) (a1_ : A1) (a2_ : A2) (q : P → A0 → A1 → A2 → Q := by intro h_ a0_ a1_ a2_; repeat (first | (with_reducible first | exact h_ | apply Kept.alloc | apply Kept.drewN | apply Kept.drew | refine Kept.setCell ?_ a0_ _ | refine Kept.setCell ?_ (.inr a1_) _ | refine Kept.setCell ?_ (.inr a2_) _) | exact h_)) : Q := q h_ a0_ a1_ a2_
theorem zg_17 {P Q A0 : Prop} (h_ : P) (a0_ : A0) (q : P → A0 → Q := by intro h_ a0_; repeat (first | (with_reducible first | exact h_ | apply IsS62.alloc | apply IsS62.drewN | apply IsS62.drew | apply IsS62.set_1 | apply IsS62.set_2 | refine IsS62.far ?_ a0_ _) | exact h_)) : Q := q h_ a0_
theorem zg_18 {P Q A0 A1 : Prop} (h_ : P) (a0_ : A0) (a1_ : A1) (q : P → A0 → A1 → Q := by intro h_ a0_ a1_; repeat (first | (with_reducible first | exact h_ | apply below_alloc | apply pw_below_drewN | apply below_drew1 | refine below_set ?_ (IsS62.ge a0_) | refine below_set ?_ a1_) | exact h_)) : Q := q h_ a0_ a1_
theorem zg_19 {P Q A0 : Prop} (h_ : P) (a0_ : A0) (q : P → A0 → Q := by intro h_ a0_; repeat (first | (with_reducible first | exact h_ | apply KeepBut.set_ | apply keep_drewN | apply keep_drew | apply keep_alloc | refine keep_far ?_ a0_ _) | exact h_)) : Q := q h_ a0_
theorem zg_20 {P Q A0 A1 : Prop} (h_ : P) (a0_ : A0) (a1_ : A1) (q : P → A0 → A1 → Q := by intro h_ a0_ a1_; repeat (first | (with_reducible first | exact h_ | apply IsS62.alloc | apply IsS62.drewN | apply IsS62.drew | apply IsS62.set_1 | apply IsS62.set_2 | refine IsS62.far ?_ a0_ _ | refine IsS62.far ?_ a1_ _) | exact h_)) : Q := q h_ a0_ a1_
theorem zg_21 {P Q A0 A1 : Prop} (h_ : P) (a0_ : A0) (a1_ : A1) (q : P → A0 → A1 → Q := by intro h_ a0_ a1_; repeat (first | (with_reducible first | exact h_ | apply KeepBut.set_ | apply keep_drewN | apply keep_drew | apply keep_alloc | refine keep_far ?_ a0_ _ | refine keep_far ?_ a1_ _) | exact h_)) : Q := q h_ a0_ a1_
theorem zg_22 {P Q A0 A1 A2 : Prop} (h_ : P) (a0_ : A0) (a1_ : A1) (a2_ : A2) (q : P → A0 → A1 → A2 → Q := by intro h_ a0_ a1_ a2_; repeat (first | (with_reducible first | exact h_ | apply below_alloc | apply pw_below_drewN | apply below_drew1 | refine below_set ?_ (IsS62.ge a0_) | refine below_set ?_ a1_ | refine below_set ?_ a2_) | exact h_)) : Q := q h_ a0_ a1_ a2_
theorem zk {p : Prop} (h : p := by kernel_rfl) : p := h
theorem zu {p : Prop} (h : p := by simp only [Act.put, zs, zz, zt, i64_w, i32_w]; rfl) : p := h
theorem zi {p : Prop} (h : p := by intro w'; go_simp; with_reducible rfl) : p := h
theorem zst {P : Program} {ops : Array Oper} {o : Oper} {rest : List Oper} {a : Act} {Q : Exit → Act → World → Prop} {W w1 : World} {t : TypeId} {p : Tmp} {v : Operand} (ho : o.op = .store t (.tmp p) v) (hg : o.guard = none) (hn : o.dst = none) (hr : (execOp a.eval o).run P W = .ok .skip w1) (h : ∀ w', w' = w1 → wpList P ops Q rest a w') : wpList P ops Q (o :: rest) a W := store_event hg ho hn hr h
theorem zid {c : Prop} [Decidable c] {α : Type} {a : Option α} {r : α} (H : (if c then a else none) = some r) : decide c = true ∧ a = some r := by
  by_cases h : c
  · rw [if_pos h] at H; exact ⟨decide_eq_true h, H⟩
  · rw [if_neg h] at H; exact absurd H (by simp)
theorem zif {c : Prop} [Decidable c] {α : Type} {a : Option α} {r : α} (H : (if c then a else none) = some r) : c ∧ a = some r := ⟨of_decide_eq_true (zid H).1, (zid H).2⟩
theorem zput2 {w : World} {g t : Nat} {a0 a1 b0 b1 : Value} (h : w.heap[g]? = some (.cells #[a0, a1] t (0, 0))) : ((w.setCell ⟨g, 0, none⟩ b0).setCell ⟨g, 1, none⟩ b1).heap[g]? = some (.cells #[b0, b1] t (0, 0)) := jS (jS h 0 _ rfl) 1 _ rfl
theorem zp2 {P Q : Prop} (h_ : P) (q : P → Q := by intro h_; (with_reducible repeat (first | refine blk_drewN ?_ _ | refine blk_drew ?_ | refine blk_alloc ?_ _)); exact zput2 h_) : Q := q h_
theorem zfr {P Q R : Prop} (h_ : P) (n_ : R) (q : P → R → Q := by intro h_ n_; repeat (first | exact h_ | (with_reducible first | refine blk_drewN ?_ _ | refine blk_drew ?_ | refine blk_alloc ?_ _) | refine blk_far ?_ n_ _)) : Q := q h_ n_
theorem zi4 {p : Prop} (h : p := by rintro w' ⟨s0, s1, s2, s3⟩; go_simp; with_reducible rfl) : p := h
theorem zi5 {p : Prop} (h : p := by rintro w' ⟨s0, s1, s2, s3, s4⟩; go_simp; with_reducible rfl) : p := h
theorem zi6 {p : Prop} (h : p := by rintro w' ⟨s0, s1, s2, s3, s4, s5⟩; go_simp; with_reducible rfl) : p := h
theorem zi7 {p : Prop} (h : p := by rintro w' ⟨s0, s1, s2, s3, s4, s5, s6⟩; go_simp; with_reducible rfl) : p := h
theorem zi8 {p : Prop} (h : p := by rintro w' ⟨s0, s1, s2, s3, s4, s5, s6, s7⟩; go_simp; with_reducible rfl) : p := h
theorem zi12 {p : Prop} (h : p := by rintro w' ⟨s0, s1, s2, s3, s4, s5, s6, s7, s8, s9, s10, s11⟩; go_simp; with_reducible rfl) : p := h
theorem zG1 {A0 G : Prop} (a0 : A0) (h : Aside0 A0 → G) : G := h ⟨a0⟩
theorem zG2 {A0 A1 G : Prop} (a0 : A0) (a1 : A1) (h : Aside0 A0 → Aside0 A1 → G) : G := h ⟨a0⟩ ⟨a1⟩
theorem zG3 {A0 A1 A2 G : Prop} (a0 : A0) (a1 : A1) (a2 : A2) (h : Aside0 A0 → Aside0 A1 → Aside0 A2 → G) : G := h ⟨a0⟩ ⟨a1⟩ ⟨a2⟩
theorem zG4 {A0 A1 A2 A3 G : Prop} (a0 : A0) (a1 : A1) (a2 : A2) (a3 : A3) (h : Aside0 A0 → Aside0 A1 → Aside0 A2 → Aside0 A3 → G) : G := h ⟨a0⟩ ⟨a1⟩ ⟨a2⟩ ⟨a3⟩
theorem zG5 {A0 A1 A2 A3 A4 G : Prop} (a0 : A0) (a1 : A1) (a2 : A2) (a3 : A3) (a4 : A4) (h : Aside0 A0 → Aside0 A1 → Aside0 A2 → Aside0 A3 → Aside0 A4 → G) : G := h ⟨a0⟩ ⟨a1⟩ ⟨a2⟩ ⟨a3⟩ ⟨a4⟩
theorem zG6 {A0 A1 A2 A3 A4 A5 G : Prop} (a0 : A0) (a1 : A1) (a2 : A2) (a3 : A3) (a4 : A4) (a5 : A5) (h : Aside0 A0 → Aside0 A1 → Aside0 A2 → Aside0 A3 → Aside0 A4 → Aside0 A5 → G) : G := h ⟨a0⟩ ⟨a1⟩ ⟨a2⟩ ⟨a3⟩ ⟨a4⟩ ⟨a5⟩
theorem zG7 {A0 A1 A2 A3 A4 A5 A6 G : Prop} (a0 : A0) (a1 : A1) (a2 : A2) (a3 : A3) (a4 : A4) (a5 : A5) (a6 : A6) (h : Aside0 A0 → Aside0 A1 → Aside0 A2 → Aside0 A3 → Aside0 A4 → Aside0 A5 → Aside0 A6 → G) : G := h ⟨a0⟩ ⟨a1⟩ ⟨a2⟩ ⟨a3⟩ ⟨a4⟩ ⟨a5⟩ ⟨a6⟩
theorem zG8 {A0 A1 A2 A3 A4 A5 A6 A7 G : Prop} (a0 : A0) (a1 : A1) (a2 : A2) (a3 : A3) (a4 : A4) (a5 : A5) (a6 : A6) (a7 : A7) (h : Aside0 A0 → Aside0 A1 → Aside0 A2 → Aside0 A3 → Aside0 A4 → Aside0 A5 → Aside0 A6 → Aside0 A7 → G) : G := h ⟨a0⟩ ⟨a1⟩ ⟨a2⟩ ⟨a3⟩ ⟨a4⟩ ⟨a5⟩ ⟨a6⟩ ⟨a7⟩
theorem zG9 {A0 A1 A2 A3 A4 A5 A6 A7 A8 G : Prop} (a0 : A0) (a1 : A1) (a2 : A2) (a3 : A3) (a4 : A4) (a5 : A5) (a6 : A6) (a7 : A7) (a8 : A8) (h : Aside0 A0 → Aside0 A1 → Aside0 A2 → Aside0 A3 → Aside0 A4 → Aside0 A5 → Aside0 A6 → Aside0 A7 → Aside0 A8 → G) : G := h ⟨a0⟩ ⟨a1⟩ ⟨a2⟩ ⟨a3⟩ ⟨a4⟩ ⟨a5⟩ ⟨a6⟩ ⟨a7⟩ ⟨a8⟩
theorem zG10 {A0 A1 A2 A3 A4 A5 A6 A7 A8 A9 G : Prop} (a0 : A0) (a1 : A1) (a2 : A2) (a3 : A3) (a4 : A4) (a5 : A5) (a6 : A6) (a7 : A7) (a8 : A8) (a9 : A9) (h : Aside0 A0 → Aside0 A1 → Aside0 A2 → Aside0 A3 → Aside0 A4 → Aside0 A5 → Aside0 A6 → Aside0 A7 → Aside0 A8 → Aside0 A9 → G) : G := h ⟨a0⟩ ⟨a1⟩ ⟨a2⟩ ⟨a3⟩ ⟨a4⟩ ⟨a5⟩ ⟨a6⟩ ⟨a7⟩ ⟨a8⟩ ⟨a9⟩
theorem zG11 {A0 A1 A2 A3 A4 A5 A6 A7 A8 A9 A10 G : Prop} (a0 : A0) (a1 : A1) (a2 : A2) (a3 : A3) (a4 : A4) (a5 : A5) (a6 : A6) (a7 : A7) (a8 : A8) (a9 : A9) (a10 : A10) (h : Aside0 A0 → Aside0 A1 → Aside0 A2 → Aside0 A3 → Aside0 A4 → Aside0 A5 → Aside0 A6 → Aside0 A7 → Aside0 A8 → Aside0 A9 → Aside0 A10 → G) : G := h ⟨a0⟩ ⟨a1⟩ ⟨a2⟩ ⟨a3⟩ ⟨a4⟩ ⟨a5⟩ ⟨a6⟩ ⟨a7⟩ ⟨a8⟩ ⟨a9⟩ ⟨a10⟩
theorem zG12 {A0 A1 A2 A3 A4 A5 A6 A7 A8 A9 A10 A11 G : Prop} (a0 : A0) (a1 : A1) (a2 : A2) (a3 : A3) (a4 : A4) (a5 : A5) (a6 : A6) (a7 : A7) (a8 : A8) (a9 : A9) (a10 : A10) (a11 : A11) (h : Aside0 A0 → Aside0 A1 → Aside0 A2 → Aside0 A3 → Aside0 A4 → Aside0 A5 → Aside0 A6 → Aside0 A7 → Aside0 A8 → Aside0 A9 → Aside0 A10 → Aside0 A11 → G) : G := h ⟨a0⟩ ⟨a1⟩ ⟨a2⟩ ⟨a3⟩ ⟨a4⟩ ⟨a5⟩ ⟨a6⟩ ⟨a7⟩ ⟨a8⟩ ⟨a9⟩ ⟨a10⟩ ⟨a11⟩
theorem zG13 {A0 A1 A2 A3 A4 A5 A6 A7 A8 A9 A10 A11 A12 G : Prop} (a0 : A0) (a1 : A1) (a2 : A2) (a3 : A3) (a4 : A4) (a5 : A5) (a6 : A6) (a7 : A7) (a8 : A8) (a9 : A9) (a10 : A10) (a11 : A11) (a12 : A12) (h : Aside0 A0 → Aside0 A1 → Aside0 A2 → Aside0 A3 → Aside0 A4 → Aside0 A5 → Aside0 A6 → Aside0 A7 → Aside0 A8 → Aside0 A9 → Aside0 A10 → Aside0 A11 → Aside0 A12 → G) : G := h ⟨a0⟩ ⟨a1⟩ ⟨a2⟩ ⟨a3⟩ ⟨a4⟩ ⟨a5⟩ ⟨a6⟩ ⟨a7⟩ ⟨a8⟩ ⟨a9⟩ ⟨a10⟩ ⟨a11⟩ ⟨a12⟩
theorem zG15 {A0 A1 A2 A3 A4 A5 A6 A7 A8 A9 A10 A11 A12 A13 A14 G : Prop} (a0 : A0) (a1 : A1) (a2 : A2) (a3 : A3) (a4 : A4) (a5 : A5) (a6 : A6) (a7 : A7) (a8 : A8) (a9 : A9) (a10 : A10) (a11 : A11) (a12 : A12) (a13 : A13) (a14 : A14) (h : Aside0 A0 → Aside0 A1 → Aside0 A2 → Aside0 A3 → Aside0 A4 → Aside0 A5 → Aside0 A6 → Aside0 A7 → Aside0 A8 → Aside0 A9 → Aside0 A10 → Aside0 A11 → Aside0 A12 → Aside0 A13 → Aside0 A14 → G) : G := h ⟨a0⟩ ⟨a1⟩ ⟨a2⟩ ⟨a3⟩ ⟨a4⟩ ⟨a5⟩ ⟨a6⟩ ⟨a7⟩ ⟨a8⟩ ⟨a9⟩ ⟨a10⟩ ⟨a11⟩ ⟨a12⟩ ⟨a13⟩ ⟨a14⟩
theorem zG19 {A0 A1 A2 A3 A4 A5 A6 A7 A8 A9 A10 A11 A12 A13 A14 A15 A16 A17 A18 G : Prop} (a0 : A0) (a1 : A1) (a2 : A2) (a3 : A3) (a4 : A4) (a5 : A5) (a6 : A6) (a7 : A7) (a8 : A8) (a9 : A9) (a10 : A10) (a11 : A11) (a12 : A12) (a13 : A13) (a14 : A14) (a15 : A15) (a16 : A16) (a17 : A17) (a18 : A18) (h : Aside0 A0 → Aside0 A1 → Aside0 A2 → Aside0 A3 → Aside0 A4 → Aside0 A5 → Aside0 A6 → Aside0 A7 → Aside0 A8 → Aside0 A9 → Aside0 A10 → Aside0 A11 → Aside0 A12 → Aside0 A13 → Aside0 A14 → Aside0 A15 → Aside0 A16 → Aside0 A17 → Aside0 A18 → G) : G := h ⟨a0⟩ ⟨a1⟩ ⟨a2⟩ ⟨a3⟩ ⟨a4⟩ ⟨a5⟩ ⟨a6⟩ ⟨a7⟩ ⟨a8⟩ ⟨a9⟩ ⟨a10⟩ ⟨a11⟩ ⟨a12⟩ ⟨a13⟩ ⟨a14⟩ ⟨a15⟩ ⟨a16⟩ ⟨a17⟩ ⟨a18⟩
def TryzTab (w : World) : Prop := Lib.TabIs fM w "internal/strconv.uint64pow10" .u64 Lib.pow10Tab
theorem TryzTab.to {w w' : World} (h : TryzTab w) (hb : Below w.heap.size w w') : TryzTab w' := Go.Joins.tab_stays (g := 0) (by kernel_rfl) h hb (fQ _)
def cJ.f (a0 : Int) : Option ByteArray := if -9223372036854775808 ≤ a0 then (if a0 ≤ 9223372036854775807 then some (⟨(Lib.itoa a0).toArray⟩ : ByteArray) else none) else none
theorem cJ.calls (a0 : Int) (r : ByteArray) (w : World) (h : cJ.f a0 = some r) (HTB_ : TryzTab w := by first | exact HTB_ | exact TryzTab.to HTB_ HB.o | exact TryzTab.to HTB_ (by repeat (first | exact HB.o | apply below_alloc | apply pw_below_drewN | apply below_drew1 | refine below_set ?_ (Aside0.o (by assumption))))) :
    Calls fM 75 #[.int .i64 a0] w fun e w' => e = .returned (.string r) ∧ Below w.heap.size w w' := by
  unfold cJ.f at h
  by_cases h0 : -9223372036854775808 ≤ a0
  rotate_left
  · rw [if_neg h0] at h; cases h
  rw [if_pos h0] at h
  by_cases h1 : a0 ≤ 9223372036854775807
  rotate_left
  · rw [if_neg h1] at h; cases h
  rw [if_pos h1] at h
  obtain rfl := fF h
  refine (Any.strconv_Itoa Tryz.laysItoa a0 h0 h1 w HTB_).mono ?_
  rintro e w' ⟨rfl, k, os, rfl⟩
  exact ⟨rfl, Lib.below_grow _ _ (fQ _) _ _⟩

-- NOT PRINTED: function 135 (abi_NoEscape)
def aQ.l0 : Nat → List (List Int) → List (S60) → Int → Int → Option ((List (List Int)))
  | 0, _, _, _, _ => none
  | k + 1, x3, x10, x11, x12 => if x12 < x11 then (if 0 ≤ x12 then (if x12 < (x10.length : Int) then (if x3.length < 5864062014805 then (aQ.l0 k (x3 ++ [(aH x10 x12).f1]) x10 x11 (wrap64 (x12 + 1))) else (none)) else (none)) else (none)) else (some x3)
def aQ.f (k : Nat) (l0_0 : List Int) (l0_1 : List Int) (l0_2 : List (S60)) (l0_3 : List Int) : Option ((List (List Int))) := aQ.l0 k (([l0_1] : List (List Int))) l0_2 (l0_2.length : Int) 0
set_option maxHeartbeats 8000000 in
set_option maxRecDepth 100000 in
theorem aQ.calls (k : Nat) (z : Option Addr) (A : Nat) (x : List Int) (j : Nat → Prop) (n : Option Addr) (q : Nat) (m : List Int) (l : Nat → Prop) (F : Option Addr) (s : Nat) (a : List (S60)) (B : Option Addr) (D : Nat) (y : List Int) (r : List (List Int)) (w : World) (S : Kd.C (fG .i64) w z x.length x) (T : x.length ≤ A) (a2 : Kd.V (fG .i64) 3 w w.heap.size (fun k_ => j k_) (.slice n m.length q) m) (a3 : Kd.V k60 60 w w.heap.size (fun k_ => l k_) (.slice F a.length s) a) (U : Kd.C (fG .i64) w B y.length y) (X : y.length ≤ D) (h : aQ.f k x m a y = some r) :
    Calls fM 54 #[.agg #[.slice z x.length A, .slice n m.length q, .slice F a.length s, .slice B y.length D]] w fun e w' => ∃ a7 : Value, e = .returned (a7) ∧ Kd.N (kZ 3 (fG .i64)) 23 w' w.heap.size (fun k_ => ((j k_ ∨ l k_) ∨ w.heap.size ≤ k_)) a7 r ∧ Below w.heap.size w w' := by
 have hu31 := fW; have hu60 := nE; have Zr := zm S; have Zs := zm T; clear S T; have Zh := zm (show Kd.V (fG .i64) 3 w w.heap.size (fun k_ => ((j k_ ∨ l k_) ∨ w.heap.size ≤ k_)) (.slice n m.length q) m from iE a2 (fun k_ hk => .inl (.inl hk))); have Zj := zm (show Kd.V k60 60 w w.heap.size (fun k_ => ((j k_ ∨ l k_) ∨ w.heap.size ≤ k_)) (.slice F a.length s) a from iE a3 (fun k_ hk => .inl (.inr hk))); have Zt := zm U; have Zu := zm X; clear U X; have HB := zm (fX w.heap.size w)
 have H : (aQ.l0 k (([m] : List (List Int))) a (a.length : Int) 0) = some r := h
 clear h
 obtain ⟨a0, L⟩ : ∃ y_ : List (List Int), y_ = (([m] : List (List Int))) := ⟨_, rfl⟩
 replace H : (aQ.l0 k a0 a (a.length : Int) 0) = some r := zy H L
 have Y := zm L; clear L
 have H' := zm H
 clear H
 go_enter Tryz.func54, Tryz.ntmps54
 go_wp2_with (first | ((with_reducible refine fP (N := 1) rfl ?_); refine fS zo (N := 1) zo (cs := #[.slice z x.length A, .slice n m.length q, .slice F a.length s, .slice B y.length D]) (t := 31) zh ?_; intro d hg w2 hbox hb; refine zG6 (lX (lM (zg_0 Zh.o) d (jC hg.symm)) hb) (lX (lM (zg_0 Zj.o) d (jC hg.symm)) hb) (eZ (zg_1 HB.o) hb) (hbox) ((by rw [hg]; exact (eV (zg_1 HB.o)) : w.heap.size ≤ d)) ((by rw [hg]; exact (eV (zg_1 HB.o)) : w.heap.size ≤ d)) ?_; clear Zh Zj HB; intro Zh Zj HB Za Zv Zf; clear hb hbox hg; obtain ⟨_, _, _, _, _, _, _, _⟩ := zb4 Za.o) | ((with_reducible refine fP (N := 8) rfl ?_); refine Kd.N_lit (kZ 3 (fG .i64)) _ 23 ?hg (N' := 8) ?hd (xs := ([m] : List (List Int))) (inner := [.slice n m.length q]) (ok := (fun k_ => ((j k_ ∨ l k_) ∨ w.heap.size ≤ k_) ∧ k_ ≠ d)) (okp := (fun k_ => ((j k_ ∨ l k_) ∨ w.heap.size ≤ k_) ∧ k_ ≠ d)) ?hr ?hp (fun _ hk => hk) ((show ∀ k_, w2.heap.size ≤ k_ → (fun k_ => ((j k_ ∨ l k_) ∨ w.heap.size ≤ k_) ∧ k_ ≠ d) k_ from fun k_ hk => ⟨(.inr (hU (eV (zg_2 HB.o Zf.o)) hk)), iB (g := d) (o := .cells #[.slice z x.length A, .slice n m.length q, .slice F a.length s, .slice B y.length D] 31 (0, 0)) (zg_3 Za.o) k_ hk⟩) _ (fQ _)) (fX _ _) (fQ _) (by simp) ?_; (case hd => rfl); (case hg => rfl); (case hr => first | (go_simp; done) | (go_simp; rfl)); (case hp => exact (Reps.one (show Kd.FK (kZ 3 (fG .i64)) _ _ m [.slice n m.length q] from (Kd.FK_slice_mk (lN (iE (ok' := (fun k_ => ((j k_ ∨ l k_) ∨ w.heap.size ≤ k_) ∧ k_ ≠ d)) (Zh.o) (fun k_ hk => ⟨hk.1, hk.2⟩))).2.1 (Kd.V_F (iE (ok' := (fun k_ => ((j k_ ∨ l k_) ∨ w.heap.size ≤ k_) ∧ k_ ≠ d)) (Zh.o) (fun k_ hk => ⟨hk.1, hk.2⟩))))) (jD _ _))); intro b7 w4 J hb hg_ hnew_; clear hg_ hnew_; (first | rw [← Y.o] at J | (simp only [gX] at J; rw [← Y.o] at J)); refine zG5 (oE (zg_0 Zh.o) (Kd.N_base J) hb) (oE (zg_0 Zj.o) (Kd.N_base J) hb) (Kd.N_lower J (eV (zg_2 HB.o Zf.o))) (fB (g := d) (o := .cells #[.slice z x.length A, .slice n m.length q, .slice F a.length s, .slice B y.length D] 31 (0, 0)) (zg_3 Za.o) hb) (eZ (zg_2 HB.o Zf.o) hb) ?_; clear Zh Zj Za HB; intro Zh Zj Zo Za HB; clear hb J; obtain ⟨_, _, _, _, _, _, _, _⟩ := zb4 Za.o))
 go_loopg [3, 12] k (fun kq v3 b2 w' => ∃ (G : List (List Int)) (i : Int), b2 = .int .i64 i ∧ Aside0 (aQ.l0 kq G a (a.length : Int) i = some r) ∧ Aside0 (kq ≤ k) ∧ Aside0 (Kd.N (kZ 3 (fG .i64)) 23 w' w.heap.size (fun k_ => ((j k_ ∨ l k_) ∨ w.heap.size ≤ k_) ∧ k_ ≠ d) v3 G) ∧ Aside0 (Kd.V k60 60 w' w.heap.size (fun k_ => ((j k_ ∨ l k_) ∨ w.heap.size ≤ k_) ∧ some k_ ≠ ob v3 ∧ k_ ≠ d) (.slice F a.length s) a) ∧ Aside0 (Kd.V (fG .i64) 3 w' w.heap.size (fun k_ => ((j k_ ∨ l k_) ∨ w.heap.size ≤ k_) ∧ some k_ ≠ ob v3 ∧ k_ ≠ d) (.slice n m.length q) m) ∧ Aside0 (Kd.V k60 60 w' w.heap.size (fun k_ => ((j k_ ∨ l k_) ∨ w.heap.size ≤ k_) ∧ some k_ ≠ ob v3 ∧ k_ ≠ d) (.slice F a.length s) a) ∧ Aside0 (w'.heap[d]? = some (.cells #[(.slice z x.length A), (.slice n m.length q), (.slice F a.length s), (.slice B y.length D)] 31 (0, 0))) ∧ Aside0 (Below w.heap.size w w'))
 case atStart => exact ⟨(a0), (0), zr, H', ⟨fQ _⟩, ⟨zlN Zo.o⟩, ⟨by (with_reducible repeat (first | apply jP | apply jQ | apply jN)); exact iE Zj.o (fun _ hk => ⟨hk.1.1, ⟨hk.2, hk.1.2⟩⟩)⟩, ⟨by (with_reducible repeat (first | apply jP | apply jQ | apply jN)); exact iE Zh.o (fun _ hk => ⟨hk.1.1, ⟨hk.2, hk.1.2⟩⟩)⟩, ⟨by (with_reducible repeat (first | apply jP | apply jQ | apply jN)); exact iE Zj.o (fun _ hk => ⟨hk.1.1, ⟨hk.2, hk.1.2⟩⟩)⟩, ⟨zl Za.o⟩, ⟨zg_2 HB.o Zf.o⟩⟩
 case round =>
  clear H'
  try clear p2
  try clear c5
  obtain ⟨G, i, rfl, HA, a8, Zl, Zg, Zb, Zc, Za, HB⟩ := hrel
  cases gk with
  | zero => exact absurd HA.o (by simp [aQ.l0])
  | succ k1 =>
   have H := HA.o; clear HA
   simp only [aQ.l0] at H
   by_cases Z : i < (a.length : Int)
   rotate_left
   ·rw [if_neg Z] at H
    have b0 := decide_eq_false Z; clear Z; obtain rfl := fF H
    go_wp2
    go_ret
    exact ⟨_, ze, by (with_reducible repeat (first | apply kR | apply kS | apply jR)); exact fN Zl.o (fun _ hk => hk.1), zg_2 HB.o Zf.o⟩
   rw [if_pos Z] at H; have b0 := decide_eq_true Z; clear Z
   replace H := zid H; obtain ⟨b8, H⟩ := H
   replace H := zid H; obtain ⟨b9, H⟩ := H
   replace H := zif H; obtain ⟨a9, H⟩ := H; have a5 := zm a9; clear a9
   obtain ⟨a1, M⟩ : ∃ y_ : List (List Int), y_ = (G ++ [(aH a i).f1]) := ⟨_, rfl⟩
   replace H : (aQ.l0 k1 a1 a (a.length : Int) (wrap64 (i + 1))) = some r := zy H M
   have a6 := zm M; clear M
   have H' := zm H
   clear H
   have O : 0 ≤ (i : Int) := zd
   have R : i < (a.length : Int) := zd
   obtain ⟨E, u, v, b1, hx149_0, hx149_1, hl149_1, hi149_1⟩ := at_T60 (lN Zg.o).2.2 i O R
   cases b1
   obtain ⟨ce149, hce149, hMe149, hcc149⟩ := Kd.V_get Zg.o z60 i O (by first | exact R | exact zd | (have e_ := (lN Zg.o).1; omega))
   obtain ⟨ua149_1, uc149_1, rfl, ul149_1, ge149_1⟩ := k60_openF hMe149
   have hv149_1 := hcc149 1 _ rfl
   rw [add_field _ _ 1 (by omega)] at hv149_1
   replace hv149_1 := fF (hv149_1.symm.trans hx149_1)
   injection hv149_1 with hva_ hvn_ hvc_
   rw [hva_] at ge149_1
   rw [hvc_] at ul149_1
   have Zd := zm (show Kd.V (fG .i64) 3 _ w.heap.size _ _ ((aH a i).f1) from nF ul149_1 ge149_1); clear hva_ hvn_ hvc_ ge149_1 ul149_1; clear hcc149 hce149; have Zk := zm hi149_1; have Zq := zm hl149_1; clear hi149_1 hl149_1; replace O := eq_true O; replace R := eq_true R
   go_wp2_with (first | ((with_reducible refine fP (N := 5) rfl ?_); refine fS zo (N := 5) zo (cs := #[.string (⟨#[]⟩ : ByteArray), .slice none 0 0]) (t := 60) zh ?_; intro c hg b3 hbox hb; refine zG13 (Kd.N_below (Kd.N_elderB (zg_4 Zl.o) c (jC hg.symm)) hb) (lX (lM (zg_0 Zg.o) c (jC hg.symm)) hb) (lX (lM (zg_0 Zb.o) c (jC hg.symm)) hb) (lX (lM (zg_0 Zc.o) c (jC hg.symm)) hb) (lX (lM (zg_0 Zd.o) c (jC hg.symm)) hb) (fB (g := d) (o := .cells #[.slice z x.length A, .slice n m.length q, .slice (some E) a.length s, .slice B y.length D] 31 (0, 0)) (zg_3 Za.o) hb) (fE (by repeat (first | (with_reducible exact Zk.o) | (with_reducible refine mM ?_ _) | (with_reducible refine mN ?_ _) | (with_reducible refine mH ?_) | exact Zk.o)) hb) (eZ (zg_2 HB.o Zf.o) hb) (hbox) ((by rw [hg]; exact (eV (zg_2 HB.o Zf.o)) : w.heap.size ≤ c)) ((by rw [hg]; exact (eV (zg_2 HB.o Zf.o)) : w.heap.size ≤ c)) ((by rw [hg]; exact gN (blk_lt (g := d) (o := .cells #[.slice z x.length A, .slice n m.length q, .slice (some E) a.length s, .slice B y.length D] 31 (0, 0)) (zg_3 Za.o)) : d ≠ c)) ((by rw [hg]; exact gT (blk_lt (g := d) (o := .cells #[.slice z x.length A, .slice n m.length q, .slice (some E) a.length s, .slice B y.length D] 31 (0, 0)) (zg_3 Za.o)) : c ≠ d)) ?_; clear Zl Zg Zb Zc Zd Za Zk HB; intro Zl Zg Zb Zc Zd Za Zk HB Ze Zw Zm Zi Zn; clear hb hbox hg; have b4 := Zn.o; have b5 := Zi.o; obtain ⟨_, _, _, _⟩ := zb2 Ze.o) | ((with_reducible refine gate_store (t := 60) (p := 5) rfl ?_); refine zst (w1 := ((b3.setCell ⟨c, 0, none⟩ (.string ((aH a i).f0))).setCell ⟨c, 1, none⟩ (.slice u ((aH a i).f1).length v))) rfl rfl rfl zh ?_; intro I hw; refine zG8 (by rw [hw]; exact (by (with_reducible repeat (first | apply kR | apply kS | apply jR)); exact fN (kQ (p := ⟨c, 1, none⟩) (kQ (p := ⟨c, 0, none⟩) (fN Zl.o (fun k_ hk => (⟨hk, hk.2⟩ : _ ∧ k_ ≠ c))) (fun _ hk => hk.2) (.string ((aH a i).f0))) (fun _ hk => hk.2) (.slice u ((aH a i).f1).length v)) (fun _ hk => ⟨hk.1.1.1, ⟨hk.1.1.2, hk.1.2⟩⟩)) : Kd.N (kZ 3 (fG .i64)) 23 I w.heap.size (fun k_ => ((j k_ ∨ l k_) ∨ w.heap.size ≤ k_) ∧ k_ ≠ d ∧ k_ ≠ c) u3 G) (by rw [hw]; exact (by (with_reducible repeat (first | apply jP | apply jQ | apply jN)); exact iE (kK (p := ⟨c, 1, none⟩) (kK (p := ⟨c, 0, none⟩) (iE Zg.o (fun k_ hk => (⟨hk, hk.2⟩ : _ ∧ k_ ≠ c))) (fun _ hk => hk.2) (.string ((aH a i).f0))) (fun _ hk => hk.2) (.slice u ((aH a i).f1).length v)) (fun _ hk => ⟨hk.1.1.1, ⟨hk.1.1.2.1, ⟨hk.1.1.2.2, hk.1.2⟩⟩⟩)) : Kd.V k60 60 I w.heap.size (fun k_ => ((j k_ ∨ l k_) ∨ w.heap.size ≤ k_) ∧ some k_ ≠ ob u3 ∧ k_ ≠ d ∧ k_ ≠ c) (.slice (some E) a.length s) a) (by rw [hw]; exact (by (with_reducible repeat (first | apply jP | apply jQ | apply jN)); exact iE (kK (p := ⟨c, 1, none⟩) (kK (p := ⟨c, 0, none⟩) (iE Zb.o (fun k_ hk => (⟨hk, hk.2⟩ : _ ∧ k_ ≠ c))) (fun _ hk => hk.2) (.string ((aH a i).f0))) (fun _ hk => hk.2) (.slice u ((aH a i).f1).length v)) (fun _ hk => ⟨hk.1.1.1, ⟨hk.1.1.2.1, ⟨hk.1.1.2.2, hk.1.2⟩⟩⟩)) : Kd.V (fG .i64) 3 I w.heap.size (fun k_ => ((j k_ ∨ l k_) ∨ w.heap.size ≤ k_) ∧ some k_ ≠ ob u3 ∧ k_ ≠ d ∧ k_ ≠ c) (.slice n m.length q) m) (by rw [hw]; exact (by (with_reducible repeat (first | apply jP | apply jQ | apply jN)); exact iE (kK (p := ⟨c, 1, none⟩) (kK (p := ⟨c, 0, none⟩) (iE Zc.o (fun k_ hk => (⟨hk, hk.2⟩ : _ ∧ k_ ≠ c))) (fun _ hk => hk.2) (.string ((aH a i).f0))) (fun _ hk => hk.2) (.slice u ((aH a i).f1).length v)) (fun _ hk => ⟨hk.1.1.1, ⟨hk.1.1.2.1, ⟨hk.1.1.2.2, hk.1.2⟩⟩⟩)) : Kd.V k60 60 I w.heap.size (fun k_ => ((j k_ ∨ l k_) ∨ w.heap.size ≤ k_) ∧ some k_ ≠ ob u3 ∧ k_ ≠ d ∧ k_ ≠ c) (.slice (some E) a.length s) a) (by rw [hw]; exact (by (with_reducible repeat (first | apply jP | apply jQ | apply jN)); exact iE (kK (p := ⟨c, 1, none⟩) (kK (p := ⟨c, 0, none⟩) (iE Zd.o (fun k_ hk => (⟨hk, hk.2⟩ : _ ∧ k_ ≠ c))) (fun _ hk => hk.2) (.string ((aH a i).f0))) (fun _ hk => hk.2) (.slice u ((aH a i).f1).length v)) (fun _ hk => ⟨hk.1.1.1, ⟨hk.1.1.2.1, ⟨hk.1.1.2.2, hk.1.2⟩⟩⟩)) : Kd.V (fG .i64) 3 I w.heap.size (fun k_ => ((j k_ ∨ l k_) ∨ w.heap.size ≤ k_) ∧ some k_ ≠ ob u3 ∧ k_ ≠ d ∧ k_ ≠ c) (.slice u ((aH a i).f1).length v) ((aH a i).f1)) (by rw [hw]; exact (zfr Za.o Zi.o) : I.heap[d]? = some (.cells #[.slice z x.length A, .slice n m.length q, .slice (some E) a.length s, .slice B y.length D] 31 (0, 0))) (by rw [hw]; exact (zp2 Ze.o) : I.heap[c]? = some (.cells #[.string ((aH a i).f0), .slice u ((aH a i).f1).length v] 60 (0, 0))) (by rw [hw]; exact (zg_5 HB.o Zf.o Zm.o) : Below w.heap.size w I) ?_; clear hw Zl Zg Zb Zc Zd Za Ze HB; intro Zl Zg Zb Zc Zd Za Ze HB; obtain ⟨_, _, _, _⟩ := zb2 Ze.o) | ((with_reducible refine kF (b := .append) (xs := #[.tmp 16, .tmp 19]) rfl ?_); at_builtin; refine Kd.N_append (kZ 3 (fG .i64)) (w0 := w) w.heap.size rfl (.tmp 16) (.tmp 19) 81 23 (.slice none 0 0) 24 rfl Tryz.underlying81 info23 rfl (by decide) (by omega) u3 G ((aH a i).f1) [.slice u ((aH a i).f1).length v] (fun k_ => ((j k_ ∨ l k_) ∨ w.heap.size ≤ k_) ∧ k_ ≠ d ∧ k_ ≠ c) (fun k_ => ((fun k_ => ((j k_ ∨ l k_) ∨ w.heap.size ≤ k_) ∧ k_ ≠ d ∧ k_ ≠ c)) k_ ∧ some k_ ≠ ob u3) rfl rfl ?aP (fun _ hk => hk) ?aF ?aO ?aB ?aS ?aL ?_; (case aP => exact (Kd.FK_slice_mk (lN (iE (ok' := (fun k_ => ((fun k_ => ((j k_ ∨ l k_) ∨ w.heap.size ≤ k_) ∧ k_ ≠ d ∧ k_ ≠ c)) k_ ∧ some k_ ≠ ob u3)) (Zd.o) (fun k_ hk => ⟨⟨hk.1, ⟨hk.2.2.1, hk.2.2.2⟩⟩, hk.2.1⟩))).2.1 (Kd.V_F (iE (ok' := (fun k_ => ((fun k_ => ((j k_ ∨ l k_) ∨ w.heap.size ≤ k_) ∧ k_ ≠ d ∧ k_ ≠ c)) k_ ∧ some k_ ≠ ob u3)) (Zd.o) (fun k_ hk => ⟨⟨hk.1, ⟨hk.2.2.1, hk.2.2.2⟩⟩, hk.2.1⟩))))); (case aB => exact (zg_5 HB.o Zf.o Zm.o)); (case aF => exact (fun k_ hk => ⟨(.inr (hU (eV (zg_5 HB.o Zf.o Zm.o)) hk)), iB (g := d) (o := .cells #[.slice z x.length A, .slice n m.length q, .slice (some E) a.length s, .slice B y.length D] 31 (0, 0)) (zg_3 Za.o) k_ hk, iB (g := c) (o := .cells #[.string ((aH a i).f0), .slice u ((aH a i).f1).length v] 60 (0, 0)) (zg_3 Ze.o) k_ hk⟩)); (case aO => exact (zg_4 Zl.o)); (case aS => exact (eV (zg_5 HB.o Zf.o Zm.o))); (case aL => have := a5.o; omega); intro c0 c1 ho hb hg hat; rw [← a6.o] at ho; refine zG8 (kV (ok := (fun k_ => ((j k_ ∨ l k_) ∨ w.heap.size ≤ k_) ∧ k_ ≠ d ∧ k_ ≠ c)) (by (with_reducible repeat (first | apply jP | apply jQ | apply jN)); exact iE Zg.o (fun _ hk => ⟨⟨hk.1, ⟨hk.2.2.1, hk.2.2.2⟩⟩, hk.2.1⟩)) hg hat) (kV (ok := (fun k_ => ((j k_ ∨ l k_) ∨ w.heap.size ≤ k_) ∧ k_ ≠ d ∧ k_ ≠ c)) (by (with_reducible repeat (first | apply jP | apply jQ | apply jN)); exact iE Zb.o (fun _ hk => ⟨⟨hk.1, ⟨hk.2.2.1, hk.2.2.2⟩⟩, hk.2.1⟩)) hg hat) (kV (ok := (fun k_ => ((j k_ ∨ l k_) ∨ w.heap.size ≤ k_) ∧ k_ ≠ d ∧ k_ ≠ c)) (by (with_reducible repeat (first | apply jP | apply jQ | apply jN)); exact iE Zc.o (fun _ hk => ⟨⟨hk.1, ⟨hk.2.2.1, hk.2.2.2⟩⟩, hk.2.1⟩)) hg hat) (gW (g := d) (o := .cells #[.slice z x.length A, .slice n m.length q, .slice (some E) a.length s, .slice B y.length D] 31 (0, 0)) (zg_3 Za.o) hg (Kd.N_ne Zl.o Za.o (by decide))) (kV (ok := (fun k_ => ((j k_ ∨ l k_) ∨ w.heap.size ≤ k_) ∧ k_ ≠ d ∧ k_ ≠ c)) (by (with_reducible repeat (first | apply jP | apply jQ | apply jN)); exact iE Zd.o (fun _ hk => ⟨⟨hk.1, ⟨hk.2.2.1, hk.2.2.2⟩⟩, hk.2.1⟩)) hg hat) (gW (g := c) (o := .cells #[.string ((aH a i).f0), .slice u ((aH a i).f1).length v] 60 (0, 0)) (zg_3 Ze.o) hg (Kd.N_ne Zl.o Ze.o (by decide))) (hb) (ho) ?_; clear Zl Zg Zb Zc Za Zd Ze HB; intro Zg Zb Zc Za Zd Ze HB Zp; clear ho hb hg hat))
   go_roundg k1
   case measure => have := a8.o; omega
   case rel => exact ⟨(a1), (wrap64 (i + 1)), zr, H', ⟨by have := a8.o; omega⟩, ⟨by (with_reducible repeat (first | apply kR | apply kS | apply jR)); exact fN Zp.o (fun _ hk => ⟨hk.1, hk.2.1⟩)⟩, ⟨by (with_reducible repeat (first | apply jP | apply jQ | apply jN)); exact iE Zg.o (fun _ hk => ⟨hk.1.1, ⟨hk.2, hk.1.2.1⟩⟩)⟩, ⟨by (with_reducible repeat (first | apply jP | apply jQ | apply jN)); exact iE Zb.o (fun _ hk => ⟨hk.1.1, ⟨hk.2, hk.1.2.1⟩⟩)⟩, ⟨by (with_reducible repeat (first | apply jP | apply jQ | apply jN)); exact iE Zc.o (fun _ hk => ⟨hk.1.1, ⟨hk.2, hk.1.2.1⟩⟩)⟩, ⟨zl Za.o⟩, ⟨zg_5 HB.o Zf.o Zm.o⟩⟩
def bK.l0 : Nat → List Int → List Int → Int → Int → Option (List Int)
  | 0, _, _, _, _ => none
  | k + 1, x3, x7, x8, x9 => if x9 < x8 then (if 0 ≤ x9 then (if x9 < (x7.length : Int) then (if (rd x7 x9) ≥ 2 then (if x3.length < 17592186044416 then (bK.l0 k (x3 ++ [wrap64 ((rd x7 x9) - 2)]) x7 x8 (wrap64 (x9 + 1))) else (none)) else (bK.l0 k x3 x7 x8 (wrap64 (x9 + 1)))) else (none)) else (none)) else (some x3)
def bK.f (k : Nat) (l0 : List Int) : Option (List Int) := bK.l0 k (([] : List Int)) l0 (l0.length : Int) 0
set_option maxHeartbeats 8000000 in
set_option maxRecDepth 100000 in
theorem bK.calls (k : Nat) (L : Option Addr) (M : Nat) (c : List Int) (r : List Int) (w : World) (B : Kd.C (fG .i64) w L c.length c) (D : c.length ≤ M) (h : bK.f k c = some r) :
    Calls fM 60 #[.slice L c.length M] w fun e w' => ∃ E : Value, e = .returned (E) ∧ Kd.R (fG .i64) 3 w' w.heap.size (fun _ => True) E r ∧ Below w.heap.size w w' := by
 have F := zm B; have Z := zm D; clear B D; have HB := zm (fX w.heap.size w)
 have H : (bK.l0 k (([] : List Int)) c (c.length : Int) 0) = some r := h
 clear h
 obtain ⟨u, j⟩ : ∃ y_ : List Int, y_ = (([] : List Int)) := ⟨_, rfl⟩
 replace H : (bK.l0 k u c (c.length : Int) 0) = some r := zy H j
 have p := zm j; clear j
 have H' := zm H
 clear H
 go_enter Tryz.func60, Tryz.ntmps60
 go_wp2_with (first | ((with_reducible refine fP (N := 6) rfl ?_); refine lT (fG .i64) _ 3 ?hg (N := 6) ?hd (xs := ([] : List Int)) (inner := []) (ok := fun _ => True) (okp := fun _ => True) ?hr ?hp (fun _ hk => hk) trivial (fX _ _) (fQ _) (by simp) ?_; (case hd => rfl); (case hg => rfl); (case hr => first | (go_simp; done) | (go_simp; rfl)); (case hp => exact (jD _ _)); intro S w2 n hb hg_ hnew_; clear hg_ hnew_; (first | rw [← p.o] at n | (simp only [gX] at n; rw [← p.o] at n)); refine zG2 (fL n (eV (zg_1 HB.o))) (eZ (zg_1 HB.o) hb) ?_; clear HB; intro x HB; clear hb n))
 go_loopg [3, 9] k (fun kq T U w' => ∃ (i : List Int) (a : Int), U = .int .i64 a ∧ Aside0 (bK.l0 kq i c (c.length : Int) a = some r) ∧ Aside0 (kq ≤ k) ∧ Aside0 (Kd.R (fG .i64) 3 w' w.heap.size (fun _ => True) T i) ∧ Aside0 (Below w.heap.size w w'))
 case atStart => exact ⟨(u), (0), zr, H', ⟨fQ _⟩, ⟨zlR x.o⟩, ⟨zg_1 HB.o⟩⟩
 case round =>
  clear H'
  try clear p2
  obtain ⟨i, a, rfl, HA, q, l, HB⟩ := hrel
  cases gk with
  | zero => exact absurd HA.o (by simp [bK.l0])
  | succ k1 =>
   have H := HA.o; clear HA
   simp only [bK.l0] at H
   by_cases s : a < (c.length : Int)
   rotate_left
   ·rw [if_neg s] at H
    have G := decide_eq_false s; clear s; obtain rfl := fF H
    go_wp2
    go_ret
    exact ⟨_, ze, by (with_reducible repeat (first | apply fY | apply fZ | apply fK)); exact l.o, zg_1 HB.o⟩
   rw [if_pos s] at H; have G := decide_eq_true s; clear s
   replace H := zid H; obtain ⟨V, H⟩ := H
   replace H := zid H; obtain ⟨X, H⟩ := H
   by_cases t : (rd c a) ≥ 2
   rotate_left
   ·rw [if_neg t] at H
    have I := decide_eq_false t; clear t
    have H' := zm H
    clear H
    have d : 0 ≤ (a : Int) := zd
    have g : a < (c.length : Int) := zd
    obtain ⟨y, o, hx128_0⟩ := gY F.o a d g
    cases o; replace hx128_0 := (HB.o.cell (eU w _ hx128_0)).trans hx128_0; replace d := eq_true d; replace g := eq_true g
    go_wp2
    go_roundg k1
    case measure => have := q.o; omega
    case rel => exact ⟨(i), (wrap64 (a + 1)), zr, H', ⟨by have := q.o; omega⟩, ⟨zlR l.o⟩, ⟨zg_1 HB.o⟩⟩
   rw [if_pos t] at H; have I := decide_eq_true t; clear t
   replace H := zif H; obtain ⟨O, H⟩ := H; have J := zm O; clear O
   obtain ⟨v, m⟩ : ∃ y_ : List Int, y_ = (i ++ [wrap64 ((rd c a) - 2)]) := ⟨_, rfl⟩
   replace H : (bK.l0 k1 v c (c.length : Int) (wrap64 (a + 1))) = some r := zy H m
   have z := zm m; clear m
   have H' := zm H
   clear H
   have d : 0 ≤ (a : Int) := zd
   have g : a < (c.length : Int) := zd
   obtain ⟨y, o, hx128_0⟩ := gY F.o a d g
   cases o; replace hx128_0 := (HB.o.cell (eU w _ hx128_0)).trans hx128_0; replace d := eq_true d; replace g := eq_true g
   go_wp2_with (first | ((with_reducible refine kF (b := .append) (xs := #[.tmp 15, .tmp 18]) rfl ?_); at_builtin; refine Kd.R_append (fG .i64) (w0 := w) w.heap.size rfl (.tmp 15) (.tmp 18) 23 3 (.int .i64 0) 8 rfl iP info3 rfl (by decide) (by omega) u3 i (wrap64 ((rd c a) - 2)) [.int .i64 (wrap64 ((rd c a) - 2))] (fun _ => True) (fun _ => False) rfl rfl ?aP (fun _ hk => hk.elim) ?aF ?aO ?aB ?aS ?aL ?_; (case aP => exact rfl); (case aB => exact (zg_1 HB.o)); (case aF => exact (fun _ _ => trivial)); (case aO => exact (zg_6 l.o)); (case aS => exact (eV (zg_1 HB.o))); (case aL => have := J.o; omega); intro Y w9 ho hb hg hat; rw [← z.o] at ho; refine zG2 (hb) (ho) ?_; clear l HB; intro HB A; clear ho hb hg hat))
   go_roundg k1
   case measure => have := q.o; omega
   case rel => exact ⟨(v), (wrap64 (a + 1)), zr, H', ⟨by have := q.o; omega⟩, ⟨zlR A.o⟩, ⟨zg_1 HB.o⟩⟩
mutual
def aI.l0 : Nat → List Int → List (List Int) → Int → Int → Option (List Int)
  | 0, _, _, _, _ => none
  | k + 1, x3, x10, x11, x12 => if x12 < x11 then (if 0 ≤ x12 then (if x12 < (x10.length : Int) then ((bK.f k (dK x10 x12)).bind fun t173 => (aI.l1 k x3 x10 x11 x12 t173 (t173.length : Int) 0)) else (none)) else (none)) else (some x3)
def aI.l1 : Nat → List Int → List (List Int) → Int → Int → List Int → Int → Int → Option (List Int)
  | 0, _, _, _, _, _, _, _ => none
  | k + 1, x3, x10, x11, x12, x17, x18, x19 => if x19 < x18 then (if 0 ≤ x19 then (if x19 < (x17.length : Int) then (if 0 ≤ (rd x17 x19) then (if (rd x17 x19) < (x3.length : Int) then (aI.l1 k (x3.set ((rd x17 x19) : Int).toNat (wrap64 ((rd x3 (rd x17 x19)) + 1))) x10 x11 x12 x17 x18 (wrap64 (x19 + 1))) else (none)) else (none)) else (none)) else (none)) else (aI.l0 k x3 x10 x11 (wrap64 (x12 + 1)))
end
def aI.f (k : Nat) (l0_0 : List Int) (l0_1 : List Int) (l0_2 : List (S60)) (l0_3 : List Int) : Option (List Int) := if 24 ≤ 35184372088832 then ((aQ.f k l0_0 l0_1 l0_2 l0_3).bind fun t169 => (aI.l0 k (iJ 24 0) t169 (t169.length : Int) 0)) else (none)
set_option maxHeartbeats 8000000 in
set_option maxRecDepth 100000 in
theorem aI.calls (k : Nat) (s : Option Addr) (u : Nat) (j : List Int) (x : Option Addr) (y : Nat) (l : List Int) (z : Option Addr) (A : Nat) (m : List (S60)) (B : Option Addr) (D : Nat) (n : List Int) (r : List Int) (w : World) (a5 : Kd.C (fG .i64) w s j.length j) (a6 : j.length ≤ u) (a7 : Kd.C (fG .i64) w x l.length l) (a8 : l.length ≤ y) (a9 : Kd.C k60 w z m.length m) (b0 : m.length ≤ A) (b1 : Kd.C (fG .i64) w B n.length n) (b2 : n.length ≤ D) (h : aI.f k j l m n = some r) :
    Calls fM 25 #[.agg #[.slice s j.length u, .slice x l.length y, .slice z m.length A, .slice B n.length D]] w fun e w' => ∃ e0 : Value, e = .returned (e0) ∧ Kd.R (fG .i64) 3 w' w.heap.size (fun _ => True) e0 r ∧ Below w.heap.size w w' := by
 have hu31 := fW; have Zn := zm a5; have Zo := zm a6; clear a5 a6; have Zp := zm a7; have Zq := zm a8; clear a7 a8; have Zr := zm a9; have Zs := zm b0; clear a9 b0; have Zt := zm b1; have Zu := zm b2; clear b1 b2; have HB := zm (fX w.heap.size w); have H := h
 unfold aI.f at H
 clear h
 replace H := zif H; obtain ⟨c2, H⟩ := H; have b9 := eq_true c2; have c0 := decide_eq_true c2; clear c2
 obtain ⟨c3, T⟩ : ∃ y_ : List Int, y_ = (iJ 24 0) := ⟨_, rfl⟩
 replace H : ((aQ.f k j l m n).bind fun c => (aI.l0 k c3 c (c.length : Int) 0)) = some r := zy H T
 have b3 := zm T; clear T; replace H := eW.mp H
 obtain ⟨c, e1, H⟩ := H
 try dsimp only at H
 have A3 := zm e1; clear e1
 have H' := zm H
 clear H
 go_enter Tryz.func25, Tryz.ntmps25
 go_wp2_with (first | ((with_reducible refine fP (N := 1) rfl ?_); refine fS zo (N := 1) zo (cs := #[.slice s j.length u, .slice x l.length y, .slice z m.length A, .slice B n.length D]) (t := 31) zh ?_; intro i hg w4 hbox hb; refine zG4 (eZ (zg_1 HB.o) hb) (hbox) ((by rw [hg]; exact (eV (zg_1 HB.o)) : w.heap.size ≤ i)) ((by rw [hg]; exact (eV (zg_1 HB.o)) : w.heap.size ≤ i)) ?_; clear HB; intro HB Za Zj Zb; clear hb hbox hg) | ((with_reducible refine fP (N := 8) rfl ?_); refine Kd.R_make (fG .i64) _ 3 rfl (N := 8) rfl 23 _ _ rfl 24 rfl rfl iP (.int .i64 0) 8 info3 rfl (by decide) (by omega) 0 (ok := fun _ => True) (okp := fun _ => True) rfl (fun _ hk => hk) trivial (by omega) (by omega) (fX _ _) (fQ _) ?_; intro F w5 Y hb hg_ hnew_; clear hg_ hnew_; (first | rw [← b3.o] at Y | (simp only [gX] at Y; rw [← b3.o] at Y)); refine zG3 (fL Y (eV (zg_2 HB.o Zb.o))) (fB (g := i) (o := .cells #[.slice s j.length u, .slice x l.length y, .slice z m.length A, .slice B n.length D] 31 (0, 0)) (zg_3 Za.o) hb) (eZ (zg_2 HB.o Zb.o) hb) ?_; clear Za HB; intro Zf Za HB; clear hb Y; obtain ⟨_, _, _, _, _, _, _, _⟩ := zb4 Za.o) | ((with_reducible refine fJ (f := 54) rfl ?_); refine gU (some 10) rfl rfl Tryz.func54 (by kernel_rfl) rfl #[.agg #[.slice s j.length u, .slice x l.length y, .slice z m.length A, .slice B n.length D]] rfl zq ?_; (with_reducible refine (aQ.calls k _ _ j (fun k_ => k_ < w.heap.size) _ _ l (fun k_ => k_ < w.heap.size) _ _ m _ _ n c _ ?_ ?_ ?_ ?_ ?_ ?_ A3.o).mono ?_); exact zC (fE Zn.o HB.o); exact Zo.o; exact nF Zq.o (Kd.F_below (Kd.C_F (Kd.heap_int .i64) Zp.o) (zg_2 HB.o Zb.o)); exact nF Zs.o (Kd.F_below (Kd.C_F k60_heap Zr.o) (zg_2 HB.o Zb.o)); exact zC (fE Zt.o HB.o); exact Zu.o; rintro e w8 ⟨f8, rfl, G, hb⟩; refine ⟨_, rfl, ?_⟩; refine zG4 (Kd.R_below (zg_6 Zf.o) hb) (Kd.N_lower (fN (ok' := fun k_ => some k_ ≠ ob F ∧ k_ ≠ i) G (fun k_ hk_ => ⟨gM hk_ (fun hs_ => gM hs_ (fun hs_ => fun e_ => kB.2 hs_ (fH Zf.o k_ e_.symm)) (fun hs_ => fun e_ => kB.2 hs_ (fH Zf.o k_ e_.symm))) (fun hn_ => (Kd.fresh' (Kd.R_lt (zg_6 Zf.o)) k_ hn_)), gM hk_ (fun hs_ => gM hs_ (fun hs_ => fun e_ => kB.2 hs_ (by rw [e_]; exact Zj.o)) (fun hs_ => fun e_ => kB.2 hs_ (by rw [e_]; exact Zj.o))) (fun hn_ => (iB (g := i) (o := .cells #[.slice s j.length u, .slice x l.length y, .slice z m.length A, .slice B n.length D] 31 (0, 0)) (zg_3 Za.o) k_ hn_))⟩)) (eV (zg_2 HB.o Zb.o))) (fB (g := i) (o := .cells #[.slice s j.length u, .slice x l.length y, .slice z m.length A, .slice B n.length D] 31 (0, 0)) (zg_3 Za.o) hb) (eZ (zg_2 HB.o Zb.o) hb) ?_; clear Zf Za HB; intro Zf Zk Za HB; (try clear hb); (try clear hb2); (try clear hk); (try clear hi); (try clear G); obtain ⟨e7, e2, rfl⟩ := Kd.N_slice Zk.o))
 go_loopg [12] k (fun kq e8 w' => ∃ (U : List Int) (d : Int), e8 = .int .i64 d ∧ Aside0 (aI.l0 kq U c (c.length : Int) d = some r) ∧ Aside0 (kq ≤ k) ∧ Aside0 (Kd.R (fG .i64) 3 w' w.heap.size (fun _ => True) F U) ∧ Aside0 (Kd.N (kZ 3 (fG .i64)) 23 w' w.heap.size (fun k_ => some k_ ≠ ob F ∧ k_ ≠ i) (.slice e7 c.length e2) c) ∧ Aside0 (w'.heap[i]? = some (.cells #[(.slice s j.length u), (.slice x l.length y), (.slice z m.length A), (.slice B n.length D)] 31 (0, 0))) ∧ Aside0 (Below w.heap.size w w'))
 case atStart => exact ⟨(c3), (0), zr, H', ⟨fQ _⟩, ⟨zlR Zf.o⟩, ⟨zlN Zk.o⟩, ⟨zl Za.o⟩, ⟨zg_2 HB.o Zb.o⟩⟩
 case round =>
  clear H'
  try clear c2
  try clear b9
  try clear c0
  try clear p2
  try clear c5
  obtain ⟨U, d, rfl, HA, b4, Zd, Zc, Za, HB⟩ := hrel
  cases gk with
  | zero => exact absurd HA.o (by simp [aI.l0])
  | succ k1 =>
   have H := HA.o; clear HA
   simp only [aI.l0] at H
   by_cases I : d < (c.length : Int)
   rotate_left
   ·rw [if_neg I] at H
    have b5 := decide_eq_false I; clear I; obtain rfl := fF H
    go_wp2
    go_ret
    exact ⟨_, ze, by (with_reducible repeat (first | apply fY | apply fZ | apply fK)); exact Zd.o, zg_2 HB.o Zb.o⟩
   rw [if_pos I] at H; have b5 := decide_eq_true I; clear I
   replace H := zid H; obtain ⟨d5, H⟩ := H
   replace H := zif H; obtain ⟨c4, H⟩ := H; have d6 := decide_eq_true c4; clear c4; replace H := eW.mp H
   obtain ⟨b, c7, H⟩ := H
   try dsimp only at H
   have f0 := zm c7; clear c7
   have H' := zm H
   clear H
   have J : 0 ≤ (d : Int) := zd
   have L : d < (c.length : Int) := zd
   obtain ⟨d7, c8, c9, e3, hx172_0, hl172_0, hi172_0⟩ := at_L2 (Kd.N_reads' Zc.o).2.2 d J L
   cases e3
   obtain ⟨ce172, hce172, hMe172, hcc172⟩ := Kd.N_get Zc.o [] d J (by first | exact L | exact zd | (have e_ := (Kd.N_reads' Zc.o).1; omega))
   obtain ⟨ua172_0, uc172_0, rfl, ul172_0, ge172_0⟩ := Kd.FK_slice_open hMe172
   have hv172_0 := hcc172 0 _ rfl
   rw [Nat.add_zero, show ((kZ 3 (fG .i64))).sz = 1 from rfl, Nat.mul_one] at hv172_0
   replace hv172_0 := fF (hv172_0.symm.trans hx172_0)
   injection hv172_0 with hva_ hvn_ hvc_
   rw [hva_] at ge172_0
   rw [hvc_] at ul172_0
   have Zg := zm (show Kd.V (fG .i64) 3 _ w.heap.size _ _ (dK c d) from nF ul172_0 ge172_0); clear hva_ hvn_ hvc_ ge172_0 ul172_0; clear hcc172 hce172; have Ze := zm hi172_0; have Zi := zm hl172_0; clear hi172_0 hl172_0; replace J := eq_true J; replace L := eq_true L
   go_wp2_with (first | ((with_reducible refine fJ (f := 60) rfl ?_); refine gU (some 17) rfl rfl Tryz.func60 (by kernel_rfl) rfl #[.slice c8 (dK c d).length c9] rfl zq ?_; (with_reducible refine (bK.calls k1 _ _ (dK c d) b _ ?_ ?_ f0.o).mono ?_); (focus repeat (first | exact (by repeat (first | (with_reducible exact Ze.o) | (with_reducible refine mM ?_ _) | (with_reducible refine mN ?_ _) | (with_reducible refine mH ?_) | exact Ze.o)) | (with_reducible refine mM ?_ _) | (with_reducible refine mN ?_ _) | (with_reducible refine mH ?_))); exact Zi.o; rintro e g3 ⟨g0, rfl, G, hb⟩; refine ⟨_, rfl, ?_⟩; refine zG7 (Kd.R_elder' (zg_6 Zd.o) (fH G) hb) (Kd.N_elder' (zg_4 Zc.o) (fH G) hb) (oE (zg_0 Zg.o) (fH G) hb) (fL (Kd.R_new' G (Kd.R_lt (zg_6 Zd.o))) (eV (zg_2 HB.o Zb.o))) (fB (g := i) (o := .cells #[.slice s j.length u, .slice x l.length y, .slice z m.length A, .slice B n.length D] 31 (0, 0)) (zg_3 Za.o) hb) (fE (by repeat (first | (with_reducible exact Ze.o) | (with_reducible refine mM ?_ _) | (with_reducible refine mN ?_ _) | (with_reducible refine mH ?_) | exact Ze.o)) hb) (eZ (zg_2 HB.o Zb.o) hb) ?_; clear Zd Zc Zg Za Ze HB; intro Zd Zc Zg Zl Za Ze HB; (try clear hb); (try clear hb2); (try clear hk); (try clear hi); (try clear G); obtain ⟨Z, M, rfl⟩ := fA Zl.o))
   go_loopg [19] k1 (fun kq f1 w' => ∃ (q : List Int) (a : Int), f1 = .int .i64 a ∧ Aside0 (aI.l1 kq q c (c.length : Int) d b (b.length : Int) a = some r) ∧ Aside0 (kq ≤ k1) ∧ Aside0 (Kd.R (fG .i64) 3 w' w.heap.size (fun k_ => some k_ ≠ ob ((.slice Z b.length M))) F q) ∧ Aside0 (Kd.N (kZ 3 (fG .i64)) 23 w' w.heap.size (fun k_ => some k_ ≠ ob F ∧ some k_ ≠ ob ((.slice Z b.length M)) ∧ k_ ≠ i) (.slice (some d7) c.length e2) c) ∧ Aside0 (Kd.R (fG .i64) 3 w' w.heap.size (fun k_ => some k_ ≠ ob F) (.slice Z b.length M) b) ∧ Aside0 (w'.heap[i]? = some (.cells #[(.slice s j.length u), (.slice x l.length y), (.slice z m.length A), (.slice B n.length D)] 31 (0, 0))) ∧ Aside0 (Below w.heap.size w w'))
   case atStart => exact ⟨(U), (0), zr, H', ⟨fQ _⟩, ⟨by (with_reducible repeat (first | apply fY | apply fZ | apply fK)); exact eX Zd.o (fun _ hk => hk.2)⟩, ⟨by (with_reducible repeat (first | apply kR | apply kS | apply jR)); exact fN Zc.o (fun _ hk => ⟨hk.1.1, ⟨hk.2, hk.1.2⟩⟩)⟩, ⟨by (with_reducible repeat (first | apply fY | apply fZ | apply fK)); exact eX Zl.o (fun _ hk => hk.2)⟩, ⟨zl Za.o⟩, ⟨zg_2 HB.o Zb.o⟩⟩
   case round =>
    clear H'
    try clear c1
    try clear p1
    try clear q1
    try clear hx1
    try clear c2
    try clear b9
    try clear c0
    try clear p2
    try clear c5
    try clear c6
    try clear I
    try clear b5
    try clear g4
    try clear d5
    try clear c4
    try clear d6
    try clear hx172_0
    try clear J
    try clear p2
    try clear L
    obtain ⟨q, a, rfl, HA, b6, Zd, Zc, Zh, Za, HB⟩ := hrel
    cases gk with
    | zero => exact absurd HA.o (by simp [aI.l1])
    | succ k2 =>
     have H := HA.o; clear HA
     simp only [aI.l1] at H
     by_cases S : a < (b.length : Int)
     rotate_left
     ·rw [if_neg S] at H
      have d8 := decide_eq_false S; clear S
      have H' := zm H
      clear H
      go_wp2
      go_roundg k2
      case measure => have := b4.o; have := b6.o; omega
      case rel => exact ⟨(q), (wrap64 (d + 1)), zr, H', ⟨by have := b4.o; have := b6.o; omega⟩, ⟨by (with_reducible repeat (first | apply fY | apply fZ | apply fK)); exact eX Zd.o (fun _ hk => trivial)⟩, ⟨by (with_reducible repeat (first | apply kR | apply kS | apply jR)); exact fN Zc.o (fun _ hk => ⟨hk.1, hk.2.2⟩)⟩, ⟨zl Za.o⟩, ⟨zg_2 HB.o Zb.o⟩⟩
     rw [if_pos S] at H; have d8 := decide_eq_true S; clear S
     replace H := zid H; obtain ⟨f2, H⟩ := H
     replace H := zid H; obtain ⟨f3, H⟩ := H
     replace H := zid H; obtain ⟨f4, H⟩ := H
     replace H := zid H; obtain ⟨f5, H⟩ := H
     obtain ⟨a0, X⟩ : ∃ y_ : List Int, y_ = (q.set ((rd b a) : Int).toNat (wrap64 ((rd q (rd b a)) + 1))) := ⟨_, rfl⟩
     replace H : (aI.l1 k2 a0 c (c.length : Int) d b (b.length : Int) (wrap64 (a + 1))) = some r := zy H X
     have d9 := zm X; clear X
     have H' := zm H
     clear H
     have a1 : 0 ≤ (a : Int) := zd
     have a2 : a < (b.length : Int) := zd
     obtain ⟨b7, e4, hx176_0⟩ := gY (Kd.R_reads' Zh.o).2.2 a a1 a2
     cases e4; replace a1 := eq_true a1; replace a2 := eq_true a2
     obtain ⟨g1, O, e5⟩ := fA Zd.o
     subst e5
     have a3 : 0 ≤ ((rd b a) : Int) := zd
     have a4 : (rd b a) < (q.length : Int) := zd
     obtain ⟨f6, e6, hx177_0⟩ := gY (Kd.R_reads' Zd.o).2.2 (rd b a) a3 a4
     cases e6; replace a3 := eq_true a3; replace a4 := eq_true a4
     have d0 : 0 ≤ ((rd b a) : Int) := zd
     have d1 : ((rd b a) : Int) < ((q.length : Int) : Int) := zd
     obtain ⟨E, g2, d2, d3, gl21, cl21, HG21⟩ := Kd.R_form Zd.o (by omega)
     (first | cases d2 | (injection d2 with ea_ en_ ec_; (first | subst ea_ | (injection ea_ with ea_; subst ea_)); subst ec_; clear en_))
     have GB21 := zm d3; have Zv := zm HG21; clear d3 gl21 HG21
     (first | simp only [add_plain] at hx177_0 | skip)
     obtain ⟨hx21_0, hf21_0⟩ := Kd.R_celln 0 Zd.o ((rd b a) : Int) d0 d1
     replace d0 := eq_true d0; replace d1 := eq_true d1; have Zm := Kd.R_putg Zd.o ((rd b a) : Int) (wrap64 ((rd q (rd b a)) + 1))
     go_wp2_with (first | ((with_reducible refine gate_store (t := 3) (p := 28) rfl ?_); refine zst (w1 := (wr.setCell ⟨E, ((rd b a) : Int).toNat, none⟩ (.int .i64 (wrap64 ((rd q (rd b a)) + 1))))) rfl rfl rfl zh ?_; intro d4 hw; have hg : wr.grownBy d4 (some E) := (by rw [hw]; exact Zm.2); have hp_ : Kd.R (fG .i64) 3 d4 w.heap.size (fun k_ => some k_ ≠ ob (.slice (some b7) b.length M)) (.slice (some ⟨E, 0, none⟩) q.length O) a0 := (by rw [hw, d9.o]; exact Zm.1); clear Zm; refine zG5 (hp_) (Kd.N_afterv (v := (.slice (some ⟨E, 0, none⟩) q.length O)) (v1 := (.slice (some ⟨E, 0, none⟩) q.length O)) (ok := (fun k_ => some k_ ≠ ob (.slice (some b7) b.length M) ∧ k_ ≠ i)) (by (with_reducible repeat (first | apply kR | apply kS | apply jR)); exact fN Zc.o (fun _ hk => ⟨⟨hk.2.1, hk.2.2⟩, hk.1⟩)) hg (.inl rfl)) (Kd.R_after (v := (.slice (some ⟨E, 0, none⟩) q.length O)) (v1 := (.slice (some ⟨E, 0, none⟩) q.length O)) (ok := (fun _ => True)) (by (with_reducible repeat (first | apply fY | apply fZ | apply fK)); exact eX Zh.o (fun _ hk => ⟨trivial, hk⟩)) hg (.inl rfl)) (gW (g := i) (o := .cells #[.slice s j.length u, .slice x l.length y, .slice z m.length A, .slice B n.length D] 31 (0, 0)) (zg_3 Za.o) hg (gJ Zd.o Za.o (by decide))) ((by rw [hw]; exact iG (HB.o) GB21.o : Below w.heap.size w d4)) ?_; clear Zd Zc Zh Za HB; intro Zd Zc Zh Za HB; clear hg hw hp_))
     go_roundg k2
     case measure => have := b4.o; have := b6.o; omega
     case rel => exact ⟨(a0), (wrap64 (a + 1)), zr, H', ⟨by have := b4.o; have := b6.o; omega⟩, ⟨zlR Zd.o⟩, ⟨by (with_reducible repeat (first | apply kR | apply kS | apply jR)); exact fN Zc.o (fun _ hk => ⟨hk.2, ⟨hk.1.1, hk.1.2⟩⟩)⟩, ⟨by (with_reducible repeat (first | apply fY | apply fZ | apply fK)); exact eX Zh.o (fun _ hk => hk.2)⟩, ⟨zl Za.o⟩, ⟨zg_2 HB.o Zb.o⟩⟩
theorem clos53 {α : Type} {d : Kd α} {val : List Value → Value} {F : FuncId} {p : α → Option Bool} (hF : Asks1 F d val p) (a : Addr) (x : α) (cs : List Value) (v : Value) (hv : val cs = v) (r : Bool) (w : World) (hK : d.K w x cs) (hc : w.cell? a = some (.func (.func F) #[] #[])) (h : p x = some r) :
    Calls fM 82 #[v, .pointer (some a)] w fun e w' => e = .returned (.bool !r) ∧ Below w.heap.size w w' := by
  obtain ⟨⟨fn, h1, h2, h3⟩, hF⟩ := hF
  have h0 := hF x cs r w hK h
  rw [hv] at h0
  have H := zm h0; have H1 := zm h1; have H2 := zm h2; have H3 := zm h3; clear hF h h1 h2 h3 hK h0 hv
  go_enter Tryz.func82, Tryz.ntmps82
  go_wp2_with (first | ((with_reducible refine fP (N := 6) rfl ?_); refine Stop.out ?_))
  refine ⟨?_⟩
  refine goesV (some 6) rfl rfl H1.o H2.o H3.o #[v] rfl (cap := #[]) ?hx ?hargs ?_
  case hx => rfl
  case hargs => simp [lY]
  refine H.o.mono ?_
  rintro e w1 ⟨rfl, hb⟩
  refine ⟨_, rfl, ?_⟩
  have HB := zm hb; clear hb
  go_wp2
  go_ret
  exact ⟨rfl, HB.o⟩
set_option maxHeartbeats 1000000 in
set_option maxRecDepth 100000 in
theorem idx53 {F : FuncId} {p : (List Int) → Option Bool} (hF : Asks1 F (kZ 3 (fG .i64)) (fun cs => cs.headD undef) p) (A0 : Option Addr) (c0 : Nat) (l0 : List (List Int)) (a : Addr) (r : Bool) (w : World) (hr0 : Kd.C (kZ 3 (fG .i64)) w A0 l0.length l0) (hc0 : l0.length ≤ c0)
    (hcl : w.cell? a = some (.func (.func F) #[] #[])) (h : allO p l0 = some r) :
    Calls fM 98 #[.slice A0 l0.length c0, .func (.func 82) #[] #[.pointer (some a)]] w (IdxPost r w) := by
 have hlen : l0.length ≤ 9223372036854775807 := hr0.2.1
 have HR0 := zm hr0; have HCL := zm hcl; have HF := zm hF
 have H' := zm h
 have HB := zm (fX w.heap.size w); clear hr0 hcl hF h
 go_enter Tryz.func98, Tryz.ntmps98
 go_wp2
 go_loopg [8] (l0.length + 1) (fun kq v8 w' => ∃ k : Nat, v8 = .int .i64 (k : Int) ∧ Aside0 (kq + k = l0.length + 1 ∧ k ≤ l0.length) ∧ Aside0 (allO p (l0.drop k) = some r) ∧ Aside0 (Below w.heap.size w w'))
 case atStart => exact ⟨0, rfl, ⟨by omega, by omega⟩, H', HB⟩
 case round =>
  clear H' HB
  obtain ⟨k, rfl, HK, HA, HB⟩ := hrel
  cases gk with
  | zero =>
   have hk := HK.o
   omega
  | succ k1 =>
   by_cases hlt : k < l0.length
   ·have q1 : (k : Int) < (l0.length : Int) := by omega
    have p1 : 0 ≤ (k : Int) := by omega
    obtain ⟨ad, A1, c1, ea, hx, l1, g1⟩ := at_L2 HR0.o (k : Int) p1 q1
    cases ea
    simp only [iX] at hx
    replace hx := (HB.o.cell (eU w _ hx)).trans hx; have HKK := zm (show (kZ 3 (fG .i64)).K w (dK l0 k) [.slice A1 (dK l0 k).length c1] from ⟨A1, c1, rfl, l1, g1⟩); clear l1 g1
    have HX := zm (show ∃ b, p (dK l0 k) = some b ∧ (if b = true then allO p (l0.drop (k+1)) else some false) = some r from by
     have := HA.o
     rw [hP hlt] at this
     simp only [allO] at this
     obtain ⟨b, hb, h2⟩ := eW.1 this
     refine ⟨b, ?_, h2⟩
     rw [← hb]; congr 1; simp [dK, hlt])
    obtain ⟨b, hb, h2⟩ := HX.o
    have HPB := zm hb; have H2 := zm h2; have HCL2 := zm ((HB.o.cell (eU w _ HCL.o)).trans HCL.o); clear HX hb h2 q1 p1 HA
    cases b with
    | true =>
     go_wp2_with (first | ((with_reducible refine fP (N := 16) rfl ?_); refine goesV (some 16) rfl rfl Tryz.func82 (by kernel_rfl) rfl #[.slice A1 (dK l0 k).length c1, .pointer (some a)] rfl (cap := #[.pointer (some a)]) ?hx ?hargs ?_; (case hx => rfl); (case hargs => simp [lY]); refine (clos53 HF.o a _ [.slice A1 (dK l0 k).length c1] _ rfl _ _ (nH _ HB.o HKK.o) HCL2.o HPB.o).mono ?_; rintro e w2 ⟨rfl, hb⟩; refine ⟨_, rfl, ?_⟩; have HB2 := zm (HB.o.trans (hb.mono HB.o.size)); clear hb))
     go_roundg k1
     case measure => omega
     case rel => exact ⟨k + 1, by simp, ⟨by have := HK.o; omega, by have := HK.o; omega⟩, ⟨by simpa using H2.o⟩, HB2⟩
    | false =>
     go_wp2_with (first | ((with_reducible refine fP (N := 16) rfl ?_); refine goesV (some 16) rfl rfl Tryz.func82 (by kernel_rfl) rfl #[.slice A1 (dK l0 k).length c1, .pointer (some a)] rfl (cap := #[.pointer (some a)]) ?hx ?hargs ?_; (case hx => rfl); (case hargs => simp [lY]); refine (clos53 HF.o a _ [.slice A1 (dK l0 k).length c1] _ rfl _ _ (nH _ HB.o HKK.o) HCL2.o HPB.o).mono ?_; rintro e w2 ⟨rfl, hb⟩; refine ⟨_, rfl, ?_⟩; have HB2 := zm (HB.o.trans (hb.mono HB.o.size)); clear hb))
     go_ret
     have hr : r = false := by have := H2.o; simpa using this.symm
     exact ⟨k, rfl, by rw [hr]; simp, HB2.o⟩
   ·have hge : l0.length ≤ k := by omega
    go_wp2
    go_ret
    have hr : r = true := by
     have := HA.o
     rw [iV hge] at this
     simpa [allO] using this.symm
    exact ⟨-1, rfl, by rw [hr]; decide, HB.o⟩
theorem cont53 {F : FuncId} {p : (List Int) → Option Bool} (hF : Asks1 F (kZ 3 (fG .i64)) (fun cs => cs.headD undef) p) (A0 : Option Addr) (c0 : Nat) (l0 : List (List Int)) (a : Addr) (r : Bool) (w : World) (hr0 : Kd.C (kZ 3 (fG .i64)) w A0 l0.length l0) (hc0 : l0.length ≤ c0)
 (hcl : w.cell? a = some (.func (.func F) #[] #[])) (h : allO p l0 = some r) :
 Calls fM 81 #[.slice A0 l0.length c0, .func (.func 82) #[] #[.pointer (some a)]] w fun e w' => e = .returned (.bool !r) ∧ Below w.heap.size w w' := by
 have H := zm (idx53 hF A0 c0 l0 a r w hr0 hc0 hcl h); clear hr0 hcl hF h
 go_enter Tryz.func81, Tryz.ntmps81
 go_wp2_with (go_at_call 98; (with_reducible refine H.o.mono ?_); rintro e w2 ⟨j, rfl, hj, hb⟩; have HJ := zm hj; have HB := zm hb; clear hj hb)
 go_ret
 exact ⟨by rw [← HJ.o]; rfl, HB.o⟩
theorem all53 {F : FuncId} {p : (List Int) → Option Bool} (hF : Asks1 F (kZ 3 (fG .i64)) (fun cs => cs.headD undef) p) (A0 : Option Addr) (c0 : Nat) (l0 : List (List Int)) (r : Bool) (w : World) (hr0 : Kd.C (kZ 3 (fG .i64)) w A0 l0.length l0) (hc0 : l0.length ≤ c0)
 (h : allO p l0 = some r) :
 Calls fM 53 #[.slice A0 l0.length c0, .func (.func F) #[] #[]] w fun e w' => e = .returned (.bool r) ∧ Below w.heap.size w w' := by
 have hb1 : ∀ o, Below w.heap.size w (w.alloc o) := fun o => (fX _ _).alloc (fQ _) o
 have H := zm (cont53 hF A0 c0 l0 ⟨w.heap.size, 0, none⟩ r (w.alloc (.cells #[.func (.func F) #[] #[]] 72 (0, 0))) (fE hr0 (hb1 _)) hc0 (by go_simp) h); have HB0 := zm (hb1 (.cells #[.func (.func F) #[] #[]] 72 (0, 0))); clear hr0 hF h hb1
 go_enter Tryz.func53, Tryz.ntmps53
 go_wp2_with (go_at_call 81; (with_reducible refine H.o.mono ?_); rintro e w2 ⟨rfl, hb⟩; have HB := zm (HB0.o.trans (hb.mono HB0.o.size)); clear hb)
 go_ret
 exact ⟨by simp, HB.o⟩
theorem clos58 {α : Type} {d : Kd α} {val : List Value → Value} {F : FuncId} {p : α → Option Bool} (hF : Asks1 F d val p) (a : Addr) (x : α) (cs : List Value) (v : Value) (hv : val cs = v) (r : Bool) (w : World) (hK : d.K w x cs) (hc : w.cell? a = some (.func (.func F) #[] #[])) (h : p x = some r) :
    Calls fM 87 #[v, .pointer (some a)] w fun e w' => e = .returned (.bool !r) ∧ Below w.heap.size w w' := by
  obtain ⟨⟨fn, h1, h2, h3⟩, hF⟩ := hF
  have h0 := hF x cs r w hK h
  rw [hv] at h0
  have H := zm h0; have H1 := zm h1; have H2 := zm h2; have H3 := zm h3; clear hF h h1 h2 h3 hK h0 hv
  go_enter Tryz.func87, Tryz.ntmps87
  go_wp2_with (first | ((with_reducible refine fP (N := 6) rfl ?_); refine Stop.out ?_))
  refine ⟨?_⟩
  refine goesV (some 6) rfl rfl H1.o H2.o H3.o #[v] rfl (cap := #[]) ?hx ?hargs ?_
  case hx => rfl
  case hargs => simp [lY]
  refine H.o.mono ?_
  rintro e w1 ⟨rfl, hb⟩
  refine ⟨_, rfl, ?_⟩
  have HB := zm hb; clear hb
  go_wp2
  go_ret
  exact ⟨rfl, HB.o⟩
set_option maxHeartbeats 1000000 in
set_option maxRecDepth 100000 in
theorem idx58 {F : FuncId} {p : Int → Option Bool} (hF : Asks1 F (fG .i64) (fun cs => cs.headD undef) p) (A0 : Option Addr) (c0 : Nat) (l0 : List Int) (a : Addr) (r : Bool) (w : World) (hr0 : Kd.C (fG .i64) w A0 l0.length l0) (hc0 : l0.length ≤ c0)
    (hcl : w.cell? a = some (.func (.func F) #[] #[])) (h : allO p l0 = some r) :
    Calls fM 100 #[.slice A0 l0.length c0, .func (.func 87) #[] #[.pointer (some a)]] w (IdxPost r w) := by
 have hlen : l0.length ≤ 9223372036854775807 := hr0.2.1
 have HR0 := zm hr0; have HCL := zm hcl; have HF := zm hF
 have H' := zm h
 have HB := zm (fX w.heap.size w); clear hr0 hcl hF h
 go_enter Tryz.func100, Tryz.ntmps100
 go_wp2
 go_loopg [8] (l0.length + 1) (fun kq v8 w' => ∃ k : Nat, v8 = .int .i64 (k : Int) ∧ Aside0 (kq + k = l0.length + 1 ∧ k ≤ l0.length) ∧ Aside0 (allO p (l0.drop k) = some r) ∧ Aside0 (Below w.heap.size w w'))
 case atStart => exact ⟨0, rfl, ⟨by omega, by omega⟩, H', HB⟩
 case round =>
  clear H' HB
  obtain ⟨k, rfl, HK, HA, HB⟩ := hrel
  cases gk with
  | zero =>
   have hk := HK.o
   omega
  | succ k1 =>
   by_cases hlt : k < l0.length
   ·have q1 : (k : Int) < (l0.length : Int) := by omega
    have p1 : 0 ≤ (k : Int) := by omega
    obtain ⟨ad, ea, hx⟩ := gY HR0.o (k : Int) p1 q1
    cases ea
    rw [iX] at hx
    replace hx := (HB.o.cell (eU w _ hx)).trans hx; have HKK := zm (show (fG .i64).K w (rd l0 k) [.int .i64 (rd l0 k)] from rfl)
    have HX := zm (show ∃ b, p (rd l0 k) = some b ∧ (if b = true then allO p (l0.drop (k+1)) else some false) = some r from by
     have := HA.o
     rw [hP hlt] at this
     simp only [allO] at this
     obtain ⟨b, hb, h2⟩ := eW.1 this
     refine ⟨b, ?_, h2⟩
     rw [← hb]; congr 1; simp [rd, rdOf, hlt])
    obtain ⟨b, hb, h2⟩ := HX.o
    have HPB := zm hb; have H2 := zm h2; have HCL2 := zm ((HB.o.cell (eU w _ HCL.o)).trans HCL.o); clear HX hb h2 q1 p1 HA
    cases b with
    | true =>
     go_wp2_with (first | ((with_reducible refine fP (N := 16) rfl ?_); refine goesV (some 16) rfl rfl Tryz.func87 (by kernel_rfl) rfl #[.int .i64 (rd l0 k), .pointer (some a)] rfl (cap := #[.pointer (some a)]) ?hx ?hargs ?_; (case hx => rfl); (case hargs => simp [lY]); refine (clos58 HF.o a _ [.int .i64 (rd l0 k)] _ rfl _ _ (nH _ HB.o HKK.o) HCL2.o HPB.o).mono ?_; rintro e w2 ⟨rfl, hb⟩; refine ⟨_, rfl, ?_⟩; have HB2 := zm (HB.o.trans (hb.mono HB.o.size)); clear hb))
     go_roundg k1
     case measure => omega
     case rel => exact ⟨k + 1, by simp, ⟨by have := HK.o; omega, by have := HK.o; omega⟩, ⟨by simpa using H2.o⟩, HB2⟩
    | false =>
     go_wp2_with (first | ((with_reducible refine fP (N := 16) rfl ?_); refine goesV (some 16) rfl rfl Tryz.func87 (by kernel_rfl) rfl #[.int .i64 (rd l0 k), .pointer (some a)] rfl (cap := #[.pointer (some a)]) ?hx ?hargs ?_; (case hx => rfl); (case hargs => simp [lY]); refine (clos58 HF.o a _ [.int .i64 (rd l0 k)] _ rfl _ _ (nH _ HB.o HKK.o) HCL2.o HPB.o).mono ?_; rintro e w2 ⟨rfl, hb⟩; refine ⟨_, rfl, ?_⟩; have HB2 := zm (HB.o.trans (hb.mono HB.o.size)); clear hb))
     go_ret
     have hr : r = false := by have := H2.o; simpa using this.symm
     exact ⟨k, rfl, by rw [hr]; simp, HB2.o⟩
   ·have hge : l0.length ≤ k := by omega
    go_wp2
    go_ret
    have hr : r = true := by
     have := HA.o
     rw [iV hge] at this
     simpa [allO] using this.symm
    exact ⟨-1, rfl, by rw [hr]; decide, HB.o⟩
theorem cont58 {F : FuncId} {p : Int → Option Bool} (hF : Asks1 F (fG .i64) (fun cs => cs.headD undef) p) (A0 : Option Addr) (c0 : Nat) (l0 : List Int) (a : Addr) (r : Bool) (w : World) (hr0 : Kd.C (fG .i64) w A0 l0.length l0) (hc0 : l0.length ≤ c0)
 (hcl : w.cell? a = some (.func (.func F) #[] #[])) (h : allO p l0 = some r) :
 Calls fM 86 #[.slice A0 l0.length c0, .func (.func 87) #[] #[.pointer (some a)]] w fun e w' => e = .returned (.bool !r) ∧ Below w.heap.size w w' := by
 have H := zm (idx58 hF A0 c0 l0 a r w hr0 hc0 hcl h); clear hr0 hcl hF h
 go_enter Tryz.func86, Tryz.ntmps86
 go_wp2_with (go_at_call 100; (with_reducible refine H.o.mono ?_); rintro e w2 ⟨j, rfl, hj, hb⟩; have HJ := zm hj; have HB := zm hb; clear hj hb)
 go_ret
 exact ⟨by rw [← HJ.o]; rfl, HB.o⟩
theorem all58 {F : FuncId} {p : Int → Option Bool} (hF : Asks1 F (fG .i64) (fun cs => cs.headD undef) p) (A0 : Option Addr) (c0 : Nat) (l0 : List Int) (r : Bool) (w : World) (hr0 : Kd.C (fG .i64) w A0 l0.length l0) (hc0 : l0.length ≤ c0)
 (h : allO p l0 = some r) :
 Calls fM 58 #[.slice A0 l0.length c0, .func (.func F) #[] #[]] w fun e w' => e = .returned (.bool r) ∧ Below w.heap.size w w' := by
 have hb1 : ∀ o, Below w.heap.size w (w.alloc o) := fun o => (fX _ _).alloc (fQ _) o
 have H := zm (cont58 hF A0 c0 l0 ⟨w.heap.size, 0, none⟩ r (w.alloc (.cells #[.func (.func F) #[] #[]] 49 (0, 0))) (fE hr0 (hb1 _)) hc0 (by go_simp) h); have HB0 := zm (hb1 (.cells #[.func (.func F) #[] #[]] 49 (0, 0))); clear hr0 hF h hb1
 go_enter Tryz.func58, Tryz.ntmps58
 go_wp2_with (go_at_call 86; (with_reducible refine H.o.mono ?_); rintro e w2 ⟨rfl, hb⟩; have HB := zm (HB0.o.trans (hb.mono HB0.o.size)); clear hb)
 go_ret
 exact ⟨by simp, HB.o⟩
def cA.f (a0 : Int) (a1 : Int) (a2 : Int) : Option (Bool) := if a1 ≤ a0 then (some (decide (a0 ≤ a2))) else (some false)
set_option maxHeartbeats 8000000 in
set_option maxRecDepth 100000 in
theorem cA.calls (a0 : Int) (a1 : Int) (a2 : Int) (r : Bool) (w : World) (h : cA.f a0 a1 a2 = some r) :
    Calls fM 50 #[.int .i64 a0, .int .i64 a1, .int .i64 a2] w fun e w' => e = .returned (.bool r) ∧ Drawn0 w w' := by
  have H : (if a1 ≤ a0 then (some (decide (a0 ≤ a2))) else (some false)) = some r := h
  clear h
  by_cases a : a1 ≤ a0
  · rw [if_pos a] at H
    have b := decide_eq_true a; clear a; obtain rfl := fF H
    go_enter oH, Tryz.ntmps50
    go_wp2
    go_ret
    exact ⟨zr, by repeat (first | exact hJ _ | apply hM)⟩
  rw [if_neg a] at H; have b := decide_eq_false a; clear a; obtain rfl := fF H
  go_enter oH, Tryz.ntmps50
  go_wp2
  go_ret
  exact ⟨zr, by repeat (first | exact hJ _ | apply hM)⟩
def cW.f (a0 : Int) : Option (Bool) := (cA.f a0 0 25).bind fun t111 => (some t111)
set_option maxHeartbeats 8000000 in
set_option maxRecDepth 100000 in
theorem cW.calls (a0 : Int) (r : Bool) (w : World) (h : cW.f a0 = some r) :
    Calls fM 83 #[.int .i64 a0] w fun e w' => e = .returned (.bool r) ∧ Drawn0 w w' := by
  have H : ((cA.f a0 0 25).bind fun a => (some a)) = some r := h
  clear h; replace H := eW.mp H
  obtain ⟨a, b, H⟩ := H
  replace H : (some a) = some r := H
  have c := zm b; clear b; obtain rfl := fF H
  go_enter Tryz.func83, Tryz.ntmps83
  go_wp2_with (first | ((with_reducible refine fJ (f := 50) rfl ?_); refine gU (some 4) rfl rfl oH (by kernel_rfl) rfl #[.int .i64 a0, .int .i64 0, .int .i64 25] rfl zq ?_; (with_reducible refine (cA.calls a0 0 25 a _ c.o).mono ?_); rintro e w' ⟨rfl, ⟨nd, rfl⟩⟩; refine ⟨_, rfl, ?_⟩))
  go_ret
  exact ⟨zr, by repeat (first | exact hJ _ | apply hM)⟩
def cF.f (l0 : List Int) (_ : Unit) : Option Bool := allO (fun x => cW.f x) l0
theorem cF.asks : Asks1 83 (fG .i64) (fun cs => cs.headD undef) (fun x => cW.f x) := ⟨⟨_, Tryz.func83, by kernel_rfl, rfl⟩, fun x cs r w hK h => by
  cases hK
  exact (cW.calls x r w h).mono fun e w' hh => ⟨hh.1, hh.2.below⟩⟩
theorem cF.calls (b : Option Addr) (c : Nat) (a : List Int) (_u : Unit) (r : Bool) (w : World) (d : Kd.C (fG .i64) w b a.length a) (g : a.length ≤ c) (h : cF.f a () = some r) :
    Calls fM 58 #[.slice b a.length c, .func (.func 83) #[] #[]] w fun e w' => e = .returned (.bool r) ∧ Below w.heap.size w w' :=
  all58 (cF.asks) b c a r w d g h
def cS.f (l0 : List Int) : Option (Bool) := if (l0.length : Int) ≤ 12 then ((cF.f l0 ()).bind fun t124 => (some t124)) else (some false)
set_option maxHeartbeats 8000000 in
set_option maxRecDepth 100000 in
theorem cS.calls (m : Option Addr) (n : Nat) (a : List Int) (r : Bool) (w : World) (d : Kd.C (fG .i64) w m a.length a) (g : a.length ≤ n) (h : cS.f a = some r) :
    Calls fM 56 #[.slice m a.length n] w fun e w' => e = .returned (.bool r) ∧ Below w.heap.size w w' := by
  have o := zm d; have p := zm g; clear d g; have HB := zm (fX w.heap.size w); have H := h
  unfold cS.f at H
  clear h
  by_cases b : (a.length : Int) ≤ 12
  rotate_left
  · rw [if_neg b] at H
    have j := decide_eq_false b
    have l : decide (a.length ≤ 12) = false := decide_eq_false (by omega)
    clear b; obtain rfl := fF H
    go_enter Tryz.func56, Tryz.ntmps56
    go_wp2
    go_ret
    exact ⟨ze, by repeat (first | (with_reducible first | exact HB.o | apply gO | apply gB | apply gA) | exact HB.o)⟩
  rw [if_pos b] at H; have j := decide_eq_true b
  have l : decide (a.length ≤ 12) = true := decide_eq_true (by omega)
  clear b; replace H := eW.mp H
  obtain ⟨c, i, H⟩ := H
  replace H : (some c) = some r := H
  have q := zm i; clear i; obtain rfl := fF H
  go_enter Tryz.func56, Tryz.ntmps56
  go_wp2_with (first | (go_at_call 58; (with_reducible refine (cF.calls _ _ a () c _ ?_ ?_ q.o).mono ?_); exact zC o.o; exact p.o; rintro e s ⟨rfl, hb⟩; refine zG1 (eZ (by repeat (first | (with_reducible first | exact HB.o | apply gO | apply gB | apply gA) | exact HB.o)) hb) ?_; clear HB; intro HB; (try clear hb); (try clear hb2); (try clear hk); (try clear hi)))
  go_ret
  exact ⟨ze, by repeat (first | (with_reducible first | exact HB.o | apply gO | apply gB | apply gA) | exact HB.o)⟩
theorem dY {l : List Int} {inner : List Value} {w : World} {base : Nat} {ok : Nat → Prop} (h : Reps (Kd.M (fG .i64) w base ok) 1 l inner) : inner = l.map (nT .i64) := by
  obtain ⟨h1, h2⟩ := h
  refine List.ext_getElem (by rw [h1, iA, Nat.mul_one]) (fun j hj hj' => ?_)
  have hl : j < l.length := by rw [iA] at hj'; exact hj'
  have h3 : ((inner.drop (j * 1)).take 1) = [.int .i64 l[j]] := h2 j l[j] (mO hl)
  rw [Nat.mul_one, hP hj, List.take_succ_cons, List.take_zero] at h3
  rw [lW]
  injection h3
theorem eB {w : World} {base : Nat} {ok : Nat → Prop} {v : Value} {l : List Int} (h : Kd.R (fG .i64) 3 w base ok v l) : w.ownsRow base 3 1 v l.length (l.map (nT .i64)) := by
  obtain ⟨_, inner, ho, hr⟩ := h
  have := dY hr
  subst this; exact ho
theorem dZ {w w' : World} {g : Nat} {d : Array Int} (h : Sort.Holds (nT .i64) w g 0 d) (hb : Below w.heap.size w w') (hg : g < w.heap.size) : Sort.Holds (nT .i64) w' g 0 d := fun j hj => by
  obtain ⟨h1, h2⟩ := h j hj
  refine ⟨pw_cell_below hb h1, ?_⟩
  have := hb.block g hg
  unfold World.frozen? at h2 ⊢
  simpa [this] using h2
def bV (l : List Int) : List Int := l.mergeSort (fun x y => decide (x ≤ y))
def dG.f (k : Nat) (l0 : List Int) : Option Bool := (bK.f k l0).bind fun t => if t.length < 8796093022208 then some (((lB (bV t)).length : Int) == (t.length : Int)) else none
set_option maxHeartbeats 4000000 in
set_option maxRecDepth 100000 in
theorem dG.calls (k : Nat) (u : Option Addr) (z : Nat) (m : List Int) (r : Bool) (w : World) (B : Kd.C (fG .i64) w u m.length m) (E : m.length ≤ z) (h : dG.f k m = some r) :
    Calls fM 57 #[.slice u m.length z] w fun e w' => e = .returned (.bool r) ∧ Below w.heap.size w w' := by
 unfold dG.f at h
 obtain ⟨t, ht, h⟩ := eW.mp h
 have hlim : t.length < 8796093022208 := by
  by_cases c : t.length < 8796093022208
  ·exact c
  rw [if_neg c] at h; cases h
 rw [if_pos hlim] at h
 cases h
 have key : ∀ (a : World) (o : Value), Below w.heap.size w a → Kd.R (fG .i64) 3 a w.heap.size (fun _ => True) o t →
  ∃ b i, o = .slice b t.length i ∧ Calls fM 84 #[.slice b t.length i] a (fun e p => e = .returned (.tuple #[]) ∧ Below w.heap.size w p ∧ ∀ s, Below p.heap.size p s → Calls fM 85 #[.slice b t.length i] s (fun e w' => ∃ L N, e = .returned (.slice L (lB (bV t)).length N) ∧ Below w.heap.size w w')) := by
  intro a o hb1 hR
  have hown := eB hR
  obtain ⟨b, i, A⟩ := fA hR
  by_cases hn : t = []
  ·subst hn
   refine ⟨b, i, A, (kL fun D => AnyS.slices_Sort_int_none_alone Tryz.laysSortI D b i a).mono ?_⟩
   rintro e w' ⟨rfl, rfl⟩
   refine ⟨rfl, hb1, fun s hb3 => (kL fun D => AnyS.slices_Compact_int_empty_in Tryz.laysCompactI D b i s).mono ?_⟩
   rintro e w' ⟨rfl, rfl⟩
   exact ⟨b, i, by simp [bV, lB, Lib.compactUpTo], eZ hb1 hb3⟩
  have hpos : 0 < t.length := List.length_pos_iff.2 hn
  have hnn : o ≠ .slice none 0 0 := by rw [A]; intro e; injection e with _ J _; omega
  obtain ⟨g, cap, J, hbg, hgl, hncap, hcm, hlen, hH⟩ := Lib.holds_of_ownsRow hown hnn
  rw [J] at A
  injection A with T _ U
  subst T U J
  have hl2 : (bV t).length = t.length := by unfold bV; rw [List.length_mergeSort]
  have hsort := kL fun D => AnyS.slices_Sort_int_alone Tryz.laysSortI D g 0 cap t a hH hgl (by omega)
  refine ⟨_, _, rfl, hsort.mono ?_⟩
  rintro e p ⟨rfl, nn, os, rfl⟩
  refine ⟨rfl, hb1.grown (grownBy_sortedI _) hb1.size (fun j hj => by cases hj; exact hbg), fun s hb3 => ?_⟩
  have hsz : g < (Sort.grow (Sort.putRow (nT .i64) (Sort.ahead a nn) g 0 (bV t).toArray) os).heap.size := lZ hgl (grownBy_sortedI (n := nn) (os := os) _).size
  have hH2 : Sort.Holds (nT .i64) (Sort.grow (Sort.putRow (nT .i64) (Sort.ahead a nn) g 0 (bV t).toArray) os) g 0 (bV t).toArray :=
   Sort.holds_grow (nT .i64) _ os g 0 _ (by simpa [Sort.putRow, Sort.mapBlock, Sort.ahead] using hgl) (Sort.holds_putRow (nT .i64) _ g 0 _ _ (Sort.holds_ahead (nT .i64) a nn g 0 _ hH) (by simp [bV]))
  have hH3 := dZ hH2 hb3 hsz
  have hcomp := kL fun D => AnyS.slices_Compact_int_in Tryz.laysCompactI D g 0 cap (bV t) s hH3 (by rw [hl2]; omega) (by rw [hl2]; exact hncap)
  rw [hl2] at hcomp
  refine hcomp.mono ?_
  rintro e O ⟨rfl, q, rfl⟩
  exact ⟨_, _, rfl, Lib.below_putRow (eZ (hb1.grown (grownBy_sortedI _) hb1.size (fun j hj => by cases hj; exact hbg)) hb3) hbg⟩
 have F := zm B; have G := zm E; have HT := zm ht; have KEY := zm key; clear key ht B E
 go_enter Tryz.func57, Tryz.ntmps57
 go_wp2_with (first
  | (go_at_call 84; refine HS.o.mono ?_; rintro e p ⟨rfl, hB2, hC⟩; have V := zm hB2; have HC := zm hC; clear hB2 hC)
  | (go_at_call 85; refine (HC.o p (fX _ _)).mono ?_; rintro e O ⟨L, N, rfl, hB4⟩; have I := zm hB4; clear hB4)
  | (go_at_call 60; refine (bK.calls k u z m t O (fE F.o I.o) G.o HT.o).mono ?_; rintro e X ⟨Y, rfl, hR5, hB5⟩; obtain ⟨Z, c5, rfl⟩ := fA hR5; have S := zm hB5; clear hR5 hB5)
  | (go_at_call 60; refine (bK.calls k u z m t w F.o G.o HT.o).mono ?_; rintro e a ⟨o, rfl, hR, hB1⟩; obtain ⟨b, i, rfl, hS⟩ := KEY.o a o hB1 hR; have HS := zm hS; clear hS hR hB1))
 go_ret
 exact ⟨rfl, eZ I.o S.o⟩
def cI.f (k : Nat) (l0 : List Int) : Option (Bool) := (cS.f l0).bind fun t132 => (if t132 = true then ((dG.f k l0).bind fun t133 => (some t133)) else (some false))
set_option maxHeartbeats 8000000 in
set_option maxRecDepth 100000 in
theorem cI.calls (k : Nat) (g : Option Addr) (i : Nat) (a : List Int) (r : Bool) (w : World) (l : Kd.C (fG .i64) w g a.length a) (m : a.length ≤ i) (h : cI.f k a = some r) :
    Calls fM 55 #[.slice g a.length i] w fun e w' => e = .returned (.bool r) ∧ Below w.heap.size w w' := by
 have c := zm l; have d := zm m; clear l m; have HB := zm (fX w.heap.size w); have H := h
 unfold cI.f at H
 clear h; replace H := eW.mp H
 obtain ⟨p, n, H⟩ := H
 try dsimp only at H
 have q := zm n; clear n
 by_cases j : p = true
 rotate_left
 ·replace j := Bool.eq_false_iff.mpr j
  subst j
  replace H : (some false) = some r := by rw [if_neg (show ¬ (false = true) by decide)] at H; exact H
  obtain rfl := fF H
  go_enter Tryz.func55, Tryz.ntmps55
  go_wp2_with (first | ((with_reducible refine fJ (f := 56) rfl ?_); refine gU (some 4) rfl rfl Tryz.func56 (by kernel_rfl) rfl #[.slice g a.length i] rfl zq ?_; (with_reducible refine (cS.calls _ _ a false _ ?_ ?_ q.o).mono ?_); exact zC c.o; exact d.o; rintro e t ⟨rfl, hb⟩; refine ⟨_, rfl, ?_⟩; refine zG1 (eZ (zg_1 HB.o) hb) ?_; clear HB; intro HB; (try clear hb); (try clear hb2); (try clear hk); (try clear hi)))
  go_ret
  exact ⟨ze, zg_1 HB.o⟩
 subst j
 replace H : ((dG.f k a).bind fun b => (some b)) = some r := by rw [if_pos rfl] at H; exact H
 replace H := eW.mp H
 obtain ⟨b, o, H⟩ := H
 replace H : (some b) = some r := H
 have s := zm o; clear o; obtain rfl := fF H
 go_enter Tryz.func55, Tryz.ntmps55
 go_wp2_with (first | ((with_reducible refine fJ (f := 56) rfl ?_); refine gU (some 4) rfl rfl Tryz.func56 (by kernel_rfl) rfl #[.slice g a.length i] rfl zq ?_; (with_reducible refine (cS.calls _ _ a true _ ?_ ?_ q.o).mono ?_); exact zC c.o; exact d.o; rintro e u ⟨rfl, hb⟩; refine ⟨_, rfl, ?_⟩; refine zG1 (eZ (zg_1 HB.o) hb) ?_; clear HB; intro HB; (try clear hb); (try clear hb2); (try clear hk); (try clear hi)) | (go_at_call 57; (with_reducible refine (dG.calls k _ _ a b _ ?_ ?_ s.o).mono ?_); exact zC (fE c.o HB.o); exact d.o; rintro e v ⟨rfl, hb⟩; refine zG1 (eZ (zg_1 HB.o) hb) ?_; clear HB; intro HB; (try clear hb); (try clear hb2); (try clear hk); (try clear hi)))
 go_ret
 exact ⟨ze, zg_1 HB.o⟩
def bA.f (k : Nat) (l0 : List (List Int)) (_ : Unit) : Option Bool := allO (fun x => cI.f k x) l0
theorem bA.asks (k : Nat) : Asks1 55 (kZ 3 (fG .i64)) (fun cs => cs.headD undef) (fun x => cI.f k x) := ⟨⟨_, Tryz.func55, by kernel_rfl, rfl⟩, fun x cs r w hK h => by
  obtain ⟨A0, c0, rfl, l0, g0⟩ := hK
  exact (cI.calls k A0 c0 x r w g0 l0 h).mono fun e w' hh => ⟨hh.1, hh.2⟩⟩
theorem bA.calls (k : Nat) (b : Option Addr) (c : Nat) (a : List (List Int)) (_u : Unit) (r : Bool) (w : World) (d : Kd.C (kZ 3 (fG .i64)) w b a.length a) (g : a.length ≤ c) (h : bA.f k a () = some r) :
    Calls fM 53 #[.slice b a.length c, .func (.func 55) #[] #[]] w fun e w' => e = .returned (.bool r) ∧ Below w.heap.size w w' :=
  all53 (bA.asks k) b c a r w d g h
def cV.f (a0 : Int) : Option (Bool) := (cA.f a0 0 2147483647).bind fun t106 => (some t106)
set_option maxHeartbeats 8000000 in
set_option maxRecDepth 100000 in
theorem cV.calls (a0 : Int) (r : Bool) (w : World) (h : cV.f a0 = some r) :
    Calls fM 59 #[.int .i64 a0] w fun e w' => e = .returned (.bool r) ∧ Drawn0 w w' := by
  have H : ((cA.f a0 0 2147483647).bind fun a => (some a)) = some r := h
  clear h; replace H := eW.mp H
  obtain ⟨a, b, H⟩ := H
  replace H : (some a) = some r := H
  have c := zm b; clear b; obtain rfl := fF H
  go_enter Tryz.func59, Tryz.ntmps59
  go_wp2_with (first | ((with_reducible refine fJ (f := 50) rfl ?_); refine gU (some 4) rfl rfl oH (by kernel_rfl) rfl #[.int .i64 a0, .int .i64 0, .int .i64 2147483647] rfl zq ?_; (with_reducible refine (cA.calls a0 0 2147483647 a _ c.o).mono ?_); rintro e w' ⟨rfl, ⟨nd, rfl⟩⟩; refine ⟨_, rfl, ?_⟩))
  go_ret
  exact ⟨zr, by repeat (first | exact hJ _ | apply hM)⟩
def bF.f (l0 : List Int) (_ : Unit) : Option Bool := allO (fun x => cV.f x) l0
theorem bF.asks : Asks1 59 (fG .i64) (fun cs => cs.headD undef) (fun x => cV.f x) := ⟨⟨_, Tryz.func59, by kernel_rfl, rfl⟩, fun x cs r w hK h => by
  cases hK
  exact (cV.calls x r w h).mono fun e w' hh => ⟨hh.1, hh.2.below⟩⟩
theorem bF.calls (b : Option Addr) (c : Nat) (a : List Int) (_u : Unit) (r : Bool) (w : World) (d : Kd.C (fG .i64) w b a.length a) (g : a.length ≤ c) (h : bF.f a () = some r) :
    Calls fM 58 #[.slice b a.length c, .func (.func 59) #[] #[]] w fun e w' => e = .returned (.bool r) ∧ Below w.heap.size w w' :=
  all58 (bF.asks) b c a r w d g h
def aW.l0 : Nat → List ByteArray → List (S60) → Int → Int → Option (List ByteArray)
  | 0, _, _, _, _ => none
  | k + 1, x3, x8, x9, x10 => if x10 < x9 then (if 0 ≤ x10 then (if x10 < (x8.length : Int) then (if x3.length < 8796093022208 then (aW.l0 k (x3 ++ [(aH x8 x10).f0]) x8 x9 (wrap64 (x10 + 1))) else (none)) else (none)) else (none)) else (some x3)
def aW.f (k : Nat) (l0_0 : List Int) (l0_1 : List Int) (l0_2 : List (S60)) (l0_3 : List Int) : Option (List ByteArray) := aW.l0 k (([] : List ByteArray)) l0_2 (l0_2.length : Int) 0
set_option maxHeartbeats 8000000 in
set_option maxRecDepth 100000 in
theorem aW.calls (k : Nat) (m : Option Addr) (n : Nat) (i : List Int) (q : Option Addr) (s : Nat) (j : List Int) (A : Option Addr) (u : Nat) (a : List (S60)) (v : Option Addr) (x : Nat) (l : List Int) (r : List ByteArray) (w : World) (M : Kd.C (fG .i64) w m i.length i) (O : i.length ≤ n) (S : Kd.C (fG .i64) w q j.length j) (T : j.length ≤ s) (U : Kd.C k60 w A a.length a) (V : a.length ≤ u) (X : Kd.C (fG .i64) w v l.length l) (Y : l.length ≤ x) (h : aW.f k i j a l = some r) :
    Calls fM 52 #[.agg #[.slice m i.length n, .slice q j.length s, .slice A a.length u, .slice v l.length x]] w fun e w' => ∃ a4 : Value, e = .returned (a4) ∧ Kd.R gV 9 w' w.heap.size (fun _ => True) a4 r ∧ Below w.heap.size w w' := by
 have hu31 := fW; have hu60 := nE; have Zm := zm M; have Zn := zm O; clear M O; have Zo := zm S; have Zp := zm T; clear S T; have Zh := zm U; have Zq := zm V; clear U V; have Zr := zm X; have Zs := zm Y; clear X Y; have HB := zm (fX w.heap.size w)
 have H : (aW.l0 k (([] : List ByteArray)) a (a.length : Int) 0) = some r := h
 clear h
 obtain ⟨a1, D⟩ : ∃ y_ : List ByteArray, y_ = (([] : List ByteArray)) := ⟨_, rfl⟩
 replace H : (aW.l0 k a1 a (a.length : Int) 0) = some r := zy H D
 have Z := zm D; clear D
 have H' := zm H
 clear H
 go_enter Tryz.func52, Tryz.ntmps52
 go_wp2_with (first | ((with_reducible refine fP (N := 1) rfl ?_); refine fS zo (N := 1) zo (cs := #[.slice m i.length n, .slice q j.length s, .slice A a.length u, .slice v l.length x]) (t := 31) zh ?_; intro d hg w2 hbox hb; refine zG4 (eZ (zg_1 HB.o) hb) (hbox) ((by rw [hg]; exact (eV (zg_1 HB.o)) : w.heap.size ≤ d)) ((by rw [hg]; exact (eV (zg_1 HB.o)) : w.heap.size ≤ d)) ?_; clear HB; intro HB Za Zt Zb; clear hb hbox hg) | ((with_reducible refine fP (N := 6) rfl ?_); refine lT gV _ 9 ?hg (N := 6) ?hd (xs := ([] : List ByteArray)) (inner := []) (ok := fun _ => True) (okp := fun _ => True) ?hr ?hp (fun _ hk => hk) trivial (fX _ _) (fQ _) (by simp) ?_; (case hd => rfl); (case hg => rfl); (case hr => first | (go_simp; done) | (go_simp; rfl)); (case hp => exact (jD _ _)); intro b3 w3 F hb hg_ hnew_; clear hg_ hnew_; (first | rw [← Z.o] at F | (simp only [gX] at F; rw [← Z.o] at F)); refine zG3 (fL F (eV (zg_2 HB.o Zb.o))) (fB (g := d) (o := .cells #[.slice m i.length n, .slice q j.length s, .slice A a.length u, .slice v l.length x] 31 (0, 0)) (zg_3 Za.o) hb) (eZ (zg_2 HB.o Zb.o) hb) ?_; clear Za HB; intro Zi Za HB; clear hb F; obtain ⟨_, _, _, _, _, _, _, _⟩ := zb4 Za.o))
 go_loopg [3, 10] k (fun kq v3 a9 w' => ∃ (B : List ByteArray) (c : Int), a9 = .int .i64 c ∧ Aside0 (aW.l0 kq B a (a.length : Int) c = some r) ∧ Aside0 (kq ≤ k) ∧ Aside0 (Kd.R gV 9 w' w.heap.size (fun _ => True) v3 B) ∧ Aside0 (w'.heap[d]? = some (.cells #[(.slice m i.length n), (.slice q j.length s), (.slice A a.length u), (.slice v l.length x)] 31 (0, 0))) ∧ Aside0 (Below w.heap.size w w'))
 case atStart => exact ⟨(a1), (0), zr, H', ⟨fQ _⟩, ⟨zlR Zi.o⟩, ⟨zl Za.o⟩, ⟨zg_2 HB.o Zb.o⟩⟩
 case round =>
  clear H'
  try clear p2
  try clear c5
  obtain ⟨B, c, rfl, HA, a5, Ze, Za, HB⟩ := hrel
  cases gk with
  | zero => exact absurd HA.o (by simp [aW.l0])
  | succ k1 =>
   have H := HA.o; clear HA
   simp only [aW.l0] at H
   by_cases c6 : c < (a.length : Int)
   rotate_left
   ·rw [if_neg c6] at H
    have a6 := decide_eq_false c6; clear c6; obtain rfl := fF H
    go_wp2
    go_ret
    exact ⟨_, ze, by (with_reducible repeat (first | apply fY | apply fZ | apply fK)); exact Ze.o, zg_2 HB.o Zb.o⟩
   rw [if_pos c6] at H; have a6 := decide_eq_true c6; clear c6
   replace H := zid H; obtain ⟨b5, H⟩ := H
   replace H := zid H; obtain ⟨b6, H⟩ := H
   replace H := zif H; obtain ⟨c9, H⟩ := H; have a7 := zm c9; clear c9
   obtain ⟨a2, E⟩ : ∃ y_ : List ByteArray, y_ = (B ++ [(aH a c).f0]) := ⟨_, rfl⟩
   replace H : (aW.l0 k1 a2 a (a.length : Int) (wrap64 (c + 1))) = some r := zy H E
   have a3 := zm E; clear E
   have H' := zm H
   clear H
   have J : 0 ≤ (c : Int) := zd
   have L : c < (a.length : Int) := zd
   obtain ⟨z, G, I, a8, hx140_0, hx140_1, hl140_1, hi140_1⟩ := at_T60 Zh.o c J L
   cases a8; replace hx140_0 := (HB.o.cell (eU w _ hx140_0)).trans hx140_0; replace hx140_1 := (HB.o.cell (eU w _ hx140_1)).trans hx140_1; have Zk := zm hi140_1; have Zl := zm hl140_1; clear hi140_1 hl140_1; replace J := eq_true J; replace L := eq_true L
   go_wp2_with (first | ((with_reducible refine fP (N := 5) rfl ?_); refine fS zo (N := 5) zo (cs := #[.string (⟨#[]⟩ : ByteArray), .slice none 0 0]) (t := 60) zh ?_; intro y hg b8 hbox hb; refine zG8 (Kd.R_below (zg_6 Ze.o) hb) (fB (g := d) (o := .cells #[.slice m i.length n, .slice q j.length s, .slice (some z) a.length u, .slice v l.length x] 31 (0, 0)) (zg_3 Za.o) hb) (eZ (zg_2 HB.o Zb.o) hb) (hbox) ((by rw [hg]; exact (eV (zg_2 HB.o Zb.o)) : w.heap.size ≤ y)) ((by rw [hg]; exact (eV (zg_2 HB.o Zb.o)) : w.heap.size ≤ y)) ((by rw [hg]; exact gN (blk_lt (g := d) (o := .cells #[.slice m i.length n, .slice q j.length s, .slice (some z) a.length u, .slice v l.length x] 31 (0, 0)) (zg_3 Za.o)) : d ≠ y)) ((by rw [hg]; exact gT (blk_lt (g := d) (o := .cells #[.slice m i.length n, .slice q j.length s, .slice (some z) a.length u, .slice v l.length x] 31 (0, 0)) (zg_3 Za.o)) : y ≠ d)) ?_; clear Ze Za HB; intro Ze Za HB Zc Zu Zg Zd Zf; clear hb hbox hg; have b1 := Zf.o; have b2 := Zd.o; obtain ⟨_, _, _, _⟩ := zb2 Zc.o) | ((with_reducible refine kF (b := .append) (xs := #[.tmp 14, .tmp 17]) rfl ?_); at_builtin; refine Kd.R_append gV (w0 := w) w.heap.size rfl (.tmp 14) (.tmp 17) 33 9 (.string ⟨#[]⟩) 16 rfl kG info9 rfl (by decide) (by omega) u3 B ((aH a c).f0) [.string ((aH a c).f0)] (fun _ => True) (fun _ => False) rfl (by first | (go_simp; done) | (go_simp; rfl)) ?aP (fun _ hk => hk.elim) ?aF ?aO ?aB ?aS ?aL ?_; (case aP => exact rfl); (case aB => exact (zg_5 HB.o Zb.o Zg.o)); (case aF => exact (fun _ _ => trivial)); (case aO => exact (by (with_reducible repeat (first | apply fY | apply fZ | apply fK)); exact eX (fR (p := ⟨y, 1, none⟩) (fR (p := ⟨y, 0, none⟩) (Kd.R_types Ze.o Zc.o (by decide)) (fun _ hk => hk.2) (.string ((aH a c).f0))) (fun _ hk => hk.2) (.slice G ((aH a c).f1).length I)) (fun _ hk => trivial))); (case aS => exact (eV (zg_5 HB.o Zb.o Zg.o))); (case aL => have := a7.o; omega); intro b7 b9 ho hb hg hat; rw [← a3.o] at ho; refine zG4 (gW (g := d) (o := .cells #[.slice m i.length n, .slice q j.length s, .slice (some z) a.length u, .slice v l.length x] 31 (0, 0)) (zfr Za.o Zd.o) hg (gJ Ze.o Za.o (by decide))) (gW (g := y) (o := .cells #[.string ((aH a c).f0), .slice G ((aH a c).f1).length I] 60 (0, 0)) (zp2 Zc.o) hg (gJ Ze.o Zc.o (by decide))) (hb) (ho) ?_; clear Ze Za Zc HB; intro Za Zc HB Zj; clear ho hb hg hat))
   go_roundg k1
   case measure => have := a5.o; omega
   case rel => exact ⟨(a2), (wrap64 (c + 1)), zr, H', ⟨by have := a5.o; omega⟩, ⟨zlR Zj.o⟩, ⟨zl Za.o⟩, ⟨zg_5 HB.o Zb.o Zg.o⟩⟩
def dE.f (a0 : Int) : Option (Bool) := (cA.f a0 0 15).bind fun t110 => (some t110)
set_option maxHeartbeats 8000000 in
set_option maxRecDepth 100000 in
theorem dE.calls (a0 : Int) (r : Bool) (w : World) (h : dE.f a0 = some r) :
    Calls fM 80 #[.int .i64 a0] w fun e w' => e = .returned (.bool r) ∧ Drawn0 w w' := by
  have H : ((cA.f a0 0 15).bind fun a => (some a)) = some r := h
  clear h; replace H := eW.mp H
  obtain ⟨a, b, H⟩ := H
  replace H : (some a) = some r := H
  have c := zm b; clear b; obtain rfl := fF H
  go_enter Tryz.func80, Tryz.ntmps80
  go_wp2_with (first | ((with_reducible refine fJ (f := 50) rfl ?_); refine gU (some 4) rfl rfl oH (by kernel_rfl) rfl #[.int .i64 a0, .int .i64 0, .int .i64 15] rfl zq ?_; (with_reducible refine (cA.calls a0 0 15 a _ c.o).mono ?_); rintro e w' ⟨rfl, ⟨nd, rfl⟩⟩; refine ⟨_, rfl, ?_⟩))
  go_ret
  exact ⟨zr, by repeat (first | exact hJ _ | apply hM)⟩
def cG.f (l0 : List Int) (_ : Unit) : Option Bool := allO (fun x => dE.f x) l0
theorem cG.asks : Asks1 80 (fG .i64) (fun cs => cs.headD undef) (fun x => dE.f x) := ⟨⟨_, Tryz.func80, by kernel_rfl, rfl⟩, fun x cs r w hK h => by
  cases hK
  exact (dE.calls x r w h).mono fun e w' hh => ⟨hh.1, hh.2.below⟩⟩
theorem cG.calls (b : Option Addr) (c : Nat) (a : List Int) (_u : Unit) (r : Bool) (w : World) (d : Kd.C (fG .i64) w b a.length a) (g : a.length ≤ c) (h : cG.f a () = some r) :
    Calls fM 58 #[.slice b a.length c, .func (.func 80) #[] #[]] w fun e w' => e = .returned (.bool r) ∧ Below w.heap.size w w' :=
  all58 (cG.asks) b c a r w d g h
def cN.f (l0 : List Int) : Option (Bool) := if (l0.length : Int) = 24 then ((cG.f l0 ()).bind fun t135 => (some t135)) else (some false)
set_option maxHeartbeats 8000000 in
set_option maxRecDepth 100000 in
theorem cN.calls (m : Option Addr) (n : Nat) (a : List Int) (r : Bool) (w : World) (d : Kd.C (fG .i64) w m a.length a) (g : a.length ≤ n) (h : cN.f a = some r) :
    Calls fM 51 #[.slice m a.length n] w fun e w' => e = .returned (.bool r) ∧ Below w.heap.size w w' := by
  have o := zm d; have p := zm g; clear d g; have HB := zm (fX w.heap.size w); have H := h
  unfold cN.f at H
  clear h
  by_cases b : (a.length : Int) = 24
  rotate_left
  · rw [if_neg b] at H
    have j : ((a.length : Int) == 24) = false := beq_eq_false_iff_ne.mpr b
    have l : ((a.length : Int) != 24) = true := bne_iff_ne.mpr b
    obtain rfl := fF H
    go_enter nI, Tryz.ntmps51
    go_wp2
    go_ret
    exact ⟨ze, by repeat (first | (with_reducible first | exact HB.o | apply gO | apply gB | apply gA) | exact HB.o)⟩
  rw [if_pos b] at H
  have j : ((a.length : Int) == 24) = true := beq_iff_eq.mpr b
  have l : ((a.length : Int) != 24) = false := bne_eq_false_iff_eq.mpr b
  clear b; replace H := eW.mp H
  obtain ⟨c, i, H⟩ := H
  replace H : (some c) = some r := H
  have q := zm i; clear i; obtain rfl := fF H
  go_enter nI, Tryz.ntmps51
  go_wp2_with (first | (go_at_call 58; (with_reducible refine (cG.calls _ _ a () c _ ?_ ?_ q.o).mono ?_); exact zC o.o; exact p.o; rintro e s ⟨rfl, hb⟩; refine zG1 (eZ (by repeat (first | (with_reducible first | exact HB.o | apply gO | apply gB | apply gA) | exact HB.o)) hb) ?_; clear HB; intro HB; (try clear hb); (try clear hb2); (try clear hk); (try clear hi)))
  go_ret
  exact ⟨ze, by repeat (first | (with_reducible first | exact HB.o | apply gO | apply gB | apply gA) | exact HB.o)⟩
theorem clos70 {α : Type} {d : Kd α} {val : List Value → Value} {F : FuncId} {p : α → Option Bool} (hF : Asks1 F d val p) (a : Addr) (x : α) (cs : List Value) (v : Value) (hv : val cs = v) (r : Bool) (w : World) (hK : d.K w x cs) (hc : w.cell? a = some (.func (.func F) #[] #[])) (h : p x = some r) :
    Calls fM 92 #[v, .pointer (some a)] w fun e w' => e = .returned (.bool !r) ∧ Below w.heap.size w w' := by
  obtain ⟨⟨fn, h1, h2, h3⟩, hF⟩ := hF
  have h0 := hF x cs r w hK h
  rw [hv] at h0
  have H := zm h0; have H1 := zm h1; have H2 := zm h2; have H3 := zm h3; clear hF h h1 h2 h3 hK h0 hv
  go_enter Tryz.func92, Tryz.ntmps92
  go_wp2_with (first | ((with_reducible refine fP (N := 6) rfl ?_); refine Stop.out ?_))
  refine ⟨?_⟩
  refine goesV (some 6) rfl rfl H1.o H2.o H3.o #[v] rfl (cap := #[]) ?hx ?hargs ?_
  case hx => rfl
  case hargs => simp [lY]
  refine H.o.mono ?_
  rintro e w1 ⟨rfl, hb⟩
  refine ⟨_, rfl, ?_⟩
  have HB := zm hb; clear hb
  go_wp2
  go_ret
  exact ⟨rfl, HB.o⟩
set_option maxHeartbeats 1000000 in
set_option maxRecDepth 100000 in
theorem idx70 {F : FuncId} {p : ByteArray → Option Bool} (hF : Asks1 F gV (fun cs => cs.headD undef) p) (A0 : Option Addr) (c0 : Nat) (l0 : List ByteArray) (a : Addr) (r : Bool) (w : World) (hr0 : Kd.C gV w A0 l0.length l0) (hc0 : l0.length ≤ c0)
    (hcl : w.cell? a = some (.func (.func F) #[] #[])) (h : allO p l0 = some r) :
    Calls fM 112 #[.slice A0 l0.length c0, .func (.func 92) #[] #[.pointer (some a)]] w (IdxPost r w) := by
 have hlen : l0.length ≤ 9223372036854775807 := hr0.2.1
 have HR0 := zm hr0; have HCL := zm hcl; have HF := zm hF
 have H' := zm h
 have HB := zm (fX w.heap.size w); clear hr0 hcl hF h
 go_enter Tryz.func112, Tryz.ntmps112
 go_wp2
 go_loopg [8] (l0.length + 1) (fun kq v8 w' => ∃ k : Nat, v8 = .int .i64 (k : Int) ∧ Aside0 (kq + k = l0.length + 1 ∧ k ≤ l0.length) ∧ Aside0 (allO p (l0.drop k) = some r) ∧ Aside0 (Below w.heap.size w w'))
 case atStart => exact ⟨0, rfl, ⟨by omega, by omega⟩, H', HB⟩
 case round =>
  clear H' HB
  obtain ⟨k, rfl, HK, HA, HB⟩ := hrel
  cases gk with
  | zero =>
   have hk := HK.o
   omega
  | succ k1 =>
   by_cases hlt : k < l0.length
   ·have q1 : (k : Int) < (l0.length : Int) := by omega
    have p1 : 0 ≤ (k : Int) := by omega
    obtain ⟨ad, ea, hx⟩ := Kd.at_string HR0.o (k : Int) p1 q1
    cases ea
    rw [iX] at hx
    replace hx := (HB.o.cell (eU w _ hx)).trans hx; have HKK := zm (show gV.K w (rdOf iH l0 k) [.string (rdOf iH l0 k)] from rfl)
    have HX := zm (show ∃ b, p (rdOf iH l0 k) = some b ∧ (if b = true then allO p (l0.drop (k+1)) else some false) = some r from by
     have := HA.o
     rw [hP hlt] at this
     simp only [allO] at this
     obtain ⟨b, hb, h2⟩ := eW.1 this
     refine ⟨b, ?_, h2⟩
     rw [← hb]; congr 1; simp [rd, rdOf, hlt])
    obtain ⟨b, hb, h2⟩ := HX.o
    have HPB := zm hb; have H2 := zm h2; have HCL2 := zm ((HB.o.cell (eU w _ HCL.o)).trans HCL.o); clear HX hb h2 q1 p1 HA
    cases b with
    | true =>
     go_wp2_with (first | ((with_reducible refine fP (N := 16) rfl ?_); refine goesV (some 16) rfl rfl Tryz.func92 (by kernel_rfl) rfl #[.string (rdOf iH l0 k), .pointer (some a)] rfl (cap := #[.pointer (some a)]) ?hx ?hargs ?_; (case hx => rfl); (case hargs => simp [lY]); refine (clos70 HF.o a _ [.string (rdOf iH l0 k)] _ rfl _ _ (nH _ HB.o HKK.o) HCL2.o HPB.o).mono ?_; rintro e w2 ⟨rfl, hb⟩; refine ⟨_, rfl, ?_⟩; have HB2 := zm (HB.o.trans (hb.mono HB.o.size)); clear hb))
     go_roundg k1
     case measure => omega
     case rel => exact ⟨k + 1, by simp, ⟨by have := HK.o; omega, by have := HK.o; omega⟩, ⟨by simpa using H2.o⟩, HB2⟩
    | false =>
     go_wp2_with (first | ((with_reducible refine fP (N := 16) rfl ?_); refine goesV (some 16) rfl rfl Tryz.func92 (by kernel_rfl) rfl #[.string (rdOf iH l0 k), .pointer (some a)] rfl (cap := #[.pointer (some a)]) ?hx ?hargs ?_; (case hx => rfl); (case hargs => simp [lY]); refine (clos70 HF.o a _ [.string (rdOf iH l0 k)] _ rfl _ _ (nH _ HB.o HKK.o) HCL2.o HPB.o).mono ?_; rintro e w2 ⟨rfl, hb⟩; refine ⟨_, rfl, ?_⟩; have HB2 := zm (HB.o.trans (hb.mono HB.o.size)); clear hb))
     go_ret
     have hr : r = false := by have := H2.o; simpa using this.symm
     exact ⟨k, rfl, by rw [hr]; simp, HB2.o⟩
   ·have hge : l0.length ≤ k := by omega
    go_wp2
    go_ret
    have hr : r = true := by
     have := HA.o
     rw [iV hge] at this
     simpa [allO] using this.symm
    exact ⟨-1, rfl, by rw [hr]; decide, HB.o⟩
theorem cont70 {F : FuncId} {p : ByteArray → Option Bool} (hF : Asks1 F gV (fun cs => cs.headD undef) p) (A0 : Option Addr) (c0 : Nat) (l0 : List ByteArray) (a : Addr) (r : Bool) (w : World) (hr0 : Kd.C gV w A0 l0.length l0) (hc0 : l0.length ≤ c0)
 (hcl : w.cell? a = some (.func (.func F) #[] #[])) (h : allO p l0 = some r) :
 Calls fM 91 #[.slice A0 l0.length c0, .func (.func 92) #[] #[.pointer (some a)]] w fun e w' => e = .returned (.bool !r) ∧ Below w.heap.size w w' := by
 have H := zm (idx70 hF A0 c0 l0 a r w hr0 hc0 hcl h); clear hr0 hcl hF h
 go_enter Tryz.func91, Tryz.ntmps91
 go_wp2_with (go_at_call 112; (with_reducible refine H.o.mono ?_); rintro e w2 ⟨j, rfl, hj, hb⟩; have HJ := zm hj; have HB := zm hb; clear hj hb)
 go_ret
 exact ⟨by rw [← HJ.o]; rfl, HB.o⟩
theorem all70 {F : FuncId} {p : ByteArray → Option Bool} (hF : Asks1 F gV (fun cs => cs.headD undef) p) (A0 : Option Addr) (c0 : Nat) (l0 : List ByteArray) (r : Bool) (w : World) (hr0 : Kd.C gV w A0 l0.length l0) (hc0 : l0.length ≤ c0)
 (h : allO p l0 = some r) :
 Calls fM 70 #[.slice A0 l0.length c0, .func (.func F) #[] #[]] w fun e w' => e = .returned (.bool r) ∧ Below w.heap.size w w' := by
 have hb1 : ∀ o, Below w.heap.size w (w.alloc o) := fun o => (fX _ _).alloc (fQ _) o
 have H := zm (cont70 hF A0 c0 l0 ⟨w.heap.size, 0, none⟩ r (w.alloc (.cells #[.func (.func F) #[] #[]] 77 (0, 0))) (fE hr0 (hb1 _)) hc0 (by go_simp) h); have HB0 := zm (hb1 (.cells #[.func (.func F) #[] #[]] 77 (0, 0))); clear hr0 hF h hb1
 go_enter Tryz.func70, Tryz.ntmps70
 go_wp2_with (go_at_call 91; (with_reducible refine H.o.mono ?_); rintro e w2 ⟨rfl, hb⟩; have HB := zm (HB0.o.trans (hb.mono HB0.o.size)); clear hb)
 go_ret
 exact ⟨by simp, HB.o⟩
def bM.l0 : Nat → ByteArray → Int → Int → Option (Bool)
  | 0, _, _, _ => none
  | k + 1, x0, x5, x6 => if x6 < x5 then (if 0 ≤ x6 then (if x6 < (x0.size : Int) then (if (bt x0 x6) < 97 then (some false) else (if (bt x0 x6) > 122 then (some false) else (bM.l0 k x0 x5 (wrap64 (x6 + 1))))) else (none)) else (none)) else ((cA.f (x0.size : Int) 1 6).bind fun t134 => (some t134))
def bM.f (k : Nat) (a0 : ByteArray) : Option (Bool) := bM.l0 k a0 (a0.size : Int) 0
set_option maxHeartbeats 8000000 in
set_option maxRecDepth 100000 in
theorem bM.calls (k : Nat) (a0 : ByteArray) (r : Bool) (w : World) (h : bM.f k a0 = some r) :
    Calls fM 71 #[.string a0] w fun e w' => e = .returned (.bool r) ∧ Drawn0 w w' := by
 have H : (bM.l0 k a0 (a0.size : Int) 0) = some r := h
 clear h
 have H' := zm H
 clear H
 go_enter Tryz.func71, Tryz.ntmps71
 go_wp2
 go_loopg [6] k (fun kq t w' => ∃ (a : Int), t = .int .i64 a ∧ Aside0 (bM.l0 kq a0 (a0.size : Int) a = some r) ∧ Aside0 (kq ≤ k) ∧ Drawn0 w w')
 case atStart => exact ⟨(0), zr, H', ⟨fQ _⟩, by repeat (first | exact hJ _ | apply hM)⟩
 case round =>
  clear H'
  obtain ⟨a, rfl, HA, n, ⟨m1, rfl⟩⟩ := hrel
  cases gk with
  | zero => exact absurd HA.o (by simp [bM.l0])
  | succ k1 =>
   have H := HA.o; clear HA
   simp only [bM.l0] at H
   by_cases d : a < (a0.size : Int)
   rotate_left
   ·rw [if_neg d] at H
    have p := decide_eq_false d; clear d; replace H := eW.mp H
    obtain ⟨j, o, H⟩ := H
    replace H : (some j) = some r := H
    have u := zm o; clear o; obtain rfl := fF H
    go_wp2_with (first | ((with_reducible refine fJ (f := 50) rfl ?_); refine gU (some 22) rfl rfl oH (by kernel_rfl) rfl #[.int .i64 (a0.size : Int), .int .i64 1, .int .i64 6] rfl zq ?_; (with_reducible refine (cA.calls (a0.size : Int) 1 6 j _ u.o).mono ?_); rintro e w' ⟨rfl, ⟨nd, rfl⟩⟩; refine ⟨_, rfl, ?_⟩))
    go_ret
    exact ⟨zr, by repeat (first | exact hJ _ | apply hM)⟩
   rw [if_pos d] at H; have p := decide_eq_true d; clear d
   replace H := zid H; obtain ⟨v, H⟩ := H
   replace H := zid H; obtain ⟨x, H⟩ := H
   by_cases g : (bt a0 a) < 97
   ·rw [if_pos g] at H
    have q := decide_eq_true g; clear g; obtain rfl := fF H
    have b : 0 ≤ (a : Int) := zd
    have c : a < (a0.size : Int) := zd
    have hx5 := bt_at a0 a; replace b := eq_true b; replace c := eq_true c
    go_wp2
    go_ret
    exact ⟨zr, by repeat (first | exact hJ _ | apply hM)⟩
   rw [if_neg g] at H; have q := decide_eq_false g; clear g
   by_cases i : (bt a0 a) > 122
   ·rw [if_pos i] at H
    have s := decide_eq_true i; clear i; obtain rfl := fF H
    have b : 0 ≤ (a : Int) := zd
    have c : a < (a0.size : Int) := zd
    have hx5 := bt_at a0 a; replace b := eq_true b; replace c := eq_true c
    have l : 0 ≤ (a : Int) := zd
    have m : a < (a0.size : Int) := zd
    have hx7 := bt_at a0 a; replace l := eq_true l; replace m := eq_true m
    go_wp2
    go_ret
    exact ⟨zr, by repeat (first | exact hJ _ | apply hM)⟩
   rw [if_neg i] at H; have s := decide_eq_false i; clear i
   have H' := zm H
   clear H
   have b : 0 ≤ (a : Int) := zd
   have c : a < (a0.size : Int) := zd
   have hx5 := bt_at a0 a; replace b := eq_true b; replace c := eq_true c
   have l : 0 ≤ (a : Int) := zd
   have m : a < (a0.size : Int) := zd
   have hx7 := bt_at a0 a; replace l := eq_true l; replace m := eq_true m
   go_wp2
   go_roundg k1
   case measure => have := n.o; omega
   case rel => exact ⟨(wrap64 (a + 1)), zr, H', ⟨by have := n.o; omega⟩, by repeat (first | exact hJ _ | apply hM)⟩
def cB.f (k : Nat) (l0 : List ByteArray) (_ : Unit) : Option Bool := allO (fun x => bM.f k x) l0
theorem cB.asks (k : Nat) : Asks1 71 gV (fun cs => cs.headD undef) (fun x => bM.f k x) := ⟨⟨_, Tryz.func71, by kernel_rfl, rfl⟩, fun x cs r w hK h => by
  cases hK
  exact (bM.calls k x r w h).mono fun e w' hh => ⟨hh.1, hh.2.below⟩⟩
theorem cB.calls (k : Nat) (b : Option Addr) (c : Nat) (a : List ByteArray) (_u : Unit) (r : Bool) (w : World) (d : Kd.C gV w b a.length a) (g : a.length ≤ c) (h : cB.f k a () = some r) :
    Calls fM 70 #[.slice b a.length c, .func (.func 71) #[] #[]] w fun e w' => e = .returned (.bool r) ∧ Below w.heap.size w w' :=
  all70 (cB.asks k) b c a r w d g h
def bL.f (l0 : List ByteArray) : Option (List ByteArray) := if l0.length < 8796093022208 then some l0 else none
set_option maxHeartbeats 1000000 in
set_option maxRecDepth 100000 in
theorem bL.calls (j : Option Addr) (l : Nat) (c : List ByteArray) (r : List ByteArray) (w : World) (i : Kd.C gV w j c.length c) (p : c.length ≤ l) (h : bL.f c = some r) :
    Calls fM 68 #[.slice j c.length l] w fun e w' => ∃ v : Value, e = .returned v ∧ Kd.R gV 9 w' w.heap.size (fun _ => True) v r ∧ Below w.heap.size w w' := by
  have hlim : c.length < 8796093022208 := by
    unfold bL.f at h; split at h
    · assumption
    · cases h
  have hres : c = r := by unfold bL.f at h; rw [if_pos hlim] at h; exact fF h
  subst hres; have d := zm i; have HB := zm (fX w.heap.size w); have LM := zm hlim
  have heq := fun (wx : World) (a : Option Addr) => Lib.run_eql_slice_nil (P := fM) wx 33 9 a c.length l 0 0 kG
  clear i h hlim
  cases j with
  | none =>
    have hl : c = [] := by
      by_cases hn : 0 < c.length
      rotate_left
      · exact List.eq_nil_of_length_eq_zero (by omega)
      obtain ⟨ad, ha, _⟩ := d.o.2.2 hn
      cases ha
    subst hl
    simp only [List.length_nil] at heq
    clear d LM
    go_enter Tryz.func68, Tryz.ntmps68
    go_wp2
    go_ret
    exact ⟨_, rfl, Kd.R_nil _ _ _ _ _, HB.o⟩
  | some a =>
    go_enter Tryz.func68, Tryz.ntmps68
    go_wp2_with (first | ((with_reducible refine fP (N := 5) rfl ?_); refine lT gV _ 9 ?hg (N := 5) ?hd (xs := ([] : List ByteArray)) (inner := []) (ok := fun _ => True) (okp := fun _ => True) ?hr ?hp (fun _ hk => hk) trivial (fX _ _) (fQ _) (by simp) ?_; (case hd => rfl); (case hg => rfl); (case hr => first | (go_simp; done) | (go_simp; rfl)); (case hp => exact (jD _ _)); intro o q ho hb hg_ hnew_; clear hg_ hnew_; have HO := zm ho; have g := zm hb; clear ho hb) | ((with_reducible refine kF (b := .append) (xs := #[.tmp 5, .tmp 6]) rfl ?_); at_builtin; refine Kd.R_append_rows gV (w0 := w) w.heap.size rfl (.tmp 5) (.tmp 6) 33 9 (.string ⟨#[]⟩) 16 rfl kG info9 rfl (by decide) (by omega) o ([] : List ByteArray) c _ _ _ (fun _ => True) (fun _ => False) rfl rfl ?aO ?aR (fun _ _ h => h) (fun _ h => h.elim) ?aF ?aB ?aS ?aL ?_; (case aR => exact fE d.o g.o); (case aB => exact g.o); (case aF => exact (fun _ _ => trivial)); (case aO => exact HO.o); (case aS => exact (eV g.o)); (case aL => have := LM.o; simp; omega); intro s t ho hb hg hat; have m := zm ho; have n := zm hb; clear ho hb hg hat))
    go_ret
    exact ⟨_, rfl, by simpa using m.o, n.o⟩
theorem dN {l : List ByteArray} {inner : List Value} {w : World} {base : Nat} {ok : Nat → Prop} (h : Reps (Kd.M gV w base ok) 1 l inner) : inner = l.map Value.string := by
  obtain ⟨h1, h2⟩ := h
  refine List.ext_getElem (by rw [h1, iA, Nat.mul_one]) (fun j hj hj' => ?_)
  have hl : j < l.length := by rw [iA] at hj'; exact hj'
  have h3 : ((inner.drop (j * 1)).take 1) = [.string l[j]] := h2 j l[j] (mO hl)
  rw [Nat.mul_one, hP hj, List.take_succ_cons, List.take_zero] at h3
  rw [lW]
  injection h3
theorem dQ {w : World} {base : Nat} {ok : Nat → Prop} {v : Value} {l : List ByteArray} (h : Kd.R gV 9 w base ok v l) : w.ownsRow base 9 1 v l.length ((l.map (·.data.toList)).map encStr) := by
  rw [Lib.map_encStr]
  obtain ⟨_, inner, ho, hr⟩ := h
  have := dN hr
  subst this; exact ho
theorem dO {w w' : World} {g : Nat} {d : Array (List UInt8)} (h : Sort.Holds encStr w g 0 d) (hb : Below w.heap.size w w') (hg : g < w.heap.size) : Sort.Holds encStr w' g 0 d := fun j hj => by
  obtain ⟨h1, h2⟩ := h j hj
  refine ⟨pw_cell_below hb h1, ?_⟩
  have := hb.block g hg
  unfold World.frozen? at h2 ⊢
  simpa [this] using h2
def bN (l : List ByteArray) : List (List UInt8) := (l.map (·.data.toList)).mergeSort (fun x y => decide (x ≤ y))
def bZ.f (k : Nat) (l0 : List ByteArray) : Option Bool := if l0.length < 8796093022208 then (if (l0.length : Int) ≤ 3 then ((cB.f k l0 ()).bind fun t => if t = true then some (((lB (bN l0)).length : Int) == (l0.length : Int)) else some false) else some false) else none
set_option maxHeartbeats 4000000 in
set_option maxRecDepth 100000 in
theorem bZ.calls (k : Nat) (B : Option Addr) (E : Nat) (a : List ByteArray) (r : Bool) (w : World) (J : Kd.C gV w B a.length a) (L : a.length ≤ E) (h : bZ.f k a = some r) :
    Calls fM 42 #[.slice B a.length E] w fun e w' => e = .returned (.bool r) ∧ Below w.heap.size w w' := by
 unfold bZ.f at h
 have hlim : a.length < 8796093022208 := by
  by_cases c : a.length < 8796093022208
  ·exact c
  rw [if_neg c] at h; cases h
 rw [if_pos hlim] at h
 have hclone : bL.f a = some a := by unfold bL.f; exact if_pos hlim
 have key : ∀ (b : World) (o : Value), Below w.heap.size w b → Kd.R gV 9 b w.heap.size (fun _ => True) o a →
  ∃ i m, o = .slice i a.length m ∧ Calls fM 69 #[.slice i a.length m] b (fun e s => e = .returned (.tuple #[]) ∧ Below w.heap.size w s ∧ ∀ u, Below s.heap.size s u → Calls fM 72 #[.slice i a.length m] u (fun e w' => ∃ O S, e = .returned (.slice O (lB (bN a)).length S) ∧ Below w.heap.size w w')) := by
  intro b o hb1 hR
  have hown := dQ hR
  obtain ⟨i, m, G⟩ := fA hR
  by_cases hn : a = []
  ·subst hn
   refine ⟨i, m, G, (kL fun D => AnyS.slices_Sort_string_none_alone Tryz.laysSort D i m b).mono ?_⟩
   rintro e w' ⟨rfl, rfl⟩
   refine ⟨rfl, hb1, fun u hb3 => (kL fun D => AnyS.slices_Compact_string_empty_in Tryz.laysCompact D i m u).mono ?_⟩
   rintro e w' ⟨rfl, rfl⟩
   exact ⟨i, m, by simp [bN, lB, Lib.compactUpTo], eZ hb1 hb3⟩
  have hpos : 0 < a.length := List.length_pos_iff.2 hn
  have hnn : o ≠ .slice none 0 0 := by rw [G]; intro e; injection e with _ N _; omega
  obtain ⟨g, cap, N, hbg, hgl, hncap, hcm, hlen, hH⟩ := Lib.holds_of_ownsRow hown hnn
  rw [N] at G
  injection G with U _ V
  subst U V N
  have hl2 : (bN a).length = a.length := by unfold bN; rw [List.length_mergeSort, iA]
  have hsort := kL fun D => AnyS.slices_Sort_string_alone Tryz.laysSort D g 0 cap (a.map (·.data.toList)) b hH hgl (by rw [hlen]; omega)
  rw [hlen] at hsort
  refine ⟨_, _, rfl, hsort.mono ?_⟩
  rintro e s ⟨rfl, nn, os, rfl⟩
  refine ⟨rfl, hb1.grown (grownBy_sorted _) hb1.size (fun j hj => by cases hj; exact hbg), fun u hb3 => ?_⟩
  have hsz : g < (Sort.grow (Sort.putRow encStr (Sort.ahead b nn) g 0 (bN a).toArray) os).heap.size := lZ hgl (grownBy_sorted (n := nn) (os := os) _).size
  have hH2 : Sort.Holds encStr (Sort.grow (Sort.putRow encStr (Sort.ahead b nn) g 0 (bN a).toArray) os) g 0 (bN a).toArray :=
   Sort.holds_grow encStr _ os g 0 _ (by simpa [Sort.putRow, Sort.mapBlock, Sort.ahead] using hgl) (Sort.holds_putRow encStr _ g 0 _ _ (Sort.holds_ahead encStr b nn g 0 _ hH) (by simp [bN]))
  have hH3 := dO hH2 hb3 hsz
  have hcomp := kL fun D => AnyS.slices_Compact_string_in Tryz.laysCompact D g 0 cap (bN a) u hH3 (by rw [hl2]; omega) (by rw [hl2]; exact hncap)
  rw [hl2] at hcomp
  refine hcomp.mono ?_
  rintro e X ⟨rfl, q, rfl⟩
  exact ⟨_, _, rfl, Lib.below_putRow (eZ (hb1.grown (grownBy_sorted _) hb1.size (fun j hj => by cases hj; exact hbg)) hb3) hbg⟩
 have z := zm J; have A := zm L; have HCL := zm hclone; have KEY := zm key; clear key hclone J L
 by_cases I : (a.length : Int) ≤ 3
 rotate_left
 ·rw [if_neg I] at h
  cases h
  have hd : decide ((a.length : Int) ≤ 3) = false := decide_eq_false I
  go_enter Tryz.func42, Tryz.ntmps42
  go_wp2_with (first
   | (go_at_call 68; refine (bL.calls B E a a w z.o A.o HCL.o).mono ?_; rintro e b ⟨o, rfl, hR, hB1⟩; obtain ⟨i, m, rfl, hS⟩ := KEY.o b o hB1 hR; have HS := zm hS; clear hS hR hB1)
   | (go_at_call 69; refine HS.o.mono ?_; rintro e s ⟨rfl, hB2, hC⟩; have p := zm hB2; have HC := zm hC; clear hB2 hC))
  go_ret
  exact ⟨rfl, p.o⟩
 rw [if_pos I] at h
 obtain ⟨t, ht, h⟩ := eW.mp h
 have hd : decide ((a.length : Int) ≤ 3) = true := decide_eq_true I
 have HT := zm ht; clear ht
 cases t
 ·cases h
  go_enter Tryz.func42, Tryz.ntmps42
  go_wp2_with (first
   | (go_at_call 68; refine (bL.calls B E a a w z.o A.o HCL.o).mono ?_; rintro e b ⟨o, rfl, hR, hB1⟩; obtain ⟨i, m, rfl, hS⟩ := KEY.o b o hB1 hR; have HS := zm hS; clear hS hR hB1)
   | (go_at_call 69; refine HS.o.mono ?_; rintro e s ⟨rfl, hB2, hC⟩; have p := zm hB2; have HC := zm hC; clear hB2 hC)
   | (go_at_call 70; refine (cB.calls k B E a () false s (fE z.o p.o) A.o HT.o).mono ?_; rintro e u ⟨rfl, hB3⟩; have F := zm hB3; clear hB3))
  go_ret
  exact ⟨rfl, eZ p.o F.o⟩
 ·cases h
  go_enter Tryz.func42, Tryz.ntmps42
  go_wp2_with (first
   | (go_at_call 68; refine (bL.calls B E a a w z.o A.o HCL.o).mono ?_; rintro e b ⟨o, rfl, hR, hB1⟩; obtain ⟨i, m, rfl, hS⟩ := KEY.o b o hB1 hR; have HS := zm hS; clear hS hR hB1)
   | (go_at_call 69; refine HS.o.mono ?_; rintro e s ⟨rfl, hB2, hC⟩; have p := zm hB2; have HC := zm hC; clear hB2 hC)
   | (go_at_call 70; refine (cB.calls k B E a () true s (fE z.o p.o) A.o HT.o).mono ?_; rintro e u ⟨rfl, hB3⟩; have F := zm hB3; clear hB3)
   | (go_at_call 72; refine (HC.o u F.o).mono ?_; rintro e X ⟨O, S, rfl, hB4⟩; have T := zm hB4; clear hB4))
  go_ret
  exact ⟨rfl, T.o⟩
end Go.Proofs.YtniceoohmhjjlaaGreatDoor.Q
