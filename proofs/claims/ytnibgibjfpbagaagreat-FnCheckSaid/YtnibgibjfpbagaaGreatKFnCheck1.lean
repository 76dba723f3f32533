/- What laws.FnCheck reaches, part 1: the functions as Lean functions, the proofs that the program's functions answer so, and plain laws about them. -/
import Derived.Test.YtnibgibjfpbagaaGreatProg
import Derived.Test.YtnibgibjfpbagaaGreatVFnCheckExt
import Derived.Test.YtnibgibjfpbagaaGreatShelf
import Derived.Below
import Derived.Deep.Draws
import Derived.Deep.AppendLies
import Derived.Maps.AppendAt
import Derived.OwnWalk
import Derived.Laws.BytesArg
import Derived.Laws.MakeOwn
import Derived.Laws.OwnMore
import Derived.Deep.OwnRows
import Derived.Tactics
import Derived.Lib.ConvBytes
import Derived.Laws.Slices
import Derived.WalkKit
import Derived.KernelRfl
import Derived.RowKit3
import Derived.Deep.LoopGhost
import Derived.Deep.QuietTactic
import Derived.BigQuiet
import Derived.WideLaws
import Derived.Deep.DeepCutAuto
import Derived.Deep.CutBlock
import Derived.Deep.RegionHeld3
import Derived.Laws.Rows
import Derived.Lib.AppendStr
import Derived.ArgAppend
import Derived.Laws.IdiomCopy
import Derived.OrdersHeld
import Derived.Laws.BitsLemmas
import Derived.RowKit
import Derived.Test.YtnibgibjfpbagaaGreatVFnCheckWWords
import Derived.Test.YtnibgibjfpbagaaGreatVFnCheckWLast
import Derived.Test.YtnibgibjfpbagaaGreatVFnCheckWTab
import Derived.Test.YtnibgibjfpbagaaGreatVFnCheckWFour
import Derived.Test.YtnibgibjfpbagaaGreatVFnCheckWQPut
import Derived.Test.YtnibgibjfpbagaaGreatVFnCheckWApart
import Derived.Test.YtnibgibjfpbagaaGreatVFnCheckWArr
import Derived.Test.YtnibgibjfpbagaaGreatVFnCheckWZeros
import Derived.Test.YtnibgibjfpbagaaGreatVFnCheckWFoot
import Derived.Test.YtnibgibjfpbagaaGreatVFnCheckWKept
import Derived.Test.YtnibgibjfpbagaaGreatVFnCheckWShare
import Derived.Test.YtnibgibjfpbagaaGreatVFnCheckWN
import Derived.Test.YtnibgibjfpbagaaGreatVFnCheckWFootNe
import Derived.Test.YtnibgibjfpbagaaGreatVFnCheckWAt
import Derived.Test.YtnibgibjfpbagaaGreatVFnCheckWEqStruct
import Derived.Test.YtnibgibjfpbagaaGreatVFnCheckWRepsOne
import Derived.Test.YtnibgibjfpbagaaGreatVFnCheckWInv
import Derived.Test.YtnibgibjfpbagaaGreatVFnCheckWInvWords
import Derived.Test.YtnibgibjfpbagaaGreatVFnCheckWGuard
import Derived.Test.YtnibgibjfpbagaaGreatVFnCheckWNEv
import Derived.Test.YtnibgibjfpbagaaGreatVFnCheckWMore
namespace Go.Proofs.YtnibgibjfpbagaaGreat.Q
open Go.RowKit Go.Proofs.YtnibgibjfpbagaaGreat.Ext Go.Proofs.YtnibgibjfpbagaaGreatW.PrintWords Go.Proofs.YtnibgibjfpbagaaGreatW.PrintLast Go.Proofs.YtnibgibjfpbagaaGreatW.PrintMore
attribute [local go_sem] max2_int min2_int max_two min_two max_three min_three max_four min_four   -- for this text's walks alone
set_option linter.unusedVariables false
set_option linter.unusedSimpArgs false

set_option linter.unusedVariables false
set_option linter.unusedSimpArgs false
def errW : Option Int → Value
  | none => .nilIface
  | some c => .iface 0 (.int .i64 c)
theorem errW_none : errW none = .nilIface := rfl
theorem errW_some (c : Int) : errW (some c) = .iface 0 (.int .i64 c) := rfl

theorem info3 : (Tryz.prog.info? 3).map (fun i => (i.zero, i.size, i.bytes)) = some (some (.int .i64 0), 1, 8) := by kernel_rfl
theorem info9 : (Tryz.prog.info? 9).map (fun i => (i.zero, i.size, i.bytes)) = some (some (.string ⟨#[]⟩), 1, 16) := by kernel_rfl
theorem info23 : (Tryz.prog.info? 23).map (fun i => (i.zero, i.size, i.bytes)) = some (some (.slice none 0 0), 1, 24) := by kernel_rfl
theorem info66 : (Tryz.prog.info? 66).map (fun i => (i.zero, i.size, i.bytes)) = some (some (.agg #[(.string ⟨#[]⟩), (.slice none 0 0)]), 2, 40) := by kernel_rfl
-- the values' own types
def rd_L3 (xs : List (List Int)) (i : Int) : (List Int) := xs.getD i.toNat ([] : List Int)
theorem at_L3 {w : World} {A : Option Addr} {n : Nat} {xs : List (List Int)} (h : Kd.C (Kd.slice 3 (Kd.int .i64)) w A n xs) (i : Int) (h0 : 0 ≤ i) (h1 : i < n) : ∃ ad A0 c0, A = some ad ∧ w.cell? (ad.add i.toNat) = some (.slice A0 (rd_L3 xs i).length c0) ∧ (rd_L3 xs i).length ≤ c0 ∧ (Kd.int .i64).C w A0 (rd_L3 xs i).length (rd_L3 xs i) := by
  obtain ⟨ad, c, e, _, hK, hc0⟩ := Kd.C_get h ([] : List Int) i h0 h1
  have hc : ∀ j u, c[j]? = some u → w.cell? (ad.add (i.toNat * 1 + j)) = some u := hc0
  obtain ⟨A0, c0, rfl, l0, g0⟩ := hK
  exact ⟨ad, A0, c0, e, by have hq := hc 0 _ rfl; rwa [Nat.mul_one, Nat.add_zero] at hq, l0, g0⟩

structure S66 where
  f0 : ByteArray
  f1 : (List Int)
def z66 : S66 := ⟨(⟨#[]⟩ : ByteArray), ([] : List Int)⟩
def k66 : Kd S66 := Kd.iso (Kd.pair Kd.string (Kd.slice 3 (Kd.int .i64))) (fun x : S66 => (x.f0, x.f1))
theorem k66_heap : Kd.Heap k66 := Kd.heap_iso _ (Kd.heap_pair Kd.heap_string (Kd.heap_slice 3 (Kd.heap_int .i64)))
theorem k66_open {w : World} {x : S66} {cs : List Value} (h : k66.K w x cs) : ∃ A1 c1, cs = [.string x.f0, .slice A1 x.f1.length c1] ∧ x.f1.length ≤ c1 ∧ (Kd.int .i64).C w A1 x.f1.length x.f1 := by
  obtain ⟨_, _, rfl, rfl, ⟨A1, c1, rfl, l1, g1⟩⟩ := h
  exact ⟨A1, c1, rfl, l1, g1⟩
theorem k66_openM {w : World} {base : Nat} {ok : Nat → Prop} {x : S66} {cs : List Value} (h : k66.M w base ok x cs) : ∃ v1, cs = [.string x.f0, v1] ∧ (Kd.int .i64).R 3 w base ok v1 x.f1 := by
  obtain ⟨_, _, rfl, rfl, ⟨v1, rfl, g1⟩⟩ := h
  exact ⟨v1, rfl, g1⟩
theorem k66_mk (w : World) (x : S66) {A1 : Option Addr} {c1 : Nat} (l1 : x.f1.length ≤ c1) (g1 : (Kd.int .i64).C w A1 x.f1.length x.f1) : k66.K w x [.string x.f0, .slice A1 x.f1.length c1] := ⟨[.string x.f0], [.slice A1 x.f1.length c1], rfl, rfl, ⟨A1, c1, rfl, l1, g1⟩⟩
theorem k66_mkM (w : World) (base : Nat) (ok : Nat → Prop) (x : S66) {v1 : Value} (g1 : (Kd.int .i64).R 3 w base ok v1 x.f1) : k66.M w base ok x [.string x.f0, v1] := ⟨[.string x.f0], [v1], rfl, rfl, ⟨v1, rfl, g1⟩⟩
theorem k66_openF {W : World} {ok : Nat → Prop} {x : S66} {cs : List Value} (h : Kd.FK k66 W ok x cs) : ∃ A1 c1, cs = [.string x.f0, .slice A1 x.f1.length c1] ∧ x.f1.length ≤ c1 ∧ Kd.F (Kd.int .i64) W ok A1 x.f1.length x.f1 := by
  obtain ⟨A1, c1, rfl, l1, _⟩ := k66_open (Kd.FK_now h)
  exact ⟨A1, c1, rfl, l1, (fun W' hW => by obtain ⟨A1_, c1_, he, l1_, g1_⟩ := k66_open (h W' hW); injection (Option.some.inj (show some (Value.slice A1 x.f1.length c1) = some (Value.slice A1_ x.f1.length c1_) from congrArg (fun l => l[1]?) he)) with ha_ _ _; rw [ha_]; exact g1_)⟩
theorem k66_mkF (W : World) (ok : Nat → Prop) (x : S66) {A1 : Option Addr} {c1 : Nat} (l1 : x.f1.length ≤ c1) (g1 : Kd.F (Kd.int .i64) W ok A1 x.f1.length x.f1) : Kd.FK k66 W ok x [.string x.f0, .slice A1 x.f1.length c1] := fun W2 hW => k66_mk W2 x l1 (g1 W2 hW)
def rd_T66 (xs : List S66) (i : Int) : S66 := xs.getD i.toNat z66
theorem at_T66 {w : World} {A : Option Addr} {n : Nat} {xs : List S66} (h : Kd.C k66 w A n xs) (i : Int) (h0 : 0 ≤ i) (h1 : i < n) : ∃ ad A1 c1, A = some ad ∧ w.cell? (ad.add (i.toNat * 2)) = some (.string (rd_T66 xs i).f0) ∧ w.cell? ⟨(ad.add (i.toNat * 2)).block, (ad.add (i.toNat * 2)).off + 1, none⟩ = some (.slice A1 (rd_T66 xs i).f1.length c1) ∧ (rd_T66 xs i).f1.length ≤ c1 ∧ (Kd.int .i64).C w A1 (rd_T66 xs i).f1.length (rd_T66 xs i).f1 := by
  obtain ⟨ad, c, e, _, hK, hc0⟩ := Kd.C_get h z66 i h0 h1
  have hc : ∀ j u, c[j]? = some u → w.cell? (ad.add (i.toNat * 2 + j)) = some u := hc0
  obtain ⟨A1, c1, rfl, l1, g1⟩ := k66_open hK
  exact ⟨ad, A1, c1, e, hc 0 _ rfl, by rw [← add_field _ _ 1 (by omega)]; exact hc 1 _ rfl, l1, g1⟩

def rd_L5 (xs : List (List ByteArray)) (i : Int) : (List ByteArray) := xs.getD i.toNat ([] : List ByteArray)
theorem at_L5 {w : World} {A : Option Addr} {n : Nat} {xs : List (List ByteArray)} (h : Kd.C (Kd.slice 9 Kd.string) w A n xs) (i : Int) (h0 : 0 ≤ i) (h1 : i < n) : ∃ ad A0 c0, A = some ad ∧ w.cell? (ad.add i.toNat) = some (.slice A0 (rd_L5 xs i).length c0) ∧ (rd_L5 xs i).length ≤ c0 ∧ Kd.string.C w A0 (rd_L5 xs i).length (rd_L5 xs i) := by
  obtain ⟨ad, c, e, _, hK, hc0⟩ := Kd.C_get h ([] : List ByteArray) i h0 h1
  have hc : ∀ j u, c[j]? = some u → w.cell? (ad.add (i.toNat * 1 + j)) = some u := hc0
  obtain ⟨A0, c0, rfl, l0, g0⟩ := hK
  exact ⟨ad, A0, c0, e, by have hq := hc 0 _ rfl; rwa [Nat.mul_one, Nat.add_zero] at hq, l0, g0⟩
theorem zb1 {w : World} {g t : Nat} {a0 : Value} (h : w.heap[g]? = some (.cells #[a0] t (0, 0))) : w.cell? ⟨g, 0, none⟩ = some a0 ∧ w.frozen? ⟨g, 0, none⟩ = false := ⟨(blk_cell h 0).trans rfl, blk_frozen h 0⟩
theorem zb2 {w : World} {g t : Nat} {a0 a1 : Value} (h : w.heap[g]? = some (.cells #[a0, a1] t (0, 0))) : w.cell? ⟨g, 0, none⟩ = some a0 ∧ w.cell? ⟨g, 1, none⟩ = some a1 ∧ w.frozen? ⟨g, 0, none⟩ = false ∧ w.frozen? ⟨g, 1, none⟩ = false := ⟨(blk_cell h 0).trans rfl, (blk_cell h 1).trans rfl, blk_frozen h 0, blk_frozen h 1⟩
theorem zb3 {w : World} {g t : Nat} {a0 a1 a2 : Value} (h : w.heap[g]? = some (.cells #[a0, a1, a2] t (0, 0))) : w.cell? ⟨g, 0, none⟩ = some a0 ∧ w.cell? ⟨g, 1, none⟩ = some a1 ∧ w.cell? ⟨g, 2, none⟩ = some a2 ∧ w.frozen? ⟨g, 0, none⟩ = false ∧ w.frozen? ⟨g, 1, none⟩ = false ∧ w.frozen? ⟨g, 2, none⟩ = false := ⟨(blk_cell h 0).trans rfl, (blk_cell h 1).trans rfl, (blk_cell h 2).trans rfl, blk_frozen h 0, blk_frozen h 1, blk_frozen h 2⟩
theorem zb4 {w : World} {g t : Nat} {a0 a1 a2 a3 : Value} (h : w.heap[g]? = some (.cells #[a0, a1, a2, a3] t (0, 0))) : w.cell? ⟨g, 0, none⟩ = some a0 ∧ w.cell? ⟨g, 1, none⟩ = some a1 ∧ w.cell? ⟨g, 2, none⟩ = some a2 ∧ w.cell? ⟨g, 3, none⟩ = some a3 ∧ w.frozen? ⟨g, 0, none⟩ = false ∧ w.frozen? ⟨g, 1, none⟩ = false ∧ w.frozen? ⟨g, 2, none⟩ = false ∧ w.frozen? ⟨g, 3, none⟩ = false := ⟨(blk_cell h 0).trans rfl, (blk_cell h 1).trans rfl, (blk_cell h 2).trans rfl, (blk_cell h 3).trans rfl, blk_frozen h 0, blk_frozen h 1, blk_frozen h 2, blk_frozen h 3⟩
theorem zb5 {w : World} {g t : Nat} {a0 a1 a2 a3 a4 : Value} (h : w.heap[g]? = some (.cells #[a0, a1, a2, a3, a4] t (0, 0))) : w.cell? ⟨g, 0, none⟩ = some a0 ∧ w.cell? ⟨g, 1, none⟩ = some a1 ∧ w.cell? ⟨g, 2, none⟩ = some a2 ∧ w.cell? ⟨g, 3, none⟩ = some a3 ∧ w.cell? ⟨g, 4, none⟩ = some a4 ∧ w.frozen? ⟨g, 0, none⟩ = false ∧ w.frozen? ⟨g, 1, none⟩ = false ∧ w.frozen? ⟨g, 2, none⟩ = false ∧ w.frozen? ⟨g, 3, none⟩ = false ∧ w.frozen? ⟨g, 4, none⟩ = false := ⟨(blk_cell h 0).trans rfl, (blk_cell h 1).trans rfl, (blk_cell h 2).trans rfl, (blk_cell h 3).trans rfl, (blk_cell h 4).trans rfl, blk_frozen h 0, blk_frozen h 1, blk_frozen h 2, blk_frozen h 3, blk_frozen h 4⟩
theorem zb6 {w : World} {g t : Nat} {a0 a1 a2 a3 a4 a5 : Value} (h : w.heap[g]? = some (.cells #[a0, a1, a2, a3, a4, a5] t (0, 0))) : w.cell? ⟨g, 0, none⟩ = some a0 ∧ w.cell? ⟨g, 1, none⟩ = some a1 ∧ w.cell? ⟨g, 2, none⟩ = some a2 ∧ w.cell? ⟨g, 3, none⟩ = some a3 ∧ w.cell? ⟨g, 4, none⟩ = some a4 ∧ w.cell? ⟨g, 5, none⟩ = some a5 ∧ w.frozen? ⟨g, 0, none⟩ = false ∧ w.frozen? ⟨g, 1, none⟩ = false ∧ w.frozen? ⟨g, 2, none⟩ = false ∧ w.frozen? ⟨g, 3, none⟩ = false ∧ w.frozen? ⟨g, 4, none⟩ = false ∧ w.frozen? ⟨g, 5, none⟩ = false := ⟨(blk_cell h 0).trans rfl, (blk_cell h 1).trans rfl, (blk_cell h 2).trans rfl, (blk_cell h 3).trans rfl, (blk_cell h 4).trans rfl, (blk_cell h 5).trans rfl, blk_frozen h 0, blk_frozen h 1, blk_frozen h 2, blk_frozen h 3, blk_frozen h 4, blk_frozen h 5⟩
theorem zy {P Q E : Prop} (h_ : P) (e_ : E) (q : P → E → Q := by intro H e_; first | (rw [e_]; with_reducible exact H) | (have H2_ := (Option.bind_some _ _).symm.trans H; rw [e_]; with_reducible exact H2_) | (have H2_ := (Option.bind_some _ _).symm.trans H; with_reducible exact H2_) | with_reducible exact H | (rw [e_]; exact H) | exact H) : Q := q h_ e_
theorem zo {p : Prop} (h : p := by rfl) : p := h
theorem zh {p : Prop} (h : p := by first | (go_simp; done) | (go_simp; rfl)) : p := h
theorem ze {p : Prop} (h : p := by first | rfl | (simp [errW_none, errW_some] <;> rfl) | (simp [*, errW_none, errW_some] <;> rfl)) : p := h
theorem zn {p : Prop} (h : p := by first | exact ⟨rfl, _, World.drewN_drewN _ _ _⟩ | exact ⟨rfl, _, Eq.trans (World.drewN_drewN _ _ _) (congrArg (World.drewN _) (Nat.add_assoc _ _ _))⟩) : p := h
theorem zl {P Q : Prop} (h_ : P) (q : P → Q := by intro h_; (with_reducible repeat (first | refine blk_drewN ?_ _ | refine blk_drew ?_ | refine blk_alloc ?_ _)); exact h_) : Q := q h_
theorem zlR {P Q : Prop} (h_ : P) (q : P → Q := by intro h_; (with_reducible repeat (first | apply Kd.R_alloc | apply Kd.R_drewN | apply Kd.R_drew)); exact h_) : Q := q h_
theorem zlS {P Q : Prop} (h_ : P) (q : P → Q := by intro h_; (with_reducible repeat (first | apply Kd.S_alloc | apply Kd.S_drewN | apply Kd.S_drew)); exact h_) : Q := q h_
theorem zlN {P Q : Prop} (h_ : P) (q : P → Q := by intro h_; (with_reducible repeat (first | apply Kd.N_alloc | apply Kd.N_drewN | apply Kd.N_drew)); exact h_) : Q := q h_
theorem zput4 {w : World} {g t : Nat} {a0 a1 a2 a3 b0 b1 b2 b3 : Value} (h : w.heap[g]? = some (.cells #[a0, a1, a2, a3] t (0, 0))) : ((((w.setCell ⟨g, 0, none⟩ b0).setCell ⟨g, 1, none⟩ b1).setCell ⟨g, 2, none⟩ b2).setCell ⟨g, 3, none⟩ b3).heap[g]? = some (.cells #[b0, b1, b2, b3] t (0, 0)) := blk_put (blk_put (blk_put (blk_put h 0 _ rfl) 1 _ rfl) 2 _ rfl) 3 _ rfl
theorem zfar4 {w : World} {g g' t : Nat} {cs : Array Value} {b0 b1 b2 b3 : Value} (h : w.heap[g']? = some (.cells cs t (0, 0))) (n : g' ≠ g) : ((((w.setCell ⟨g, 0, none⟩ b0).setCell ⟨g, 1, none⟩ b1).setCell ⟨g, 2, none⟩ b2).setCell ⟨g, 3, none⟩ b3).heap[g']? = some (.cells cs t (0, 0)) := blk_far (blk_far (blk_far (blk_far h n _) n _) n _) n _
theorem zR4 {α : Type} {d : Kd α} {e base g : Nat} {w : World} {ok : Nat → Prop} {v b0 b1 b2 b3 : Value} {xs : List α} (h : Kd.R d e w base (fun k => ok k ∧ k ≠ g) v xs) : Kd.R d e ((((w.setCell ⟨g, 0, none⟩ b0).setCell ⟨g, 1, none⟩ b1).setCell ⟨g, 2, none⟩ b2).setCell ⟨g, 3, none⟩ b3) base (fun k => ok k ∧ k ≠ g) v xs := Kd.R_far (Kd.R_far (Kd.R_far (Kd.R_far h (fun _ hk => hk.2) _) (fun _ hk => hk.2) _) (fun _ hk => hk.2) _) (fun _ hk => hk.2) _
theorem zS4 {α : Type} {d : Kd α} {e base g : Nat} {w : World} {ok : Nat → Prop} {v b0 b1 b2 b3 : Value} {xs : List α} (h : Kd.S d e w base (fun k => ok k ∧ k ≠ g) v xs) : Kd.S d e ((((w.setCell ⟨g, 0, none⟩ b0).setCell ⟨g, 1, none⟩ b1).setCell ⟨g, 2, none⟩ b2).setCell ⟨g, 3, none⟩ b3) base (fun k => ok k ∧ k ≠ g) v xs := Kd.S_far (Kd.S_far (Kd.S_far (Kd.S_far h (fun _ hk => hk.2) _) (fun _ hk => hk.2) _) (fun _ hk => hk.2) _) (fun _ hk => hk.2) _
theorem zN4 {α : Type} {d : Kd α} {e base g : Nat} {w : World} {ok : Nat → Prop} {v b0 b1 b2 b3 : Value} {xs : List α} (h : Kd.N d e w base (fun k => ok k ∧ k ≠ g) v xs) : Kd.N d e ((((w.setCell ⟨g, 0, none⟩ b0).setCell ⟨g, 1, none⟩ b1).setCell ⟨g, 2, none⟩ b2).setCell ⟨g, 3, none⟩ b3) base (fun k => ok k ∧ k ≠ g) v xs := Kd.N_far (Kd.N_far (Kd.N_far (Kd.N_far h (fun _ hk => hk.2) _) (fun _ hk => hk.2) _) (fun _ hk => hk.2) _) (fun _ hk => hk.2) _
theorem zd {p : Prop} [Decidable p] (h : decide p = true := by first | (with_reducible assumption) | assumption) : p := of_decide_eq_true h
theorem zC {P Q : Prop} (h_ : P) (q : P → Q := by intro h_; repeat (first | exact h_ | (with_reducible refine Kd.C_alloc ?_ _) | (with_reducible refine Kd.C_drewN ?_ _) | (with_reducible refine Kd.C_drew ?_))) : Q := q h_
theorem zq {p : Prop} (h : p := by (try simp only [List.map_toArray, List.map_cons, List.map_nil]); first | done | rfl | (simp only [List.length_drop, List.length_take]; rfl)) : p := h
theorem zr {p : Prop} (h : p := by first | rfl | (simp; done) | (simp [*]; done)) : p := h
theorem zm {p : Prop} (h : p) : Aside0 p := ⟨h⟩
theorem zs {α : Type} {l : List α} {i : Nat} {a : α} : l.toArray.setIfInBounds i a = (l.set i a).toArray := List.setIfInBounds_toArray ..
theorem zz {α : Type} {a b : α} {l : List α} : (a :: l).set 0 b = b :: l := rfl
theorem zt {α : Type} {a b : α} {l : List α} {i : Nat} : (a :: l).set (i + 1) b = a :: l.set i b := rfl
theorem zg_0 {P Q : Prop} (h_ : P) (q : P → Q := by intro h_; (with_reducible repeat (first | apply Kd.V_alloc | apply Kd.V_drewN | apply Kd.V_drew)); exact h_) : Q := q h_
theorem zg_1 {P Q  : Prop} (h_ : P)  (q : P → Q := by intro h_ ; repeat (first | (with_reducible first | exact h_ | apply below_alloc | apply pw_below_drewN | apply below_drew1) | exact h_)) : Q := q h_ 
theorem zg_2 {P Q A0 : Prop} (h_ : P) (a0_ : A0) (q : P → A0 → Q := by intro h_ a0_; repeat (first | (with_reducible first | exact h_ | apply below_alloc | apply pw_below_drewN | apply below_drew1 | refine below_set ?_ a0_) | exact h_)) : Q := q h_ a0_
theorem zg_3 {P Q : Prop} (h_ : P) (q : P → Q := by intro h_; (with_reducible repeat (first | refine blk_drewN ?_ _ | refine blk_drew ?_ | refine blk_alloc ?_ _)); exact h_) : Q := q h_
theorem zg_4 {P Q : Prop} (h_ : P) (q : P → Q := by intro h_; (with_reducible repeat (first | apply Kd.N_alloc | apply Kd.N_drewN | apply Kd.N_drew)); exact h_) : Q := q h_
theorem zg_5 {P Q A0 A1 : Prop} (h_ : P) (a0_ : A0) (a1_ : A1) (q : P → A0 → A1 → Q := by intro h_ a0_ a1_; repeat (first | (with_reducible first | exact h_ | apply below_alloc | apply pw_below_drewN | apply below_drew1 | refine below_set ?_ a0_ | refine below_set ?_ a1_) | exact h_)) : Q := q h_ a0_ a1_
theorem zg_6 {P Q : Prop} (h_ : P) (q : P → Q := by intro h_; (with_reducible repeat (first | apply Kd.R_alloc | apply Kd.R_drewN | apply Kd.R_drew)); exact h_) : Q := q h_
theorem zg_7 {P Q  : Prop} (h_ : P)  (q : P → Q := by intro h_ ; repeat (first | (with_reducible first | exact h_ | apply IsS42.alloc | apply IsS42.drewN | apply IsS42.drew | apply IsS42.set_1 | apply IsS42.set_2) | exact h_)) : Q := q h_ 
theorem zg_8 {P Q A0 : Prop} (h_ : P) (a0_ : A0) (q : P → A0 → Q := by intro h_ a0_; repeat (first | (with_reducible first | exact h_ | apply below_alloc | apply pw_below_drewN | apply below_drew1 | refine below_set ?_ (IsS42.ge a0_)) | exact h_)) : Q := q h_ a0_
theorem zg_9 {P Q  : Prop} (h_ : P)  (q : P → Q := by intro h_ ; repeat (first | (with_reducible first | exact h_ | apply KeepBut.set_ | apply keep_drewN | apply keep_drew | apply keep_alloc) | exact h_)) : Q := q h_ 
theorem zg_10 {P Q A0 A1 A2 : Prop} (h_ : P) (a0_ : A0) (a1_ : A1) (a2_ : A2) (q : P → A0 → A1 → A2 → Q := by intro h_ a0_ a1_ a2_; repeat (first | (with_reducible first | exact h_ | apply below_alloc | apply pw_below_drewN | apply below_drew1 | refine below_set ?_ a0_ | refine below_set ?_ a1_ | refine below_set ?_ a2_) | exact h_)) : Q := q h_ a0_ a1_ a2_
theorem zg_11 {P Q : Prop} (h_ : P) (q : P → Q := by intro h_; (with_reducible repeat (first | apply Kd.S_alloc | apply Kd.S_drewN | apply Kd.S_drew)); exact h_) : Q := q h_
theorem zg_12 {P Q  : Prop} (h_ : P)  (q : P → Q := by intro h_ ; repeat (first | (with_reducible first | exact h_ | apply Kept.alloc | apply Kept.drewN | apply Kept.drew) | exact h_)) : Q := q h_ 
theorem zg_13 {P Q A0 : Prop} (h_ : P) (a0_ : A0) (q : P → A0 → Q := by intro h_ a0_; repeat (first | (with_reducible first | exact h_ | apply Kept.alloc | apply Kept.drewN | apply Kept.drew | refine Kept.setCell ?_ (.inr a0_) _) | exact h_)) : Q := q h_ a0_
theorem zg_14 {P Q A0 A1 : Prop} (h_ : P) (a0_ : A0) (a1_ : A1) (q : P → A0 → A1 → Q := by intro h_ a0_ a1_; repeat (first | (with_reducible first | exact h_ | apply Kept.alloc | apply Kept.drewN | apply Kept.drew | refine Kept.setCell ?_ (.inr a0_) _ | refine Kept.setCell ?_ (.inr a1_) _) | exact h_)) : Q := q h_ a0_ a1_
theorem zg_15 {P Q A0 A1 A2 : Prop} (h_ : P) (a0_ : A0) (a1_ : A1) (a2_ : A2) (q : P → A0 → A1 → A2 → Q := by intro h_ a0_ a1_ a2_; repeat (first | (with_reducible first | exact h_ | apply Kept.alloc | apply Kept.drewN | apply Kept.drew | refine Kept.setCell ?_ a0_ _ | refine Kept.setCell ?_ (.inr a1_) _ | refine Kept.setCell ?_ (.inr a2_) _) | exact h_)) : Q := q h_ a0_ a1_ a2_
theorem zg_16 {P Q A0 : Prop} (h_ : P) (a0_ : A0) (q : P → A0 → Q := by intro h_ a0_; repeat (first | (with_reducible first | exact h_ | apply IsS42.alloc | apply IsS42.drewN | apply IsS42.drew | apply IsS42.set_1 | apply IsS42.set_2 | refine IsS42.far ?_ a0_ _) | exact h_)) : Q := q h_ a0_
theorem zg_17 {P Q A0 A1 : Prop} (h_ : P) (a0_ : A0) (a1_ : A1) (q : P → A0 → A1 → Q := by intro h_ a0_ a1_; repeat (first | (with_reducible first | exact h_ | apply below_alloc | apply pw_below_drewN | apply below_drew1 | refine below_set ?_ (IsS42.ge a0_) | refine below_set ?_ a1_) | exact h_)) : Q := q h_ a0_ a1_
theorem zg_18 {P Q A0 : Prop} (h_ : P) (a0_ : A0) (q : P → A0 → Q := by intro h_ a0_; repeat (first | (with_reducible first | exact h_ | apply KeepBut.set_ | apply keep_drewN | apply keep_drew | apply keep_alloc | refine keep_far ?_ a0_ _) | exact h_)) : Q := q h_ a0_
theorem zg_19 {P Q A0 A1 : Prop} (h_ : P) (a0_ : A0) (a1_ : A1) (q : P → A0 → A1 → Q := by intro h_ a0_ a1_; repeat (first | (with_reducible first | exact h_ | apply IsS42.alloc | apply IsS42.drewN | apply IsS42.drew | apply IsS42.set_1 | apply IsS42.set_2 | refine IsS42.far ?_ a0_ _ | refine IsS42.far ?_ a1_ _) | exact h_)) : Q := q h_ a0_ a1_
theorem zg_20 {P Q A0 A1 : Prop} (h_ : P) (a0_ : A0) (a1_ : A1) (q : P → A0 → A1 → Q := by intro h_ a0_ a1_; repeat (first | (with_reducible first | exact h_ | apply KeepBut.set_ | apply keep_drewN | apply keep_drew | apply keep_alloc | refine keep_far ?_ a0_ _ | refine keep_far ?_ a1_ _) | exact h_)) : Q := q h_ a0_ a1_
theorem zg_21 {P Q A0 A1 A2 : Prop} (h_ : P) (a0_ : A0) (a1_ : A1) (a2_ : A2) (q : P → A0 → A1 → A2 → Q := by intro h_ a0_ a1_ a2_; repeat (first | (with_reducible first | exact h_ | apply below_alloc | apply pw_below_drewN | apply below_drew1 | refine below_set ?_ (IsS42.ge a0_) | refine below_set ?_ a1_ | refine below_set ?_ a2_) | exact h_)) : Q := q h_ a0_ a1_ a2_
def impl_Image_tables.l0 : Nat → List (List Int) → List (S66) → Int → Int → Option ((List (List Int)))
  | 0, _, _, _, _ => none
  | k + 1, x3, x10, x11, x12 => if x12 < x11 then (if 0 ≤ x12 then (if x12 < (x10.length : Int) then (if x3.length < 5864062014805 then (impl_Image_tables.l0 k (x3 ++ [(rd_T66 x10 x12).f1]) x10 x11 (wrap64 (x12 + 1))) else (none)) else (none)) else (none)) else (some x3)
def impl_Image_tables.f (k : Nat) (l0_0 : List Int) (l0_1 : List Int) (l0_2 : List (S66)) (l0_3 : List Int) : Option ((List (List Int))) := impl_Image_tables.l0 k (([l0_1] : List (List Int))) l0_2 (l0_2.length : Int) 0
theorem impl_Image_tables.mono_l : ∀ k, (∀ y0 y1 y2 y3, LeO (impl_Image_tables.l0 k y0 y1 y2 y3) (impl_Image_tables.l0 (k + 1) y0 y1 y2 y3))
  | 0 => fun _ _ _ _ r h => by simp [impl_Image_tables.l0] at h
  | k + 1 => by
    have ih0 := impl_Image_tables.mono_l k
    · intro y0 y1 y2 y3
      unfold impl_Image_tables.l0
      repeat' first| (with_reducible first | exact ih0 _ _ _ _ | exact LeO.refl _ | exact LeO.none _ | refine LeO.ite ?_ ?_ | refine LeO.bind ?_ (fun _ => ?_)) | exact ih0 _ _ _ _ | exact LeO.none _ | refine LeO.ite ?_ ?_ | refine LeO.bind ?_ (fun _ => ?_)
theorem impl_Image_tables.mono : ∀ a0 a1 a2 a3 k, LeO (impl_Image_tables.f k a0 a1 a2 a3) (impl_Image_tables.f (k + 1) a0 a1 a2 a3) := by
  intro a0 a1 a2 a3 k
  have ih0 := impl_Image_tables.mono_l k
  unfold impl_Image_tables.f
  repeat' first| (with_reducible first | exact ih0 _ _ _ _ | exact LeO.refl _ | exact LeO.none _ | refine LeO.ite ?_ ?_ | refine LeO.bind ?_ (fun _ => ?_)) | exact ih0 _ _ _ _ | exact LeO.none _ | refine LeO.ite ?_ ?_ | refine LeO.bind ?_ (fun _ => ?_)
set_option maxHeartbeats 8000000 in
set_option maxRecDepth 100000 in
theorem impl_Image_tables.calls (k : Nat) (A : Option Addr) (B : Nat) (y : List Int) (j : Nat → Prop) (n : Option Addr) (q : Nat) (m : List Int) (l : Nat → Prop) (O : Option Addr) (s : Nat) (a : List (S66)) (D : Option Addr) (E : Nat) (z : List Int) (r : List (List Int)) (w : World) (a8 : Kd.C (Kd.int .i64) w A y.length y) (a9 : y.length ≤ B) (c0 : Kd.V (Kd.int .i64) 3 w w.heap.size (fun k_ => j k_) (.slice n m.length q) m) (c1 : Kd.V k66 66 w w.heap.size (fun k_ => l k_) (.slice O a.length s) a) (b0 : Kd.C (Kd.int .i64) w D z.length z) (b1 : z.length ≤ E) (h : impl_Image_tables.f k y m a z = some r) :
    Calls Tryz.prog 36 #[.agg #[.slice A y.length B, .slice n m.length q, .slice O a.length s, .slice D z.length E]] w fun e w' => ∃ d1 : Value, e = .returned (d1) ∧ Kd.N (Kd.slice 3 (Kd.int .i64)) 23 w' w.heap.size (fun k_ => ((j k_ ∨ l k_) ∨ w.heap.size ≤ k_)) d1 r ∧ Below w.heap.size w w' := by
 have hu26 := Tryz.underlying26; have hu66 := Tryz.underlying66; have Zr := zm a8; have Zs := zm a9; clear a8 a9; have Zh := zm (show Kd.V (Kd.int .i64) 3 w w.heap.size (fun k_ => ((j k_ ∨ l k_) ∨ w.heap.size ≤ k_)) (.slice n m.length q) m from Kd.V_mono c0 (fun k_ hk => .inl (.inl hk))); have Zj := zm (show Kd.V k66 66 w w.heap.size (fun k_ => ((j k_ ∨ l k_) ∨ w.heap.size ≤ k_)) (.slice O a.length s) a from Kd.V_mono c1 (fun k_ hk => .inl (.inr hk))); have Zt := zm b0; have Zu := zm b1; clear b0 b1; have HB := zm (Below.refl w.heap.size w)
 have H : (impl_Image_tables.l0 k (([m] : List (List Int))) a (a.length : Int) 0) = some r := h
 clear h
 obtain ⟨b5, Z⟩ : ∃ y_ : List (List Int), y_ = (([m] : List (List Int))) := ⟨_, rfl⟩
 replace H : (impl_Image_tables.l0 k b5 a (a.length : Int) 0) = some r := zy H Z
 have b2 := zm Z; clear Z
 have H' := zm H
 clear H
 go_enter Tryz.func36, Tryz.ntmps36
 go_wp2_with (first | ((with_reducible refine gate_dst (N := 1) rfl ?_); refine box_event ?hg (N := 1) ?hd (cs := #[.slice A y.length B, .slice n m.length q, .slice O a.length s, .slice D z.length E]) (t := 26) ?hr ?_; (case hd => rfl); (case hg => rfl); (case hr => first | (go_simp; done) | (go_simp; rfl)); intro d hg w2 hbox hb; have F := zm (Kd.V_below (Kd.V_elderB (zg_0 Zh.out) d (Nat.le_of_eq hg.symm)) hb); have G := zm (Kd.V_below (Kd.V_elderB (zg_0 Zj.out) d (Nat.le_of_eq hg.symm)) hb); have I := zm (below_step (zg_1 HB.out) hb); have J := zm (hbox); have L := zm ((by rw [hg]; exact (below_size (zg_1 HB.out)) : w.heap.size ≤ d)); have R := zm ((by rw [hg]; exact (below_size (zg_1 HB.out)) : w.heap.size ≤ d)); replace Zh := F; replace Zj := G; replace HB := I; have Za := J; have Zv := L; have Zf := R; clear F G I J L R; clear hb hbox hg; obtain ⟨_, _, _, _, _, _, _, _⟩ := zb4 Za.out) | ((with_reducible refine gate_dst (N := 8) rfl ?_); refine Kd.N_lit (Kd.slice 3 (Kd.int .i64)) _ 23 ?hg (N' := 8) ?hd (xs := ([m] : List (List Int))) (inner := [.slice n m.length q]) (ok := (fun k_ => ((j k_ ∨ l k_) ∨ w.heap.size ≤ k_) ∧ k_ ≠ d)) (okp := (fun k_ => ((j k_ ∨ l k_) ∨ w.heap.size ≤ k_) ∧ k_ ≠ d)) ?hr ?hp (fun _ hk => hk) ((show ∀ k_, w2.heap.size ≤ k_ → (fun k_ => ((j k_ ∨ l k_) ∨ w.heap.size ≤ k_) ∧ k_ ≠ d) k_ from fun k_ hk => ⟨(.inr (Nat.le_trans (below_size (zg_2 HB.out Zf.out)) hk)), Kd.freshB (g := d) (o := .cells #[.slice A y.length B, .slice n m.length q, .slice O a.length s, .slice D z.length E] 26 (0, 0)) (zg_3 Za.out) k_ hk⟩) _ (Nat.le_refl _)) (Below.refl _ _) (Nat.le_refl _) (by simp) ?_; (case hd => rfl); (case hg => rfl); (case hr => first | (go_simp; done) | (go_simp; rfl)); (case hp => exact (Reps.one (show Kd.FK (Kd.slice 3 (Kd.int .i64)) _ _ m [.slice n m.length q] from (Kd.FK_slice_mk (Kd.V_reads' (Kd.V_mono (ok' := (fun k_ => ((j k_ ∨ l k_) ∨ w.heap.size ≤ k_) ∧ k_ ≠ d)) (Zh.out) (fun k_ hk => ⟨hk.1, hk.2⟩))).2.1 (Kd.V_F (Kd.V_mono (ok' := (fun k_ => ((j k_ ∨ l k_) ∨ w.heap.size ≤ k_) ∧ k_ ≠ d)) (Zh.out) (fun k_ hk => ⟨hk.1, hk.2⟩))))) (Reps.none _ _))); intro e2 w4 Y hb hg_ hnew_; clear hg_ hnew_; (first | rw [← b2.out] at Y | (simp only [Int.reduceToNat] at Y; rw [← b2.out] at Y)); have F := zm (Kd.V_elder' (zg_0 Zh.out) (Kd.N_base Y) hb); have G := zm (Kd.V_elder' (zg_0 Zj.out) (Kd.N_base Y) hb); have I := zm (Kd.N_lower Y (below_size (zg_2 HB.out Zf.out))); have J := zm (blk_below (g := d) (o := .cells #[.slice A y.length B, .slice n m.length q, .slice O a.length s, .slice D z.length E] 26 (0, 0)) (zg_3 Za.out) hb); have L := zm (below_step (zg_2 HB.out Zf.out) hb); replace Zh := F; replace Zj := G; have Zo := I; replace Za := J; replace HB := L; clear F G I J L; clear hb Y; obtain ⟨_, _, _, _, _, _, _, _⟩ := zb4 Za.out))
 go_loopg [3, 12] k (fun kq v3 d7 w' => ∃ (S : List (List Int)) (i : Int), d7 = .int .i64 i ∧ Aside0 (impl_Image_tables.l0 kq S a (a.length : Int) i = some r) ∧ Aside0 (kq ≤ k) ∧ Aside0 (Kd.N (Kd.slice 3 (Kd.int .i64)) 23 w' w.heap.size (fun k_ => ((j k_ ∨ l k_) ∨ w.heap.size ≤ k_) ∧ k_ ≠ d) v3 S) ∧ Aside0 (Kd.V k66 66 w' w.heap.size (fun k_ => ((j k_ ∨ l k_) ∨ w.heap.size ≤ k_) ∧ some k_ ≠ (v3 : Value).ownBlock ∧ k_ ≠ d) (.slice O a.length s) a) ∧ Aside0 (Kd.V (Kd.int .i64) 3 w' w.heap.size (fun k_ => ((j k_ ∨ l k_) ∨ w.heap.size ≤ k_) ∧ some k_ ≠ (v3 : Value).ownBlock ∧ k_ ≠ d) (.slice n m.length q) m) ∧ Aside0 (Kd.V k66 66 w' w.heap.size (fun k_ => ((j k_ ∨ l k_) ∨ w.heap.size ≤ k_) ∧ some k_ ≠ (v3 : Value).ownBlock ∧ k_ ≠ d) (.slice O a.length s) a) ∧ Aside0 (w'.heap[d]? = some (.cells #[(.slice A y.length B), (.slice n m.length q), (.slice O a.length s), (.slice D z.length E)] 26 (0, 0))) ∧ Aside0 (Below w.heap.size w w'))
 case atStart => exact ⟨(b5), (0), zr, H', ⟨Nat.le_refl _⟩, ⟨zlN Zo.out⟩, ⟨by (with_reducible repeat (first | apply Kd.V_alloc | apply Kd.V_drewN | apply Kd.V_drew)); exact Kd.V_mono Zj.out (fun _ hk => ⟨hk.1.1, ⟨hk.2, hk.1.2⟩⟩)⟩, ⟨by (with_reducible repeat (first | apply Kd.V_alloc | apply Kd.V_drewN | apply Kd.V_drew)); exact Kd.V_mono Zh.out (fun _ hk => ⟨hk.1.1, ⟨hk.2, hk.1.2⟩⟩)⟩, ⟨by (with_reducible repeat (first | apply Kd.V_alloc | apply Kd.V_drewN | apply Kd.V_drew)); exact Kd.V_mono Zj.out (fun _ hk => ⟨hk.1.1, ⟨hk.2, hk.1.2⟩⟩)⟩, ⟨zl Za.out⟩, ⟨zg_2 HB.out Zf.out⟩⟩
 case round =>
  clear H'
  try clear p2
  try clear c3
  obtain ⟨S, i, rfl, HA, d2, Zl, Zg, Zb, Zc, Za, HB⟩ := hrel
  cases gk with
  | zero => exact absurd HA.out (by simp [impl_Image_tables.l0])
  | succ k1 =>
   have H := HA.out; clear HA
   simp only [impl_Image_tables.l0] at H
   by_cases c7 : i < (a.length : Int)
   rotate_left
   ·rw [if_neg c7] at H
    have d5 := decide_eq_false c7; clear c7; obtain rfl := Option.some.inj H
    go_wp2
    go_ret
    exact ⟨_, ze, by (with_reducible repeat (first | apply Kd.N_alloc | apply Kd.N_drewN | apply Kd.N_drew)); exact Kd.N_mono Zl.out (fun _ hk => hk.1), zg_2 HB.out Zf.out⟩
   rw [if_pos c7] at H; have d5 := decide_eq_true c7; clear c7
   by_cases c8 : 0 ≤ i
   rotate_left
   ·rw [if_neg c8] at H
    exact absurd H (by simp)
   rw [if_pos c8] at H; have e3 := decide_eq_true c8; clear c8
   by_cases c9 : i < (a.length : Int)
   rotate_left
   ·rw [if_neg c9] at H
    exact absurd H (by simp)
   rw [if_pos c9] at H; have e4 := decide_eq_true c9; clear c9
   by_cases b3 : S.length < 5864062014805
   rotate_left
   ·rw [if_neg b3] at H
    exact absurd H (by simp)
   rw [if_pos b3] at H; have c6 := zm b3; clear b3
   obtain ⟨b6, a4⟩ : ∃ y_ : List (List Int), y_ = (S ++ [(rd_T66 a i).f1]) := ⟨_, rfl⟩
   replace H : (impl_Image_tables.l0 k1 b6 a (a.length : Int) (wrap64 (i + 1))) = some r := zy H a4
   have d0 := zm a4; clear a4
   have H' := zm H
   clear H
   have a5 : 0 ≤ (i : Int) := zd
   have a6 : i < (a.length : Int) := zd
   obtain ⟨M, u, x, d6, hx651_0, hx651_1, hl651_1, hi651_1⟩ := at_T66 (Kd.V_reads' Zg.out).2.2 i a5 a6
   cases d6
   obtain ⟨ce651, hce651, hMe651, hcc651⟩ := Kd.V_get Zg.out z66 i a5 (by first | exact a6 | exact zd | (have e_ := (Kd.V_reads' Zg.out).1; omega))
   obtain ⟨ua651_1, uc651_1, rfl, ul651_1, ge651_1⟩ := k66_openF hMe651
   have hv651_1 := hcc651 1 _ rfl
   rw [add_field _ _ 1 (by omega)] at hv651_1
   replace hv651_1 := Option.some.inj (hv651_1.symm.trans hx651_1)
   injection hv651_1 with hva_ hvn_ hvc_
   rw [hva_] at ge651_1
   rw [hvc_] at ul651_1
   have Zd := zm (show Kd.V (Kd.int .i64) 3 _ w.heap.size _ _ ((rd_T66 a i).f1) from Kd.V_mk ul651_1 ge651_1); clear hva_ hvn_ hvc_ ge651_1 ul651_1; clear hcc651 hce651; have Zk := zm hi651_1; have Zq := zm hl651_1; clear hi651_1 hl651_1; replace a5 := eq_true a5; replace a6 := eq_true a6
   go_wp2_with (first | ((with_reducible refine gate_dst (N := 5) rfl ?_); refine box_event ?hg (N := 5) ?hd (cs := #[.string (⟨#[]⟩ : ByteArray), .slice none 0 0]) (t := 66) ?hr ?_; (case hd => rfl); (case hg => rfl); (case hr => first | (go_simp; done) | (go_simp; rfl)); intro c hg d8 hbox hb; have F := zm (Kd.N_below (Kd.N_elderB (zg_4 Zl.out) c (Nat.le_of_eq hg.symm)) hb); have G := zm (Kd.V_below (Kd.V_elderB (zg_0 Zg.out) c (Nat.le_of_eq hg.symm)) hb); have I := zm (Kd.V_below (Kd.V_elderB (zg_0 Zb.out) c (Nat.le_of_eq hg.symm)) hb); have J := zm (Kd.V_below (Kd.V_elderB (zg_0 Zc.out) c (Nat.le_of_eq hg.symm)) hb); have L := zm (Kd.V_below (Kd.V_elderB (zg_0 Zd.out) c (Nat.le_of_eq hg.symm)) hb); have R := zm (blk_below (g := d) (o := .cells #[.slice A y.length B, .slice n m.length q, .slice (some M) a.length s, .slice D z.length E] 26 (0, 0)) (zg_3 Za.out) hb); have T := zm (Kd.C_below (by repeat (first | (with_reducible exact Zk.out) | (with_reducible refine Kd.C_alloc ?_ _) | (with_reducible refine Kd.C_drewN ?_ _) | (with_reducible refine Kd.C_drew ?_) | exact Zk.out)) hb); have U := zm (below_step (zg_2 HB.out Zf.out) hb); have d3 := zm (hbox); have d4 := zm ((by rw [hg]; exact (below_size (zg_2 HB.out Zf.out)) : w.heap.size ≤ c)); have b7 := zm ((by rw [hg]; exact (below_size (zg_2 HB.out Zf.out)) : w.heap.size ≤ c)); have b8 := zm ((by rw [hg]; exact Nat.ne_of_lt (blk_lt (g := d) (o := .cells #[.slice A y.length B, .slice n m.length q, .slice (some M) a.length s, .slice D z.length E] 26 (0, 0)) (zg_3 Za.out)) : d ≠ c)); have b9 := zm ((by rw [hg]; exact Nat.ne_of_gt (blk_lt (g := d) (o := .cells #[.slice A y.length B, .slice n m.length q, .slice (some M) a.length s, .slice D z.length E] 26 (0, 0)) (zg_3 Za.out)) : c ≠ d)); replace Zl := F; replace Zg := G; replace Zb := I; replace Zc := J; replace Zd := L; replace Za := R; replace Zk := T; replace HB := U; have Ze := d3; have Zw := d4; have Zm := b7; have Zi := b8; have Zn := b9; clear F G I J L R T U d3 d4 b7 b8 b9; clear hb hbox hg; have d9 := Zn.out; have e0 := Zi.out; obtain ⟨_, _, _, _⟩ := zb2 Ze.out) | ((with_reducible refine gate_store (t := 66) (p := 5) rfl ?_); refine store_event (t := 66) (p := 5) (v := ?vo_w14) (w1 := ((d8.setCell ⟨c, 0, none⟩ (.string ((rd_T66 a i).f0))).setCell ⟨c, 1, none⟩ (.slice u ((rd_T66 a i).f1).length x))) ?hg ?ho ?hn ?hr ?_; (case ho => rfl); (case hg => rfl); (case hn => rfl); (case hr => first | (go_simp; done) | (go_simp; rfl)); intro X hw; have F : Aside0 (Kd.N (Kd.slice 3 (Kd.int .i64)) 23 X w.heap.size (fun k_ => ((j k_ ∨ l k_) ∨ w.heap.size ≤ k_) ∧ k_ ≠ d ∧ k_ ≠ c) u3 S) := ⟨(by rw [hw]; exact (by (with_reducible repeat (first | apply Kd.N_alloc | apply Kd.N_drewN | apply Kd.N_drew)); exact Kd.N_mono (Kd.N_far (p := ⟨c, 1, none⟩) (Kd.N_far (p := ⟨c, 0, none⟩) (Kd.N_mono Zl.out (fun k_ hk => (⟨hk, hk.2⟩ : _ ∧ k_ ≠ c))) (fun _ hk => hk.2) (.string ((rd_T66 a i).f0))) (fun _ hk => hk.2) (.slice u ((rd_T66 a i).f1).length x)) (fun _ hk => ⟨hk.1.1.1, ⟨hk.1.1.2, hk.1.2⟩⟩)))⟩; have G : Aside0 (Kd.V k66 66 X w.heap.size (fun k_ => ((j k_ ∨ l k_) ∨ w.heap.size ≤ k_) ∧ some k_ ≠ (u3 : Value).ownBlock ∧ k_ ≠ d ∧ k_ ≠ c) (.slice (some M) a.length s) a) := ⟨(by rw [hw]; exact (by (with_reducible repeat (first | apply Kd.V_alloc | apply Kd.V_drewN | apply Kd.V_drew)); exact Kd.V_mono (Kd.V_far (p := ⟨c, 1, none⟩) (Kd.V_far (p := ⟨c, 0, none⟩) (Kd.V_mono Zg.out (fun k_ hk => (⟨hk, hk.2⟩ : _ ∧ k_ ≠ c))) (fun _ hk => hk.2) (.string ((rd_T66 a i).f0))) (fun _ hk => hk.2) (.slice u ((rd_T66 a i).f1).length x)) (fun _ hk => ⟨hk.1.1.1, ⟨hk.1.1.2.1, ⟨hk.1.1.2.2, hk.1.2⟩⟩⟩)))⟩; have I : Aside0 (Kd.V (Kd.int .i64) 3 X w.heap.size (fun k_ => ((j k_ ∨ l k_) ∨ w.heap.size ≤ k_) ∧ some k_ ≠ (u3 : Value).ownBlock ∧ k_ ≠ d ∧ k_ ≠ c) (.slice n m.length q) m) := ⟨(by rw [hw]; exact (by (with_reducible repeat (first | apply Kd.V_alloc | apply Kd.V_drewN | apply Kd.V_drew)); exact Kd.V_mono (Kd.V_far (p := ⟨c, 1, none⟩) (Kd.V_far (p := ⟨c, 0, none⟩) (Kd.V_mono Zb.out (fun k_ hk => (⟨hk, hk.2⟩ : _ ∧ k_ ≠ c))) (fun _ hk => hk.2) (.string ((rd_T66 a i).f0))) (fun _ hk => hk.2) (.slice u ((rd_T66 a i).f1).length x)) (fun _ hk => ⟨hk.1.1.1, ⟨hk.1.1.2.1, ⟨hk.1.1.2.2, hk.1.2⟩⟩⟩)))⟩; have J : Aside0 (Kd.V k66 66 X w.heap.size (fun k_ => ((j k_ ∨ l k_) ∨ w.heap.size ≤ k_) ∧ some k_ ≠ (u3 : Value).ownBlock ∧ k_ ≠ d ∧ k_ ≠ c) (.slice (some M) a.length s) a) := ⟨(by rw [hw]; exact (by (with_reducible repeat (first | apply Kd.V_alloc | apply Kd.V_drewN | apply Kd.V_drew)); exact Kd.V_mono (Kd.V_far (p := ⟨c, 1, none⟩) (Kd.V_far (p := ⟨c, 0, none⟩) (Kd.V_mono Zc.out (fun k_ hk => (⟨hk, hk.2⟩ : _ ∧ k_ ≠ c))) (fun _ hk => hk.2) (.string ((rd_T66 a i).f0))) (fun _ hk => hk.2) (.slice u ((rd_T66 a i).f1).length x)) (fun _ hk => ⟨hk.1.1.1, ⟨hk.1.1.2.1, ⟨hk.1.1.2.2, hk.1.2⟩⟩⟩)))⟩; have L : Aside0 (Kd.V (Kd.int .i64) 3 X w.heap.size (fun k_ => ((j k_ ∨ l k_) ∨ w.heap.size ≤ k_) ∧ some k_ ≠ (u3 : Value).ownBlock ∧ k_ ≠ d ∧ k_ ≠ c) (.slice u ((rd_T66 a i).f1).length x) ((rd_T66 a i).f1)) := ⟨(by rw [hw]; exact (by (with_reducible repeat (first | apply Kd.V_alloc | apply Kd.V_drewN | apply Kd.V_drew)); exact Kd.V_mono (Kd.V_far (p := ⟨c, 1, none⟩) (Kd.V_far (p := ⟨c, 0, none⟩) (Kd.V_mono Zd.out (fun k_ hk => (⟨hk, hk.2⟩ : _ ∧ k_ ≠ c))) (fun _ hk => hk.2) (.string ((rd_T66 a i).f0))) (fun _ hk => hk.2) (.slice u ((rd_T66 a i).f1).length x)) (fun _ hk => ⟨hk.1.1.1, ⟨hk.1.1.2.1, ⟨hk.1.1.2.2, hk.1.2⟩⟩⟩)))⟩; have R : Aside0 (X.heap[d]? = some (.cells #[.slice A y.length B, .slice n m.length q, .slice (some M) a.length s, .slice D z.length E] 26 (0, 0))) := ⟨(by rw [hw]; exact (by (with_reducible repeat (first | refine blk_drewN ?_ _ | refine blk_drew ?_ | refine blk_alloc ?_ _)); refine blk_far ?_ Zi.out _; (with_reducible repeat (first | refine blk_drewN ?_ _ | refine blk_drew ?_ | refine blk_alloc ?_ _)); refine blk_far ?_ Zi.out _; (with_reducible repeat (first | refine blk_drewN ?_ _ | refine blk_drew ?_ | refine blk_alloc ?_ _)); exact Za.out))⟩; have T : Aside0 (X.heap[c]? = some (.cells #[.string ((rd_T66 a i).f0), .slice u ((rd_T66 a i).f1).length x] 66 (0, 0))) := ⟨(by rw [hw]; exact (by (with_reducible repeat (first | refine blk_drewN ?_ _ | refine blk_drew ?_ | refine blk_alloc ?_ _)); refine blk_put (cs := #[.string ((rd_T66 a i).f0), .slice none 0 0]) ?_ 1 _ rfl; (with_reducible repeat (first | refine blk_drewN ?_ _ | refine blk_drew ?_ | refine blk_alloc ?_ _)); refine blk_put (cs := #[.string (⟨#[]⟩ : ByteArray), .slice none 0 0]) ?_ 0 _ rfl; (with_reducible repeat (first | refine blk_drewN ?_ _ | refine blk_drew ?_ | refine blk_alloc ?_ _)); exact Ze.out))⟩; have U : Aside0 (Below w.heap.size w X) := ⟨(by rw [hw]; exact (zg_5 HB.out Zf.out Zm.out))⟩; clear hw; replace Zl := F; replace Zg := G; replace Zb := I; replace Zc := J; replace Zd := L; replace Za := R; replace Ze := T; replace HB := U; clear F G I J L R T U; obtain ⟨_, _, _, _⟩ := zb2 Ze.out) | ((with_reducible refine gate_builtin (b := .append) (xs := #[.tmp 16, .tmp 19]) rfl ?_); at_builtin; refine Kd.N_append (Kd.slice 3 (Kd.int .i64)) (w0 := w) w.heap.size rfl (.tmp 16) (.tmp 19) 58 23 (.slice none 0 0) 24 rfl Tryz.underlying58 info23 rfl (by decide) (by omega) u3 S ((rd_T66 a i).f1) [.slice u ((rd_T66 a i).f1).length x] (fun k_ => ((j k_ ∨ l k_) ∨ w.heap.size ≤ k_) ∧ k_ ≠ d ∧ k_ ≠ c) (fun k_ => ((fun k_ => ((j k_ ∨ l k_) ∨ w.heap.size ≤ k_) ∧ k_ ≠ d ∧ k_ ≠ c)) k_ ∧ some k_ ≠ (u3 : Value).ownBlock) rfl rfl ?aP (fun _ hk => hk) ?aF ?aO ?aB ?aS ?aL ?_; (case aP => exact (Kd.FK_slice_mk (Kd.V_reads' (Kd.V_mono (ok' := (fun k_ => ((fun k_ => ((j k_ ∨ l k_) ∨ w.heap.size ≤ k_) ∧ k_ ≠ d ∧ k_ ≠ c)) k_ ∧ some k_ ≠ (u3 : Value).ownBlock)) (Zd.out) (fun k_ hk => ⟨⟨hk.1, ⟨hk.2.2.1, hk.2.2.2⟩⟩, hk.2.1⟩))).2.1 (Kd.V_F (Kd.V_mono (ok' := (fun k_ => ((fun k_ => ((j k_ ∨ l k_) ∨ w.heap.size ≤ k_) ∧ k_ ≠ d ∧ k_ ≠ c)) k_ ∧ some k_ ≠ (u3 : Value).ownBlock)) (Zd.out) (fun k_ hk => ⟨⟨hk.1, ⟨hk.2.2.1, hk.2.2.2⟩⟩, hk.2.1⟩))))); (case aB => exact (zg_5 HB.out Zf.out Zm.out)); (case aF => exact (fun k_ hk => ⟨(.inr (Nat.le_trans (below_size (zg_5 HB.out Zf.out Zm.out)) hk)), Kd.freshB (g := d) (o := .cells #[.slice A y.length B, .slice n m.length q, .slice (some M) a.length s, .slice D z.length E] 26 (0, 0)) (zg_3 Za.out) k_ hk, Kd.freshB (g := c) (o := .cells #[.string ((rd_T66 a i).f0), .slice u ((rd_T66 a i).f1).length x] 66 (0, 0)) (zg_3 Ze.out) k_ hk⟩)); (case aO => exact (zg_4 Zl.out)); (case aS => exact (below_size (zg_5 HB.out Zf.out Zm.out))); (case aL => have := c6.out; omega); intro e5 e6 ho hb hg hat; rw [← d0.out] at ho; have F := zm (Kd.V_afterv (ok := (fun k_ => ((j k_ ∨ l k_) ∨ w.heap.size ≤ k_) ∧ k_ ≠ d ∧ k_ ≠ c)) (by (with_reducible repeat (first | apply Kd.V_alloc | apply Kd.V_drewN | apply Kd.V_drew)); exact Kd.V_mono Zg.out (fun _ hk => ⟨⟨hk.1, ⟨hk.2.2.1, hk.2.2.2⟩⟩, hk.2.1⟩)) hg hat); have G := zm (Kd.V_afterv (ok := (fun k_ => ((j k_ ∨ l k_) ∨ w.heap.size ≤ k_) ∧ k_ ≠ d ∧ k_ ≠ c)) (by (with_reducible repeat (first | apply Kd.V_alloc | apply Kd.V_drewN | apply Kd.V_drew)); exact Kd.V_mono Zb.out (fun _ hk => ⟨⟨hk.1, ⟨hk.2.2.1, hk.2.2.2⟩⟩, hk.2.1⟩)) hg hat); have I := zm (Kd.V_afterv (ok := (fun k_ => ((j k_ ∨ l k_) ∨ w.heap.size ≤ k_) ∧ k_ ≠ d ∧ k_ ≠ c)) (by (with_reducible repeat (first | apply Kd.V_alloc | apply Kd.V_drewN | apply Kd.V_drew)); exact Kd.V_mono Zc.out (fun _ hk => ⟨⟨hk.1, ⟨hk.2.2.1, hk.2.2.2⟩⟩, hk.2.1⟩)) hg hat); have J := zm (blk_grown (g := d) (o := .cells #[.slice A y.length B, .slice n m.length q, .slice (some M) a.length s, .slice D z.length E] 26 (0, 0)) (zg_3 Za.out) hg (Kd.N_ne Zl.out Za.out (by decide))); have L := zm (Kd.V_afterv (ok := (fun k_ => ((j k_ ∨ l k_) ∨ w.heap.size ≤ k_) ∧ k_ ≠ d ∧ k_ ≠ c)) (by (with_reducible repeat (first | apply Kd.V_alloc | apply Kd.V_drewN | apply Kd.V_drew)); exact Kd.V_mono Zd.out (fun _ hk => ⟨⟨hk.1, ⟨hk.2.2.1, hk.2.2.2⟩⟩, hk.2.1⟩)) hg hat); have R := zm (blk_grown (g := c) (o := .cells #[.string ((rd_T66 a i).f0), .slice u ((rd_T66 a i).f1).length x] 66 (0, 0)) (zg_3 Ze.out) hg (Kd.N_ne Zl.out Ze.out (by decide))); have T := zm (hb); have U := zm (ho); clear Zl; replace Zg := F; replace Zb := G; replace Zc := I; replace Za := J; replace Zd := L; replace Ze := R; replace HB := T; have Zp := U; clear F G I J L R T U; clear ho hb hg hat))
   go_roundg k1
   case measure => have := d2.out; omega
   case rel => exact ⟨(b6), (wrap64 (i + 1)), zr, H', ⟨by have := d2.out; omega⟩, ⟨by (with_reducible repeat (first | apply Kd.N_alloc | apply Kd.N_drewN | apply Kd.N_drew)); exact Kd.N_mono Zp.out (fun _ hk => ⟨hk.1, hk.2.1⟩)⟩, ⟨by (with_reducible repeat (first | apply Kd.V_alloc | apply Kd.V_drewN | apply Kd.V_drew)); exact Kd.V_mono Zg.out (fun _ hk => ⟨hk.1.1, ⟨hk.2, hk.1.2.1⟩⟩)⟩, ⟨by (with_reducible repeat (first | apply Kd.V_alloc | apply Kd.V_drewN | apply Kd.V_drew)); exact Kd.V_mono Zb.out (fun _ hk => ⟨hk.1.1, ⟨hk.2, hk.1.2.1⟩⟩)⟩, ⟨by (with_reducible repeat (first | apply Kd.V_alloc | apply Kd.V_drewN | apply Kd.V_drew)); exact Kd.V_mono Zc.out (fun _ hk => ⟨hk.1.1, ⟨hk.2, hk.1.2.1⟩⟩)⟩, ⟨zl Za.out⟩, ⟨zg_5 HB.out Zf.out Zm.out⟩⟩
def impl_clusters.l0 : Nat → List Int → List Int → Int → Int → Option (List Int)
  | 0, _, _, _, _ => none
  | k + 1, x3, x7, x8, x9 => if x9 < x8 then (if 0 ≤ x9 then (if x9 < (x7.length : Int) then (if (rd x7 x9) ≥ 2 then (if x3.length < 17592186044416 then (impl_clusters.l0 k (x3 ++ [wrap64 ((rd x7 x9) - 2)]) x7 x8 (wrap64 (x9 + 1))) else (none)) else (impl_clusters.l0 k x3 x7 x8 (wrap64 (x9 + 1)))) else (none)) else (none)) else (some x3)
def impl_clusters.f (k : Nat) (l0 : List Int) : Option (List Int) := impl_clusters.l0 k (([] : List Int)) l0 (l0.length : Int) 0
theorem impl_clusters.mono_l : ∀ k, (∀ y0 y1 y2 y3, LeO (impl_clusters.l0 k y0 y1 y2 y3) (impl_clusters.l0 (k + 1) y0 y1 y2 y3))
  | 0 => fun _ _ _ _ r h => by simp [impl_clusters.l0] at h
  | k + 1 => by
    have ih0 := impl_clusters.mono_l k
    · intro y0 y1 y2 y3
      unfold impl_clusters.l0
      repeat' first| (with_reducible first | exact ih0 _ _ _ _ | exact LeO.refl _ | exact LeO.none _ | refine LeO.ite ?_ ?_ | refine LeO.bind ?_ (fun _ => ?_)) | exact ih0 _ _ _ _ | exact LeO.none _ | refine LeO.ite ?_ ?_ | refine LeO.bind ?_ (fun _ => ?_)
theorem impl_clusters.mono : ∀ a0 k, LeO (impl_clusters.f k a0) (impl_clusters.f (k + 1) a0) := by
  intro a0 k
  have ih0 := impl_clusters.mono_l k
  unfold impl_clusters.f
  repeat' first| (with_reducible first | exact ih0 _ _ _ _ | exact LeO.refl _ | exact LeO.none _ | refine LeO.ite ?_ ?_ | refine LeO.bind ?_ (fun _ => ?_)) | exact ih0 _ _ _ _ | exact LeO.none _ | refine LeO.ite ?_ ?_ | refine LeO.bind ?_ (fun _ => ?_)
set_option maxHeartbeats 8000000 in
set_option maxRecDepth 100000 in
theorem impl_clusters.calls (k : Nat) (O : Option Addr) (S : Nat) (c : List Int) (r : List Int) (w : World) (E : Kd.C (Kd.int .i64) w O c.length c) (F : c.length ≤ S) (h : impl_clusters.f k c = some r) :
    Calls Tryz.prog 42 #[.slice O c.length S] w fun e w' => ∃ G : Value, e = .returned (G) ∧ Kd.R (Kd.int .i64) 3 w' w.heap.size (fun _ => True) G r ∧ Below w.heap.size w w' := by
 have I := zm E; have a1 := zm F; clear E F; have HB := zm (Below.refl w.heap.size w)
 have H : (impl_clusters.l0 k (([] : List Int)) c (c.length : Int) 0) = some r := h
 clear h
 obtain ⟨v, j⟩ : ∃ y_ : List Int, y_ = (([] : List Int)) := ⟨_, rfl⟩
 replace H : (impl_clusters.l0 k v c (c.length : Int) 0) = some r := zy H j
 have q := zm j; clear j
 have H' := zm H
 clear H
 go_enter Tryz.func42, Tryz.ntmps42
 go_wp2_with (first | ((with_reducible refine gate_dst (N := 6) rfl ?_); refine Kd.R_lit (Kd.int .i64) _ 3 ?hg (N := 6) ?hd (xs := ([] : List Int)) (inner := []) (ok := fun _ => True) (okp := fun _ => True) ?hr ?hp (fun _ hk => hk) trivial (Below.refl _ _) (Nat.le_refl _) (by simp) ?_; (case hd => rfl); (case hg => rfl); (case hr => first | (go_simp; done) | (go_simp; rfl)); (case hp => exact (Reps.none _ _)); intro T w2 m hb hg_ hnew_; clear hg_ hnew_; (first | rw [← q.out] at m | (simp only [Int.reduceToNat] at m; rw [← q.out] at m)); have n := zm (Kd.R_lower m (below_size (zg_1 HB.out))); have o := zm (below_step (zg_1 HB.out) hb); have Zb := n; replace HB := o; clear n o; clear hb m))
 go_loopg [3, 9] k (fun kq U V w' => ∃ (d : List Int) (a : Int), V = .int .i64 a ∧ Aside0 (impl_clusters.l0 kq d c (c.length : Int) a = some r) ∧ Aside0 (kq ≤ k) ∧ Aside0 (Kd.R (Kd.int .i64) 3 w' w.heap.size (fun _ => True) U d) ∧ Aside0 (Below w.heap.size w w'))
 case atStart => exact ⟨(v), (0), zr, H', ⟨Nat.le_refl _⟩, ⟨zlR Zb.out⟩, ⟨zg_1 HB.out⟩⟩
 case round =>
  clear H'
  try clear p2
  obtain ⟨d, a, rfl, HA, s, Za, HB⟩ := hrel
  cases gk with
  | zero => exact absurd HA.out (by simp [impl_clusters.l0])
  | succ k1 =>
   have H := HA.out; clear HA
   simp only [impl_clusters.l0] at H
   by_cases t : a < (c.length : Int)
   rotate_left
   ·rw [if_neg t] at H
    have J := decide_eq_false t; clear t; obtain rfl := Option.some.inj H
    go_wp2
    go_ret
    exact ⟨_, ze, by (with_reducible repeat (first | apply Kd.R_alloc | apply Kd.R_drewN | apply Kd.R_drew)); exact Za.out, zg_1 HB.out⟩
   rw [if_pos t] at H; have J := decide_eq_true t; clear t
   by_cases y : 0 ≤ a
   rotate_left
   ·rw [if_neg y] at H
    exact absurd H (by simp)
   rw [if_pos y] at H; have X := decide_eq_true y; clear y
   by_cases z : a < (c.length : Int)
   rotate_left
   ·rw [if_neg z] at H
    exact absurd H (by simp)
   rw [if_pos z] at H; have Y := decide_eq_true z; clear z
   by_cases u : (rd c a) ≥ 2
   rotate_left
   ·rw [if_neg u] at H
    have L := decide_eq_false u; clear u
    have H' := zm H
    clear H
    have g : 0 ≤ (a : Int) := zd
    have i : a < (c.length : Int) := zd
    obtain ⟨A, p, hx107_0⟩ := Kd.at_int I.out a g i
    cases p; replace hx107_0 := (HB.out.cell (World.block_lt_of_cell? w _ hx107_0)).trans hx107_0; replace g := eq_true g; replace i := eq_true i
    go_wp2
    go_roundg k1
    case measure => have := s.out; omega
    case rel => exact ⟨(d), (wrap64 (a + 1)), zr, H', ⟨by have := s.out; omega⟩, ⟨zlR Za.out⟩, ⟨zg_1 HB.out⟩⟩
   rw [if_pos u] at H; have L := decide_eq_true u; clear u
   by_cases B : d.length < 17592186044416
   rotate_left
   ·rw [if_neg B] at H
    exact absurd H (by simp)
   rw [if_pos B] at H; have M := zm B; clear B
   obtain ⟨x, l⟩ : ∃ y_ : List Int, y_ = (d ++ [wrap64 ((rd c a) - 2)]) := ⟨_, rfl⟩
   replace H : (impl_clusters.l0 k1 x c (c.length : Int) (wrap64 (a + 1))) = some r := zy H l
   have D := zm l; clear l
   have H' := zm H
   clear H
   have g : 0 ≤ (a : Int) := zd
   have i : a < (c.length : Int) := zd
   obtain ⟨A, p, hx107_0⟩ := Kd.at_int I.out a g i
   cases p; replace hx107_0 := (HB.out.cell (World.block_lt_of_cell? w _ hx107_0)).trans hx107_0; replace g := eq_true g; replace i := eq_true i
   go_wp2_with (first | ((with_reducible refine gate_builtin (b := .append) (xs := #[.tmp 15, .tmp 18]) rfl ?_); at_builtin; refine Kd.R_append (Kd.int .i64) (w0 := w) w.heap.size rfl (.tmp 15) (.tmp 18) 23 3 (.int .i64 0) 8 rfl Tryz.underlying23 info3 rfl (by decide) (by omega) u3 d (wrap64 ((rd c a) - 2)) [.int .i64 (wrap64 ((rd c a) - 2))] (fun _ => True) (fun _ => False) rfl rfl ?aP (fun _ hk => hk.elim) ?aF ?aO ?aB ?aS ?aL ?_; (case aP => exact rfl); (case aB => exact (zg_1 HB.out)); (case aF => exact (fun _ _ => trivial)); (case aO => exact (zg_6 Za.out)); (case aS => exact (below_size (zg_1 HB.out))); (case aL => have := M.out; omega); intro Z w9 ho hb hg hat; rw [← D.out] at ho; have n := zm (hb); have o := zm (ho); clear Za; replace HB := n; have Zc := o; clear n o; clear ho hb hg hat))
   go_roundg k1
   case measure => have := s.out; omega
   case rel => exact ⟨(x), (wrap64 (a + 1)), zr, H', ⟨by have := s.out; omega⟩, ⟨zlR Zc.out⟩, ⟨zg_1 HB.out⟩⟩
mutual
def impl_Image_counted.l0 : Nat → List Int → List (List Int) → Int → Int → Option (List Int)
  | 0, _, _, _, _ => none
  | k + 1, x3, x10, x11, x12 => if x12 < x11 then (if 0 ≤ x12 then (if x12 < (x10.length : Int) then ((impl_clusters.f k (rd_L3 x10 x12)).bind fun t676 => (impl_Image_counted.l1 k x3 x10 x11 x12 t676 (t676.length : Int) 0)) else (none)) else (none)) else (some x3)
def impl_Image_counted.l1 : Nat → List Int → List (List Int) → Int → Int → List Int → Int → Int → Option (List Int)
  | 0, _, _, _, _, _, _, _ => none
  | k + 1, x3, x10, x11, x12, x17, x18, x19 => if x19 < x18 then (if 0 ≤ x19 then (if x19 < (x17.length : Int) then (if 0 ≤ (rd x17 x19) then (if (rd x17 x19) < (x3.length : Int) then (impl_Image_counted.l1 k (x3.set ((rd x17 x19) : Int).toNat (wrap64 ((rd x3 (rd x17 x19)) + 1))) x10 x11 x12 x17 x18 (wrap64 (x19 + 1))) else (none)) else (none)) else (none)) else (none)) else (impl_Image_counted.l0 k x3 x10 x11 (wrap64 (x12 + 1)))
end
def impl_Image_counted.f (k : Nat) (l0_0 : List Int) (l0_1 : List Int) (l0_2 : List (S66)) (l0_3 : List Int) : Option (List Int) := if 24 ≤ 35184372088832 then ((impl_Image_tables.f k l0_0 l0_1 l0_2 l0_3).bind fun t672 => (impl_Image_counted.l0 k (List.replicate 24 0) t672 (t672.length : Int) 0)) else (none)
theorem impl_Image_counted.mono_l : ∀ k, (∀ y0 y1 y2 y3, LeO (impl_Image_counted.l0 k y0 y1 y2 y3) (impl_Image_counted.l0 (k + 1) y0 y1 y2 y3)) ∧ (∀ y0 y1 y2 y3 y4 y5 y6, LeO (impl_Image_counted.l1 k y0 y1 y2 y3 y4 y5 y6) (impl_Image_counted.l1 (k + 1) y0 y1 y2 y3 y4 y5 y6))
  | 0 => ⟨fun _ _ _ _ r h => by simp [impl_Image_counted.l0] at h, fun _ _ _ _ _ _ _ r h => by simp [impl_Image_counted.l1] at h⟩
  | k + 1 => by
    obtain ⟨ih0, ih1⟩ := impl_Image_counted.mono_l k
    refine ⟨?_, ?_⟩
    · intro y0 y1 y2 y3
      unfold impl_Image_counted.l0
      repeat' first| (with_reducible first | exact ih0 _ _ _ _ | exact ih1 _ _ _ _ _ _ _ | exact impl_Image_tables.mono _ _ _ _ _ | exact impl_clusters.mono _ _ | exact LeO.refl _ | exact LeO.none _ | refine LeO.ite ?_ ?_ | refine LeO.bind ?_ (fun _ => ?_)) | exact ih0 _ _ _ _ | exact ih1 _ _ _ _ _ _ _ | exact LeO.none _ | refine LeO.ite ?_ ?_ | refine LeO.bind ?_ (fun _ => ?_)
    · intro y0 y1 y2 y3 y4 y5 y6
      unfold impl_Image_counted.l1
      repeat' first| (with_reducible first | exact ih0 _ _ _ _ | exact ih1 _ _ _ _ _ _ _ | exact impl_Image_tables.mono _ _ _ _ _ | exact impl_clusters.mono _ _ | exact LeO.refl _ | exact LeO.none _ | refine LeO.ite ?_ ?_ | refine LeO.bind ?_ (fun _ => ?_)) | exact ih0 _ _ _ _ | exact ih1 _ _ _ _ _ _ _ | exact LeO.none _ | refine LeO.ite ?_ ?_ | refine LeO.bind ?_ (fun _ => ?_)
theorem impl_Image_counted.mono : ∀ a0 a1 a2 a3 k, LeO (impl_Image_counted.f k a0 a1 a2 a3) (impl_Image_counted.f (k + 1) a0 a1 a2 a3) := by
  intro a0 a1 a2 a3 k
  obtain ⟨ih0, ih1⟩ := impl_Image_counted.mono_l k
  unfold impl_Image_counted.f
  repeat' first| (with_reducible first | exact ih0 _ _ _ _ | exact ih1 _ _ _ _ _ _ _ | exact impl_Image_tables.mono _ _ _ _ _ | exact impl_clusters.mono _ _ | exact LeO.refl _ | exact LeO.none _ | refine LeO.ite ?_ ?_ | refine LeO.bind ?_ (fun _ => ?_)) | exact ih0 _ _ _ _ | exact ih1 _ _ _ _ _ _ _ | exact LeO.none _ | refine LeO.ite ?_ ?_ | refine LeO.bind ?_ (fun _ => ?_)
set_option maxHeartbeats 8000000 in
set_option maxRecDepth 100000 in
theorem impl_Image_counted.calls (k : Nat) (s : Option Addr) (u : Nat) (j : List Int) (x : Option Addr) (y : Nat) (l : List Int) (z : Option Addr) (A : Nat) (m : List (S66)) (B : Option Addr) (D : Nat) (n : List Int) (r : List Int) (w : World) (b7 : Kd.C (Kd.int .i64) w s j.length j) (b8 : j.length ≤ u) (b9 : Kd.C (Kd.int .i64) w x l.length l) (c0 : l.length ≤ y) (c5 : Kd.C k66 w z m.length m) (c7 : m.length ≤ A) (c8 : Kd.C (Kd.int .i64) w B n.length n) (c9 : n.length ≤ D) (h : impl_Image_counted.f k j l m n = some r) :
    Calls Tryz.prog 16 #[.agg #[.slice s j.length u, .slice x l.length y, .slice z m.length A, .slice B n.length D]] w fun e w' => ∃ f5 : Value, e = .returned (f5) ∧ Kd.R (Kd.int .i64) 3 w' w.heap.size (fun _ => True) f5 r ∧ Below w.heap.size w w' := by
 have hu26 := Tryz.underlying26; have Zn := zm b7; have Zo := zm b8; clear b7 b8; have Zp := zm b9; have Zq := zm c0; clear b9 c0; have Zr := zm c5; have Zs := zm c7; clear c5 c7; have Zt := zm c8; have Zu := zm c9; clear c8 c9; have HB := zm (Below.refl w.heap.size w); have H := h
 unfold impl_Image_counted.f at H
 clear h
 by_cases c2 : 24 ≤ 35184372088832
 rotate_left
 ·rw [if_neg c2] at H
  exact absurd H (by simp)
 rw [if_pos c2] at H; have d9 := eq_true c2; have e0 := decide_eq_true c2; clear c2
 obtain ⟨e1, Z⟩ : ∃ y_ : List Int, y_ = (List.replicate 24 0) := ⟨_, rfl⟩
 replace H : ((impl_Image_tables.f k j l m n).bind fun d => (impl_Image_counted.l0 k e1 d (d.length : Int) 0)) = some r := zy H Z
 have d0 := zm Z; clear Z; replace H := Option.bind_eq_some_iff.mp H
 obtain ⟨d, f6, H⟩ := H
 try dsimp only at H
 have A3 := zm f6; clear f6
 have H' := zm H
 clear H
 go_enter Tryz.func16, Tryz.ntmps16
 go_wp2_with (first | ((with_reducible refine gate_dst (N := 1) rfl ?_); refine box_event ?hg (N := 1) ?hd (cs := #[.slice s j.length u, .slice x l.length y, .slice z m.length A, .slice B n.length D]) (t := 26) ?hr ?_; (case hd => rfl); (case hg => rfl); (case hr => first | (go_simp; done) | (go_simp; rfl)); intro i hg w4 hbox hb; have E := zm (below_step (zg_1 HB.out) hb); have F := zm (hbox); have G := zm ((by rw [hg]; exact (below_size (zg_1 HB.out)) : w.heap.size ≤ i)); have I := zm ((by rw [hg]; exact (below_size (zg_1 HB.out)) : w.heap.size ≤ i)); replace HB := E; have Za := F; have Zj := G; have Zb := I; clear E F G I; clear hb hbox hg) | ((with_reducible refine gate_dst (N := 8) rfl ?_); refine Kd.R_make (Kd.int .i64) _ 3 rfl (N := 8) rfl 23 _ _ rfl 24 rfl rfl Tryz.underlying23 (.int .i64 0) 8 info3 rfl (by decide) (by omega) 0 (ok := fun _ => True) (okp := fun _ => True) rfl (fun _ hk => hk) trivial (by omega) (by omega) (Below.refl _ _) (Nat.le_refl _) ?_; intro L w5 a6 hb hg_ hnew_; clear hg_ hnew_; (first | rw [← d0.out] at a6 | (simp only [Int.reduceToNat] at a6; rw [← d0.out] at a6)); have E := zm (Kd.R_lower a6 (below_size (zg_2 HB.out Zb.out))); have F := zm (blk_below (g := i) (o := .cells #[.slice s j.length u, .slice x l.length y, .slice z m.length A, .slice B n.length D] 26 (0, 0)) (zg_3 Za.out) hb); have G := zm (below_step (zg_2 HB.out Zb.out) hb); have Zf := E; replace Za := F; replace HB := G; clear E F G; clear hb a6; obtain ⟨_, _, _, _, _, _, _, _⟩ := zb4 Za.out) | ((with_reducible refine gate_callee (f := 36) rfl ?_); refine goesL_ (some 10) rfl rfl Tryz.func36 (by kernel_rfl) rfl #[.agg #[.slice s j.length u, .slice x l.length y, .slice z m.length A, .slice B n.length D]] rfl zq ?_; (with_reducible refine (impl_Image_tables.calls k _ _ j (fun k_ => k_ < w.heap.size) _ _ l (fun k_ => k_ < w.heap.size) _ _ m _ _ n d _ ?side1 ?side2 ?side3 ?side4 ?side5 ?side6 A3.out).mono ?_); (case side1 => exact zC (Kd.C_below Zn.out HB.out)); (case side2 => exact Zo.out); (case side3 => exact Kd.V_mk Zq.out (Kd.F_below (Kd.C_F (Kd.heap_int .i64) Zp.out) (zg_2 HB.out Zb.out))); (case side4 => exact Kd.V_mk Zs.out (Kd.F_below (Kd.C_F k66_heap Zr.out) (zg_2 HB.out Zb.out))); (case side5 => exact zC (Kd.C_below Zt.out HB.out)); (case side6 => exact Zu.out); rintro e w8 ⟨h7, rfl, M, hb⟩; refine ⟨_, rfl, ?_⟩; have E := zm (Kd.R_below (zg_6 Zf.out) hb); have F := zm (Kd.N_lower (Kd.N_mono (ok' := fun k_ => some k_ ≠ (L : Value).ownBlock ∧ k_ ≠ i) M (fun k_ hk_ => ⟨Or.elim hk_ (fun hs_ => Or.elim hs_ (fun hs_ => fun e_ => Nat.not_le.2 hs_ (Kd.R_base Zf.out k_ e_.symm)) (fun hs_ => fun e_ => Nat.not_le.2 hs_ (Kd.R_base Zf.out k_ e_.symm))) (fun hn_ => (Kd.fresh' (Kd.R_lt (zg_6 Zf.out)) k_ hn_)), Or.elim hk_ (fun hs_ => Or.elim hs_ (fun hs_ => fun e_ => Nat.not_le.2 hs_ (by rw [e_]; exact Zj.out)) (fun hs_ => fun e_ => Nat.not_le.2 hs_ (by rw [e_]; exact Zj.out))) (fun hn_ => (Kd.freshB (g := i) (o := .cells #[.slice s j.length u, .slice x l.length y, .slice z m.length A, .slice B n.length D] 26 (0, 0)) (zg_3 Za.out) k_ hn_))⟩)) (below_size (zg_2 HB.out Zb.out))); have G := zm (blk_below (g := i) (o := .cells #[.slice s j.length u, .slice x l.length y, .slice z m.length A, .slice B n.length D] 26 (0, 0)) (zg_3 Za.out) hb); have I := zm (below_step (zg_2 HB.out Zb.out) hb); replace Zf := E; have Zk := F; replace Za := G; replace HB := I; clear E F G I; (try clear hb); (try clear hb2); (try clear hk); (try clear hi); (try clear M); obtain ⟨g5, f7, g6⟩ := Kd.N_slice Zk.out; subst g6))
 go_loopg [12] k (fun kq g7 w' => ∃ (a4 : List Int) (c : Int), g7 = .int .i64 c ∧ Aside0 (impl_Image_counted.l0 kq a4 d (d.length : Int) c = some r) ∧ Aside0 (kq ≤ k) ∧ Aside0 (Kd.R (Kd.int .i64) 3 w' w.heap.size (fun _ => True) L a4) ∧ Aside0 (Kd.N (Kd.slice 3 (Kd.int .i64)) 23 w' w.heap.size (fun k_ => some k_ ≠ (L : Value).ownBlock ∧ k_ ≠ i) (.slice g5 d.length f7) d) ∧ Aside0 (w'.heap[i]? = some (.cells #[(.slice s j.length u), (.slice x l.length y), (.slice z m.length A), (.slice B n.length D)] 26 (0, 0))) ∧ Aside0 (Below w.heap.size w w'))
 case atStart => exact ⟨(e1), (0), zr, H', ⟨Nat.le_refl _⟩, ⟨zlR Zf.out⟩, ⟨zlN Zk.out⟩, ⟨zl Za.out⟩, ⟨zg_2 HB.out Zb.out⟩⟩
 case round =>
  clear H'
  try clear c1
  try clear c2
  try clear d9
  try clear e0
  try clear p2
  try clear c3
  obtain ⟨a4, c, rfl, HA, d1, Zd, Zc, Za, HB⟩ := hrel
  cases gk with
  | zero => exact absurd HA.out (by simp [impl_Image_counted.l0])
  | succ k1 =>
   have H := HA.out; clear HA
   simp only [impl_Image_counted.l0] at H
   by_cases O : c < (d.length : Int)
   rotate_left
   ·rw [if_neg O] at H
    have d2 := decide_eq_false O; clear O; obtain rfl := Option.some.inj H
    go_wp2
    go_ret
    exact ⟨_, ze, by (with_reducible repeat (first | apply Kd.R_alloc | apply Kd.R_drewN | apply Kd.R_drew)); exact Zd.out, zg_2 HB.out Zb.out⟩
   rw [if_pos O] at H; have d2 := decide_eq_true O; clear O
   by_cases a7 : 0 ≤ c
   rotate_left
   ·rw [if_neg a7] at H
    exact absurd H (by simp)
   rw [if_pos a7] at H; have f0 := decide_eq_true a7; clear a7
   by_cases a8 : c < (d.length : Int)
   rotate_left
   ·rw [if_neg a8] at H
    exact absurd H (by simp)
   rw [if_pos a8] at H; have f1 := decide_eq_true a8; clear a8; replace H := Option.bind_eq_some_iff.mp H
   obtain ⟨b, e2, H⟩ := H
   try dsimp only at H
   have g9 := zm e2; clear e2
   have H' := zm H
   clear H
   have S : 0 ≤ (c : Int) := zd
   have T : c < (d.length : Int) := zd
   obtain ⟨f2, e3, e4, g0, hx675_0, hl675_0, hi675_0⟩ := at_L3 (Kd.N_reads' Zc.out).2.2 c S T
   cases g0
   obtain ⟨ce675, hce675, hMe675, hcc675⟩ := Kd.N_get Zc.out [] c S (by first | exact T | exact zd | (have e_ := (Kd.N_reads' Zc.out).1; omega))
   obtain ⟨ua675_0, uc675_0, rfl, ul675_0, ge675_0⟩ := Kd.FK_slice_open hMe675
   have hv675_0 := hcc675 0 _ rfl
   rw [Nat.add_zero, show ((Kd.slice 3 (Kd.int .i64))).sz = 1 from rfl, Nat.mul_one] at hv675_0
   replace hv675_0 := Option.some.inj (hv675_0.symm.trans hx675_0)
   injection hv675_0 with hva_ hvn_ hvc_
   rw [hva_] at ge675_0
   rw [hvc_] at ul675_0
   have Zg := zm (show Kd.V (Kd.int .i64) 3 _ w.heap.size _ _ (rd_L3 d c) from Kd.V_mk ul675_0 ge675_0); clear hva_ hvn_ hvc_ ge675_0 ul675_0; clear hcc675 hce675; have Ze := zm hi675_0; have Zi := zm hl675_0; clear hi675_0 hl675_0; replace S := eq_true S; replace T := eq_true T
   go_wp2_with (first | ((with_reducible refine gate_callee (f := 42) rfl ?_); refine goesL_ (some 17) rfl rfl Tryz.func42 (by kernel_rfl) rfl #[.slice e3 (rd_L3 d c).length e4] rfl zq ?_; (with_reducible refine (impl_clusters.calls k1 _ _ (rd_L3 d c) b _ ?side1 ?side2 g9.out).mono ?_); (case side1 => repeat (first | exact (by repeat (first | (with_reducible exact Ze.out) | (with_reducible refine Kd.C_alloc ?_ _) | (with_reducible refine Kd.C_drewN ?_ _) | (with_reducible refine Kd.C_drew ?_) | exact Ze.out)) | (with_reducible refine Kd.C_alloc ?_ _) | (with_reducible refine Kd.C_drewN ?_ _) | (with_reducible refine Kd.C_drew ?_))); (case side2 => exact Zi.out); rintro e i3 ⟨i0, rfl, M, hb⟩; refine ⟨_, rfl, ?_⟩; have E := zm (Kd.R_elder' (zg_6 Zd.out) (Kd.R_base M) hb); have F := zm (Kd.N_elder' (zg_4 Zc.out) (Kd.R_base M) hb); have G := zm (Kd.V_elder' (zg_0 Zg.out) (Kd.R_base M) hb); have I := zm (Kd.R_lower (Kd.R_new' M (Kd.R_lt (zg_6 Zd.out))) (below_size (zg_2 HB.out Zb.out))); have a9 := zm (blk_below (g := i) (o := .cells #[.slice s j.length u, .slice x l.length y, .slice z m.length A, .slice B n.length D] 26 (0, 0)) (zg_3 Za.out) hb); have f8 := zm (Kd.C_below (by repeat (first | (with_reducible exact Ze.out) | (with_reducible refine Kd.C_alloc ?_ _) | (with_reducible refine Kd.C_drewN ?_ _) | (with_reducible refine Kd.C_drew ?_) | exact Ze.out)) hb); have f9 := zm (below_step (zg_2 HB.out Zb.out) hb); replace Zd := E; replace Zc := F; replace Zg := G; have Zl := I; replace Za := a9; replace Ze := f8; replace HB := f9; clear E F G I a9 f8 f9; (try clear hb); (try clear hb2); (try clear hk); (try clear hi); (try clear M); obtain ⟨b1, U, g1⟩ := Kd.R_slice Zl.out; subst g1))
   go_loopg [19] k1 (fun kq h0 w' => ∃ (q : List Int) (a : Int), h0 = .int .i64 a ∧ Aside0 (impl_Image_counted.l1 kq q d (d.length : Int) c b (b.length : Int) a = some r) ∧ Aside0 (kq ≤ k1) ∧ Aside0 (Kd.R (Kd.int .i64) 3 w' w.heap.size (fun k_ => some k_ ≠ ((.slice b1 b.length U) : Value).ownBlock) L q) ∧ Aside0 (Kd.N (Kd.slice 3 (Kd.int .i64)) 23 w' w.heap.size (fun k_ => some k_ ≠ (L : Value).ownBlock ∧ some k_ ≠ ((.slice b1 b.length U) : Value).ownBlock ∧ k_ ≠ i) (.slice (some f2) d.length f7) d) ∧ Aside0 (Kd.R (Kd.int .i64) 3 w' w.heap.size (fun k_ => some k_ ≠ (L : Value).ownBlock) (.slice b1 b.length U) b) ∧ Aside0 (w'.heap[i]? = some (.cells #[(.slice s j.length u), (.slice x l.length y), (.slice z m.length A), (.slice B n.length D)] 26 (0, 0))) ∧ Aside0 (Below w.heap.size w w'))
   case atStart => exact ⟨(a4), (0), zr, H', ⟨Nat.le_refl _⟩, ⟨by (with_reducible repeat (first | apply Kd.R_alloc | apply Kd.R_drewN | apply Kd.R_drew)); exact Kd.R_mono Zd.out (fun _ hk => hk.2)⟩, ⟨by (with_reducible repeat (first | apply Kd.N_alloc | apply Kd.N_drewN | apply Kd.N_drew)); exact Kd.N_mono Zc.out (fun _ hk => ⟨hk.1.1, ⟨hk.2, hk.1.2⟩⟩)⟩, ⟨by (with_reducible repeat (first | apply Kd.R_alloc | apply Kd.R_drewN | apply Kd.R_drew)); exact Kd.R_mono Zl.out (fun _ hk => hk.2)⟩, ⟨zl Za.out⟩, ⟨zg_2 HB.out Zb.out⟩⟩
   case round =>
    clear H'
    try clear c1
    try clear c2
    try clear d9
    try clear e0
    try clear p2
    try clear c3
    try clear c4
    try clear c6
    try clear p6
    try clear q6
    try clear hx6
    try clear O
    try clear d2
    try clear a7
    try clear f0
    try clear a8
    try clear f1
    try clear hx675_0
    try clear p2
    try clear S
    try clear T
    obtain ⟨q, a, rfl, HA, d3, Zd, Zc, Zh, Za, HB⟩ := hrel
    cases gk with
    | zero => exact absurd HA.out (by simp [impl_Image_counted.l1])
    | succ k2 =>
     have H := HA.out; clear HA
     simp only [impl_Image_counted.l1] at H
     by_cases Y : a < (b.length : Int)
     rotate_left
     ·rw [if_neg Y] at H
      have f3 := decide_eq_false Y; clear Y
      have H' := zm H
      clear H
      go_wp2
      go_roundg k2
      case measure => have := d1.out; have := d3.out; omega
      case rel => exact ⟨(q), (wrap64 (c + 1)), zr, H', ⟨by have := d1.out; have := d3.out; omega⟩, ⟨by (with_reducible repeat (first | apply Kd.R_alloc | apply Kd.R_drewN | apply Kd.R_drew)); exact Kd.R_mono Zd.out (fun _ hk => trivial)⟩, ⟨by (with_reducible repeat (first | apply Kd.N_alloc | apply Kd.N_drewN | apply Kd.N_drew)); exact Kd.N_mono Zc.out (fun _ hk => ⟨hk.1, hk.2.2⟩)⟩, ⟨zl Za.out⟩, ⟨zg_2 HB.out Zb.out⟩⟩
     rw [if_pos Y] at H; have f3 := decide_eq_true Y; clear Y
     by_cases d4 : 0 ≤ a
     rotate_left
     ·rw [if_neg d4] at H
      exact absurd H (by simp)
     rw [if_pos d4] at H; have h1 := decide_eq_true d4; clear d4
     by_cases d5 : a < (b.length : Int)
     rotate_left
     ·rw [if_neg d5] at H
      exact absurd H (by simp)
     rw [if_pos d5] at H; have h2 := decide_eq_true d5; clear d5
     by_cases d6 : 0 ≤ (rd b a)
     rotate_left
     ·rw [if_neg d6] at H
      exact absurd H (by simp)
     rw [if_pos d6] at H; have h3 := decide_eq_true d6; clear d6
     by_cases d7 : (rd b a) < (q.length : Int)
     rotate_left
     ·rw [if_neg d7] at H
      exact absurd H (by simp)
     rw [if_pos d7] at H; have h4 := decide_eq_true d7; clear d7
     obtain ⟨b2, a5⟩ : ∃ y_ : List Int, y_ = (q.set ((rd b a) : Int).toNat (wrap64 ((rd q (rd b a)) + 1))) := ⟨_, rfl⟩
     replace H : (impl_Image_counted.l1 k2 b2 d (d.length : Int) c b (b.length : Int) (wrap64 (a + 1))) = some r := zy H a5
     have f4 := zm a5; clear a5
     have H' := zm H
     clear H
     have b3 : 0 ≤ (a : Int) := zd
     have b4 : a < (b.length : Int) := zd
     obtain ⟨d8, g2, hx679_0⟩ := Kd.at_int (Kd.R_reads' Zh.out).2.2 a b3 b4
     cases g2; replace b3 := eq_true b3; replace b4 := eq_true b4
     obtain ⟨i1, X, g3⟩ := Kd.R_slice Zd.out
     subst g3
     have b5 : 0 ≤ ((rd b a) : Int) := zd
     have b6 : (rd b a) < (q.length : Int) := zd
     obtain ⟨h5, g4, hx680_0⟩ := Kd.at_int (Kd.R_reads' Zd.out).2.2 (rd b a) b5 b6
     cases g4; replace b5 := eq_true b5; replace b6 := eq_true b6
     have e5 : 0 ≤ ((rd b a) : Int) := zd
     have e6 : ((rd b a) : Int) < ((q.length : Int) : Int) := zd
     obtain ⟨J, i2, e7, e8, gl21, cl21, HG21⟩ := Kd.R_form Zd.out (by omega)
     (first | cases e7 | (injection e7 with ea_ en_ ec_; (first | subst ea_ | (injection ea_ with ea_; subst ea_)); subst ec_; clear en_))
     have GB21 := zm e8; have Zv := zm HG21; clear e8 gl21 HG21
     (first | simp only [add_plain] at hx680_0 | skip)
     obtain ⟨hx21_0, hf21_0⟩ := Kd.R_celln 0 Zd.out ((rd b a) : Int) e5 e6
     replace e5 := eq_true e5; replace e6 := eq_true e6; have Zm := Kd.R_putg Zd.out ((rd b a) : Int) (wrap64 ((rd q (rd b a)) + 1))
     go_wp2_with (first | ((with_reducible refine gate_store (t := 3) (p := 28) rfl ?_); refine store_event (t := 3) (p := 28) (v := ?vo_w24) (w1 := (wr.setCell ⟨J, ((rd b a) : Int).toNat, none⟩ (.int .i64 (wrap64 ((rd q (rd b a)) + 1))))) ?hg ?ho ?hn ?hr ?_; (case ho => rfl); (case hg => rfl); (case hn => rfl); (case hr => first | (go_simp; done) | (go_simp; rfl)); intro e9 hw; have hg : wr.grownBy e9 (some J) := (by rw [hw]; exact Zm.2); have hp_ : Kd.R (Kd.int .i64) 3 e9 w.heap.size (fun k_ => some k_ ≠ (.slice (some d8) b.length U : Value).ownBlock) (.slice (some ⟨J, 0, none⟩) q.length X) b2 := (by rw [hw, f4.out]; exact Zm.1); clear Zm; have E := zm (hp_); have F := zm (Kd.N_afterv (v := (.slice (some ⟨J, 0, none⟩) q.length X)) (v1 := (.slice (some ⟨J, 0, none⟩) q.length X)) (ok := (fun k_ => some k_ ≠ (.slice (some d8) b.length U : Value).ownBlock ∧ k_ ≠ i)) (by (with_reducible repeat (first | apply Kd.N_alloc | apply Kd.N_drewN | apply Kd.N_drew)); exact Kd.N_mono Zc.out (fun _ hk => ⟨⟨hk.2.1, hk.2.2⟩, hk.1⟩)) hg (.inl rfl)); have G := zm (Kd.R_after (v := (.slice (some ⟨J, 0, none⟩) q.length X)) (v1 := (.slice (some ⟨J, 0, none⟩) q.length X)) (ok := (fun _ => True)) (by (with_reducible repeat (first | apply Kd.R_alloc | apply Kd.R_drewN | apply Kd.R_drew)); exact Kd.R_mono Zh.out (fun _ hk => ⟨trivial, hk⟩)) hg (.inl rfl)); have I := zm (blk_grown (g := i) (o := .cells #[.slice s j.length u, .slice x l.length y, .slice z m.length A, .slice B n.length D] 26 (0, 0)) (zg_3 Za.out) hg (Kd.R_ne Zd.out Za.out (by decide))); have a9 := zm ((by rw [hw]; exact below_set (HB.out) GB21.out : Below w.heap.size w e9)); replace Zd := E; replace Zc := F; replace Zh := G; replace Za := I; replace HB := a9; clear E F G I a9; clear hg hw hp_))
     go_roundg k2
     case measure => have := d1.out; have := d3.out; omega
     case rel => exact ⟨(b2), (wrap64 (a + 1)), zr, H', ⟨by have := d1.out; have := d3.out; omega⟩, ⟨zlR Zd.out⟩, ⟨by (with_reducible repeat (first | apply Kd.N_alloc | apply Kd.N_drewN | apply Kd.N_drew)); exact Kd.N_mono Zc.out (fun _ hk => ⟨hk.2, ⟨hk.1.1, hk.1.2⟩⟩)⟩, ⟨by (with_reducible repeat (first | apply Kd.R_alloc | apply Kd.R_drewN | apply Kd.R_drew)); exact Kd.R_mono Zh.out (fun _ hk => hk.2)⟩, ⟨zl Za.out⟩, ⟨zg_2 HB.out Zb.out⟩⟩
theorem clos35 {α : Type} {d : Kd α} {val : List Value → Value} {F : FuncId} {p : α → Option Bool} (hF : Asks1 F d val p) (a : Addr) (x : α) (cs : List Value) (v : Value) (hv : val cs = v) (r : Bool) (w : World) (hK : d.K w x cs) (hc : w.cell? a = some (.func (.func F) #[] #[])) (h : p x = some r) :
    Calls Tryz.prog 59 #[v, .pointer (some a)] w fun e w' => e = .returned (.bool !r) ∧ Below w.heap.size w w' := by
  obtain ⟨⟨fn, h1, h2, h3⟩, hF⟩ := hF
  have h0 := hF x cs r w hK h
  rw [hv] at h0
  have H := zm h0; have H1 := zm h1; have H2 := zm h2; have H3 := zm h3; clear hF h h1 h2 h3 hK h0 hv
  go_enter Tryz.func59, Tryz.ntmps59
  go_wp2_with (first | ((with_reducible refine gate_dst (N := 6) rfl ?_); refine Stop.out ?_))
  refine ⟨?_⟩
  refine goesV (some 6) rfl rfl H1.out H2.out H3.out #[v] rfl (cap := #[]) ?hx ?hargs ?_
  case hx => rfl
  case hargs => simp [Act.eval]
  refine H.out.mono ?_
  rintro e w1 ⟨rfl, hb⟩
  refine ⟨_, rfl, ?_⟩
  have HB := zm hb; clear hb
  go_wp2
  go_ret
  exact ⟨rfl, HB.out⟩
set_option maxHeartbeats 1000000 in
set_option maxRecDepth 100000 in
theorem idx35 {F : FuncId} {p : (List Int) → Option Bool} (hF : Asks1 F (Kd.slice 3 (Kd.int .i64)) (fun cs => cs.headD undef) p) (A0 : Option Addr) (c0 : Nat) (l0 : List (List Int)) (a : Addr) (r : Bool) (w : World) (hr0 : Kd.C (Kd.slice 3 (Kd.int .i64)) w A0 l0.length l0) (hc0 : l0.length ≤ c0)
    (hcl : w.cell? a = some (.func (.func F) #[] #[])) (h : allO p l0 = some r) :
    Calls Tryz.prog 71 #[.slice A0 l0.length c0, .func (.func 59) #[] #[.pointer (some a)]] w (IdxPost r w) := by
 have hlen : l0.length ≤ 9223372036854775807 := hr0.2.1
 have HR0 := zm hr0; have HCL := zm hcl; have HF := zm hF
 have H' := zm h
 have HB := zm (Below.refl w.heap.size w); clear hr0 hcl hF h
 go_enter Tryz.func71, Tryz.ntmps71
 go_wp2
 go_loopg [8] (l0.length + 1) (fun kq v8 w' => ∃ k : Nat, v8 = .int .i64 (k : Int) ∧ Aside0 (kq + k = l0.length + 1 ∧ k ≤ l0.length) ∧ Aside0 (allO p (l0.drop k) = some r) ∧ Aside0 (Below w.heap.size w w'))
 case atStart => exact ⟨0, rfl, ⟨by omega, by omega⟩, H', HB⟩
 case round =>
  clear H' HB
  obtain ⟨k, rfl, HK, HA, HB⟩ := hrel
  cases gk with
  | zero =>
   have hk := HK.out
   omega
  | succ k1 =>
   by_cases hlt : k < l0.length
   ·have q1 : (k : Int) < (l0.length : Int) := by omega
    have p1 : 0 ≤ (k : Int) := by omega
    obtain ⟨ad, A1, c1, ea, hx, l1, g1⟩ := at_L3 HR0.out (k : Int) p1 q1
    cases ea
    simp only [Int.toNat_natCast] at hx
    replace hx := (HB.out.cell (World.block_lt_of_cell? w _ hx)).trans hx; have HKK := zm (show (Kd.slice 3 (Kd.int .i64)).K w (rd_L3 l0 k) [.slice A1 (rd_L3 l0 k).length c1] from ⟨A1, c1, rfl, l1, g1⟩); clear l1 g1
    have HX := zm (show ∃ b, p (rd_L3 l0 k) = some b ∧ (if b = true then allO p (l0.drop (k+1)) else some false) = some r from by
     have := HA.out
     rw [List.drop_eq_getElem_cons hlt] at this
     simp only [allO] at this
     obtain ⟨b, hb, h2⟩ := Option.bind_eq_some_iff.1 this
     refine ⟨b, ?_, h2⟩
     rw [← hb]; congr 1; simp [rd_L3, hlt])
    obtain ⟨b, hb, h2⟩ := HX.out
    have HPB := zm hb; have H2 := zm h2; have HCL2 := zm ((HB.out.cell (World.block_lt_of_cell? w _ HCL.out)).trans HCL.out); clear HX hb h2 q1 p1 HA
    cases b with
    | true =>
     go_wp2_with (first | ((with_reducible refine gate_dst (N := 16) rfl ?_); refine goesV (some 16) rfl rfl Tryz.func59 (by kernel_rfl) rfl #[.slice A1 (rd_L3 l0 k).length c1, .pointer (some a)] rfl (cap := #[.pointer (some a)]) ?hx ?hargs ?_; (case hx => rfl); (case hargs => simp [Act.eval]); refine (clos35 HF.out a _ [.slice A1 (rd_L3 l0 k).length c1] _ rfl _ _ (Kd.K_below _ HB.out HKK.out) HCL2.out HPB.out).mono ?_; rintro e w2 ⟨rfl, hb⟩; refine ⟨_, rfl, ?_⟩; have HB2 := zm (HB.out.trans (hb.mono HB.out.size)); clear hb))
     go_roundg k1
     case measure => omega
     case rel => exact ⟨k + 1, by simp, ⟨by have := HK.out; omega, by have := HK.out; omega⟩, ⟨by simpa using H2.out⟩, HB2⟩
    | false =>
     go_wp2_with (first | ((with_reducible refine gate_dst (N := 16) rfl ?_); refine goesV (some 16) rfl rfl Tryz.func59 (by kernel_rfl) rfl #[.slice A1 (rd_L3 l0 k).length c1, .pointer (some a)] rfl (cap := #[.pointer (some a)]) ?hx ?hargs ?_; (case hx => rfl); (case hargs => simp [Act.eval]); refine (clos35 HF.out a _ [.slice A1 (rd_L3 l0 k).length c1] _ rfl _ _ (Kd.K_below _ HB.out HKK.out) HCL2.out HPB.out).mono ?_; rintro e w2 ⟨rfl, hb⟩; refine ⟨_, rfl, ?_⟩; have HB2 := zm (HB.out.trans (hb.mono HB.out.size)); clear hb))
     go_ret
     have hr : r = false := by have := H2.out; simpa using this.symm
     exact ⟨k, rfl, by rw [hr]; simp, HB2.out⟩
   ·have hge : l0.length ≤ k := by omega
    go_wp2
    go_ret
    have hr : r = true := by
     have := HA.out
     rw [List.drop_of_length_le hge] at this
     simpa [allO] using this.symm
    exact ⟨-1, rfl, by rw [hr]; decide, HB.out⟩
theorem cont35 {F : FuncId} {p : (List Int) → Option Bool} (hF : Asks1 F (Kd.slice 3 (Kd.int .i64)) (fun cs => cs.headD undef) p) (A0 : Option Addr) (c0 : Nat) (l0 : List (List Int)) (a : Addr) (r : Bool) (w : World) (hr0 : Kd.C (Kd.slice 3 (Kd.int .i64)) w A0 l0.length l0) (hc0 : l0.length ≤ c0)
 (hcl : w.cell? a = some (.func (.func F) #[] #[])) (h : allO p l0 = some r) :
 Calls Tryz.prog 58 #[.slice A0 l0.length c0, .func (.func 59) #[] #[.pointer (some a)]] w fun e w' => e = .returned (.bool !r) ∧ Below w.heap.size w w' := by
 have H := zm (idx35 hF A0 c0 l0 a r w hr0 hc0 hcl h); clear hr0 hcl hF h
 go_enter Tryz.func58, Tryz.ntmps58
 go_wp2_with (go_at_call 71; (with_reducible refine H.out.mono ?_); rintro e w2 ⟨j, rfl, hj, hb⟩; have HJ := zm hj; have HB := zm hb; clear hj hb)
 go_ret
 exact ⟨by rw [← HJ.out]; rfl, HB.out⟩
theorem all35 {F : FuncId} {p : (List Int) → Option Bool} (hF : Asks1 F (Kd.slice 3 (Kd.int .i64)) (fun cs => cs.headD undef) p) (A0 : Option Addr) (c0 : Nat) (l0 : List (List Int)) (r : Bool) (w : World) (hr0 : Kd.C (Kd.slice 3 (Kd.int .i64)) w A0 l0.length l0) (hc0 : l0.length ≤ c0)
 (h : allO p l0 = some r) :
 Calls Tryz.prog 35 #[.slice A0 l0.length c0, .func (.func F) #[] #[]] w fun e w' => e = .returned (.bool r) ∧ Below w.heap.size w w' := by
 have hb1 : ∀ o, Below w.heap.size w (w.alloc o) := fun o => (Below.refl _ _).alloc (Nat.le_refl _) o
 have H := zm (cont35 hF A0 c0 l0 ⟨w.heap.size, 0, none⟩ r (w.alloc (.cells #[.func (.func F) #[] #[]] 53 (0, 0))) (Kd.C_below hr0 (hb1 _)) hc0 (by go_simp) h); have HB0 := zm (hb1 (.cells #[.func (.func F) #[] #[]] 53 (0, 0))); clear hr0 hF h hb1
 go_enter Tryz.func35, Tryz.ntmps35
 go_wp2_with (go_at_call 58; (with_reducible refine H.out.mono ?_); rintro e w2 ⟨rfl, hb⟩; have HB := zm (HB0.out.trans (hb.mono HB0.out.size)); clear hb)
 go_ret
 exact ⟨by simp, HB.out⟩
theorem clos40 {α : Type} {d : Kd α} {val : List Value → Value} {F : FuncId} {p : α → Option Bool} (hF : Asks1 F d val p) (a : Addr) (x : α) (cs : List Value) (v : Value) (hv : val cs = v) (r : Bool) (w : World) (hK : d.K w x cs) (hc : w.cell? a = some (.func (.func F) #[] #[])) (h : p x = some r) :
    Calls Tryz.prog 64 #[v, .pointer (some a)] w fun e w' => e = .returned (.bool !r) ∧ Below w.heap.size w w' := by
  obtain ⟨⟨fn, h1, h2, h3⟩, hF⟩ := hF
  have h0 := hF x cs r w hK h
  rw [hv] at h0
  have H := zm h0; have H1 := zm h1; have H2 := zm h2; have H3 := zm h3; clear hF h h1 h2 h3 hK h0 hv
  go_enter Tryz.func64, Tryz.ntmps64
  go_wp2_with (first | ((with_reducible refine gate_dst (N := 6) rfl ?_); refine Stop.out ?_))
  refine ⟨?_⟩
  refine goesV (some 6) rfl rfl H1.out H2.out H3.out #[v] rfl (cap := #[]) ?hx ?hargs ?_
  case hx => rfl
  case hargs => simp [Act.eval]
  refine H.out.mono ?_
  rintro e w1 ⟨rfl, hb⟩
  refine ⟨_, rfl, ?_⟩
  have HB := zm hb; clear hb
  go_wp2
  go_ret
  exact ⟨rfl, HB.out⟩
set_option maxHeartbeats 1000000 in
set_option maxRecDepth 100000 in
theorem idx40 {F : FuncId} {p : Int → Option Bool} (hF : Asks1 F (Kd.int .i64) (fun cs => cs.headD undef) p) (A0 : Option Addr) (c0 : Nat) (l0 : List Int) (a : Addr) (r : Bool) (w : World) (hr0 : Kd.C (Kd.int .i64) w A0 l0.length l0) (hc0 : l0.length ≤ c0)
    (hcl : w.cell? a = some (.func (.func F) #[] #[])) (h : allO p l0 = some r) :
    Calls Tryz.prog 73 #[.slice A0 l0.length c0, .func (.func 64) #[] #[.pointer (some a)]] w (IdxPost r w) := by
 have hlen : l0.length ≤ 9223372036854775807 := hr0.2.1
 have HR0 := zm hr0; have HCL := zm hcl; have HF := zm hF
 have H' := zm h
 have HB := zm (Below.refl w.heap.size w); clear hr0 hcl hF h
 go_enter Tryz.func73, Tryz.ntmps73
 go_wp2
 go_loopg [8] (l0.length + 1) (fun kq v8 w' => ∃ k : Nat, v8 = .int .i64 (k : Int) ∧ Aside0 (kq + k = l0.length + 1 ∧ k ≤ l0.length) ∧ Aside0 (allO p (l0.drop k) = some r) ∧ Aside0 (Below w.heap.size w w'))
 case atStart => exact ⟨0, rfl, ⟨by omega, by omega⟩, H', HB⟩
 case round =>
  clear H' HB
  obtain ⟨k, rfl, HK, HA, HB⟩ := hrel
  cases gk with
  | zero =>
   have hk := HK.out
   omega
  | succ k1 =>
   by_cases hlt : k < l0.length
   ·have q1 : (k : Int) < (l0.length : Int) := by omega
    have p1 : 0 ≤ (k : Int) := by omega
    obtain ⟨ad, ea, hx⟩ := Kd.at_int HR0.out (k : Int) p1 q1
    cases ea
    rw [Int.toNat_natCast] at hx
    replace hx := (HB.out.cell (World.block_lt_of_cell? w _ hx)).trans hx; have HKK := zm (show (Kd.int .i64).K w (rd l0 k) [.int .i64 (rd l0 k)] from rfl)
    have HX := zm (show ∃ b, p (rd l0 k) = some b ∧ (if b = true then allO p (l0.drop (k+1)) else some false) = some r from by
     have := HA.out
     rw [List.drop_eq_getElem_cons hlt] at this
     simp only [allO] at this
     obtain ⟨b, hb, h2⟩ := Option.bind_eq_some_iff.1 this
     refine ⟨b, ?_, h2⟩
     rw [← hb]; congr 1; simp [rd, rdOf, hlt])
    obtain ⟨b, hb, h2⟩ := HX.out
    have HPB := zm hb; have H2 := zm h2; have HCL2 := zm ((HB.out.cell (World.block_lt_of_cell? w _ HCL.out)).trans HCL.out); clear HX hb h2 q1 p1 HA
    cases b with
    | true =>
     go_wp2_with (first | ((with_reducible refine gate_dst (N := 16) rfl ?_); refine goesV (some 16) rfl rfl Tryz.func64 (by kernel_rfl) rfl #[.int .i64 (rd l0 k), .pointer (some a)] rfl (cap := #[.pointer (some a)]) ?hx ?hargs ?_; (case hx => rfl); (case hargs => simp [Act.eval]); refine (clos40 HF.out a _ [.int .i64 (rd l0 k)] _ rfl _ _ (Kd.K_below _ HB.out HKK.out) HCL2.out HPB.out).mono ?_; rintro e w2 ⟨rfl, hb⟩; refine ⟨_, rfl, ?_⟩; have HB2 := zm (HB.out.trans (hb.mono HB.out.size)); clear hb))
     go_roundg k1
     case measure => omega
     case rel => exact ⟨k + 1, by simp, ⟨by have := HK.out; omega, by have := HK.out; omega⟩, ⟨by simpa using H2.out⟩, HB2⟩
    | false =>
     go_wp2_with (first | ((with_reducible refine gate_dst (N := 16) rfl ?_); refine goesV (some 16) rfl rfl Tryz.func64 (by kernel_rfl) rfl #[.int .i64 (rd l0 k), .pointer (some a)] rfl (cap := #[.pointer (some a)]) ?hx ?hargs ?_; (case hx => rfl); (case hargs => simp [Act.eval]); refine (clos40 HF.out a _ [.int .i64 (rd l0 k)] _ rfl _ _ (Kd.K_below _ HB.out HKK.out) HCL2.out HPB.out).mono ?_; rintro e w2 ⟨rfl, hb⟩; refine ⟨_, rfl, ?_⟩; have HB2 := zm (HB.out.trans (hb.mono HB.out.size)); clear hb))
     go_ret
     have hr : r = false := by have := H2.out; simpa using this.symm
     exact ⟨k, rfl, by rw [hr]; simp, HB2.out⟩
   ·have hge : l0.length ≤ k := by omega
    go_wp2
    go_ret
    have hr : r = true := by
     have := HA.out
     rw [List.drop_of_length_le hge] at this
     simpa [allO] using this.symm
    exact ⟨-1, rfl, by rw [hr]; decide, HB.out⟩
theorem cont40 {F : FuncId} {p : Int → Option Bool} (hF : Asks1 F (Kd.int .i64) (fun cs => cs.headD undef) p) (A0 : Option Addr) (c0 : Nat) (l0 : List Int) (a : Addr) (r : Bool) (w : World) (hr0 : Kd.C (Kd.int .i64) w A0 l0.length l0) (hc0 : l0.length ≤ c0)
 (hcl : w.cell? a = some (.func (.func F) #[] #[])) (h : allO p l0 = some r) :
 Calls Tryz.prog 63 #[.slice A0 l0.length c0, .func (.func 64) #[] #[.pointer (some a)]] w fun e w' => e = .returned (.bool !r) ∧ Below w.heap.size w w' := by
 have H := zm (idx40 hF A0 c0 l0 a r w hr0 hc0 hcl h); clear hr0 hcl hF h
 go_enter Tryz.func63, Tryz.ntmps63
 go_wp2_with (go_at_call 73; (with_reducible refine H.out.mono ?_); rintro e w2 ⟨j, rfl, hj, hb⟩; have HJ := zm hj; have HB := zm hb; clear hj hb)
 go_ret
 exact ⟨by rw [← HJ.out]; rfl, HB.out⟩
theorem all40 {F : FuncId} {p : Int → Option Bool} (hF : Asks1 F (Kd.int .i64) (fun cs => cs.headD undef) p) (A0 : Option Addr) (c0 : Nat) (l0 : List Int) (r : Bool) (w : World) (hr0 : Kd.C (Kd.int .i64) w A0 l0.length l0) (hc0 : l0.length ≤ c0)
 (h : allO p l0 = some r) :
 Calls Tryz.prog 40 #[.slice A0 l0.length c0, .func (.func F) #[] #[]] w fun e w' => e = .returned (.bool r) ∧ Below w.heap.size w w' := by
 have hb1 : ∀ o, Below w.heap.size w (w.alloc o) := fun o => (Below.refl _ _).alloc (Nat.le_refl _) o
 have H := zm (cont40 hF A0 c0 l0 ⟨w.heap.size, 0, none⟩ r (w.alloc (.cells #[.func (.func F) #[] #[]] 45 (0, 0))) (Kd.C_below hr0 (hb1 _)) hc0 (by go_simp) h); have HB0 := zm (hb1 (.cells #[.func (.func F) #[] #[]] 45 (0, 0))); clear hr0 hF h hb1
 go_enter Tryz.func40, Tryz.ntmps40
 go_wp2_with (go_at_call 63; (with_reducible refine H.out.mono ?_); rintro e w2 ⟨rfl, hb⟩; have HB := zm (HB0.out.trans (hb.mono HB0.out.size)); clear hb)
 go_ret
 exact ⟨by simp, HB.out⟩
def impl_within.f (a0 : Int) (a1 : Int) (a2 : Int) : Option (Bool) := if a1 ≤ a0 then (some (decide (a0 ≤ a2))) else (some false)
set_option maxHeartbeats 8000000 in
set_option maxRecDepth 100000 in
theorem impl_within.calls (a0 : Int) (a1 : Int) (a2 : Int) (r : Bool) (w : World) (h : impl_within.f a0 a1 a2 = some r) :
    Calls Tryz.prog 52 #[.int .i64 a0, .int .i64 a1, .int .i64 a2] w fun e w' => e = .returned (.bool r) ∧ Drawn0 w w' := by
  have H : (if a1 ≤ a0 then (some (decide (a0 ≤ a2))) else (some false)) = some r := h
  clear h
  by_cases a : a1 ≤ a0
  · rw [if_pos a] at H
    have b := decide_eq_true a; clear a; obtain rfl := Option.some.inj H
    go_enter Tryz.func52, Tryz.ntmps52
    go_wp2
    go_ret
    exact ⟨zr, by repeat (first | exact Drawn0.refl _ | apply Drawn0.step)⟩
  rw [if_neg a] at H; have b := decide_eq_false a; clear a; obtain rfl := Option.some.inj H
  go_enter Tryz.func52, Tryz.ntmps52
  go_wp2
  go_ret
  exact ⟨zr, by repeat (first | exact Drawn0.refl _ | apply Drawn0.step)⟩
def impl_TableOK_1.f (a0 : Int) : Option (Bool) := (impl_within.f a0 0 25).bind fun t102 => (some t102)
set_option maxHeartbeats 8000000 in
set_option maxRecDepth 100000 in
theorem impl_TableOK_1.calls (a0 : Int) (r : Bool) (w : World) (h : impl_TableOK_1.f a0 = some r) :
    Calls Tryz.prog 60 #[.int .i64 a0] w fun e w' => e = .returned (.bool r) ∧ Drawn0 w w' := by
  have H : ((impl_within.f a0 0 25).bind fun a => (some a)) = some r := h
  clear h; replace H := Option.bind_eq_some_iff.mp H
  obtain ⟨a, b, H⟩ := H
  replace H : (some a) = some r := H
  have c := zm b; clear b; obtain rfl := Option.some.inj H
  go_enter Tryz.func60, Tryz.ntmps60
  go_wp2_with (first | ((with_reducible refine gate_callee (f := 52) rfl ?_); refine goesL_ (some 4) rfl rfl Tryz.func52 (by kernel_rfl) rfl #[.int .i64 a0, .int .i64 0, .int .i64 25] rfl zq ?_; (with_reducible refine (impl_within.calls a0 0 25 a _ c.out).mono ?_); rintro e w' ⟨rfl, ⟨nd, rfl⟩⟩; refine ⟨_, rfl, ?_⟩))
  go_ret
  exact ⟨zr, by repeat (first | exact Drawn0.refl _ | apply Drawn0.step)⟩
def all40_impl_TableOK_1.f (l0 : List Int) (_ : Unit) : Option Bool := allO (fun x => impl_TableOK_1.f x) l0
theorem all40_impl_TableOK_1.asks : Asks1 60 (Kd.int .i64) (fun cs => cs.headD undef) (fun x => impl_TableOK_1.f x) := ⟨⟨_, Tryz.func60, by kernel_rfl, rfl⟩, fun x cs r w hK h => by
  cases hK
  exact (impl_TableOK_1.calls x r w h).mono fun e w' hh => ⟨hh.1, hh.2.below⟩⟩
theorem all40_impl_TableOK_1.calls (b : Option Addr) (c : Nat) (a : List Int) (_u : Unit) (r : Bool) (w : World) (d : Kd.C (Kd.int .i64) w b a.length a) (g : a.length ≤ c) (h : all40_impl_TableOK_1.f a () = some r) :
    Calls Tryz.prog 40 #[.slice b a.length c, .func (.func 60) #[] #[]] w fun e w' => e = .returned (.bool r) ∧ Below w.heap.size w w' :=
  all40 (all40_impl_TableOK_1.asks) b c a r w d g h
def impl_TableOK.f (l0 : List Int) : Option (Bool) := if (l0.length : Int) ≤ 12 then ((all40_impl_TableOK_1.f l0 ()).bind fun t103 => (some t103)) else (some false)
set_option maxHeartbeats 8000000 in
set_option maxRecDepth 100000 in
theorem impl_TableOK.calls (n : Option Addr) (o : Nat) (a : List Int) (r : Bool) (w : World) (d : Kd.C (Kd.int .i64) w n a.length a) (g : a.length ≤ o) (h : impl_TableOK.f a = some r) :
    Calls Tryz.prog 38 #[.slice n a.length o] w fun e w' => e = .returned (.bool r) ∧ Below w.heap.size w w' := by
  have p := zm d; have q := zm g; clear d g; have HB := zm (Below.refl w.heap.size w); have H := h
  unfold impl_TableOK.f at H
  clear h
  by_cases b : (a.length : Int) ≤ 12
  rotate_left
  · rw [if_neg b] at H
    have l := decide_eq_false b
    have m : decide (a.length ≤ 12) = false := decide_eq_false (by omega)
    clear b; obtain rfl := Option.some.inj H
    go_enter Tryz.func38, Tryz.ntmps38
    go_wp2
    go_ret
    exact ⟨ze, by repeat (first | (with_reducible first | exact HB.out | apply below_alloc | apply pw_below_drewN | apply below_drew1) | exact HB.out)⟩
  rw [if_pos b] at H; have l := decide_eq_true b
  have m : decide (a.length ≤ 12) = true := decide_eq_true (by omega)
  clear b; replace H := Option.bind_eq_some_iff.mp H
  obtain ⟨c, i, H⟩ := H
  replace H : (some c) = some r := H
  have s := zm i; clear i; obtain rfl := Option.some.inj H
  go_enter Tryz.func38, Tryz.ntmps38
  go_wp2_with (first | (go_at_call 40; (with_reducible refine (all40_impl_TableOK_1.calls _ _ a () c _ ?side1 ?side2 s.out).mono ?_); (case side1 => exact zC p.out); (case side2 => exact q.out); rintro e t ⟨rfl, hb⟩; have j := zm (below_step (by repeat (first | (with_reducible first | exact HB.out | apply below_alloc | apply pw_below_drewN | apply below_drew1) | exact HB.out)) hb); replace HB := j; clear j; (try clear hb); (try clear hb2); (try clear hk); (try clear hi)))
  go_ret
  exact ⟨ze, by repeat (first | (with_reducible first | exact HB.out | apply below_alloc | apply pw_below_drewN | apply below_drew1) | exact HB.out)⟩
theorem impl_once_reps {l : List Int} {inner : List Value} {w : World} {base : Nat} {ok : Nat → Prop} (h : Reps (Kd.M (Kd.int .i64) w base ok) 1 l inner) : inner = l.map (Value.int .i64) := by
  obtain ⟨h1, h2⟩ := h
  refine List.ext_getElem (by rw [h1, List.length_map, Nat.mul_one]) (fun j hj hj' => ?_)
  have hl : j < l.length := by rw [List.length_map] at hj'; exact hj'
  have h3 : ((inner.drop (j * 1)).take 1) = [.int .i64 l[j]] := h2 j l[j] (List.getElem?_eq_getElem hl)
  rw [Nat.mul_one, List.drop_eq_getElem_cons hj, List.take_succ_cons, List.take_zero] at h3
  rw [List.getElem_map]
  injection h3
theorem impl_once_own {w : World} {base : Nat} {ok : Nat → Prop} {v : Value} {l : List Int} (h : Kd.R (Kd.int .i64) 3 w base ok v l) : w.ownsRow base 3 1 v l.length (l.map (Value.int .i64)) := by
  obtain ⟨_, inner, ho, hr⟩ := h
  have := impl_once_reps hr
  subst this; exact ho
theorem impl_once_held {w w' : World} {g : Nat} {d : Array Int} (h : Sort.Holds (Value.int .i64) w g 0 d) (hb : Below w.heap.size w w') (hg : g < w.heap.size) : Sort.Holds (Value.int .i64) w' g 0 d := fun j hj => by
  obtain ⟨h1, h2⟩ := h j hj
  refine ⟨pw_cell_below hb h1, ?_⟩
  have := hb.block g hg
  unfold World.frozen? at h2 ⊢
  simpa [this] using h2
def impl_once_sorted (l : List Int) : List Int := l.mergeSort (fun x y => decide (x ≤ y))
def impl_once.f (k : Nat) (l0 : List Int) : Option Bool := (impl_clusters.f k l0).bind fun t => if t.length < 8796093022208 then some (((Lib.compact (impl_once_sorted t)).length : Int) == (t.length : Int)) else none
theorem impl_once.mono : ∀ a0 k, LeO (impl_once.f k a0) (impl_once.f (k + 1) a0) := fun l k => LeO.bind (impl_clusters.mono l k) fun t => LeO.refl _
set_option maxHeartbeats 4000000 in
set_option maxRecDepth 100000 in
theorem impl_once.calls (k : Nat) (u : Option Addr) (z : Nat) (m : List Int) (r : Bool) (w : World) (B : Kd.C (Kd.int .i64) w u m.length m) (E : m.length ≤ z) (h : impl_once.f k m = some r) :
    Calls Tryz.prog 39 #[.slice u m.length z] w fun e w' => e = .returned (.bool r) ∧ Below w.heap.size w w' := by
 unfold impl_once.f at h
 obtain ⟨t, ht, h⟩ := Option.bind_eq_some_iff.mp h
 have hlim : t.length < 8796093022208 := by
  by_cases c : t.length < 8796093022208
  ·exact c
  rw [if_neg c] at h; cases h
 rw [if_pos hlim] at h
 cases h
 have key : ∀ (a : World) (o : Value), Below w.heap.size w a → Kd.R (Kd.int .i64) 3 a w.heap.size (fun _ => True) o t →
  ∃ b i, o = .slice b t.length i ∧ Calls Tryz.prog 61 #[.slice b t.length i] a (fun e p => e = .returned (.tuple #[]) ∧ Below w.heap.size w p ∧ ∀ s, Below p.heap.size p s → Calls Tryz.prog 62 #[.slice b t.length i] s (fun e w' => ∃ L N, e = .returned (.slice L (Lib.compact (impl_once_sorted t)).length N) ∧ Below w.heap.size w w')) := by
  intro a o hb1 hR
  have hown := impl_once_own hR
  obtain ⟨b, i, A⟩ := Kd.R_slice hR
  by_cases hn : t = []
  ·subst hn
   refine ⟨b, i, A, (calls_of_every_depth fun D => AnyS.slices_Sort_int_none_alone Tryz.laysSortI D b i a).mono ?_⟩
   rintro e w' ⟨rfl, rfl⟩
   refine ⟨rfl, hb1, fun s hb3 => (calls_of_every_depth fun D => AnyS.slices_Compact_int_empty_in Tryz.laysCompactI D b i s).mono ?_⟩
   rintro e w' ⟨rfl, rfl⟩
   exact ⟨b, i, by simp [impl_once_sorted, Lib.compact, Lib.compactUpTo], below_step hb1 hb3⟩
  have hpos : 0 < t.length := List.length_pos_iff.2 hn
  have hnn : o ≠ .slice none 0 0 := by rw [A]; intro e; injection e with _ J _; omega
  obtain ⟨g, cap, J, hbg, hgl, hncap, hcm, hlen, hH⟩ := Lib.holds_of_ownsRow hown hnn
  rw [J] at A
  injection A with T _ U
  subst T U J
  have hl2 : (impl_once_sorted t).length = t.length := by unfold impl_once_sorted; rw [List.length_mergeSort]
  have hsort := calls_of_every_depth fun D => AnyS.slices_Sort_int_alone Tryz.laysSortI D g 0 cap t a hH hgl (by omega)
  refine ⟨_, _, rfl, hsort.mono ?_⟩
  rintro e p ⟨rfl, nn, os, rfl⟩
  refine ⟨rfl, hb1.grown (grownBy_sortedI _) hb1.size (fun j hj => by cases hj; exact hbg), fun s hb3 => ?_⟩
  have hsz : g < (Sort.grow (Sort.putRow (Value.int .i64) (Sort.ahead a nn) g 0 (impl_once_sorted t).toArray) os).heap.size := Nat.lt_of_lt_of_le hgl (grownBy_sortedI (n := nn) (os := os) _).size
  have hH2 : Sort.Holds (Value.int .i64) (Sort.grow (Sort.putRow (Value.int .i64) (Sort.ahead a nn) g 0 (impl_once_sorted t).toArray) os) g 0 (impl_once_sorted t).toArray :=
   Sort.holds_grow (Value.int .i64) _ os g 0 _ (by simpa [Sort.putRow, Sort.mapBlock, Sort.ahead] using hgl) (Sort.holds_putRow (Value.int .i64) _ g 0 _ _ (Sort.holds_ahead (Value.int .i64) a nn g 0 _ hH) (by simp [impl_once_sorted]))
  have hH3 := impl_once_held hH2 hb3 hsz
  have hcomp := calls_of_every_depth fun D => AnyS.slices_Compact_int_in Tryz.laysCompactI D g 0 cap (impl_once_sorted t) s hH3 (by rw [hl2]; omega) (by rw [hl2]; exact hncap)
  rw [hl2] at hcomp
  refine hcomp.mono ?_
  rintro e O ⟨rfl, q, rfl⟩
  exact ⟨_, _, rfl, Lib.below_putRow (below_step (hb1.grown (grownBy_sortedI _) hb1.size (fun j hj => by cases hj; exact hbg)) hb3) hbg⟩
 have F := zm B; have G := zm E; have HT := zm ht; have KEY := zm key; clear key ht B E
 go_enter Tryz.func39, Tryz.ntmps39
 go_wp2_with (first
  | (go_at_call 61; refine HS.out.mono ?_; rintro e p ⟨rfl, hB2, hC⟩; have V := zm hB2; have HC := zm hC; clear hB2 hC)
  | (go_at_call 62; refine (HC.out p (Below.refl _ _)).mono ?_; rintro e O ⟨L, N, rfl, hB4⟩; have I := zm hB4; clear hB4)
  | (go_at_call 42; refine (impl_clusters.calls k u z m t O (Kd.C_below F.out I.out) G.out HT.out).mono ?_; rintro e X ⟨Y, rfl, hR5, hB5⟩; obtain ⟨Z, c5, rfl⟩ := Kd.R_slice hR5; have S := zm hB5; clear hR5 hB5)
  | (go_at_call 42; refine (impl_clusters.calls k u z m t w F.out G.out HT.out).mono ?_; rintro e a ⟨o, rfl, hR, hB1⟩; obtain ⟨b, i, rfl, hS⟩ := KEY.out a o hB1 hR; have HS := zm hS; clear hS hR hB1))
 go_ret
 exact ⟨rfl, below_step I.out S.out⟩
def impl_Image_nearlyOK_1.f (k : Nat) (l0 : List Int) : Option (Bool) := (impl_TableOK.f l0).bind fun t111 => (if t111 = true then ((impl_once.f k l0).bind fun t112 => (some t112)) else (some false))
theorem impl_Image_nearlyOK_1.mono : ∀ a0 k, LeO (impl_Image_nearlyOK_1.f k a0) (impl_Image_nearlyOK_1.f (k + 1) a0) := by
  intro a0 k
  unfold impl_Image_nearlyOK_1.f
  repeat' first| (with_reducible first | exact impl_once.mono _ _ | exact LeO.refl _ | exact LeO.none _ | refine LeO.ite ?_ ?_ | refine LeO.bind ?_ (fun _ => ?_)) | exact LeO.none _ | refine LeO.ite ?_ ?_ | refine LeO.bind ?_ (fun _ => ?_)
set_option maxHeartbeats 8000000 in
set_option maxRecDepth 100000 in
theorem impl_Image_nearlyOK_1.calls (k : Nat) (c : Option Addr) (j : Nat) (n : List Int) (r : Bool) (w : World) (i : Kd.C (Kd.int .i64) w c n.length n) (D : n.length ≤ j) (h : impl_Image_nearlyOK_1.f k n = some r) :
    Calls Tryz.prog 37 #[.slice c n.length j] w fun e w' => e = .returned (.bool r) ∧ Below w.heap.size w w' := by
 have y := zm i; have z := zm D; clear i D; have HB := zm (Below.refl w.heap.size w); have H := h
 unfold impl_Image_nearlyOK_1.f at H
 clear h; replace H := Option.bind_eq_some_iff.mp H
 obtain ⟨I, F, H⟩ := H
 try dsimp only at H
 have J := zm F; clear F
 by_cases B : I = true
 rotate_left
 ·replace B := Bool.eq_false_iff.mpr B
  subst B
  replace H : (some false) = some r := by rw [if_neg (show ¬ (false = true) by decide)] at H; exact H
  obtain rfl := Option.some.inj H
  go_enter Tryz.func37, Tryz.ntmps37
  go_wp2_with (first | ((with_reducible refine gate_callee (f := 38) rfl ?_); refine goesL_ (some 4) rfl rfl Tryz.func38 (by kernel_rfl) rfl #[.slice c n.length j] rfl zq ?_; (with_reducible refine (impl_TableOK.calls _ _ n false _ ?side1 ?side2 J.out).mono ?_); (case side1 => exact zC y.out); (case side2 => exact z.out); rintro e M ⟨rfl, hb⟩; refine ⟨_, rfl, ?_⟩; have l := zm (below_step (zg_1 HB.out) hb); replace HB := l; clear l; (try clear hb); (try clear hb2); (try clear hk); (try clear hi)))
  go_ret
  exact ⟨ze, zg_1 HB.out⟩
 subst B
 replace H : ((impl_once.f k n).bind fun s => (some s)) = some r := by rw [if_pos rfl] at H; exact H
 replace H := Option.bind_eq_some_iff.mp H
 obtain ⟨s, G, H⟩ := H
 replace H : (some s) = some r := H
 have L := zm G; clear G; obtain rfl := Option.some.inj H
 go_enter Tryz.func37, Tryz.ntmps37
 go_wp2_with (first | ((with_reducible refine gate_callee (f := 38) rfl ?_); refine goesL_ (some 4) rfl rfl Tryz.func38 (by kernel_rfl) rfl #[.slice c n.length j] rfl zq ?_; (with_reducible refine (impl_TableOK.calls _ _ n true _ ?side1 ?side2 J.out).mono ?_); (case side1 => exact zC y.out); (case side2 => exact z.out); rintro e O ⟨rfl, hb⟩; refine ⟨_, rfl, ?_⟩; have l := zm (below_step (zg_1 HB.out) hb); replace HB := l; clear l; (try clear hb); (try clear hb2); (try clear hk); (try clear hi)) | (go_at_call 39; (with_reducible refine (impl_once.calls k _ _ n s _ ?side1 ?side2 L.out).mono ?_); (case side1 => exact zC (Kd.C_below y.out HB.out)); (case side2 => exact z.out); rintro e T ⟨rfl, hb⟩; have l := zm (below_step (zg_1 HB.out) hb); replace HB := l; clear l; (try clear hb); (try clear hb2); (try clear hk); (try clear hi)))
 go_ret
 exact ⟨ze, zg_1 HB.out⟩

/-- A state of type 42 at block g of W; what its slices lead to came in by b. -/
def IsS42 (b W : World) (g : Nat) (f0 : List Int) (f1 : Int) (f2 : Int) : Prop := ∃ c j, W.heap[g]? = some (.cells #[.slice c f0.length j, .int .i64 f1, .int .i64 f2] 42 (0, 0)) ∧ b.heap.size ≤ g ∧ Kd.C (Kd.int .u8) b c f0.length f0
theorem IsS42.grown {b W : World} {g : Nat} {f0 : List Int} {f1 : Int} {f2 : Int} {W1 : World} {row : Option Nat} (h : IsS42 b W g f0 f1 f2) (hw : W.grownBy W1 row) (hne : some g ≠ row) : IsS42 b W1 g f0 f1 f2 := by
 obtain ⟨c, j, hb, hg, i⟩ := h
 exact ⟨c, j, blk_grown hb hw hne, hg, i⟩
theorem IsS42.own_neN {b W : World} {g : Nat} {f0 : List Int} {f1 : Int} {f2 : Int} {α : Type} {d : Kd α} {e : Nat} {base : Nat} {ok : Nat → Prop} {v : Value} {xs : List α} (h : IsS42 b W g f0 f1 f2) (ho : Kd.N d e W base ok v xs) (ht : e ≠ 42) : some g ≠ v.ownBlock := by
 obtain ⟨c, j, hb, hg, i⟩ := h
 exact Kd.N_ne ho hb ht
theorem IsS42.fresh {b W : World} {g : Nat} {f0 : List Int} {f1 : Int} {f2 : Int} (h : IsS42 b W g f0 f1 f2) : ∀ k, W.heap.size ≤ k → k ≠ g := by
 obtain ⟨c, j, hb, hg, i⟩ := h
 exact Kd.freshB hb
theorem IsS42.kept {b W : World} {g : Nat} {f0 : List Int} {f1 : Int} {f2 : Int} {W1 : World} {S : Nat → Prop} (h : IsS42 b W g f0 f1 f2) (hk : Kept W W1 S) (hne : ¬ S g) : IsS42 b W1 g f0 f1 f2 := by
 obtain ⟨c, j, hb, hg, i⟩ := h
 exact ⟨c, j, blk_kept hb hk hne, hg, i⟩
theorem IsS42.below {b W : World} {g : Nat} {f0 : List Int} {f1 : Int} {f2 : Int} {W1 : World} (h : IsS42 b W g f0 f1 f2) (hw : Below W.heap.size W W1) : IsS42 b W1 g f0 f1 f2 := h.grown (grown_of_below hw none) (by simp)
theorem IsS42.alloc {b W : World} {g : Nat} {f0 : List Int} {f1 : Int} {f2 : Int} (h : IsS42 b W g f0 f1 f2) (o : Obj) : IsS42 b (W.alloc o) g f0 f1 f2 := h.below (below_alloc (Below.refl _ _) o)
theorem IsS42.drewN {b W : World} {g : Nat} {f0 : List Int} {f1 : Int} {f2 : Int} (h : IsS42 b W g f0 f1 f2) (m : Nat) : IsS42 b (W.drewN m) g f0 f1 f2 := h
theorem IsS42.drew {b W : World} {g : Nat} {f0 : List Int} {f1 : Int} {f2 : Int} (h : IsS42 b W g f0 f1 f2) : IsS42 b W.drew g f0 f1 f2 := h
theorem IsS42.at_ {b W : World} {g : Nat} {f0 : List Int} {f1 : Int} {f2 : Int} {w' : World} {m : Nat} (hq : W.drewN m = w') (h : IsS42 b W g f0 f1 f2) : IsS42 b w' g f0 f1 f2 := by subst hq; exact IsS42.drewN h m
theorem IsS42.apart {b W : World} {g : Nat} {f0 : List Int} {f1 : Int} {f2 : Int} {α : Type} {d : Kd α} {e : Nat} {base : Nat} {ok : Nat → Prop} {v : Value} {xs : List α} (h : IsS42 b W g f0 f1 f2) (ho : d.R e W base ok v xs) (ht : ∀ q, q ∈ e :: d.E → q ≠ 42) : d.R e W base (fun k => ok k ∧ k ≠ g) v xs := by
 obtain ⟨c, j, hb, hg, i⟩ := h
 exact Kd.R_types ho hb ht
theorem IsS42.own_ne {b W : World} {g : Nat} {f0 : List Int} {f1 : Int} {f2 : Int} {α : Type} {d : Kd α} {e : Nat} {base : Nat} {ok : Nat → Prop} {v : Value} {xs : List α} (h : IsS42 b W g f0 f1 f2) (ho : d.R e W base ok v xs) (ht : e ≠ 42) : some g ≠ v.ownBlock := by
 obtain ⟨c, j, hb, hg, i⟩ := h
 exact Kd.R_ne ho hb ht
theorem IsS42.apartQ {b W : World} {g : Nat} {f0 : List Int} {f1 : Int} {f2 : Int} {α : Type} {d : Kd α} {e : Nat} {base : Nat} {ok : Nat → Prop} {v : Value} {xs : List α} (h : IsS42 b W g f0 f1 f2) (ho : d.Q e W base ok v xs) (ht : ∀ q, q ∈ e :: d.E → q ≠ 42) : d.Q e W base (fun k => ok k ∧ k ≠ g) v xs := by
 obtain ⟨c, j, hb, hg, i⟩ := h
 exact Kd.Q_types ho hb ht
theorem IsS42.own_neQ {b W : World} {g : Nat} {f0 : List Int} {f1 : Int} {f2 : Int} {α : Type} {d : Kd α} {e : Nat} {base : Nat} {ok : Nat → Prop} {v : Value} {xs : List α} (h : IsS42 b W g f0 f1 f2) (ho : d.Q e W base ok v xs) (ht : e ≠ 42) : some g ≠ v.ownBlock := by
 obtain ⟨c, j, hb, hg, i⟩ := h
 exact Kd.Q_ne ho hb ht
theorem IsS42.apartS {b W : World} {g : Nat} {f0 : List Int} {f1 : Int} {f2 : Int} {α : Type} {d : Kd α} {e : Nat} {base : Nat} {ok : Nat → Prop} {v : Value} {xs : List α} (h : IsS42 b W g f0 f1 f2) (ho : d.S e W base ok v xs) (ht : ∀ q, q ∈ e :: d.E → q ≠ 42) : d.S e W base (fun k => ok k ∧ k ≠ g) v xs := by
 obtain ⟨c, j, hb, hg, i⟩ := h
 exact Kd.S_types ho hb ht
theorem IsS42.own_neS {b W : World} {g : Nat} {f0 : List Int} {f1 : Int} {f2 : Int} {α : Type} {d : Kd α} {e : Nat} {base : Nat} {ok : Nat → Prop} {v : Value} {xs : List α} (h : IsS42 b W g f0 f1 f2) (ho : d.S e W base ok v xs) (ht : e ≠ 42) : some g ≠ v.ownBlock := by
 obtain ⟨c, j, hb, hg, i⟩ := h
 exact Kd.S_ne ho hb ht
theorem IsS42.lt {b W : World} {g : Nat} {f0 : List Int} {f1 : Int} {f2 : Int} (h : IsS42 b W g f0 f1 f2) : g < W.heap.size := by
 obtain ⟨c, j, hb, hg, i⟩ := h
 exact blk_lt hb
theorem IsS42.ge {b W : World} {g : Nat} {f0 : List Int} {f1 : Int} {f2 : Int} (h : IsS42 b W g f0 f1 f2) : b.heap.size ≤ g := by
 obtain ⟨c, j, hb, hg, i⟩ := h
 exact hg
theorem IsS42.ne_blk {b W : World} {g : Nat} {f0 : List Int} {f1 : Int} {f2 : Int} {a : Nat} {cs : Array Value} {t : TypeId} {fr : Nat × Nat} (h : IsS42 b W g f0 f1 f2) (hb2 : W.heap[a]? = some (.cells cs t fr)) (ht : t ≠ 42) : g ≠ a := by
 obtain ⟨c, j, hb, hg, i⟩ := h
 rintro rfl
 rw [hb] at hb2
 injection hb2 with hb2
 injection hb2 with _ ht2
 exact ht ht2.symm
theorem IsS42.far {b W : World} {g : Nat} {f0 : List Int} {f1 : Int} {f2 : Int} {p : Addr} (h : IsS42 b W g f0 f1 f2) (hne : g ≠ p.block) (u : Value) : IsS42 b (W.setCell p u) g f0 f1 f2 := by
 obtain ⟨c, j, hb, hg, i⟩ := h
 exact ⟨c, j, blk_far hb hne u, hg, i⟩
theorem cellS42_0 {W : World} {g : Nat} {c : Option Addr} {j : Nat} {f0 : List Int} {f1 : Int} {f2 : Int} (h : W.heap[g]? = some (.cells #[.slice c f0.length j, .int .i64 f1, .int .i64 f2] 42 (0, 0))) : W.cell? ⟨g, 0, none⟩ = some (.slice c f0.length j) := (blk_cell h 0).trans rfl
theorem cellS42_1 {W : World} {g : Nat} {c : Option Addr} {j : Nat} {f0 : List Int} {f1 : Int} {f2 : Int} (h : W.heap[g]? = some (.cells #[.slice c f0.length j, .int .i64 f1, .int .i64 f2] 42 (0, 0))) : W.cell? ⟨g, 1, none⟩ = some (.int .i64 f1) := (blk_cell h 1).trans rfl
theorem IsS42.set_1 {b W : World} {g : Nat} {f0 : List Int} {f1 : Int} {f2 : Int} (h : IsS42 b W g f0 f1 f2) (x : Int) : IsS42 b (W.setCell ⟨g, 1, none⟩ (.int .i64 x)) g f0 x f2 := by
 obtain ⟨c, j, hb, hg, i⟩ := h
 exact ⟨c, j, by simpa using blk_set hb 1 (.int .i64 x), hg, i⟩
theorem cellS42_2 {W : World} {g : Nat} {c : Option Addr} {j : Nat} {f0 : List Int} {f1 : Int} {f2 : Int} (h : W.heap[g]? = some (.cells #[.slice c f0.length j, .int .i64 f1, .int .i64 f2] 42 (0, 0))) : W.cell? ⟨g, 2, none⟩ = some (.int .i64 f2) := (blk_cell h 2).trans rfl
theorem IsS42.set_2 {b W : World} {g : Nat} {f0 : List Int} {f1 : Int} {f2 : Int} (h : IsS42 b W g f0 f1 f2) (x : Int) : IsS42 b (W.setCell ⟨g, 2, none⟩ (.int .i64 x)) g f0 f1 x := by
 obtain ⟨c, j, hb, hg, i⟩ := h
 exact ⟨c, j, by simpa using blk_set hb 2 (.int .i64 x), hg, i⟩
theorem IsS42.new (b W : World) (c : Option Addr) (j : Nat) (f0 : List Int) (f1 : Int) (f2 : Int) (hB : Below b.heap.size b W) (i : Kd.C (Kd.int .u8) b c f0.length f0) : IsS42 b (W.alloc (.cells #[.slice c f0.length j, .int .i64 f1, .int .i64 f2] 42)) W.heap.size f0 f1 f2 := ⟨c, j, by simpa using heap_alloc_new W _, hB.size, i⟩
def all35_impl_Image_nearlyOK_1.f (k : Nat) (l0 : List (List Int)) (_ : Unit) : Option Bool := allO (fun x => impl_Image_nearlyOK_1.f k x) l0
theorem all35_impl_Image_nearlyOK_1.mono : ∀ a0 a1 k, LeO (all35_impl_Image_nearlyOK_1.f k a0 a1) (all35_impl_Image_nearlyOK_1.f (k + 1) a0 a1) := fun l u k => allO_mono (fun x => impl_Image_nearlyOK_1.mono x k) l
theorem all35_impl_Image_nearlyOK_1.asks (k : Nat) : Asks1 37 (Kd.slice 3 (Kd.int .i64)) (fun cs => cs.headD undef) (fun x => impl_Image_nearlyOK_1.f k x) := ⟨⟨_, Tryz.func37, by kernel_rfl, rfl⟩, fun x cs r w hK h => by
  obtain ⟨A0, c0, rfl, l0, g0⟩ := hK
  exact (impl_Image_nearlyOK_1.calls k A0 c0 x r w g0 l0 h).mono fun e w' hh => ⟨hh.1, hh.2⟩⟩
theorem all35_impl_Image_nearlyOK_1.calls (k : Nat) (b : Option Addr) (c : Nat) (a : List (List Int)) (_u : Unit) (r : Bool) (w : World) (d : Kd.C (Kd.slice 3 (Kd.int .i64)) w b a.length a) (g : a.length ≤ c) (h : all35_impl_Image_nearlyOK_1.f k a () = some r) :
    Calls Tryz.prog 35 #[.slice b a.length c, .func (.func 37) #[] #[]] w fun e w' => e = .returned (.bool r) ∧ Below w.heap.size w w' :=
  all35 (all35_impl_Image_nearlyOK_1.asks k) b c a r w d g h
def impl_isNumber.f (a0 : Int) : Option (Bool) := (impl_within.f a0 0 2147483647).bind fun t656 => (some t656)
set_option maxHeartbeats 8000000 in
set_option maxRecDepth 100000 in
theorem impl_isNumber.calls (a0 : Int) (r : Bool) (w : World) (h : impl_isNumber.f a0 = some r) :
    Calls Tryz.prog 41 #[.int .i64 a0] w fun e w' => e = .returned (.bool r) ∧ Drawn0 w w' := by
  have H : ((impl_within.f a0 0 2147483647).bind fun a => (some a)) = some r := h
  clear h; replace H := Option.bind_eq_some_iff.mp H
  obtain ⟨a, b, H⟩ := H
  replace H : (some a) = some r := H
  have c := zm b; clear b; obtain rfl := Option.some.inj H
  go_enter Tryz.func41, Tryz.ntmps41
  go_wp2_with (first | ((with_reducible refine gate_callee (f := 52) rfl ?_); refine goesL_ (some 4) rfl rfl Tryz.func52 (by kernel_rfl) rfl #[.int .i64 a0, .int .i64 0, .int .i64 2147483647] rfl zq ?_; (with_reducible refine (impl_within.calls a0 0 2147483647 a _ c.out).mono ?_); rintro e w' ⟨rfl, ⟨nd, rfl⟩⟩; refine ⟨_, rfl, ?_⟩))
  go_ret
  exact ⟨zr, by repeat (first | exact Drawn0.refl _ | apply Drawn0.step)⟩
def all40_impl_isNumber.f (l0 : List Int) (_ : Unit) : Option Bool := allO (fun x => impl_isNumber.f x) l0
theorem all40_impl_isNumber.asks : Asks1 41 (Kd.int .i64) (fun cs => cs.headD undef) (fun x => impl_isNumber.f x) := ⟨⟨_, Tryz.func41, by kernel_rfl, rfl⟩, fun x cs r w hK h => by
  cases hK
  exact (impl_isNumber.calls x r w h).mono fun e w' hh => ⟨hh.1, hh.2.below⟩⟩
theorem all40_impl_isNumber.calls (b : Option Addr) (c : Nat) (a : List Int) (_u : Unit) (r : Bool) (w : World) (d : Kd.C (Kd.int .i64) w b a.length a) (g : a.length ≤ c) (h : all40_impl_isNumber.f a () = some r) :
    Calls Tryz.prog 40 #[.slice b a.length c, .func (.func 41) #[] #[]] w fun e w' => e = .returned (.bool r) ∧ Below w.heap.size w w' :=
  all40 (all40_impl_isNumber.asks) b c a r w d g h
def impl_Image_names.l0 : Nat → List ByteArray → List (S66) → Int → Int → Option (List ByteArray)
  | 0, _, _, _, _ => none
  | k + 1, x3, x8, x9, x10 => if x10 < x9 then (if 0 ≤ x10 then (if x10 < (x8.length : Int) then (if x3.length < 8796093022208 then (impl_Image_names.l0 k (x3 ++ [(rd_T66 x8 x10).f0]) x8 x9 (wrap64 (x10 + 1))) else (none)) else (none)) else (none)) else (some x3)
def impl_Image_names.f (k : Nat) (l0_0 : List Int) (l0_1 : List Int) (l0_2 : List (S66)) (l0_3 : List Int) : Option (List ByteArray) := impl_Image_names.l0 k (([] : List ByteArray)) l0_2 (l0_2.length : Int) 0
theorem impl_Image_names.mono_l : ∀ k, (∀ y0 y1 y2 y3, LeO (impl_Image_names.l0 k y0 y1 y2 y3) (impl_Image_names.l0 (k + 1) y0 y1 y2 y3))
  | 0 => fun _ _ _ _ r h => by simp [impl_Image_names.l0] at h
  | k + 1 => by
    have ih0 := impl_Image_names.mono_l k
    · intro y0 y1 y2 y3
      unfold impl_Image_names.l0
      repeat' first| (with_reducible first | exact ih0 _ _ _ _ | exact LeO.refl _ | exact LeO.none _ | refine LeO.ite ?_ ?_ | refine LeO.bind ?_ (fun _ => ?_)) | exact ih0 _ _ _ _ | exact LeO.none _ | refine LeO.ite ?_ ?_ | refine LeO.bind ?_ (fun _ => ?_)
theorem impl_Image_names.mono : ∀ a0 a1 a2 a3 k, LeO (impl_Image_names.f k a0 a1 a2 a3) (impl_Image_names.f (k + 1) a0 a1 a2 a3) := by
  intro a0 a1 a2 a3 k
  have ih0 := impl_Image_names.mono_l k
  unfold impl_Image_names.f
  repeat' first| (with_reducible first | exact ih0 _ _ _ _ | exact LeO.refl _ | exact LeO.none _ | refine LeO.ite ?_ ?_ | refine LeO.bind ?_ (fun _ => ?_)) | exact ih0 _ _ _ _ | exact LeO.none _ | refine LeO.ite ?_ ?_ | refine LeO.bind ?_ (fun _ => ?_)
set_option maxHeartbeats 8000000 in
set_option maxRecDepth 100000 in
theorem impl_Image_names.calls (k : Nat) (m : Option Addr) (n : Nat) (i : List Int) (q : Option Addr) (s : Nat) (j : List Int) (G : Option Addr) (u : Nat) (a : List (S66)) (v : Option Addr) (x : Nat) (l : List Int) (r : List ByteArray) (w : World) (U : Kd.C (Kd.int .i64) w m i.length i) (V : i.length ≤ n) (X : Kd.C (Kd.int .i64) w q j.length j) (Y : j.length ≤ s) (Z : Kd.C k66 w G a.length a) (a4 : a.length ≤ u) (a5 : Kd.C (Kd.int .i64) w v l.length l) (a6 : l.length ≤ x) (h : impl_Image_names.f k i j a l = some r) :
    Calls Tryz.prog 34 #[.agg #[.slice m i.length n, .slice q j.length s, .slice G a.length u, .slice v l.length x]] w fun e w' => ∃ b5 : Value, e = .returned (b5) ∧ Kd.R Kd.string 9 w' w.heap.size (fun _ => True) b5 r ∧ Below w.heap.size w w' := by
 have hu26 := Tryz.underlying26; have hu66 := Tryz.underlying66; have Zm := zm U; have Zn := zm V; clear U V; have Zo := zm X; have Zp := zm Y; clear X Y; have Zh := zm Z; have Zq := zm a4; clear Z a4; have Zr := zm a5; have Zs := zm a6; clear a5 a6; have HB := zm (Below.refl w.heap.size w)
 have H : (impl_Image_names.l0 k (([] : List ByteArray)) a (a.length : Int) 0) = some r := h
 clear h
 obtain ⟨a9, I⟩ : ∃ y_ : List ByteArray, y_ = (([] : List ByteArray)) := ⟨_, rfl⟩
 replace H : (impl_Image_names.l0 k a9 a (a.length : Int) 0) = some r := zy H I
 have a7 := zm I; clear I
 have H' := zm H
 clear H
 go_enter Tryz.func34, Tryz.ntmps34
 go_wp2_with (first | ((with_reducible refine gate_dst (N := 1) rfl ?_); refine box_event ?hg (N := 1) ?hd (cs := #[.slice m i.length n, .slice q j.length s, .slice G a.length u, .slice v l.length x]) (t := 26) ?hr ?_; (case hd => rfl); (case hg => rfl); (case hr => first | (go_simp; done) | (go_simp; rfl)); intro d hg w2 hbox hb; have z := zm (below_step (zg_1 HB.out) hb); have A := zm (hbox); have B := zm ((by rw [hg]; exact (below_size (zg_1 HB.out)) : w.heap.size ≤ d)); have E := zm ((by rw [hg]; exact (below_size (zg_1 HB.out)) : w.heap.size ≤ d)); replace HB := z; have Za := A; have Zt := B; have Zb := E; clear z A B E; clear hb hbox hg) | ((with_reducible refine gate_dst (N := 6) rfl ?_); refine Kd.R_lit Kd.string _ 9 ?hg (N := 6) ?hd (xs := ([] : List ByteArray)) (inner := []) (ok := fun _ => True) (okp := fun _ => True) ?hr ?hp (fun _ hk => hk) trivial (Below.refl _ _) (Nat.le_refl _) (by simp) ?_; (case hd => rfl); (case hg => rfl); (case hr => first | (go_simp; done) | (go_simp; rfl)); (case hp => exact (Reps.none _ _)); intro d2 w3 L hb hg_ hnew_; clear hg_ hnew_; (first | rw [← a7.out] at L | (simp only [Int.reduceToNat] at L; rw [← a7.out] at L)); have z := zm (Kd.R_lower L (below_size (zg_2 HB.out Zb.out))); have A := zm (blk_below (g := d) (o := .cells #[.slice m i.length n, .slice q j.length s, .slice G a.length u, .slice v l.length x] 26 (0, 0)) (zg_3 Za.out) hb); have B := zm (below_step (zg_2 HB.out Zb.out) hb); have Zi := z; replace Za := A; replace HB := B; clear z A B; clear hb L; obtain ⟨_, _, _, _, _, _, _, _⟩ := zb4 Za.out))
 go_loopg [3, 10] k (fun kq v3 c5 w' => ∃ (D : List ByteArray) (c : Int), c5 = .int .i64 c ∧ Aside0 (impl_Image_names.l0 kq D a (a.length : Int) c = some r) ∧ Aside0 (kq ≤ k) ∧ Aside0 (Kd.R Kd.string 9 w' w.heap.size (fun _ => True) v3 D) ∧ Aside0 (w'.heap[d]? = some (.cells #[(.slice m i.length n), (.slice q j.length s), (.slice G a.length u), (.slice v l.length x)] 26 (0, 0))) ∧ Aside0 (Below w.heap.size w w'))
 case atStart => exact ⟨(a9), (0), zr, H', ⟨Nat.le_refl _⟩, ⟨zlR Zi.out⟩, ⟨zl Za.out⟩, ⟨zg_2 HB.out Zb.out⟩⟩
 case round =>
  clear H'
  try clear p2
  try clear c3
  obtain ⟨D, c, rfl, HA, b6, Ze, Za, HB⟩ := hrel
  cases gk with
  | zero => exact absurd HA.out (by simp [impl_Image_names.l0])
  | succ k1 =>
   have H := HA.out; clear HA
   simp only [impl_Image_names.l0] at H
   by_cases c6 : c < (a.length : Int)
   rotate_left
   ·rw [if_neg c6] at H
    have c1 := decide_eq_false c6; clear c6; obtain rfl := Option.some.inj H
    go_wp2
    go_ret
    exact ⟨_, ze, by (with_reducible repeat (first | apply Kd.R_alloc | apply Kd.R_drewN | apply Kd.R_drew)); exact Ze.out, zg_2 HB.out Zb.out⟩
   rw [if_pos c6] at H; have c1 := decide_eq_true c6; clear c6
   by_cases c7 : 0 ≤ c
   rotate_left
   ·rw [if_neg c7] at H
    exact absurd H (by simp)
   rw [if_pos c7] at H; have d4 := decide_eq_true c7; clear c7
   by_cases c8 : c < (a.length : Int)
   rotate_left
   ·rw [if_neg c8] at H
    exact absurd H (by simp)
   rw [if_pos c8] at H; have d5 := decide_eq_true c8; clear c8
   by_cases c9 : D.length < 8796093022208
   rotate_left
   ·rw [if_neg c9] at H
    exact absurd H (by simp)
   rw [if_pos c9] at H; have c2 := zm c9; clear c9
   obtain ⟨b0, J⟩ : ∃ y_ : List ByteArray, y_ = (D ++ [(rd_T66 a c).f0]) := ⟨_, rfl⟩
   replace H : (impl_Image_names.l0 k1 b0 a (a.length : Int) (wrap64 (c + 1))) = some r := zy H J
   have b4 := zm J; clear J
   have H' := zm H
   clear H
   have S : 0 ≤ (c : Int) := zd
   have T : c < (a.length : Int) := zd
   obtain ⟨F, M, O, c4, hx642_0, hx642_1, hl642_1, hi642_1⟩ := at_T66 Zh.out c S T
   cases c4; replace hx642_0 := (HB.out.cell (World.block_lt_of_cell? w _ hx642_0)).trans hx642_0; replace hx642_1 := (HB.out.cell (World.block_lt_of_cell? w _ hx642_1)).trans hx642_1; have Zk := zm hi642_1; have Zl := zm hl642_1; clear hi642_1 hl642_1; replace S := eq_true S; replace T := eq_true T
   go_wp2_with (first | ((with_reducible refine gate_dst (N := 5) rfl ?_); refine box_event ?hg (N := 5) ?hd (cs := #[.string (⟨#[]⟩ : ByteArray), .slice none 0 0]) (t := 66) ?hr ?_; (case hd => rfl); (case hg => rfl); (case hr => first | (go_simp; done) | (go_simp; rfl)); intro y hg d7 hbox hb; have z := zm (Kd.R_below (zg_6 Ze.out) hb); have A := zm (blk_below (g := d) (o := .cells #[.slice m i.length n, .slice q j.length s, .slice (some F) a.length u, .slice v l.length x] 26 (0, 0)) (zg_3 Za.out) hb); have B := zm (below_step (zg_2 HB.out Zb.out) hb); have E := zm (hbox); have b7 := zm ((by rw [hg]; exact (below_size (zg_2 HB.out Zb.out)) : w.heap.size ≤ y)); have b8 := zm ((by rw [hg]; exact (below_size (zg_2 HB.out Zb.out)) : w.heap.size ≤ y)); have b9 := zm ((by rw [hg]; exact Nat.ne_of_lt (blk_lt (g := d) (o := .cells #[.slice m i.length n, .slice q j.length s, .slice (some F) a.length u, .slice v l.length x] 26 (0, 0)) (zg_3 Za.out)) : d ≠ y)); have c0 := zm ((by rw [hg]; exact Nat.ne_of_gt (blk_lt (g := d) (o := .cells #[.slice m i.length n, .slice q j.length s, .slice (some F) a.length u, .slice v l.length x] 26 (0, 0)) (zg_3 Za.out)) : y ≠ d)); replace Ze := z; replace Za := A; replace HB := B; have Zc := E; have Zu := b7; have Zg := b8; have Zd := b9; have Zf := c0; clear z A B E b7 b8 b9 c0; clear hb hbox hg; have d0 := Zf.out; have d1 := Zd.out; obtain ⟨_, _, _, _⟩ := zb2 Zc.out) | ((with_reducible refine gate_builtin (b := .append) (xs := #[.tmp 14, .tmp 17]) rfl ?_); at_builtin; refine Kd.R_append Kd.string (w0 := w) w.heap.size rfl (.tmp 14) (.tmp 17) 55 9 (.string ⟨#[]⟩) 16 rfl Tryz.underlying55 info9 rfl (by decide) (by omega) u3 D ((rd_T66 a c).f0) [.string ((rd_T66 a c).f0)] (fun _ => True) (fun _ => False) rfl (by first | (go_simp; done) | (go_simp; rfl)) ?aP (fun _ hk => hk.elim) ?aF ?aO ?aB ?aS ?aL ?_; (case aP => exact rfl); (case aB => exact (zg_5 HB.out Zb.out Zg.out)); (case aF => exact (fun _ _ => trivial)); (case aO => exact (by (with_reducible repeat (first | apply Kd.R_alloc | apply Kd.R_drewN | apply Kd.R_drew)); exact Kd.R_mono (Kd.R_far (p := ⟨y, 1, none⟩) (Kd.R_far (p := ⟨y, 0, none⟩) (Kd.R_types Ze.out Zc.out (by decide)) (fun _ hk => hk.2) (.string ((rd_T66 a c).f0))) (fun _ hk => hk.2) (.slice M ((rd_T66 a c).f1).length O)) (fun _ hk => trivial))); (case aS => exact (below_size (zg_5 HB.out Zb.out Zg.out))); (case aL => have := c2.out; omega); intro d6 d8 ho hb hg hat; rw [← b4.out] at ho; have z := zm (blk_grown (g := d) (o := .cells #[.slice m i.length n, .slice q j.length s, .slice (some F) a.length u, .slice v l.length x] 26 (0, 0)) (by (with_reducible repeat (first | refine blk_drewN ?_ _ | refine blk_drew ?_ | refine blk_alloc ?_ _)); refine blk_far ?_ Zd.out _; (with_reducible repeat (first | refine blk_drewN ?_ _ | refine blk_drew ?_ | refine blk_alloc ?_ _)); refine blk_far ?_ Zd.out _; (with_reducible repeat (first | refine blk_drewN ?_ _ | refine blk_drew ?_ | refine blk_alloc ?_ _)); exact Za.out) hg (Kd.R_ne Ze.out Za.out (by decide))); have A := zm (blk_grown (g := y) (o := .cells #[.string ((rd_T66 a c).f0), .slice M ((rd_T66 a c).f1).length O] 66 (0, 0)) (by (with_reducible repeat (first | refine blk_drewN ?_ _ | refine blk_drew ?_ | refine blk_alloc ?_ _)); refine blk_put (cs := #[.string ((rd_T66 a c).f0), .slice none 0 0]) ?_ 1 _ rfl; (with_reducible repeat (first | refine blk_drewN ?_ _ | refine blk_drew ?_ | refine blk_alloc ?_ _)); refine blk_put (cs := #[.string (⟨#[]⟩ : ByteArray), .slice none 0 0]) ?_ 0 _ rfl; (with_reducible repeat (first | refine blk_drewN ?_ _ | refine blk_drew ?_ | refine blk_alloc ?_ _)); exact Zc.out) hg (Kd.R_ne Ze.out Zc.out (by decide))); have B := zm (hb); have E := zm (ho); clear Ze; replace Za := z; replace Zc := A; replace HB := B; have Zj := E; clear z A B E; clear ho hb hg hat))
   go_roundg k1
   case measure => have := b6.out; omega
   case rel => exact ⟨(b0), (wrap64 (c + 1)), zr, H', ⟨by have := b6.out; omega⟩, ⟨zlR Zj.out⟩, ⟨zl Za.out⟩, ⟨zg_5 HB.out Zb.out Zg.out⟩⟩
def impl_RefsOK_1.f (a0 : Int) : Option (Bool) := (impl_within.f a0 0 15).bind fun t101 => (some t101)
set_option maxHeartbeats 8000000 in
set_option maxRecDepth 100000 in
theorem impl_RefsOK_1.calls (a0 : Int) (r : Bool) (w : World) (h : impl_RefsOK_1.f a0 = some r) :
    Calls Tryz.prog 51 #[.int .i64 a0] w fun e w' => e = .returned (.bool r) ∧ Drawn0 w w' := by
  have H : ((impl_within.f a0 0 15).bind fun a => (some a)) = some r := h
  clear h; replace H := Option.bind_eq_some_iff.mp H
  obtain ⟨a, b, H⟩ := H
  replace H : (some a) = some r := H
  have c := zm b; clear b; obtain rfl := Option.some.inj H
  go_enter Tryz.func51, Tryz.ntmps51
  go_wp2_with (first | ((with_reducible refine gate_callee (f := 52) rfl ?_); refine goesL_ (some 4) rfl rfl Tryz.func52 (by kernel_rfl) rfl #[.int .i64 a0, .int .i64 0, .int .i64 15] rfl zq ?_; (with_reducible refine (impl_within.calls a0 0 15 a _ c.out).mono ?_); rintro e w' ⟨rfl, ⟨nd, rfl⟩⟩; refine ⟨_, rfl, ?_⟩))
  go_ret
  exact ⟨zr, by repeat (first | exact Drawn0.refl _ | apply Drawn0.step)⟩
def all40_impl_RefsOK_1.f (l0 : List Int) (_ : Unit) : Option Bool := allO (fun x => impl_RefsOK_1.f x) l0
theorem all40_impl_RefsOK_1.asks : Asks1 51 (Kd.int .i64) (fun cs => cs.headD undef) (fun x => impl_RefsOK_1.f x) := ⟨⟨_, Tryz.func51, by kernel_rfl, rfl⟩, fun x cs r w hK h => by
  cases hK
  exact (impl_RefsOK_1.calls x r w h).mono fun e w' hh => ⟨hh.1, hh.2.below⟩⟩
theorem all40_impl_RefsOK_1.calls (b : Option Addr) (c : Nat) (a : List Int) (_u : Unit) (r : Bool) (w : World) (d : Kd.C (Kd.int .i64) w b a.length a) (g : a.length ≤ c) (h : all40_impl_RefsOK_1.f a () = some r) :
    Calls Tryz.prog 40 #[.slice b a.length c, .func (.func 51) #[] #[]] w fun e w' => e = .returned (.bool r) ∧ Below w.heap.size w w' :=
  all40 (all40_impl_RefsOK_1.asks) b c a r w d g h
def impl_RefsOK.f (l0 : List Int) : Option (Bool) := if (l0.length : Int) = 24 then ((all40_impl_RefsOK_1.f l0 ()).bind fun t636 => (some t636)) else (some false)
set_option maxHeartbeats 8000000 in
set_option maxRecDepth 100000 in
theorem impl_RefsOK.calls (n : Option Addr) (o : Nat) (a : List Int) (r : Bool) (w : World) (d : Kd.C (Kd.int .i64) w n a.length a) (g : a.length ≤ o) (h : impl_RefsOK.f a = some r) :
    Calls Tryz.prog 32 #[.slice n a.length o] w fun e w' => e = .returned (.bool r) ∧ Below w.heap.size w w' := by
  have p := zm d; have q := zm g; clear d g; have HB := zm (Below.refl w.heap.size w); have H := h
  unfold impl_RefsOK.f at H
  clear h
  by_cases b : (a.length : Int) = 24
  rotate_left
  · rw [if_neg b] at H
    have l : ((a.length : Int) == 24) = false := beq_eq_false_iff_ne.mpr b
    have m : ((a.length : Int) != 24) = true := bne_iff_ne.mpr b
    obtain rfl := Option.some.inj H
    go_enter Tryz.func32, Tryz.ntmps32
    go_wp2
    go_ret
    exact ⟨ze, by repeat (first | (with_reducible first | exact HB.out | apply below_alloc | apply pw_below_drewN | apply below_drew1) | exact HB.out)⟩
  rw [if_pos b] at H
  have l : ((a.length : Int) == 24) = true := beq_iff_eq.mpr b
  have m : ((a.length : Int) != 24) = false := bne_eq_false_iff_eq.mpr b
  clear b; replace H := Option.bind_eq_some_iff.mp H
  obtain ⟨c, i, H⟩ := H
  replace H : (some c) = some r := H
  have s := zm i; clear i; obtain rfl := Option.some.inj H
  go_enter Tryz.func32, Tryz.ntmps32
  go_wp2_with (first | (go_at_call 40; (with_reducible refine (all40_impl_RefsOK_1.calls _ _ a () c _ ?side1 ?side2 s.out).mono ?_); (case side1 => exact zC p.out); (case side2 => exact q.out); rintro e t ⟨rfl, hb⟩; have j := zm (below_step (by repeat (first | (with_reducible first | exact HB.out | apply below_alloc | apply pw_below_drewN | apply below_drew1) | exact HB.out)) hb); replace HB := j; clear j; (try clear hb); (try clear hb2); (try clear hk); (try clear hi)))
  go_ret
  exact ⟨ze, by repeat (first | (with_reducible first | exact HB.out | apply below_alloc | apply pw_below_drewN | apply below_drew1) | exact HB.out)⟩
theorem clos55 {α : Type} {d : Kd α} {val : List Value → Value} {F : FuncId} {p : α → Option Bool} (hF : Asks1 F d val p) (a : Addr) (x : α) (cs : List Value) (v : Value) (hv : val cs = v) (r : Bool) (w : World) (hK : d.K w x cs) (hc : w.cell? a = some (.func (.func F) #[] #[])) (h : p x = some r) :
    Calls Tryz.prog 70 #[v, .pointer (some a)] w fun e w' => e = .returned (.bool !r) ∧ Below w.heap.size w w' := by
  obtain ⟨⟨fn, h1, h2, h3⟩, hF⟩ := hF
  have h0 := hF x cs r w hK h
  rw [hv] at h0
  have H := zm h0; have H1 := zm h1; have H2 := zm h2; have H3 := zm h3; clear hF h h1 h2 h3 hK h0 hv
  go_enter Tryz.func70, Tryz.ntmps70
  go_wp2_with (first | ((with_reducible refine gate_dst (N := 6) rfl ?_); refine Stop.out ?_))
  refine ⟨?_⟩
  refine goesV (some 6) rfl rfl H1.out H2.out H3.out #[v] rfl (cap := #[]) ?hx ?hargs ?_
  case hx => rfl
  case hargs => simp [Act.eval]
  refine H.out.mono ?_
  rintro e w1 ⟨rfl, hb⟩
  refine ⟨_, rfl, ?_⟩
  have HB := zm hb; clear hb
  go_wp2
  go_ret
  exact ⟨rfl, HB.out⟩
set_option maxHeartbeats 1000000 in
set_option maxRecDepth 100000 in
theorem idx55 {F : FuncId} {p : ByteArray → Option Bool} (hF : Asks1 F Kd.string (fun cs => cs.headD undef) p) (A0 : Option Addr) (c0 : Nat) (l0 : List ByteArray) (a : Addr) (r : Bool) (w : World) (hr0 : Kd.C Kd.string w A0 l0.length l0) (hc0 : l0.length ≤ c0)
    (hcl : w.cell? a = some (.func (.func F) #[] #[])) (h : allO p l0 = some r) :
    Calls Tryz.prog 85 #[.slice A0 l0.length c0, .func (.func 70) #[] #[.pointer (some a)]] w (IdxPost r w) := by
 have hlen : l0.length ≤ 9223372036854775807 := hr0.2.1
 have HR0 := zm hr0; have HCL := zm hcl; have HF := zm hF
 have H' := zm h
 have HB := zm (Below.refl w.heap.size w); clear hr0 hcl hF h
 go_enter Tryz.func85, Tryz.ntmps85
 go_wp2
 go_loopg [8] (l0.length + 1) (fun kq v8 w' => ∃ k : Nat, v8 = .int .i64 (k : Int) ∧ Aside0 (kq + k = l0.length + 1 ∧ k ≤ l0.length) ∧ Aside0 (allO p (l0.drop k) = some r) ∧ Aside0 (Below w.heap.size w w'))
 case atStart => exact ⟨0, rfl, ⟨by omega, by omega⟩, H', HB⟩
 case round =>
  clear H' HB
  obtain ⟨k, rfl, HK, HA, HB⟩ := hrel
  cases gk with
  | zero =>
   have hk := HK.out
   omega
  | succ k1 =>
   by_cases hlt : k < l0.length
   ·have q1 : (k : Int) < (l0.length : Int) := by omega
    have p1 : 0 ≤ (k : Int) := by omega
    obtain ⟨ad, ea, hx⟩ := Kd.at_string HR0.out (k : Int) p1 q1
    cases ea
    rw [Int.toNat_natCast] at hx
    replace hx := (HB.out.cell (World.block_lt_of_cell? w _ hx)).trans hx; have HKK := zm (show Kd.string.K w (rdOf ByteArray.empty l0 k) [.string (rdOf ByteArray.empty l0 k)] from rfl)
    have HX := zm (show ∃ b, p (rdOf ByteArray.empty l0 k) = some b ∧ (if b = true then allO p (l0.drop (k+1)) else some false) = some r from by
     have := HA.out
     rw [List.drop_eq_getElem_cons hlt] at this
     simp only [allO] at this
     obtain ⟨b, hb, h2⟩ := Option.bind_eq_some_iff.1 this
     refine ⟨b, ?_, h2⟩
     rw [← hb]; congr 1; simp [rd, rdOf, hlt])
    obtain ⟨b, hb, h2⟩ := HX.out
    have HPB := zm hb; have H2 := zm h2; have HCL2 := zm ((HB.out.cell (World.block_lt_of_cell? w _ HCL.out)).trans HCL.out); clear HX hb h2 q1 p1 HA
    cases b with
    | true =>
     go_wp2_with (first | ((with_reducible refine gate_dst (N := 16) rfl ?_); refine goesV (some 16) rfl rfl Tryz.func70 (by kernel_rfl) rfl #[.string (rdOf ByteArray.empty l0 k), .pointer (some a)] rfl (cap := #[.pointer (some a)]) ?hx ?hargs ?_; (case hx => rfl); (case hargs => simp [Act.eval]); refine (clos55 HF.out a _ [.string (rdOf ByteArray.empty l0 k)] _ rfl _ _ (Kd.K_below _ HB.out HKK.out) HCL2.out HPB.out).mono ?_; rintro e w2 ⟨rfl, hb⟩; refine ⟨_, rfl, ?_⟩; have HB2 := zm (HB.out.trans (hb.mono HB.out.size)); clear hb))
     go_roundg k1
     case measure => omega
     case rel => exact ⟨k + 1, by simp, ⟨by have := HK.out; omega, by have := HK.out; omega⟩, ⟨by simpa using H2.out⟩, HB2⟩
    | false =>
     go_wp2_with (first | ((with_reducible refine gate_dst (N := 16) rfl ?_); refine goesV (some 16) rfl rfl Tryz.func70 (by kernel_rfl) rfl #[.string (rdOf ByteArray.empty l0 k), .pointer (some a)] rfl (cap := #[.pointer (some a)]) ?hx ?hargs ?_; (case hx => rfl); (case hargs => simp [Act.eval]); refine (clos55 HF.out a _ [.string (rdOf ByteArray.empty l0 k)] _ rfl _ _ (Kd.K_below _ HB.out HKK.out) HCL2.out HPB.out).mono ?_; rintro e w2 ⟨rfl, hb⟩; refine ⟨_, rfl, ?_⟩; have HB2 := zm (HB.out.trans (hb.mono HB.out.size)); clear hb))
     go_ret
     have hr : r = false := by have := H2.out; simpa using this.symm
     exact ⟨k, rfl, by rw [hr]; simp, HB2.out⟩
   ·have hge : l0.length ≤ k := by omega
    go_wp2
    go_ret
    have hr : r = true := by
     have := HA.out
     rw [List.drop_of_length_le hge] at this
     simpa [allO] using this.symm
    exact ⟨-1, rfl, by rw [hr]; decide, HB.out⟩
theorem cont55 {F : FuncId} {p : ByteArray → Option Bool} (hF : Asks1 F Kd.string (fun cs => cs.headD undef) p) (A0 : Option Addr) (c0 : Nat) (l0 : List ByteArray) (a : Addr) (r : Bool) (w : World) (hr0 : Kd.C Kd.string w A0 l0.length l0) (hc0 : l0.length ≤ c0)
 (hcl : w.cell? a = some (.func (.func F) #[] #[])) (h : allO p l0 = some r) :
 Calls Tryz.prog 69 #[.slice A0 l0.length c0, .func (.func 70) #[] #[.pointer (some a)]] w fun e w' => e = .returned (.bool !r) ∧ Below w.heap.size w w' := by
 have H := zm (idx55 hF A0 c0 l0 a r w hr0 hc0 hcl h); clear hr0 hcl hF h
 go_enter Tryz.func69, Tryz.ntmps69
 go_wp2_with (go_at_call 85; (with_reducible refine H.out.mono ?_); rintro e w2 ⟨j, rfl, hj, hb⟩; have HJ := zm hj; have HB := zm hb; clear hj hb)
 go_ret
 exact ⟨by rw [← HJ.out]; rfl, HB.out⟩
theorem all55 {F : FuncId} {p : ByteArray → Option Bool} (hF : Asks1 F Kd.string (fun cs => cs.headD undef) p) (A0 : Option Addr) (c0 : Nat) (l0 : List ByteArray) (r : Bool) (w : World) (hr0 : Kd.C Kd.string w A0 l0.length l0) (hc0 : l0.length ≤ c0)
 (h : allO p l0 = some r) :
 Calls Tryz.prog 55 #[.slice A0 l0.length c0, .func (.func F) #[] #[]] w fun e w' => e = .returned (.bool r) ∧ Below w.heap.size w w' := by
 have hb1 : ∀ o, Below w.heap.size w (w.alloc o) := fun o => (Below.refl _ _).alloc (Nat.le_refl _) o
 have H := zm (cont55 hF A0 c0 l0 ⟨w.heap.size, 0, none⟩ r (w.alloc (.cells #[.func (.func F) #[] #[]] 62 (0, 0))) (Kd.C_below hr0 (hb1 _)) hc0 (by go_simp) h); have HB0 := zm (hb1 (.cells #[.func (.func F) #[] #[]] 62 (0, 0))); clear hr0 hF h hb1
 go_enter Tryz.func55, Tryz.ntmps55
 go_wp2_with (go_at_call 69; (with_reducible refine H.out.mono ?_); rintro e w2 ⟨rfl, hb⟩; have HB := zm (HB0.out.trans (hb.mono HB0.out.size)); clear hb)
 go_ret
 exact ⟨by simp, HB.out⟩
def impl_snapNameOK.l0 : Nat → ByteArray → Int → Int → Option (Bool)
  | 0, _, _, _ => none
  | k + 1, x0, x5, x6 => if x6 < x5 then (if 0 ≤ x6 then (if x6 < (x0.size : Int) then (if (bt x0 x6) < 97 then (some false) else (if (bt x0 x6) > 122 then (some false) else (impl_snapNameOK.l0 k x0 x5 (wrap64 (x6 + 1))))) else (none)) else (none)) else ((impl_within.f (x0.size : Int) 1 6).bind fun t637 => (some t637))
def impl_snapNameOK.f (k : Nat) (a0 : ByteArray) : Option (Bool) := impl_snapNameOK.l0 k a0 (a0.size : Int) 0
theorem impl_snapNameOK.mono_l : ∀ k, (∀ y0 y1 y2, LeO (impl_snapNameOK.l0 k y0 y1 y2) (impl_snapNameOK.l0 (k + 1) y0 y1 y2))
  | 0 => fun _ _ _ r h => by simp [impl_snapNameOK.l0] at h
  | k + 1 => by
    have ih0 := impl_snapNameOK.mono_l k
    · intro y0 y1 y2
      unfold impl_snapNameOK.l0
      repeat' first| (with_reducible first | exact ih0 _ _ _ | exact LeO.refl _ | exact LeO.none _ | refine LeO.ite ?_ ?_ | refine LeO.bind ?_ (fun _ => ?_)) | exact ih0 _ _ _ | exact LeO.none _ | refine LeO.ite ?_ ?_ | refine LeO.bind ?_ (fun _ => ?_)
theorem impl_snapNameOK.mono : ∀ a0 k, LeO (impl_snapNameOK.f k a0) (impl_snapNameOK.f (k + 1) a0) := by
  intro a0 k
  have ih0 := impl_snapNameOK.mono_l k
  unfold impl_snapNameOK.f
  repeat' first| (with_reducible first | exact ih0 _ _ _ | exact LeO.refl _ | exact LeO.none _ | refine LeO.ite ?_ ?_ | refine LeO.bind ?_ (fun _ => ?_)) | exact ih0 _ _ _ | exact LeO.none _ | refine LeO.ite ?_ ?_ | refine LeO.bind ?_ (fun _ => ?_)
set_option maxHeartbeats 8000000 in
set_option maxRecDepth 100000 in
theorem impl_snapNameOK.calls (k : Nat) (a0 : ByteArray) (r : Bool) (w : World) (h : impl_snapNameOK.f k a0 = some r) :
    Calls Tryz.prog 56 #[.string a0] w fun e w' => e = .returned (.bool r) ∧ Drawn0 w w' := by
 have H : (impl_snapNameOK.l0 k a0 (a0.size : Int) 0) = some r := h
 clear h
 have H' := zm H
 clear H
 go_enter Tryz.func56, Tryz.ntmps56
 go_wp2
 go_loopg [6] k (fun kq v w' => ∃ (a : Int), v = .int .i64 a ∧ Aside0 (impl_snapNameOK.l0 kq a0 (a0.size : Int) a = some r) ∧ Aside0 (kq ≤ k) ∧ Drawn0 w w')
 case atStart => exact ⟨(0), zr, H', ⟨Nat.le_refl _⟩, by repeat (first | exact Drawn0.refl _ | apply Drawn0.step)⟩
 case round =>
  clear H'
  obtain ⟨a, rfl, HA, p, ⟨m1, rfl⟩⟩ := hrel
  cases gk with
  | zero => exact absurd HA.out (by simp [impl_snapNameOK.l0])
  | succ k1 =>
   have H := HA.out; clear HA
   simp only [impl_snapNameOK.l0] at H
   by_cases d : a < (a0.size : Int)
   rotate_left
   ·rw [if_neg d] at H
    have s := decide_eq_false d; clear d; replace H := Option.bind_eq_some_iff.mp H
    obtain ⟨j, q, H⟩ := H
    replace H : (some j) = some r := H
    have x := zm q; clear q; obtain rfl := Option.some.inj H
    go_wp2_with (first | ((with_reducible refine gate_callee (f := 52) rfl ?_); refine goesL_ (some 22) rfl rfl Tryz.func52 (by kernel_rfl) rfl #[.int .i64 (a0.size : Int), .int .i64 1, .int .i64 6] rfl zq ?_; (with_reducible refine (impl_within.calls (a0.size : Int) 1 6 j _ x.out).mono ?_); rintro e w' ⟨rfl, ⟨nd, rfl⟩⟩; refine ⟨_, rfl, ?_⟩))
    go_ret
    exact ⟨zr, by repeat (first | exact Drawn0.refl _ | apply Drawn0.step)⟩
   rw [if_pos d] at H; have s := decide_eq_true d; clear d
   by_cases n : 0 ≤ a
   rotate_left
   ·rw [if_neg n] at H
    exact absurd H (by simp)
   rw [if_pos n] at H; have y := decide_eq_true n; clear n
   by_cases o : a < (a0.size : Int)
   rotate_left
   ·rw [if_neg o] at H
    exact absurd H (by simp)
   rw [if_pos o] at H; have z := decide_eq_true o; clear o
   by_cases g : (bt a0 a) < 97
   ·rw [if_pos g] at H
    have t := decide_eq_true g; clear g; obtain rfl := Option.some.inj H
    have b : 0 ≤ (a : Int) := zd
    have c : a < (a0.size : Int) := zd
    have hx5 := bt_at a0 a; replace b := eq_true b; replace c := eq_true c
    go_wp2
    go_ret
    exact ⟨zr, by repeat (first | exact Drawn0.refl _ | apply Drawn0.step)⟩
   rw [if_neg g] at H; have t := decide_eq_false g; clear g
   by_cases i : (bt a0 a) > 122
   ·rw [if_pos i] at H
    have u := decide_eq_true i; clear i; obtain rfl := Option.some.inj H
    have b : 0 ≤ (a : Int) := zd
    have c : a < (a0.size : Int) := zd
    have hx5 := bt_at a0 a; replace b := eq_true b; replace c := eq_true c
    have l : 0 ≤ (a : Int) := zd
    have m : a < (a0.size : Int) := zd
    have hx7 := bt_at a0 a; replace l := eq_true l; replace m := eq_true m
    go_wp2
    go_ret
    exact ⟨zr, by repeat (first | exact Drawn0.refl _ | apply Drawn0.step)⟩
   rw [if_neg i] at H; have u := decide_eq_false i; clear i
   have H' := zm H
   clear H
   have b : 0 ≤ (a : Int) := zd
   have c : a < (a0.size : Int) := zd
   have hx5 := bt_at a0 a; replace b := eq_true b; replace c := eq_true c
   have l : 0 ≤ (a : Int) := zd
   have m : a < (a0.size : Int) := zd
   have hx7 := bt_at a0 a; replace l := eq_true l; replace m := eq_true m
   go_wp2
   go_roundg k1
   case measure => have := p.out; omega
   case rel => exact ⟨(wrap64 (a + 1)), zr, H', ⟨by have := p.out; omega⟩, by repeat (first | exact Drawn0.refl _ | apply Drawn0.step)⟩
def all55_impl_snapNameOK.f (k : Nat) (l0 : List ByteArray) (_ : Unit) : Option Bool := allO (fun x => impl_snapNameOK.f k x) l0
theorem all55_impl_snapNameOK.mono : ∀ a0 a1 k, LeO (all55_impl_snapNameOK.f k a0 a1) (all55_impl_snapNameOK.f (k + 1) a0 a1) := fun l u k => allO_mono (fun x => impl_snapNameOK.mono x k) l
theorem all55_impl_snapNameOK.asks (k : Nat) : Asks1 56 Kd.string (fun cs => cs.headD undef) (fun x => impl_snapNameOK.f k x) := ⟨⟨_, Tryz.func56, by kernel_rfl, rfl⟩, fun x cs r w hK h => by
  cases hK
  exact (impl_snapNameOK.calls k x r w h).mono fun e w' hh => ⟨hh.1, hh.2.below⟩⟩
theorem all55_impl_snapNameOK.calls (k : Nat) (b : Option Addr) (c : Nat) (a : List ByteArray) (_u : Unit) (r : Bool) (w : World) (d : Kd.C Kd.string w b a.length a) (g : a.length ≤ c) (h : all55_impl_snapNameOK.f k a () = some r) :
    Calls Tryz.prog 55 #[.slice b a.length c, .func (.func 56) #[] #[]] w fun e w' => e = .returned (.bool r) ∧ Below w.heap.size w w' :=
  all55 (all55_impl_snapNameOK.asks k) b c a r w d g h
def slices_Clone_string_string.f (l0 : List ByteArray) : Option (List ByteArray) := if l0.length < 8796093022208 then some l0 else none
set_option maxHeartbeats 1000000 in
set_option maxRecDepth 100000 in
theorem slices_Clone_string_string.calls (j : Option Addr) (l : Nat) (c : List ByteArray) (r : List ByteArray) (w : World) (i : Kd.C Kd.string w j c.length c) (p : c.length ≤ l) (h : slices_Clone_string_string.f c = some r) :
    Calls Tryz.prog 53 #[.slice j c.length l] w fun e w' => ∃ v : Value, e = .returned v ∧ Kd.R Kd.string 9 w' w.heap.size (fun _ => True) v r ∧ Below w.heap.size w w' := by
  have hlim : c.length < 8796093022208 := by
    unfold slices_Clone_string_string.f at h; split at h
    · assumption
    · cases h
  have hres : c = r := by unfold slices_Clone_string_string.f at h; rw [if_pos hlim] at h; exact Option.some.inj h
  subst hres; have d := zm i; have HB := zm (Below.refl w.heap.size w); have LM := zm hlim
  have heq := fun (wx : World) (a : Option Addr) => Lib.run_eql_slice_nil (P := Tryz.prog) wx 55 9 a c.length l 0 0 Tryz.underlying55
  clear i h hlim
  cases j with
  | none =>
    have hl : c = [] := by
      by_cases hn : 0 < c.length
      rotate_left
      · exact List.eq_nil_of_length_eq_zero (by omega)
      obtain ⟨ad, ha, _⟩ := d.out.2.2 hn
      cases ha
    subst hl
    simp only [List.length_nil] at heq
    clear d LM
    go_enter Tryz.func53, Tryz.ntmps53
    go_wp2
    go_ret
    exact ⟨_, rfl, Kd.R_nil _ _ _ _ _, HB.out⟩
  | some a =>
    go_enter Tryz.func53, Tryz.ntmps53
    go_wp2_with (first | ((with_reducible refine gate_dst (N := 5) rfl ?_); refine Kd.R_lit Kd.string _ 9 ?hg (N := 5) ?hd (xs := ([] : List ByteArray)) (inner := []) (ok := fun _ => True) (okp := fun _ => True) ?hr ?hp (fun _ hk => hk) trivial (Below.refl _ _) (Nat.le_refl _) (by simp) ?_; (case hd => rfl); (case hg => rfl); (case hr => first | (go_simp; done) | (go_simp; rfl)); (case hp => exact (Reps.none _ _)); intro o q ho hb hg_ hnew_; clear hg_ hnew_; have HO := zm ho; have g := zm hb; clear ho hb) | ((with_reducible refine gate_builtin (b := .append) (xs := #[.tmp 5, .tmp 6]) rfl ?_); at_builtin; refine Kd.R_append_rows Kd.string (w0 := w) w.heap.size rfl (.tmp 5) (.tmp 6) 55 9 (.string ⟨#[]⟩) 16 rfl Tryz.underlying55 info9 rfl (by decide) (by omega) o ([] : List ByteArray) c _ _ _ (fun _ => True) (fun _ => False) rfl rfl ?aO ?aR (fun _ _ h => h) (fun _ h => h.elim) ?aF ?aB ?aS ?aL ?_; (case aR => exact Kd.C_below d.out g.out); (case aB => exact g.out); (case aF => exact (fun _ _ => trivial)); (case aO => exact HO.out); (case aS => exact (below_size g.out)); (case aL => have := LM.out; simp; omega); intro s t ho hb hg hat; have m := zm ho; have n := zm hb; clear ho hb hg hat))
    go_ret
    exact ⟨_, rfl, by simpa using m.out, n.out⟩
theorem impl_areNames_reps {l : List ByteArray} {inner : List Value} {w : World} {base : Nat} {ok : Nat → Prop} (h : Reps (Kd.M Kd.string w base ok) 1 l inner) : inner = l.map Value.string := by
  obtain ⟨h1, h2⟩ := h
  refine List.ext_getElem (by rw [h1, List.length_map, Nat.mul_one]) (fun j hj hj' => ?_)
  have hl : j < l.length := by rw [List.length_map] at hj'; exact hj'
  have h3 : ((inner.drop (j * 1)).take 1) = [.string l[j]] := h2 j l[j] (List.getElem?_eq_getElem hl)
  rw [Nat.mul_one, List.drop_eq_getElem_cons hj, List.take_succ_cons, List.take_zero] at h3
  rw [List.getElem_map]
  injection h3
theorem impl_areNames_own {w : World} {base : Nat} {ok : Nat → Prop} {v : Value} {l : List ByteArray} (h : Kd.R Kd.string 9 w base ok v l) : w.ownsRow base 9 1 v l.length ((l.map (·.data.toList)).map encStr) := by
  rw [Lib.map_encStr]
  obtain ⟨_, inner, ho, hr⟩ := h
  have := impl_areNames_reps hr
  subst this; exact ho
theorem impl_areNames_held {w w' : World} {g : Nat} {d : Array (List UInt8)} (h : Sort.Holds encStr w g 0 d) (hb : Below w.heap.size w w') (hg : g < w.heap.size) : Sort.Holds encStr w' g 0 d := fun j hj => by
  obtain ⟨h1, h2⟩ := h j hj
  refine ⟨pw_cell_below hb h1, ?_⟩
  have := hb.block g hg
  unfold World.frozen? at h2 ⊢
  simpa [this] using h2
def impl_areNames_sorted (l : List ByteArray) : List (List UInt8) := (l.map (·.data.toList)).mergeSort (fun x y => decide (x ≤ y))
def impl_areNames.f (k : Nat) (l0 : List ByteArray) : Option Bool := if l0.length < 8796093022208 then (if (l0.length : Int) ≤ 3 then ((all55_impl_snapNameOK.f k l0 ()).bind fun t => if t = true then some (((Lib.compact (impl_areNames_sorted l0)).length : Int) == (l0.length : Int)) else some false) else some false) else none
theorem impl_areNames.mono : ∀ a0 k, LeO (impl_areNames.f k a0) (impl_areNames.f (k + 1) a0) := fun l k => LeO.ite (LeO.ite (LeO.bind (all55_impl_snapNameOK.mono l () k) fun t => LeO.refl _) (LeO.refl _)) (LeO.refl _)
set_option maxHeartbeats 4000000 in
set_option maxRecDepth 100000 in
theorem impl_areNames.calls (k : Nat) (B : Option Addr) (E : Nat) (a : List ByteArray) (r : Bool) (w : World) (J : Kd.C Kd.string w B a.length a) (L : a.length ≤ E) (h : impl_areNames.f k a = some r) :
    Calls Tryz.prog 33 #[.slice B a.length E] w fun e w' => e = .returned (.bool r) ∧ Below w.heap.size w w' := by
 unfold impl_areNames.f at h
 have hlim : a.length < 8796093022208 := by
  by_cases c : a.length < 8796093022208
  ·exact c
  rw [if_neg c] at h; cases h
 rw [if_pos hlim] at h
 have hclone : slices_Clone_string_string.f a = some a := by unfold slices_Clone_string_string.f; exact if_pos hlim
 have key : ∀ (b : World) (o : Value), Below w.heap.size w b → Kd.R Kd.string 9 b w.heap.size (fun _ => True) o a →
  ∃ i m, o = .slice i a.length m ∧ Calls Tryz.prog 54 #[.slice i a.length m] b (fun e s => e = .returned (.tuple #[]) ∧ Below w.heap.size w s ∧ ∀ u, Below s.heap.size s u → Calls Tryz.prog 57 #[.slice i a.length m] u (fun e w' => ∃ O S, e = .returned (.slice O (Lib.compact (impl_areNames_sorted a)).length S) ∧ Below w.heap.size w w')) := by
  intro b o hb1 hR
  have hown := impl_areNames_own hR
  obtain ⟨i, m, G⟩ := Kd.R_slice hR
  by_cases hn : a = []
  ·subst hn
   refine ⟨i, m, G, (calls_of_every_depth fun D => AnyS.slices_Sort_string_none_alone Tryz.laysSort D i m b).mono ?_⟩
   rintro e w' ⟨rfl, rfl⟩
   refine ⟨rfl, hb1, fun u hb3 => (calls_of_every_depth fun D => AnyS.slices_Compact_string_empty_in Tryz.laysCompact D i m u).mono ?_⟩
   rintro e w' ⟨rfl, rfl⟩
   exact ⟨i, m, by simp [impl_areNames_sorted, Lib.compact, Lib.compactUpTo], below_step hb1 hb3⟩
  have hpos : 0 < a.length := List.length_pos_iff.2 hn
  have hnn : o ≠ .slice none 0 0 := by rw [G]; intro e; injection e with _ N _; omega
  obtain ⟨g, cap, N, hbg, hgl, hncap, hcm, hlen, hH⟩ := Lib.holds_of_ownsRow hown hnn
  rw [N] at G
  injection G with U _ V
  subst U V N
  have hl2 : (impl_areNames_sorted a).length = a.length := by unfold impl_areNames_sorted; rw [List.length_mergeSort, List.length_map]
  have hsort := calls_of_every_depth fun D => AnyS.slices_Sort_string_alone Tryz.laysSort D g 0 cap (a.map (·.data.toList)) b hH hgl (by rw [hlen]; omega)
  rw [hlen] at hsort
  refine ⟨_, _, rfl, hsort.mono ?_⟩
  rintro e s ⟨rfl, nn, os, rfl⟩
  refine ⟨rfl, hb1.grown (grownBy_sorted _) hb1.size (fun j hj => by cases hj; exact hbg), fun u hb3 => ?_⟩
  have hsz : g < (Sort.grow (Sort.putRow encStr (Sort.ahead b nn) g 0 (impl_areNames_sorted a).toArray) os).heap.size := Nat.lt_of_lt_of_le hgl (grownBy_sorted (n := nn) (os := os) _).size
  have hH2 : Sort.Holds encStr (Sort.grow (Sort.putRow encStr (Sort.ahead b nn) g 0 (impl_areNames_sorted a).toArray) os) g 0 (impl_areNames_sorted a).toArray :=
   Sort.holds_grow encStr _ os g 0 _ (by simpa [Sort.putRow, Sort.mapBlock, Sort.ahead] using hgl) (Sort.holds_putRow encStr _ g 0 _ _ (Sort.holds_ahead encStr b nn g 0 _ hH) (by simp [impl_areNames_sorted]))
  have hH3 := impl_areNames_held hH2 hb3 hsz
  have hcomp := calls_of_every_depth fun D => AnyS.slices_Compact_string_in Tryz.laysCompact D g 0 cap (impl_areNames_sorted a) u hH3 (by rw [hl2]; omega) (by rw [hl2]; exact hncap)
  rw [hl2] at hcomp
  refine hcomp.mono ?_
  rintro e X ⟨rfl, q, rfl⟩
  exact ⟨_, _, rfl, Lib.below_putRow (below_step (hb1.grown (grownBy_sorted _) hb1.size (fun j hj => by cases hj; exact hbg)) hb3) hbg⟩
 have z := zm J; have A := zm L; have HCL := zm hclone; have KEY := zm key; clear key hclone J L
 by_cases I : (a.length : Int) ≤ 3
 rotate_left
 ·rw [if_neg I] at h
  cases h
  have hd : decide ((a.length : Int) ≤ 3) = false := decide_eq_false I
  go_enter Tryz.func33, Tryz.ntmps33
  go_wp2_with (first
   | (go_at_call 53; refine (slices_Clone_string_string.calls B E a a w z.out A.out HCL.out).mono ?_; rintro e b ⟨o, rfl, hR, hB1⟩; obtain ⟨i, m, rfl, hS⟩ := KEY.out b o hB1 hR; have HS := zm hS; clear hS hR hB1)
   | (go_at_call 54; refine HS.out.mono ?_; rintro e s ⟨rfl, hB2, hC⟩; have p := zm hB2; have HC := zm hC; clear hB2 hC))
  go_ret
  exact ⟨rfl, p.out⟩
 rw [if_pos I] at h
 obtain ⟨t, ht, h⟩ := Option.bind_eq_some_iff.mp h
 have hd : decide ((a.length : Int) ≤ 3) = true := decide_eq_true I
 have HT := zm ht; clear ht
 cases t
 ·cases h
  go_enter Tryz.func33, Tryz.ntmps33
  go_wp2_with (first
   | (go_at_call 53; refine (slices_Clone_string_string.calls B E a a w z.out A.out HCL.out).mono ?_; rintro e b ⟨o, rfl, hR, hB1⟩; obtain ⟨i, m, rfl, hS⟩ := KEY.out b o hB1 hR; have HS := zm hS; clear hS hR hB1)
   | (go_at_call 54; refine HS.out.mono ?_; rintro e s ⟨rfl, hB2, hC⟩; have p := zm hB2; have HC := zm hC; clear hB2 hC)
   | (go_at_call 55; refine (all55_impl_snapNameOK.calls k B E a () false s (Kd.C_below z.out p.out) A.out HT.out).mono ?_; rintro e u ⟨rfl, hB3⟩; have F := zm hB3; clear hB3))
  go_ret
  exact ⟨rfl, below_step p.out F.out⟩
 ·cases h
  go_enter Tryz.func33, Tryz.ntmps33
  go_wp2_with (first
   | (go_at_call 53; refine (slices_Clone_string_string.calls B E a a w z.out A.out HCL.out).mono ?_; rintro e b ⟨o, rfl, hR, hB1⟩; obtain ⟨i, m, rfl, hS⟩ := KEY.out b o hB1 hR; have HS := zm hS; clear hS hR hB1)
   | (go_at_call 54; refine HS.out.mono ?_; rintro e s ⟨rfl, hB2, hC⟩; have p := zm hB2; have HC := zm hC; clear hB2 hC)
   | (go_at_call 55; refine (all55_impl_snapNameOK.calls k B E a () true s (Kd.C_below z.out p.out) A.out HT.out).mono ?_; rintro e u ⟨rfl, hB3⟩; have F := zm hB3; clear hB3)
   | (go_at_call 57; refine (HC.out u F.out).mono ?_; rintro e X ⟨O, S, rfl, hB4⟩; have T := zm hB4; clear hB4))
  go_ret
  exact ⟨rfl, T.out⟩
end Go.Proofs.YtnibgibjfpbagaaGreat.Q
