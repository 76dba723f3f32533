/- What laws.FnDisk reaches, part 1: the functions as Lean functions, the proofs that the program's functions answer so, and plain laws about them. -/
import Derived.Test.YtajflpcihblkfaaProg
import Derived.Test.YtajflpcihblkfaaVFnDiskExt
import Derived.RangeFuncNested
import Derived.RangeFuncBound
import Derived.RangeFuncCalls
import Derived.RangeFuncLeaves
import Derived.Shelf.Abstract
import Derived.OwnWalkIn
import Derived.TacticsInMore
import Derived.LoopNIn
import Derived.LoopIn
import Derived.Laws.CopyOwn
import Derived.Laws.CopyRow
import Derived.Laws.IdiomCopy
import Derived.Below
import Derived.Deep.Draws
import Derived.Deep.AppendLies
import Derived.Maps.AppendAt
import Derived.OwnWalk
import Derived.Laws.BytesArg
import Derived.Laws.MakeOwn
import Derived.Laws.OwnMore
import Derived.Deep.OwnRows
import Derived.Tactics
import Derived.Lib.ConvBytes
import Derived.Laws.Slices
import Derived.WalkKit
import Derived.KernelRfl
import Derived.RowKit3
import Derived.Deep.LoopGhost
import Derived.Deep.QuietTactic
import Derived.BigQuiet
import Derived.WideLaws
import Derived.Deep.DeepCutAuto
import Derived.Deep.CutBlock
import Derived.Deep.RegionHeld3
import Derived.Laws.Rows
import Derived.Lib.AppendStr
import Derived.ArgAppend
import Derived.Laws.IdiomCopy
import Derived.OrdersHeld
import Derived.Laws.BitsLemmas
import Derived.RowKit
import Derived.Test.YtajflpcihblkfaaVFnDiskWWords
import Derived.Test.YtajflpcihblkfaaVFnDiskWLast
import Derived.Test.YtajflpcihblkfaaVFnDiskWTab
import Derived.Test.YtajflpcihblkfaaVFnDiskWFour
import Derived.Test.YtajflpcihblkfaaVFnDiskWQPut
import Derived.Test.YtajflpcihblkfaaVFnDiskWApart
import Derived.Test.YtajflpcihblkfaaVFnDiskWArr
import Derived.Test.YtajflpcihblkfaaVFnDiskWZeros
import Derived.Test.YtajflpcihblkfaaVFnDiskWFoot
import Derived.Test.YtajflpcihblkfaaVFnDiskWKept
import Derived.Test.YtajflpcihblkfaaVFnDiskWShare
import Derived.Test.YtajflpcihblkfaaVFnDiskWN
import Derived.Test.YtajflpcihblkfaaVFnDiskWFootNe
import Derived.Test.YtajflpcihblkfaaVFnDiskWAt
import Derived.Test.YtajflpcihblkfaaVFnDiskWEqStruct
import Derived.Test.YtajflpcihblkfaaVFnDiskWRepsOne
import Derived.Test.YtajflpcihblkfaaVFnDiskWInv
import Derived.Test.YtajflpcihblkfaaVFnDiskWInvWords
import Derived.Test.YtajflpcihblkfaaVFnDiskWGuard
import Derived.Test.YtajflpcihblkfaaVFnDiskWNEv
import Derived.Test.YtajflpcihblkfaaVFnDiskWMore
namespace Go.Proofs.Ytajflpcihblkfaa.Q
open Go.RowKit Go.Proofs.Ytajflpcihblkfaa.Ext Go.Proofs.YtajflpcihblkfaaW.PrintWords Go.Proofs.YtajflpcihblkfaaW.PrintLast Go.Proofs.YtajflpcihblkfaaW.PrintMore
attribute [local go_sem] max2_int min2_int max_two min_two max_three min_three max_four min_four   -- for this text's walks alone
set_option linter.unusedVariables false
set_option linter.unusedSimpArgs false

set_option linter.unusedVariables false
set_option linter.unusedSimpArgs false
def errW : Option Int → Value
  | none => .nilIface
  | some c => .iface 0 (.int .i64 c)
theorem errW_none : errW none = .nilIface := rfl
theorem errW_some (c : Int) : errW (some c) = .iface 0 (.int .i64 c) := rfl

theorem info3 : (Try.prog.info? 3).map (fun i => (i.zero, i.size, i.bytes)) = some (some (.int .i64 0), 1, 8) := by kernel_rfl
theorem info5 : (Try.prog.info? 5).map (fun i => (i.zero, i.size, i.bytes)) = some (some (.int .u8 0), 1, 1) := by kernel_rfl
theorem info9 : (Try.prog.info? 9).map (fun i => (i.zero, i.size, i.bytes)) = some (some (.string ⟨#[]⟩), 1, 16) := by kernel_rfl
theorem info20 : (Try.prog.info? 20).map (fun i => (i.zero, i.size, i.bytes)) = some (some (.nilIface), 1, 16) := by kernel_rfl
theorem info28 : (Try.prog.info? 28).map (fun i => (i.zero, i.size, i.bytes)) = some (some (.agg #[(.int .i64 0), (.string ⟨#[]⟩)]), 2, 24) := by kernel_rfl
theorem info92 : (Try.prog.info? 92).map (fun i => (i.zero, i.size, i.bytes)) = some (some (.agg #[(.int .i64 0), (.int .i64 0), (.string ⟨#[]⟩)]), 3, 32) := by kernel_rfl
theorem info105 : (Try.prog.info? 105).map (fun i => (i.zero, i.size, i.bytes)) = some (some (.agg #[(.int .i64 0), (.int .i64 0), (.string ⟨#[]⟩)]), 3, 32) := by kernel_rfl
-- the values' own types
/-! #### struct type 28 -/
structure S28 where
  f0 : Int
  f1 : ByteArray
def z28 : S28 := ⟨(0 : Int), (⟨#[]⟩ : ByteArray)⟩
def k28 : Kd S28 := Kd.iso (Kd.pair (Kd.int .i64) Kd.string) (fun x : S28 => (x.f0, x.f1))
theorem k28_open {w : World} {x : S28} {cs : List Value} (h : k28.K w x cs) : cs = [.int .i64 x.f0, .string x.f1] := by
  obtain ⟨_, _, rfl, rfl, rfl⟩ := h
  exact rfl
theorem k28_openM {w : World} {base : Nat} {ok : Nat → Prop} {x : S28} {cs : List Value} (h : k28.M w base ok x cs) : cs = [.int .i64 x.f0, .string x.f1] := by
  obtain ⟨_, _, rfl, rfl, rfl⟩ := h
  exact rfl
theorem k28_mk (w : World) (x : S28)  : k28.K w x [.int .i64 x.f0, .string x.f1] := ⟨[.int .i64 x.f0], [.string x.f1], rfl, rfl, rfl⟩
theorem k28_mkM (w : World) (base : Nat) (ok : Nat → Prop) (x : S28)  : k28.M w base ok x [.int .i64 x.f0, .string x.f1] := ⟨[.int .i64 x.f0], [.string x.f1], rfl, rfl, rfl⟩
def rd_T28 (xs : List S28) (i : Int) : S28 := xs.getD i.toNat z28
theorem at_T28 {w : World} {A : Option Addr} {n : Nat} {xs : List S28} (h : Kd.C k28 w A n xs) (i : Int) (h0 : 0 ≤ i) (h1 : i < n) : ∃ ad , A = some ad ∧ w.cell? (ad.add (i.toNat * 2)) = some (.int .i64 (rd_T28 xs i).f0) ∧ w.cell? ⟨(ad.add (i.toNat * 2)).block, (ad.add (i.toNat * 2)).off + 1, none⟩ = some (.string (rd_T28 xs i).f1) := by
  obtain ⟨ad, c, e, _, hK, hc0⟩ := Kd.C_get h z28 i h0 h1
  have hc : ∀ j u, c[j]? = some u → w.cell? (ad.add (i.toNat * 2 + j)) = some u := hc0
  obtain rfl := k28_open hK
  exact ⟨ad, e, hc 0 _ rfl, by rw [← add_field _ _ 1 (by omega)]; exact hc 1 _ rfl⟩

def rd_L5 (xs : List (List Int)) (i : Int) : (List Int) := xs.getD i.toNat ([] : List Int)
theorem at_L5 {w : World} {A : Option Addr} {n : Nat} {xs : List (List Int)} (h : Kd.C (Kd.slice 3 (Kd.int .i64)) w A n xs) (i : Int) (h0 : 0 ≤ i) (h1 : i < n) : ∃ ad A0 c0, A = some ad ∧ w.cell? (ad.add i.toNat) = some (.slice A0 (rd_L5 xs i).length c0) ∧ (rd_L5 xs i).length ≤ c0 ∧ (Kd.int .i64).C w A0 (rd_L5 xs i).length (rd_L5 xs i) := by
  obtain ⟨ad, c, e, _, hK, hc0⟩ := Kd.C_get h ([] : List Int) i h0 h1
  have hc : ∀ j u, c[j]? = some u → w.cell? (ad.add (i.toNat * 1 + j)) = some u := hc0
  obtain ⟨A0, c0, rfl, l0, g0⟩ := hK
  exact ⟨ad, A0, c0, e, by have hq := hc 0 _ rfl; rwa [Nat.mul_one, Nat.add_zero] at hq, l0, g0⟩

/-! #### struct type 92 -/
structure S92 where
  f0 : Int
  f1 : Int
  f2 : ByteArray
def z92 : S92 := ⟨(0 : Int), (0 : Int), (⟨#[]⟩ : ByteArray)⟩
def k92 : Kd S92 := Kd.iso (Kd.pair (Kd.int .i64) (Kd.pair (Kd.int .i64) Kd.string)) (fun x : S92 => (x.f0, x.f1, x.f2))
theorem k92_open {w : World} {x : S92} {cs : List Value} (h : k92.K w x cs) : cs = [.int .i64 x.f0, .int .i64 x.f1, .string x.f2] := by
  obtain ⟨_, _, rfl, rfl, ⟨_, _, rfl, rfl, rfl⟩⟩ := h
  exact rfl
theorem k92_openM {w : World} {base : Nat} {ok : Nat → Prop} {x : S92} {cs : List Value} (h : k92.M w base ok x cs) : cs = [.int .i64 x.f0, .int .i64 x.f1, .string x.f2] := by
  obtain ⟨_, _, rfl, rfl, ⟨_, _, rfl, rfl, rfl⟩⟩ := h
  exact rfl
theorem k92_mk (w : World) (x : S92)  : k92.K w x [.int .i64 x.f0, .int .i64 x.f1, .string x.f2] := ⟨[.int .i64 x.f0], [.int .i64 x.f1, .string x.f2], rfl, rfl, ⟨[.int .i64 x.f1], [.string x.f2], rfl, rfl, rfl⟩⟩
theorem k92_mkM (w : World) (base : Nat) (ok : Nat → Prop) (x : S92)  : k92.M w base ok x [.int .i64 x.f0, .int .i64 x.f1, .string x.f2] := ⟨[.int .i64 x.f0], [.int .i64 x.f1, .string x.f2], rfl, rfl, ⟨[.int .i64 x.f1], [.string x.f2], rfl, rfl, rfl⟩⟩
def rd_T92 (xs : List S92) (i : Int) : S92 := xs.getD i.toNat z92
theorem at_T92 {w : World} {A : Option Addr} {n : Nat} {xs : List S92} (h : Kd.C k92 w A n xs) (i : Int) (h0 : 0 ≤ i) (h1 : i < n) : ∃ ad , A = some ad ∧ w.cell? (ad.add (i.toNat * 3)) = some (.int .i64 (rd_T92 xs i).f0) ∧ w.cell? ⟨(ad.add (i.toNat * 3)).block, (ad.add (i.toNat * 3)).off + 1, none⟩ = some (.int .i64 (rd_T92 xs i).f1) ∧ w.cell? ⟨(ad.add (i.toNat * 3)).block, (ad.add (i.toNat * 3)).off + 2, none⟩ = some (.string (rd_T92 xs i).f2) := by
  obtain ⟨ad, c, e, _, hK, hc0⟩ := Kd.C_get h z92 i h0 h1
  have hc : ∀ j u, c[j]? = some u → w.cell? (ad.add (i.toNat * 3 + j)) = some u := hc0
  obtain rfl := k92_open hK
  exact ⟨ad, e, hc 0 _ rfl, by rw [← add_field _ _ 1 (by omega)]; exact hc 1 _ rfl, by rw [← add_field _ _ 2 (by omega)]; exact hc 2 _ rfl⟩

def rd_L7 (xs : List (List ByteArray)) (i : Int) : (List ByteArray) := xs.getD i.toNat ([] : List ByteArray)
theorem at_L7 {w : World} {A : Option Addr} {n : Nat} {xs : List (List ByteArray)} (h : Kd.C (Kd.slice 9 Kd.string) w A n xs) (i : Int) (h0 : 0 ≤ i) (h1 : i < n) : ∃ ad A0 c0, A = some ad ∧ w.cell? (ad.add i.toNat) = some (.slice A0 (rd_L7 xs i).length c0) ∧ (rd_L7 xs i).length ≤ c0 ∧ Kd.string.C w A0 (rd_L7 xs i).length (rd_L7 xs i) := by
  obtain ⟨ad, c, e, _, hK, hc0⟩ := Kd.C_get h ([] : List ByteArray) i h0 h1
  have hc : ∀ j u, c[j]? = some u → w.cell? (ad.add (i.toNat * 1 + j)) = some u := hc0
  obtain ⟨A0, c0, rfl, l0, g0⟩ := hK
  exact ⟨ad, A0, c0, e, by have hq := hc 0 _ rfl; rwa [Nat.mul_one, Nat.add_zero] at hq, l0, g0⟩

def rd_L8 (xs : List (List S92)) (i : Int) : (List S92) := xs.getD i.toNat ([] : List S92)
theorem at_L8 {w : World} {A : Option Addr} {n : Nat} {xs : List (List S92)} (h : Kd.C (Kd.slice 92 k92) w A n xs) (i : Int) (h0 : 0 ≤ i) (h1 : i < n) : ∃ ad A0 c0, A = some ad ∧ w.cell? (ad.add i.toNat) = some (.slice A0 (rd_L8 xs i).length c0) ∧ (rd_L8 xs i).length ≤ c0 ∧ k92.C w A0 (rd_L8 xs i).length (rd_L8 xs i) := by
  obtain ⟨ad, c, e, _, hK, hc0⟩ := Kd.C_get h ([] : List S92) i h0 h1
  have hc : ∀ j u, c[j]? = some u → w.cell? (ad.add (i.toNat * 1 + j)) = some u := hc0
  obtain ⟨A0, c0, rfl, l0, g0⟩ := hK
  exact ⟨ad, A0, c0, e, by have hq := hc 0 _ rfl; rwa [Nat.mul_one, Nat.add_zero] at hq, l0, g0⟩

/-! #### struct type 105 -/
structure S105 where
  f0 : Int
  f1 : Int
  f2 : ByteArray
def z105 : S105 := ⟨(0 : Int), (0 : Int), (⟨#[]⟩ : ByteArray)⟩
def k105 : Kd S105 := Kd.iso (Kd.pair (Kd.int .i64) (Kd.pair (Kd.int .i64) Kd.string)) (fun x : S105 => (x.f0, x.f1, x.f2))
theorem k105_open {w : World} {x : S105} {cs : List Value} (h : k105.K w x cs) : cs = [.int .i64 x.f0, .int .i64 x.f1, .string x.f2] := by
  obtain ⟨_, _, rfl, rfl, ⟨_, _, rfl, rfl, rfl⟩⟩ := h
  exact rfl
theorem k105_openM {w : World} {base : Nat} {ok : Nat → Prop} {x : S105} {cs : List Value} (h : k105.M w base ok x cs) : cs = [.int .i64 x.f0, .int .i64 x.f1, .string x.f2] := by
  obtain ⟨_, _, rfl, rfl, ⟨_, _, rfl, rfl, rfl⟩⟩ := h
  exact rfl
theorem k105_mk (w : World) (x : S105)  : k105.K w x [.int .i64 x.f0, .int .i64 x.f1, .string x.f2] := ⟨[.int .i64 x.f0], [.int .i64 x.f1, .string x.f2], rfl, rfl, ⟨[.int .i64 x.f1], [.string x.f2], rfl, rfl, rfl⟩⟩
theorem k105_mkM (w : World) (base : Nat) (ok : Nat → Prop) (x : S105)  : k105.M w base ok x [.int .i64 x.f0, .int .i64 x.f1, .string x.f2] := ⟨[.int .i64 x.f0], [.int .i64 x.f1, .string x.f2], rfl, rfl, ⟨[.int .i64 x.f1], [.string x.f2], rfl, rfl, rfl⟩⟩
def rd_T105 (xs : List S105) (i : Int) : S105 := xs.getD i.toNat z105
theorem at_T105 {w : World} {A : Option Addr} {n : Nat} {xs : List S105} (h : Kd.C k105 w A n xs) (i : Int) (h0 : 0 ≤ i) (h1 : i < n) : ∃ ad , A = some ad ∧ w.cell? (ad.add (i.toNat * 3)) = some (.int .i64 (rd_T105 xs i).f0) ∧ w.cell? ⟨(ad.add (i.toNat * 3)).block, (ad.add (i.toNat * 3)).off + 1, none⟩ = some (.int .i64 (rd_T105 xs i).f1) ∧ w.cell? ⟨(ad.add (i.toNat * 3)).block, (ad.add (i.toNat * 3)).off + 2, none⟩ = some (.string (rd_T105 xs i).f2) := by
  obtain ⟨ad, c, e, _, hK, hc0⟩ := Kd.C_get h z105 i h0 h1
  have hc : ∀ j u, c[j]? = some u → w.cell? (ad.add (i.toNat * 3 + j)) = some u := hc0
  obtain rfl := k105_open hK
  exact ⟨ad, e, hc 0 _ rfl, by rw [← add_field _ _ 1 (by omega)]; exact hc 1 _ rfl, by rw [← add_field _ _ 2 (by omega)]; exact hc 2 _ rfl⟩
theorem zq {p : Prop} (h : p := by (try simp only [List.map_toArray, List.map_cons, List.map_nil]); first | done | rfl | (simp only [List.length_drop, List.length_take]; rfl)) : p := h
theorem zr {p : Prop} (h : p := by first | rfl | (simp; done) | (simp [*]; done)) : p := h
theorem zm {p : Prop} (h : p) : Aside0 p := ⟨h⟩
theorem zs {α : Type} {l : List α} {i : Nat} {a : α} : l.toArray.setIfInBounds i a = (l.set i a).toArray := List.setIfInBounds_toArray ..
theorem zz {α : Type} {a b : α} {l : List α} : (a :: l).set 0 b = b :: l := rfl
theorem zt {α : Type} {a b : α} {l : List α} {i : Nat} : (a :: l).set (i + 1) b = a :: l.set i b := rfl
theorem zg_0 {P Q  : Prop} (h_ : P)  (q : P → Q := by intro h_ ; repeat (first | (with_reducible first | exact h_ | apply below_alloc | apply pw_below_drewN | apply below_drew1) | exact h_)) : Q := q h_ 
theorem zg_1 {P Q A0 : Prop} (h_ : P) (a0_ : A0) (q : P → A0 → Q := by intro h_ a0_; repeat (first | (with_reducible first | exact h_ | apply below_alloc | apply pw_below_drewN | apply below_drew1 | refine below_set ?_ a0_) | exact h_)) : Q := q h_ a0_
theorem zg_2 {P Q : Prop} (h_ : P) (q : P → Q := by intro h_; (with_reducible repeat (first | refine blk_drewN ?_ _ | refine blk_drew ?_ | refine blk_alloc ?_ _)); exact h_) : Q := q h_
theorem zg_3 {P Q A0 A1 : Prop} (h_ : P) (a0_ : A0) (a1_ : A1) (q : P → A0 → A1 → Q := by intro h_ a0_ a1_; repeat (first | (with_reducible first | exact h_ | apply below_alloc | apply pw_below_drewN | apply below_drew1 | refine below_set ?_ a0_ | refine below_set ?_ a1_) | exact h_)) : Q := q h_ a0_ a1_
theorem zg_4 {P Q : Prop} (h_ : P) (q : P → Q := by intro h_; (with_reducible repeat (first | apply Kd.R_alloc | apply Kd.R_drewN | apply Kd.R_drew)); exact h_) : Q := q h_
theorem zg_5 {P Q A0 A1 A2 : Prop} (h_ : P) (a0_ : A0) (a1_ : A1) (a2_ : A2) (q : P → A0 → A1 → A2 → Q := by intro h_ a0_ a1_ a2_; repeat (first | (with_reducible first | exact h_ | apply below_alloc | apply pw_below_drewN | apply below_drew1 | refine below_set ?_ a0_ | refine below_set ?_ a1_ | refine below_set ?_ a2_) | exact h_)) : Q := q h_ a0_ a1_ a2_
theorem zg_6 {P Q  : Prop} (h_ : P)  (q : P → Q := by intro h_ ; repeat (first | (with_reducible first | exact h_ | apply KeepBut.set_ | apply keep_drewN | apply keep_drew | apply keep_alloc) | exact h_)) : Q := q h_ 
theorem zg_7 {P Q  : Prop} (h_ : P)  (q : P → Q := by intro h_ ; repeat (first | (with_reducible first | exact h_ | apply IsS112.alloc | apply IsS112.drewN | apply IsS112.drew | apply IsS112.set_1 | apply IsS112.set_2) | exact h_)) : Q := q h_ 
theorem zg_8 {P Q A0 : Prop} (h_ : P) (a0_ : A0) (q : P → A0 → Q := by intro h_ a0_; repeat (first | (with_reducible first | exact h_ | apply below_alloc | apply pw_below_drewN | apply below_drew1 | refine below_set ?_ (IsS112.ge a0_)) | exact h_)) : Q := q h_ a0_
theorem zg_9 {P Q  : Prop} (h_ : P)  (q : P → Q := by intro h_ ; repeat (first | (with_reducible first | exact h_ | apply Kept.alloc | apply Kept.drewN | apply Kept.drew) | exact h_)) : Q := q h_ 
theorem zg_10 {P Q A0 : Prop} (h_ : P) (a0_ : A0) (q : P → A0 → Q := by intro h_ a0_; repeat (first | (with_reducible first | exact h_ | apply Kept.alloc | apply Kept.drewN | apply Kept.drew | refine Kept.setCell ?_ (.inr a0_) _) | exact h_)) : Q := q h_ a0_
theorem zg_11 {P Q A0 A1 : Prop} (h_ : P) (a0_ : A0) (a1_ : A1) (q : P → A0 → A1 → Q := by intro h_ a0_ a1_; repeat (first | (with_reducible first | exact h_ | apply Kept.alloc | apply Kept.drewN | apply Kept.drew | refine Kept.setCell ?_ (.inr a0_) _ | refine Kept.setCell ?_ (.inr a1_) _) | exact h_)) : Q := q h_ a0_ a1_
theorem zg_12 {P Q A0 A1 A2 : Prop} (h_ : P) (a0_ : A0) (a1_ : A1) (a2_ : A2) (q : P → A0 → A1 → A2 → Q := by intro h_ a0_ a1_ a2_; repeat (first | (with_reducible first | exact h_ | apply Kept.alloc | apply Kept.drewN | apply Kept.drew | refine Kept.setCell ?_ (.inr a0_) _ | refine Kept.setCell ?_ (.inr a1_) _ | refine Kept.setCell ?_ (.inr a2_) _) | exact h_)) : Q := q h_ a0_ a1_ a2_
theorem zg_13 {P Q A0 : Prop} (h_ : P) (a0_ : A0) (q : P → A0 → Q := by intro h_ a0_; repeat (first | (with_reducible first | exact h_ | apply KeepBut.set_ | apply keep_drewN | apply keep_drew | apply keep_alloc | refine keep_far ?_ a0_ _) | exact h_)) : Q := q h_ a0_
theorem zg_14 {P Q A0 : Prop} (h_ : P) (a0_ : A0) (q : P → A0 → Q := by intro h_ a0_; repeat (first | (with_reducible first | exact h_ | apply IsS112.alloc | apply IsS112.drewN | apply IsS112.drew | apply IsS112.set_1 | apply IsS112.set_2 | refine IsS112.far ?_ a0_ _) | exact h_)) : Q := q h_ a0_
theorem zg_15 {P Q A0 A1 : Prop} (h_ : P) (a0_ : A0) (a1_ : A1) (q : P → A0 → A1 → Q := by intro h_ a0_ a1_; repeat (first | (with_reducible first | exact h_ | apply below_alloc | apply pw_below_drewN | apply below_drew1 | refine below_set ?_ (IsS112.ge a0_) | refine below_set ?_ a1_) | exact h_)) : Q := q h_ a0_ a1_
theorem zg_16 {P Q A0 A1 : Prop} (h_ : P) (a0_ : A0) (a1_ : A1) (q : P → A0 → A1 → Q := by intro h_ a0_ a1_; repeat (first | (with_reducible first | exact h_ | apply KeepBut.set_ | apply keep_drewN | apply keep_drew | apply keep_alloc | refine keep_far ?_ a0_ _ | refine keep_far ?_ a1_ _) | exact h_)) : Q := q h_ a0_ a1_
theorem zg_17 {P Q A0 A1 : Prop} (h_ : P) (a0_ : A0) (a1_ : A1) (q : P → A0 → A1 → Q := by intro h_ a0_ a1_; repeat (first | (with_reducible first | exact h_ | apply IsS112.alloc | apply IsS112.drewN | apply IsS112.drew | apply IsS112.set_1 | apply IsS112.set_2 | refine IsS112.far ?_ a0_ _ | refine IsS112.far ?_ a1_ _) | exact h_)) : Q := q h_ a0_ a1_
theorem zg_18 {P Q A0 A1 A2 : Prop} (h_ : P) (a0_ : A0) (a1_ : A1) (a2_ : A2) (q : P → A0 → A1 → A2 → Q := by intro h_ a0_ a1_ a2_; repeat (first | (with_reducible first | exact h_ | apply below_alloc | apply pw_below_drewN | apply below_drew1 | refine below_set ?_ (IsS112.ge a0_) | refine below_set ?_ a1_ | refine below_set ?_ a2_) | exact h_)) : Q := q h_ a0_ a1_ a2_
theorem zg_19 {P Q A0 A1 A2 A3 : Prop} (h_ : P) (a0_ : A0) (a1_ : A1) (a2_ : A2) (a3_ : A3) (q : P → A0 → A1 → A2 → A3 → Q := by intro h_ a0_ a1_ a2_ a3_; repeat (first | (with_reducible first | exact h_ | apply below_alloc | apply pw_below_drewN | apply below_drew1 | refine below_set ?_ a0_ | refine below_set ?_ a1_ | refine below_set ?_ a2_ | refine below_set ?_ a3_) | exact h_)) : Q := q h_ a0_ a1_ a2_ a3_
theorem zg_20 {P Q A0 A1 A2 A3 A4 : Prop} (h_ : P) (a0_ : A0) (a1_ : A1) (a2_ : A2) (a3_ : A3) (a4_ : A4) (q : P → A0 → A1 → A2 → A3 → A4 → Q := by intro h_ a0_ a1_ a2_ a3_ a4_; repeat (first | (with_reducible first | exact h_ | apply below_alloc | apply pw_below_drewN | apply below_drew1 | refine below_set ?_ a0_ | refine below_set ?_ a1_ | refine below_set ?_ a2_ | refine below_set ?_ a3_ | refine below_set ?_ a4_) | exact h_)) : Q := q h_ a0_ a1_ a2_ a3_ a4_
/-! ### all90: function 90 -/
theorem clos90 {α : Type} {d : Kd α} {val : List Value → Value} {F : FuncId} {p : α → Option Bool} (hF : Asks1 F d val p) (a : Addr) (x : α) (cs : List Value) (v : Value) (hv : val cs = v) (r : Bool) (w : World) (hK : d.K w x cs) (hc : w.cell? a = some (.func (.func F) #[] #[])) (h : p x = some r) :
    Calls Try.prog 125 #[v, .pointer (some a)] w fun e w' => e = .returned (.bool !r) ∧ Below w.heap.size w w' := by
  obtain ⟨⟨fn, h1, h2, h3⟩, hF⟩ := hF
  have h0 := hF x cs r w hK h
  rw [hv] at h0
  have H := Aside0.mk h0
  have H1 := Aside0.mk h1
  have H2 := Aside0.mk h2
  have H3 := Aside0.mk h3
  clear hF h h1 h2 h3 hK h0 hv
  go_enter Try.func125, Try.ntmps125
  go_wp2_with (first | ((with_reducible refine gate_dst (N := 6) rfl ?_); refine Stop.out ?_))
  refine ⟨?_⟩
  refine goesV (some 6) rfl rfl H1.out H2.out H3.out #[v] rfl (cap := #[]) ?hx ?hargs ?_
  case hx => rfl
  case hargs => simp [Act.eval]
  refine H.out.mono ?_
  rintro e w1 ⟨rfl, hb⟩
  refine ⟨_, rfl, ?_⟩
  have HB := Aside0.mk hb
  clear hb
  go_wp2
  go_ret
  exact ⟨rfl, HB.out⟩
set_option maxHeartbeats 1000000 in
set_option maxRecDepth 100000 in
theorem idx90 {F : FuncId} {p : ByteArray → Option Bool} (hF : Asks1 F Kd.string (fun cs => cs.headD undef) p) (A0 : Option Addr) (c0 : Nat) (l0 : List ByteArray) (a : Addr) (r : Bool) (w : World) (hr0 : Kd.C Kd.string w A0 l0.length l0) (hc0 : l0.length ≤ c0)
    (hcl : w.cell? a = some (.func (.func F) #[] #[])) (h : allO p l0 = some r) :
    Calls Try.prog 143 #[.slice A0 l0.length c0, .func (.func 125) #[] #[.pointer (some a)]] w (IdxPost r w) := by
 have hlen : l0.length ≤ 9223372036854775807 := hr0.2.1
 have HR0 := Aside0.mk hr0
 have HCL := Aside0.mk hcl
 have HF := Aside0.mk hF
 have H' := Aside0.mk h
 have HB := Aside0.mk (Below.refl w.heap.size w)
 clear hr0 hcl hF h
 go_enter Try.func143, Try.ntmps143
 go_wp2
 go_loopg [8] (l0.length + 1) (fun kq v8 w' => ∃ k : Nat, v8 = .int .i64 (k : Int) ∧ Aside0 (kq + k = l0.length + 1 ∧ k ≤ l0.length) ∧ Aside0 (allO p (l0.drop k) = some r) ∧ Aside0 (Below w.heap.size w w'))
 case atStart => exact ⟨0, rfl, ⟨by omega, by omega⟩, H', HB⟩
 case round =>
  clear H' HB
  obtain ⟨k, rfl, HK, HA, HB⟩ := hrel
  cases gk with
  | zero =>
   have hk := HK.out
   omega
  | succ k1 =>
   by_cases hlt : k < l0.length
   ·have q1 : (k : Int) < (l0.length : Int) := by omega
    have p1 : 0 ≤ (k : Int) := by omega
    obtain ⟨ad, ea, hx⟩ := Kd.at_string HR0.out (k : Int) p1 q1
    cases ea
    rw [Int.toNat_natCast] at hx
    replace hx := (HB.out.cell (World.block_lt_of_cell? w _ hx)).trans hx
    have HKK := Aside0.mk (show Kd.string.K w (rdOf ByteArray.empty l0 k) [.string (rdOf ByteArray.empty l0 k)] from rfl)
    have HX := Aside0.mk (show ∃ b, p (rdOf ByteArray.empty l0 k) = some b ∧ (if b = true then allO p (l0.drop (k+1)) else some false) = some r from by
     have := HA.out
     rw [List.drop_eq_getElem_cons hlt] at this
     simp only [allO] at this
     obtain ⟨b, hb, h2⟩ := Option.bind_eq_some_iff.1 this
     refine ⟨b, ?_, h2⟩
     rw [← hb]; congr 1; simp [rd, rdOf, hlt])
    obtain ⟨b, hb, h2⟩ := HX.out
    have HPB := Aside0.mk hb
    have H2 := Aside0.mk h2
    have HCL2 := Aside0.mk ((HB.out.cell (World.block_lt_of_cell? w _ HCL.out)).trans HCL.out)
    clear HX hb h2 q1 p1 HA
    cases b with
    | true =>
     go_wp2_with (first | ((with_reducible refine gate_dst (N := 16) rfl ?_); refine goesV (some 16) rfl rfl Try.func125 (by kernel_rfl) rfl #[.string (rdOf ByteArray.empty l0 k), .pointer (some a)] rfl (cap := #[.pointer (some a)]) ?hx ?hargs ?_; (case hx => rfl); (case hargs => simp [Act.eval]); refine (clos90 HF.out a _ [.string (rdOf ByteArray.empty l0 k)] _ rfl _ _ (Kd.K_below _ HB.out HKK.out) HCL2.out HPB.out).mono ?_; rintro e w2 ⟨rfl, hb⟩; refine ⟨_, rfl, ?_⟩; have HB2 := Aside0.mk (HB.out.trans (hb.mono HB.out.size)); clear hb))
     go_roundg k1
     case measure => omega
     case rel => exact ⟨k + 1, by simp, ⟨by have := HK.out; omega, by have := HK.out; omega⟩, ⟨by simpa using H2.out⟩, HB2⟩
    | false =>
     go_wp2_with (first | ((with_reducible refine gate_dst (N := 16) rfl ?_); refine goesV (some 16) rfl rfl Try.func125 (by kernel_rfl) rfl #[.string (rdOf ByteArray.empty l0 k), .pointer (some a)] rfl (cap := #[.pointer (some a)]) ?hx ?hargs ?_; (case hx => rfl); (case hargs => simp [Act.eval]); refine (clos90 HF.out a _ [.string (rdOf ByteArray.empty l0 k)] _ rfl _ _ (Kd.K_below _ HB.out HKK.out) HCL2.out HPB.out).mono ?_; rintro e w2 ⟨rfl, hb⟩; refine ⟨_, rfl, ?_⟩; have HB2 := Aside0.mk (HB.out.trans (hb.mono HB.out.size)); clear hb))
     go_ret
     have hr : r = false := by have := H2.out; simpa using this.symm
     exact ⟨k, rfl, by rw [hr]; simp, HB2.out⟩
   ·have hge : l0.length ≤ k := by omega
    go_wp2
    go_ret
    have hr : r = true := by
     have := HA.out
     rw [List.drop_of_length_le hge] at this
     simpa [allO] using this.symm
    exact ⟨-1, rfl, by rw [hr]; decide, HB.out⟩
theorem cont90 {F : FuncId} {p : ByteArray → Option Bool} (hF : Asks1 F Kd.string (fun cs => cs.headD undef) p) (A0 : Option Addr) (c0 : Nat) (l0 : List ByteArray) (a : Addr) (r : Bool) (w : World) (hr0 : Kd.C Kd.string w A0 l0.length l0) (hc0 : l0.length ≤ c0)
 (hcl : w.cell? a = some (.func (.func F) #[] #[])) (h : allO p l0 = some r) :
 Calls Try.prog 124 #[.slice A0 l0.length c0, .func (.func 125) #[] #[.pointer (some a)]] w fun e w' => e = .returned (.bool !r) ∧ Below w.heap.size w w' := by
 have H := Aside0.mk (idx90 hF A0 c0 l0 a r w hr0 hc0 hcl h)
 clear hr0 hcl hF h
 go_enter Try.func124, Try.ntmps124
 go_wp2_with (go_at_call 143; (with_reducible refine H.out.mono ?_); rintro e w2 ⟨j, rfl, hj, hb⟩; have HJ := Aside0.mk hj; have HB := Aside0.mk hb; clear hj hb)
 go_ret
 exact ⟨by rw [← HJ.out]; rfl, HB.out⟩
theorem all90 {F : FuncId} {p : ByteArray → Option Bool} (hF : Asks1 F Kd.string (fun cs => cs.headD undef) p) (A0 : Option Addr) (c0 : Nat) (l0 : List ByteArray) (r : Bool) (w : World) (hr0 : Kd.C Kd.string w A0 l0.length l0) (hc0 : l0.length ≤ c0)
 (h : allO p l0 = some r) :
 Calls Try.prog 90 #[.slice A0 l0.length c0, .func (.func F) #[] #[]] w fun e w' => e = .returned (.bool r) ∧ Below w.heap.size w w' := by
 have hb1 : ∀ o, Below w.heap.size w (w.alloc o) := fun o => (Below.refl _ _).alloc (Nat.le_refl _) o
 have H := Aside0.mk (cont90 hF A0 c0 l0 ⟨w.heap.size, 0, none⟩ r (w.alloc (.cells #[.func (.func F) #[] #[]] 75 (0, 0))) (Kd.C_below hr0 (hb1 _)) hc0 (by go_simp) h)
 have HB0 := Aside0.mk (hb1 (.cells #[.func (.func F) #[] #[]] 75 (0, 0)))
 clear hr0 hF h hb1
 go_enter Try.func90, Try.ntmps90
 go_wp2_with (go_at_call 124; (with_reducible refine H.out.mono ?_); rintro e w2 ⟨rfl, hb⟩; have HB := Aside0.mk (HB0.out.trans (hb.mono HB0.out.size)); clear hb)
 go_ret
 exact ⟨by simp, HB.out⟩
/-! ### impl_isSector: function 87 -/
def impl_isSector.f (a0 : ByteArray) : Option (Bool) := some (decide ((a0.size : Int) ≤ 80))
set_option maxHeartbeats 8000000 in
set_option maxRecDepth 100000 in
theorem impl_isSector.calls (a0 : ByteArray) (r : Bool) (w : World) (h : impl_isSector.f a0 = some r) :
    Calls Try.prog 87 #[.string a0] w fun e w' => e = .returned (.bool r) ∧ Drawn0 w w' := by
  have H : (some (decide ((a0.size : Int) ≤ 80))) = some r := h
  clear h
  obtain rfl := Option.some.inj H
  go_enter Try.func87, Try.ntmps87
  go_wp2
  go_ret
  exact ⟨by first | rfl | (simp; done) | (simp [*]; done), by repeat (first | exact Drawn0.refl _ | apply Drawn0.step)⟩
/-! ### all90_impl_isSector: function 90 -/
def all90_impl_isSector.f (l0 : List ByteArray) (_ : Unit) : Option Bool := allO (fun x => impl_isSector.f x) l0
theorem all90_impl_isSector.asks : Asks1 87 Kd.string (fun cs => cs.headD undef) (fun x => impl_isSector.f x) := ⟨⟨_, Try.func87, by kernel_rfl, rfl⟩, fun x cs r w hK h => by
  cases hK
  exact (impl_isSector.calls x r w h).mono fun e w' hh => ⟨hh.1, hh.2.below⟩⟩
theorem all90_impl_isSector.calls (A0 : Option Addr) (c0 : Nat) (l0 : List ByteArray) (_u : Unit) (r : Bool) (w : World) (hr0 : Kd.C Kd.string w A0 l0.length l0) (hc0 : l0.length ≤ c0) (h : all90_impl_isSector.f l0 () = some r) :
    Calls Try.prog 90 #[.slice A0 l0.length c0, .func (.func 87) #[] #[]] w fun e w' => e = .returned (.bool r) ∧ Below w.heap.size w w' :=
  all90 (all90_impl_isSector.asks) A0 c0 l0 r w hr0 hc0 h
/-! ### all91: function 91 -/
theorem clos91 {α : Type} {d : Kd α} {F : FuncId} {p : α → Option Bool} (hF : Asks1 F d (fun cs => .agg cs.toArray) p) (a : Addr) (x : α) (y0 y1 y2 : Value) (r : Bool) (w : World) (hK : d.K w x [y0, y1, y2]) (hc : w.cell? a = some (.func (.func F) #[] #[])) (h : p x = some r) :
    Calls Try.prog 127 #[.agg #[y0, y1, y2], .pointer (some a)] w fun e w' => e = .returned (.bool !r) ∧ Below w.heap.size w w' := by
  obtain ⟨⟨fn, h1, h2, h3⟩, hF⟩ := hF
  have hb1 : Below w.heap.size w (w.alloc (.cells #[y0, y1, y2] 92 (0, 0))) := (Below.refl _ _).alloc (Nat.le_refl _) _
  have H := Aside0.mk (show Calls Try.prog F #[.agg #[y0, y1, y2]] (w.alloc (.cells #[y0, y1, y2] 92 (0, 0))) _ from hF x [y0, y1, y2] r _ (Kd.K_below _ hb1 hK) h)
  have HB0 := Aside0.mk hb1
  have hc2 : (w.alloc (.cells #[y0, y1, y2] 92 (0, 0))).cell? a = some (.func (.func F) #[] #[]) := (hb1.cell (World.block_lt_of_cell? w _ hc)).trans hc
  have H1 := Aside0.mk h1
  have H2 := Aside0.mk h2
  have H3 := Aside0.mk h3
  have hu := Try.underlying92
  clear hF h h1 h2 h3 hK hb1
  go_enter Try.func127, Try.ntmps127
  go_wp2_with (first | ((with_reducible refine gate_dst (N := 6) rfl ?_); refine Stop.out ?_))
  refine ⟨?_⟩
  refine goesV (some 6) rfl rfl H1.out H2.out H3.out #[.agg #[y0, y1, y2]] rfl (cap := #[]) ?hx ?hargs ?_
  case hx => rfl
  case hargs => simp [Act.eval]
  refine H.out.mono ?_
  rintro e w1 ⟨rfl, hb⟩
  refine ⟨_, rfl, ?_⟩
  have HB := Aside0.mk (HB0.out.trans (hb.mono HB0.out.size))
  clear hb
  go_wp2
  go_ret
  exact ⟨rfl, HB.out⟩
set_option maxHeartbeats 1000000 in
set_option maxRecDepth 100000 in
theorem idx91 {F : FuncId} {p : S92 → Option Bool} (hF : Asks1 F k92 (fun cs => .agg cs.toArray) p) (A0 : Option Addr) (c0 : Nat) (l0 : List S92) (a : Addr) (r : Bool) (w : World) (hr0 : Kd.C k92 w A0 l0.length l0) (hc0 : l0.length ≤ c0)
    (hcl : w.cell? a = some (.func (.func F) #[] #[])) (h : allO p l0 = some r) :
    Calls Try.prog 139 #[.slice A0 l0.length c0, .func (.func 127) #[] #[.pointer (some a)]] w (IdxPost r w) := by
 have hlen : l0.length ≤ 9223372036854775807 := hr0.2.1
 have HR0 := Aside0.mk hr0
 have HCL := Aside0.mk hcl
 have HF := Aside0.mk hF
 have H' := Aside0.mk h
 have HB := Aside0.mk (Below.refl w.heap.size w)
 clear hr0 hcl hF h
 go_enter Try.func139, Try.ntmps139
 go_wp2
 go_loopg [8] (l0.length + 1) (fun kq v8 w' => ∃ k : Nat, v8 = .int .i64 (k : Int) ∧ Aside0 (kq + k = l0.length + 1 ∧ k ≤ l0.length) ∧ Aside0 (allO p (l0.drop k) = some r) ∧ Aside0 (Below w.heap.size w w'))
 case atStart => exact ⟨0, rfl, ⟨by omega, by omega⟩, H', HB⟩
 case round =>
  clear H' HB
  obtain ⟨k, rfl, HK, HA, HB⟩ := hrel
  cases gk with
  | zero =>
   have hk := HK.out
   omega
  | succ k1 =>
   by_cases hlt : k < l0.length
   ·have q1 : (k : Int) < (l0.length : Int) := by omega
    have p1 : 0 ≤ (k : Int) := by omega
    obtain ⟨ad, ea, hx0, hx1, hx2⟩ := at_T92 HR0.out (k : Int) p1 q1
    cases ea
    simp only [Int.toNat_natCast] at hx0 hx1 hx2
    replace hx0 := (HB.out.cell (World.block_lt_of_cell? w _ hx0)).trans hx0
    replace hx1 := (HB.out.cell (World.block_lt_of_cell? w _ hx1)).trans hx1
    replace hx2 := (HB.out.cell (World.block_lt_of_cell? w _ hx2)).trans hx2
    have HKK := Aside0.mk (show k92.K w (rd_T92 l0 k) [.int .i64 ((rd_T92 l0 k).f0), .int .i64 ((rd_T92 l0 k).f1), .string ((rd_T92 l0 k).f2)] from k92_mk w _)
    have HX := Aside0.mk (show ∃ b, p (rd_T92 l0 k) = some b ∧ (if b = true then allO p (l0.drop (k+1)) else some false) = some r from by
     have := HA.out
     rw [List.drop_eq_getElem_cons hlt] at this
     simp only [allO] at this
     obtain ⟨b, hb, h2⟩ := Option.bind_eq_some_iff.1 this
     refine ⟨b, ?_, h2⟩
     rw [← hb]; congr 1; simp [rd_T92, hlt])
    obtain ⟨b, hb, h2⟩ := HX.out
    have HPB := Aside0.mk hb
    have H2 := Aside0.mk h2
    have HCL2 := Aside0.mk ((HB.out.cell (World.block_lt_of_cell? w _ HCL.out)).trans HCL.out)
    clear HX hb h2 q1 p1 HA
    cases b with
    | true =>
     go_wp2_with (first | ((with_reducible refine gate_dst (N := 16) rfl ?_); refine goesV (some 16) rfl rfl Try.func127 (by kernel_rfl) rfl #[.agg #[.int .i64 ((rd_T92 l0 k).f0), .int .i64 ((rd_T92 l0 k).f1), .string ((rd_T92 l0 k).f2)], .pointer (some a)] rfl (cap := #[.pointer (some a)]) ?hx ?hargs ?_; (case hx => rfl); (case hargs => simp [Act.eval]); refine (clos91 HF.out a _ (.int .i64 ((rd_T92 l0 k).f0)) (.int .i64 ((rd_T92 l0 k).f1)) (.string ((rd_T92 l0 k).f2)) _ _ (Kd.K_below _ HB.out HKK.out) HCL2.out HPB.out).mono ?_; rintro e w2 ⟨rfl, hb⟩; refine ⟨_, rfl, ?_⟩; have HB2 := Aside0.mk (HB.out.trans (hb.mono HB.out.size)); clear hb))
     go_roundg k1
     case measure => omega
     case rel => exact ⟨k + 1, by simp, ⟨by have := HK.out; omega, by have := HK.out; omega⟩, ⟨by simpa using H2.out⟩, HB2⟩
    | false =>
     go_wp2_with (first | ((with_reducible refine gate_dst (N := 16) rfl ?_); refine goesV (some 16) rfl rfl Try.func127 (by kernel_rfl) rfl #[.agg #[.int .i64 ((rd_T92 l0 k).f0), .int .i64 ((rd_T92 l0 k).f1), .string ((rd_T92 l0 k).f2)], .pointer (some a)] rfl (cap := #[.pointer (some a)]) ?hx ?hargs ?_; (case hx => rfl); (case hargs => simp [Act.eval]); refine (clos91 HF.out a _ (.int .i64 ((rd_T92 l0 k).f0)) (.int .i64 ((rd_T92 l0 k).f1)) (.string ((rd_T92 l0 k).f2)) _ _ (Kd.K_below _ HB.out HKK.out) HCL2.out HPB.out).mono ?_; rintro e w2 ⟨rfl, hb⟩; refine ⟨_, rfl, ?_⟩; have HB2 := Aside0.mk (HB.out.trans (hb.mono HB.out.size)); clear hb))
     go_ret
     have hr : r = false := by have := H2.out; simpa using this.symm
     exact ⟨k, rfl, by rw [hr]; simp, HB2.out⟩
   ·have hge : l0.length ≤ k := by omega
    go_wp2
    go_ret
    have hr : r = true := by
     have := HA.out
     rw [List.drop_of_length_le hge] at this
     simpa [allO] using this.symm
    exact ⟨-1, rfl, by rw [hr]; decide, HB.out⟩
theorem cont91 {F : FuncId} {p : S92 → Option Bool} (hF : Asks1 F k92 (fun cs => .agg cs.toArray) p) (A0 : Option Addr) (c0 : Nat) (l0 : List S92) (a : Addr) (r : Bool) (w : World) (hr0 : Kd.C k92 w A0 l0.length l0) (hc0 : l0.length ≤ c0)
 (hcl : w.cell? a = some (.func (.func F) #[] #[])) (h : allO p l0 = some r) :
 Calls Try.prog 126 #[.slice A0 l0.length c0, .func (.func 127) #[] #[.pointer (some a)]] w fun e w' => e = .returned (.bool !r) ∧ Below w.heap.size w w' := by
 have H := Aside0.mk (idx91 hF A0 c0 l0 a r w hr0 hc0 hcl h)
 clear hr0 hcl hF h
 go_enter Try.func126, Try.ntmps126
 go_wp2_with (go_at_call 139; (with_reducible refine H.out.mono ?_); rintro e w2 ⟨j, rfl, hj, hb⟩; have HJ := Aside0.mk hj; have HB := Aside0.mk hb; clear hj hb)
 go_ret
 exact ⟨by rw [← HJ.out]; rfl, HB.out⟩
theorem all91 {F : FuncId} {p : S92 → Option Bool} (hF : Asks1 F k92 (fun cs => .agg cs.toArray) p) (A0 : Option Addr) (c0 : Nat) (l0 : List S92) (r : Bool) (w : World) (hr0 : Kd.C k92 w A0 l0.length l0) (hc0 : l0.length ≤ c0)
 (h : allO p l0 = some r) :
 Calls Try.prog 91 #[.slice A0 l0.length c0, .func (.func F) #[] #[]] w fun e w' => e = .returned (.bool r) ∧ Below w.heap.size w w' := by
 have hb1 : ∀ o, Below w.heap.size w (w.alloc o) := fun o => (Below.refl _ _).alloc (Nat.le_refl _) o
 have H := Aside0.mk (cont91 hF A0 c0 l0 ⟨w.heap.size, 0, none⟩ r (w.alloc (.cells #[.func (.func F) #[] #[]] 99 (0, 0))) (Kd.C_below hr0 (hb1 _)) hc0 (by go_simp) h)
 have HB0 := Aside0.mk (hb1 (.cells #[.func (.func F) #[] #[]] 99 (0, 0)))
 clear hr0 hF h hb1
 go_enter Try.func91, Try.ntmps91
 go_wp2_with (go_at_call 126; (with_reducible refine H.out.mono ?_); rintro e w2 ⟨rfl, hb⟩; have HB := Aside0.mk (HB0.out.trans (hb.mono HB0.out.size)); clear hb)
 go_ret
 exact ⟨by simp, HB.out⟩
/-! ### impl_within: function 65 -/
def impl_within.f (a0 : Int) (a1 : Int) (a2 : Int) : Option (Bool) := if a1 ≤ a0 then (some (decide (a0 ≤ a2))) else (some false)
set_option maxHeartbeats 8000000 in
set_option maxRecDepth 100000 in
theorem impl_within.calls (a0 : Int) (a1 : Int) (a2 : Int) (r : Bool) (w : World) (h : impl_within.f a0 a1 a2 = some r) :
    Calls Try.prog 65 #[.int .i64 a0, .int .i64 a1, .int .i64 a2] w fun e w' => e = .returned (.bool r) ∧ Drawn0 w w' := by
  have H : (if a1 ≤ a0 then (some (decide (a0 ≤ a2))) else (some false)) = some r := h
  clear h
  by_cases c4 : a1 ≤ a0
  · rw [if_pos c4] at H
    have c4b0 : decide (a1 ≤ a0) = true := decide_eq_true c4
    clear c4
    obtain rfl := Option.some.inj H
    go_enter Try.func65, Try.ntmps65
    go_wp2
    go_ret
    exact ⟨by first | rfl | (simp; done) | (simp [*]; done), by repeat (first | exact Drawn0.refl _ | apply Drawn0.step)⟩
  · rw [if_neg c4] at H
    have c4b0 : decide (a1 ≤ a0) = false := decide_eq_false c4
    clear c4
    obtain rfl := Option.some.inj H
    go_enter Try.func65, Try.ntmps65
    go_wp2
    go_ret
    exact ⟨by first | rfl | (simp; done) | (simp [*]; done), by repeat (first | exact Drawn0.refl _ | apply Drawn0.step)⟩
/-! ### impl_isHost: function 56 -/
def impl_isHost.f (a0 : Int) : Option (Bool) := (impl_within.f a0 0 3).bind fun t101 => (some t101)
set_option maxHeartbeats 8000000 in
set_option maxRecDepth 100000 in
theorem impl_isHost.calls (a0 : Int) (r : Bool) (w : World) (h : impl_isHost.f a0 = some r) :
    Calls Try.prog 56 #[.int .i64 a0] w fun e w' => e = .returned (.bool r) ∧ Drawn0 w w' := by
  have H : ((impl_within.f a0 0 3).bind fun t101 => (some t101)) = some r := h
  clear h
  replace H := Option.bind_eq_some_iff.mp H
  obtain ⟨t101, A20, H⟩ := H
  replace H : (some t101) = some r := H
  have A2 := Aside0.mk A20
  clear A20
  obtain rfl := Option.some.inj H
  go_enter Try.func56, Try.ntmps56
  go_wp2_with (first | ((with_reducible refine gate_callee (f := 65) rfl ?_); refine goesL_ (some 4) rfl rfl Try.func65 (by kernel_rfl) rfl #[.int .i64 a0, .int .i64 0, .int .i64 3] rfl (by (try simp only [List.map_toArray, List.map_cons, List.map_nil]); first | done | rfl | (simp only [List.length_drop, List.length_take]; rfl)) ?_; (with_reducible refine (impl_within.calls a0 0 3 t101 _ A2.out).mono ?_); rintro e w' ⟨rfl, ⟨nd, rfl⟩⟩; refine ⟨_, rfl, ?_⟩))
  go_ret
  exact ⟨by first | rfl | (simp; done) | (simp [*]; done), by repeat (first | exact Drawn0.refl _ | apply Drawn0.step)⟩
/-! ### impl_isPlace: function 86 -/
def impl_isPlace.f (a0 : Int) : Option (Bool) := (impl_within.f a0 0 63).bind fun t102 => (some t102)
set_option maxHeartbeats 8000000 in
set_option maxRecDepth 100000 in
theorem impl_isPlace.calls (a0 : Int) (r : Bool) (w : World) (h : impl_isPlace.f a0 = some r) :
    Calls Try.prog 86 #[.int .i64 a0] w fun e w' => e = .returned (.bool r) ∧ Drawn0 w w' := by
  have H : ((impl_within.f a0 0 63).bind fun t102 => (some t102)) = some r := h
  clear h
  replace H := Option.bind_eq_some_iff.mp H
  obtain ⟨t102, A20, H⟩ := H
  replace H : (some t102) = some r := H
  have A2 := Aside0.mk A20
  clear A20
  obtain rfl := Option.some.inj H
  go_enter Try.func86, Try.ntmps86
  go_wp2_with (first | ((with_reducible refine gate_callee (f := 65) rfl ?_); refine goesL_ (some 4) rfl rfl Try.func65 (by kernel_rfl) rfl #[.int .i64 a0, .int .i64 0, .int .i64 63] rfl (by (try simp only [List.map_toArray, List.map_cons, List.map_nil]); first | done | rfl | (simp only [List.length_drop, List.length_take]; rfl)) ?_; (with_reducible refine (impl_within.calls a0 0 63 t102 _ A2.out).mono ?_); rintro e w' ⟨rfl, ⟨nd, rfl⟩⟩; refine ⟨_, rfl, ?_⟩))
  go_ret
  exact ⟨by first | rfl | (simp; done) | (simp [*]; done), by repeat (first | exact Drawn0.refl _ | apply Drawn0.step)⟩
/-! ### impl_DiskOK_1: function 92 -/
def impl_DiskOK_1.f (a0_0 : Int) (a0_1 : Int) (a0_2 : ByteArray) : Option (Bool) := (impl_isHost.f a0_0).bind fun t104 => (if t104 = true then ((impl_isPlace.f a0_1).bind fun t105 => (if t105 = true then ((impl_isSector.f a0_2).bind fun t106 => (some t106)) else (some false))) else (some false))
set_option maxHeartbeats 8000000 in
set_option maxRecDepth 100000 in
theorem impl_DiskOK_1.calls (a0_0 : Int) (a0_1 : Int) (a0_2 : ByteArray) (r : Bool) (w : World) (h : impl_DiskOK_1.f a0_0 a0_1 a0_2 = some r) :
    Calls Try.prog 92 #[.agg #[.int .i64 a0_0, .int .i64 a0_1, .string a0_2]] w fun e w' => e = .returned (.bool r) ∧ Below w.heap.size w w' := by
 have hu92 := Try.underlying92
 have HB := zm (Below.refl w.heap.size w)
 have H : ((impl_isHost.f a0_0).bind fun t104 => (if t104 = true then ((impl_isPlace.f a0_1).bind fun t105 => (if t105 = true then ((impl_isSector.f a0_2).bind fun t106 => (some t106)) else (some false))) else (some false))) = some r := h
 clear h
 replace H := Option.bind_eq_some_iff.mp H
 obtain ⟨t104, A20, H⟩ := H
 replace H : (if t104 = true then ((impl_isPlace.f a0_1).bind fun t105 => (if t105 = true then ((impl_isSector.f a0_2).bind fun t106 => (some t106)) else (some false))) else (some false)) = some r := H
 have A2 := zm A20
 clear A20
 by_cases c3 : t104 = true
 ·subst c3
  have H1 : ((impl_isPlace.f a0_1).bind fun t105 => (if t105 = true then ((impl_isSector.f a0_2).bind fun t106 => (some t106)) else (some false))) = some r := by rw [if_pos rfl] at H; exact H
  clear H
  have H := H1
  clear H1
  replace H := Option.bind_eq_some_iff.mp H
  obtain ⟨t105, A40, H⟩ := H
  replace H : (if t105 = true then ((impl_isSector.f a0_2).bind fun t106 => (some t106)) else (some false)) = some r := H
  have A4 := zm A40
  clear A40
  by_cases c5 : t105 = true
  ·subst c5
   have H1 : ((impl_isSector.f a0_2).bind fun t106 => (some t106)) = some r := by rw [if_pos rfl] at H; exact H
   clear H
   have H := H1
   clear H1
   replace H := Option.bind_eq_some_iff.mp H
   obtain ⟨t106, A60, H⟩ := H
   replace H : (some t106) = some r := H
   have A6 := zm A60
   clear A60
   obtain rfl := Option.some.inj H
   go_enter Try.func92, Try.ntmps92
   go_wp2_with (first | ((with_reducible refine gate_dst (N := 1) rfl ?_); refine box_event ?hg (N := 1) ?hd (cs := #[.int .i64 a0_0, .int .i64 a0_1, .string a0_2]) (t := 92) ?hr ?_; (case hd => rfl); (case hg => rfl); (case hr => first | (go_simp; done) | (go_simp; rfl)); intro gb103 hg w7 hbox hb; have n0_ := zm (below_step (zg_0 HB.out) hb); have n1_ := zm (hbox); have n2_ := zm ((by rw [hg]; exact (below_size (zg_0 HB.out)) : w.heap.size ≤ gb103)); have n3_ := zm ((by rw [hg]; exact (below_size (zg_0 HB.out)) : w.heap.size ≤ gb103)); clear HB; have HB := n0_; have BK103 := n1_; have GW103 := n2_; have GE103 := n3_; clear n0_ n1_ n2_ n3_; clear hb hbox hg; have hcz8_0 : w7.cell? ⟨gb103, 0, none⟩ = some (.int .i64 a0_0) := (blk_cell BK103.out 0).trans rfl; have hcz8_1 : w7.cell? ⟨gb103, 1, none⟩ = some (.int .i64 a0_1) := (blk_cell BK103.out 1).trans rfl; have hcz8_2 : w7.cell? ⟨gb103, 2, none⟩ = some (.string a0_2) := (blk_cell BK103.out 2).trans rfl; have hfz8_0 := blk_frozen BK103.out 0; have hfz8_1 := blk_frozen BK103.out 1; have hfz8_2 := blk_frozen BK103.out 2) | ((with_reducible refine gate_callee (f := 56) rfl ?_); refine goesL_ (some 5) rfl rfl Try.func56 (by kernel_rfl) rfl #[.int .i64 a0_0] rfl zq ?_; (with_reducible refine (impl_isHost.calls a0_0 true _ A2.out).mono ?_); rintro e w' ⟨rfl, ⟨nd, rfl⟩⟩; refine ⟨_, rfl, ?_⟩) | (go_at_call 86; (with_reducible refine (impl_isPlace.calls a0_1 true _ A4.out).mono ?_); rintro e w' ⟨rfl, ⟨nd, rfl⟩⟩) | (go_at_call 87; (with_reducible refine (impl_isSector.calls a0_2 t106 _ A6.out).mono ?_); rintro e w' ⟨rfl, ⟨nd, rfl⟩⟩))
   go_ret
   exact ⟨by first | rfl | (simp [errW_none, errW_some] <;> rfl) | (simp [*, errW_none, errW_some] <;> rfl), zg_1 HB.out GE103.out⟩
  ·replace c5 := Bool.eq_false_iff.mpr c5
   subst c5
   have H1 : (some false) = some r := by rw [if_neg (show ¬ (false = true) by decide)] at H; exact H
   clear H
   have H := H1
   clear H1
   obtain rfl := Option.some.inj H
   go_enter Try.func92, Try.ntmps92
   go_wp2_with (first | ((with_reducible refine gate_dst (N := 1) rfl ?_); refine box_event ?hg (N := 1) ?hd (cs := #[.int .i64 a0_0, .int .i64 a0_1, .string a0_2]) (t := 92) ?hr ?_; (case hd => rfl); (case hg => rfl); (case hr => first | (go_simp; done) | (go_simp; rfl)); intro gb103 hg w9 hbox hb; have n0_ := zm (below_step (zg_0 HB.out) hb); have n1_ := zm (hbox); have n2_ := zm ((by rw [hg]; exact (below_size (zg_0 HB.out)) : w.heap.size ≤ gb103)); have n3_ := zm ((by rw [hg]; exact (below_size (zg_0 HB.out)) : w.heap.size ≤ gb103)); clear HB; have HB := n0_; have BK103 := n1_; have GW103 := n2_; have GE103 := n3_; clear n0_ n1_ n2_ n3_; clear hb hbox hg; have hcz10_0 : w9.cell? ⟨gb103, 0, none⟩ = some (.int .i64 a0_0) := (blk_cell BK103.out 0).trans rfl; have hcz10_1 : w9.cell? ⟨gb103, 1, none⟩ = some (.int .i64 a0_1) := (blk_cell BK103.out 1).trans rfl; have hcz10_2 : w9.cell? ⟨gb103, 2, none⟩ = some (.string a0_2) := (blk_cell BK103.out 2).trans rfl; have hfz10_0 := blk_frozen BK103.out 0; have hfz10_1 := blk_frozen BK103.out 1; have hfz10_2 := blk_frozen BK103.out 2) | ((with_reducible refine gate_callee (f := 56) rfl ?_); refine goesL_ (some 5) rfl rfl Try.func56 (by kernel_rfl) rfl #[.int .i64 a0_0] rfl zq ?_; (with_reducible refine (impl_isHost.calls a0_0 true _ A2.out).mono ?_); rintro e w' ⟨rfl, ⟨nd, rfl⟩⟩; refine ⟨_, rfl, ?_⟩) | (go_at_call 86; (with_reducible refine (impl_isPlace.calls a0_1 false _ A4.out).mono ?_); rintro e w' ⟨rfl, ⟨nd, rfl⟩⟩))
   go_ret
   exact ⟨by first | rfl | (simp [errW_none, errW_some] <;> rfl) | (simp [*, errW_none, errW_some] <;> rfl), zg_1 HB.out GE103.out⟩
 ·replace c3 := Bool.eq_false_iff.mpr c3
  subst c3
  have H1 : (some false) = some r := by rw [if_neg (show ¬ (false = true) by decide)] at H; exact H
  clear H
  have H := H1
  clear H1
  obtain rfl := Option.some.inj H
  go_enter Try.func92, Try.ntmps92
  go_wp2_with (first | ((with_reducible refine gate_dst (N := 1) rfl ?_); refine box_event ?hg (N := 1) ?hd (cs := #[.int .i64 a0_0, .int .i64 a0_1, .string a0_2]) (t := 92) ?hr ?_; (case hd => rfl); (case hg => rfl); (case hr => first | (go_simp; done) | (go_simp; rfl)); intro gb103 hg w11 hbox hb; have n0_ := zm (below_step (zg_0 HB.out) hb); have n1_ := zm (hbox); have n2_ := zm ((by rw [hg]; exact (below_size (zg_0 HB.out)) : w.heap.size ≤ gb103)); have n3_ := zm ((by rw [hg]; exact (below_size (zg_0 HB.out)) : w.heap.size ≤ gb103)); clear HB; have HB := n0_; have BK103 := n1_; have GW103 := n2_; have GE103 := n3_; clear n0_ n1_ n2_ n3_; clear hb hbox hg; have hcz12_0 : w11.cell? ⟨gb103, 0, none⟩ = some (.int .i64 a0_0) := (blk_cell BK103.out 0).trans rfl; have hcz12_1 : w11.cell? ⟨gb103, 1, none⟩ = some (.int .i64 a0_1) := (blk_cell BK103.out 1).trans rfl; have hcz12_2 : w11.cell? ⟨gb103, 2, none⟩ = some (.string a0_2) := (blk_cell BK103.out 2).trans rfl; have hfz12_0 := blk_frozen BK103.out 0; have hfz12_1 := blk_frozen BK103.out 1; have hfz12_2 := blk_frozen BK103.out 2) | ((with_reducible refine gate_callee (f := 56) rfl ?_); refine goesL_ (some 5) rfl rfl Try.func56 (by kernel_rfl) rfl #[.int .i64 a0_0] rfl zq ?_; (with_reducible refine (impl_isHost.calls a0_0 false _ A2.out).mono ?_); rintro e w' ⟨rfl, ⟨nd, rfl⟩⟩; refine ⟨_, rfl, ?_⟩))
  go_ret
  exact ⟨by first | rfl | (simp [errW_none, errW_some] <;> rfl) | (simp [*, errW_none, errW_some] <;> rfl), zg_1 HB.out GE103.out⟩
/-! ### all91_impl_DiskOK_1: function 91 -/
def all91_impl_DiskOK_1.f (l0 : List S92) (_ : Unit) : Option Bool := allO (fun x => impl_DiskOK_1.f x.f0 x.f1 x.f2) l0
theorem all91_impl_DiskOK_1.asks : Asks1 92 k92 (fun cs => .agg cs.toArray) (fun x => impl_DiskOK_1.f x.f0 x.f1 x.f2) := ⟨⟨_, Try.func92, by kernel_rfl, rfl⟩, fun x cs r w hK h => by
  obtain rfl := k92_open hK
  exact (impl_DiskOK_1.calls x.f0 x.f1 x.f2 r w  h).mono fun e w' hh => ⟨hh.1, hh.2⟩⟩
theorem all91_impl_DiskOK_1.calls (A0 : Option Addr) (c0 : Nat) (l0 : List S92) (_u : Unit) (r : Bool) (w : World) (hr0 : Kd.C k92 w A0 l0.length l0) (hc0 : l0.length ≤ c0) (h : all91_impl_DiskOK_1.f l0 () = some r) :
    Calls Try.prog 91 #[.slice A0 l0.length c0, .func (.func 92) #[] #[]] w fun e w' => e = .returned (.bool r) ∧ Below w.heap.size w w' :=
  all91 (all91_impl_DiskOK_1.asks) A0 c0 l0 r w hr0 hc0 h
/-! ### impl_DiskOK: function 42 -/
def impl_DiskOK.f (l0_0 : List ByteArray) (l0_1 : List (S92)) : Option (Bool) := if (l0_0.length : Int) = 64 then ((all90_impl_isSector.f l0_0 ()).bind fun t544 => (if t544 = true then (if (l0_1.length : Int) ≤ 200 then ((all91_impl_DiskOK_1.f l0_1 ()).bind fun t545 => (some t545)) else (some false)) else (some false))) else (some false)
set_option maxHeartbeats 8000000 in
set_option maxRecDepth 100000 in
theorem impl_DiskOK.calls (A0_0 : Option Addr) (c0_0 : Nat) (l0_0 : List ByteArray) (A0_1 : Option Addr) (c0_1 : Nat) (l0_1 : List (S92)) (r : Bool) (w : World) (hr0_0 : Kd.C Kd.string w A0_0 l0_0.length l0_0) (hc0_0 : l0_0.length ≤ c0_0) (hr0_1 : Kd.C k92 w A0_1 l0_1.length l0_1) (hc0_1 : l0_1.length ≤ c0_1) (h : impl_DiskOK.f l0_0 l0_1 = some r) :
    Calls Try.prog 42 #[.agg #[.slice A0_0 l0_0.length c0_0, .slice A0_1 l0_1.length c0_1]] w fun e w' => e = .returned (.bool r) ∧ Below w.heap.size w w' := by
 have hu48 := Try.underlying48
 have Zc := zm hr0_0
 have Zd := zm hc0_0
 clear hr0_0 hc0_0
 have Zf := zm hr0_1
 have Zg := zm hc0_1
 clear hr0_1 hc0_1
 have HB := zm (Below.refl w.heap.size w)
 have H : (if (l0_0.length : Int) = 64 then ((all90_impl_isSector.f l0_0 ()).bind fun t544 => (if t544 = true then (if (l0_1.length : Int) ≤ 200 then ((all91_impl_DiskOK_1.f l0_1 ()).bind fun t545 => (some t545)) else (some false)) else (some false))) else (some false)) = some r := h
 clear h
 by_cases c2 : (l0_0.length : Int) = 64
 ·rw [if_pos c2] at H
  have c2b0 : ((l0_0.length : Int) == 64) = true := beq_iff_eq.mpr c2
  have c2b1 : ((l0_0.length : Int) != 64) = false := bne_eq_false_iff_eq.mpr c2
  clear c2
  replace H := Option.bind_eq_some_iff.mp H
  obtain ⟨t544, A30, H⟩ := H
  replace H : (if t544 = true then (if (l0_1.length : Int) ≤ 200 then ((all91_impl_DiskOK_1.f l0_1 ()).bind fun t545 => (some t545)) else (some false)) else (some false)) = some r := H
  have A3 := zm A30
  clear A30
  by_cases c4 : t544 = true
  ·subst c4
   have H1 : (if (l0_1.length : Int) ≤ 200 then ((all91_impl_DiskOK_1.f l0_1 ()).bind fun t545 => (some t545)) else (some false)) = some r := by rw [if_pos rfl] at H; exact H
   clear H
   have H := H1
   clear H1
   by_cases c5 : (l0_1.length : Int) ≤ 200
   ·rw [if_pos c5] at H
    have c5b0 : decide ((l0_1.length : Int) ≤ 200) = true := decide_eq_true c5
    have c5b1 : decide (l0_1.length ≤ 200) = true := decide_eq_true (by omega)
    clear c5
    replace H := Option.bind_eq_some_iff.mp H
    obtain ⟨t545, A60, H⟩ := H
    replace H : (some t545) = some r := H
    have A6 := zm A60
    clear A60
    obtain rfl := Option.some.inj H
    go_enter Try.func42, Try.ntmps42
    go_wp2_with (first | ((with_reducible refine gate_dst (N := 1) rfl ?_); (try (refine gate_guard (by rfl) ?_; dsimp only)); refine box_event ?hg (N := 1) ?hd (cs := #[.slice A0_0 l0_0.length c0_0, .slice A0_1 l0_1.length c0_1]) (t := 48) ?hr ?_; (case hd => rfl); (case hg => rfl); (case hr => first | (go_simp; done) | (go_simp; rfl)); intro gb543 hg w7 hbox hb; have n0_ := zm (below_step (zg_0 HB.out) hb); have n1_ := zm (hbox); have n2_ := zm ((by rw [hg]; exact (below_size (zg_0 HB.out)) : w.heap.size ≤ gb543)); have n3_ := zm ((by rw [hg]; exact (below_size (zg_0 HB.out)) : w.heap.size ≤ gb543)); clear HB; have HB := n0_; have Za := n1_; have Ze := n2_; have Zb := n3_; clear n0_ n1_ n2_ n3_; clear hb hbox hg; have hcz8_0 : w7.cell? ⟨gb543, 0, none⟩ = some (.slice A0_0 l0_0.length c0_0) := (blk_cell Za.out 0).trans rfl; have hcz8_1 : w7.cell? ⟨gb543, 1, none⟩ = some (.slice A0_1 l0_1.length c0_1) := (blk_cell Za.out 1).trans rfl; have hfz8_0 := blk_frozen Za.out 0; have hfz8_1 := blk_frozen Za.out 1) | (go_at_call 90; (with_reducible refine (all90_impl_isSector.calls _ _ l0_0 () true _ ?side1 ?side2 A3.out).mono ?_); (case side1 => repeat (first | exact (Kd.C_below Zc.out HB.out) | (with_reducible refine Kd.C_alloc ?_ _) | (with_reducible refine Kd.C_drewN ?_ _) | (with_reducible refine Kd.C_drew ?_))); (case side2 => exact Zd.out); rintro e w9 ⟨rfl, hb⟩; have n0_ := zm (blk_below (g := gb543) (o := .cells #[.slice A0_0 l0_0.length c0_0, .slice A0_1 l0_1.length c0_1] 48 (0, 0)) (zg_2 Za.out) hb); have n1_ := zm (below_step (zg_1 HB.out Zb.out) hb); clear Za; clear HB; have Za := n0_; have HB := n1_; clear n0_ n1_; (try clear hb); (try clear hb2); (try clear hk); (try clear hi); have hcz10_0 : w9.cell? ⟨gb543, 0, none⟩ = some (.slice A0_0 l0_0.length c0_0) := (blk_cell Za.out 0).trans rfl; have hcz10_1 : w9.cell? ⟨gb543, 1, none⟩ = some (.slice A0_1 l0_1.length c0_1) := (blk_cell Za.out 1).trans rfl; have hfz10_0 := blk_frozen Za.out 0; have hfz10_1 := blk_frozen Za.out 1) | (go_at_call 91; (with_reducible refine (all91_impl_DiskOK_1.calls _ _ l0_1 () t545 _ ?side1 ?side2 A6.out).mono ?_); (case side1 => repeat (first | exact (Kd.C_below Zf.out HB.out) | (with_reducible refine Kd.C_alloc ?_ _) | (with_reducible refine Kd.C_drewN ?_ _) | (with_reducible refine Kd.C_drew ?_))); (case side2 => exact Zg.out); rintro e w11 ⟨rfl, hb⟩; have n0_ := zm (blk_below (g := gb543) (o := .cells #[.slice A0_0 l0_0.length c0_0, .slice A0_1 l0_1.length c0_1] 48 (0, 0)) (zg_2 Za.out) hb); have n1_ := zm (below_step (zg_1 HB.out Zb.out) hb); clear Za; clear HB; have Za := n0_; have HB := n1_; clear n0_ n1_; (try clear hb); (try clear hb2); (try clear hk); (try clear hi)))
    go_ret
    exact ⟨by first | rfl | (simp [errW_none, errW_some] <;> rfl) | (simp [*, errW_none, errW_some] <;> rfl), zg_1 HB.out Zb.out⟩
   ·rw [if_neg c5] at H
    have c5b0 : decide ((l0_1.length : Int) ≤ 200) = false := decide_eq_false c5
    have c5b1 : decide (l0_1.length ≤ 200) = false := decide_eq_false (by omega)
    clear c5
    obtain rfl := Option.some.inj H
    go_enter Try.func42, Try.ntmps42
    go_wp2_with (first | ((with_reducible refine gate_dst (N := 1) rfl ?_); (try (refine gate_guard (by rfl) ?_; dsimp only)); refine box_event ?hg (N := 1) ?hd (cs := #[.slice A0_0 l0_0.length c0_0, .slice A0_1 l0_1.length c0_1]) (t := 48) ?hr ?_; (case hd => rfl); (case hg => rfl); (case hr => first | (go_simp; done) | (go_simp; rfl)); intro gb543 hg w12 hbox hb; have n0_ := zm (below_step (zg_0 HB.out) hb); have n1_ := zm (hbox); have n2_ := zm ((by rw [hg]; exact (below_size (zg_0 HB.out)) : w.heap.size ≤ gb543)); have n3_ := zm ((by rw [hg]; exact (below_size (zg_0 HB.out)) : w.heap.size ≤ gb543)); clear HB; have HB := n0_; have Za := n1_; have Ze := n2_; have Zb := n3_; clear n0_ n1_ n2_ n3_; clear hb hbox hg; have hcz13_0 : w12.cell? ⟨gb543, 0, none⟩ = some (.slice A0_0 l0_0.length c0_0) := (blk_cell Za.out 0).trans rfl; have hcz13_1 : w12.cell? ⟨gb543, 1, none⟩ = some (.slice A0_1 l0_1.length c0_1) := (blk_cell Za.out 1).trans rfl; have hfz13_0 := blk_frozen Za.out 0; have hfz13_1 := blk_frozen Za.out 1) | (go_at_call 90; (with_reducible refine (all90_impl_isSector.calls _ _ l0_0 () true _ ?side1 ?side2 A3.out).mono ?_); (case side1 => repeat (first | exact (Kd.C_below Zc.out HB.out) | (with_reducible refine Kd.C_alloc ?_ _) | (with_reducible refine Kd.C_drewN ?_ _) | (with_reducible refine Kd.C_drew ?_))); (case side2 => exact Zd.out); rintro e w14 ⟨rfl, hb⟩; have n0_ := zm (blk_below (g := gb543) (o := .cells #[.slice A0_0 l0_0.length c0_0, .slice A0_1 l0_1.length c0_1] 48 (0, 0)) (zg_2 Za.out) hb); have n1_ := zm (below_step (zg_1 HB.out Zb.out) hb); clear Za; clear HB; have Za := n0_; have HB := n1_; clear n0_ n1_; (try clear hb); (try clear hb2); (try clear hk); (try clear hi); have hcz15_0 : w14.cell? ⟨gb543, 0, none⟩ = some (.slice A0_0 l0_0.length c0_0) := (blk_cell Za.out 0).trans rfl; have hcz15_1 : w14.cell? ⟨gb543, 1, none⟩ = some (.slice A0_1 l0_1.length c0_1) := (blk_cell Za.out 1).trans rfl; have hfz15_0 := blk_frozen Za.out 0; have hfz15_1 := blk_frozen Za.out 1))
    go_ret
    exact ⟨by first | rfl | (simp [errW_none, errW_some] <;> rfl) | (simp [*, errW_none, errW_some] <;> rfl), zg_1 HB.out Zb.out⟩
  ·replace c4 := Bool.eq_false_iff.mpr c4
   subst c4
   have H1 : (some false) = some r := by rw [if_neg (show ¬ (false = true) by decide)] at H; exact H
   clear H
   have H := H1
   clear H1
   obtain rfl := Option.some.inj H
   go_enter Try.func42, Try.ntmps42
   go_wp2_with (first | ((with_reducible refine gate_dst (N := 1) rfl ?_); (try (refine gate_guard (by rfl) ?_; dsimp only)); refine box_event ?hg (N := 1) ?hd (cs := #[.slice A0_0 l0_0.length c0_0, .slice A0_1 l0_1.length c0_1]) (t := 48) ?hr ?_; (case hd => rfl); (case hg => rfl); (case hr => first | (go_simp; done) | (go_simp; rfl)); intro gb543 hg w16 hbox hb; have n0_ := zm (below_step (zg_0 HB.out) hb); have n1_ := zm (hbox); have n2_ := zm ((by rw [hg]; exact (below_size (zg_0 HB.out)) : w.heap.size ≤ gb543)); have n3_ := zm ((by rw [hg]; exact (below_size (zg_0 HB.out)) : w.heap.size ≤ gb543)); clear HB; have HB := n0_; have Za := n1_; have Ze := n2_; have Zb := n3_; clear n0_ n1_ n2_ n3_; clear hb hbox hg; have hcz17_0 : w16.cell? ⟨gb543, 0, none⟩ = some (.slice A0_0 l0_0.length c0_0) := (blk_cell Za.out 0).trans rfl; have hcz17_1 : w16.cell? ⟨gb543, 1, none⟩ = some (.slice A0_1 l0_1.length c0_1) := (blk_cell Za.out 1).trans rfl; have hfz17_0 := blk_frozen Za.out 0; have hfz17_1 := blk_frozen Za.out 1) | (go_at_call 90; (with_reducible refine (all90_impl_isSector.calls _ _ l0_0 () false _ ?side1 ?side2 A3.out).mono ?_); (case side1 => repeat (first | exact (Kd.C_below Zc.out HB.out) | (with_reducible refine Kd.C_alloc ?_ _) | (with_reducible refine Kd.C_drewN ?_ _) | (with_reducible refine Kd.C_drew ?_))); (case side2 => exact Zd.out); rintro e w18 ⟨rfl, hb⟩; have n0_ := zm (blk_below (g := gb543) (o := .cells #[.slice A0_0 l0_0.length c0_0, .slice A0_1 l0_1.length c0_1] 48 (0, 0)) (zg_2 Za.out) hb); have n1_ := zm (below_step (zg_1 HB.out Zb.out) hb); clear Za; clear HB; have Za := n0_; have HB := n1_; clear n0_ n1_; (try clear hb); (try clear hb2); (try clear hk); (try clear hi)))
   go_ret
   exact ⟨by first | rfl | (simp [errW_none, errW_some] <;> rfl) | (simp [*, errW_none, errW_some] <;> rfl), zg_1 HB.out Zb.out⟩
 ·rw [if_neg c2] at H
  have c2b0 : ((l0_0.length : Int) == 64) = false := beq_eq_false_iff_ne.mpr c2
  have c2b1 : ((l0_0.length : Int) != 64) = true := bne_iff_ne.mpr c2
  obtain rfl := Option.some.inj H
  go_enter Try.func42, Try.ntmps42
  go_wp2_with (first | ((with_reducible refine gate_dst (N := 1) rfl ?_); (try (refine gate_guard (by rfl) ?_; dsimp only)); refine box_event ?hg (N := 1) ?hd (cs := #[.slice A0_0 l0_0.length c0_0, .slice A0_1 l0_1.length c0_1]) (t := 48) ?hr ?_; (case hd => rfl); (case hg => rfl); (case hr => first | (go_simp; done) | (go_simp; rfl)); intro gb543 hg w19 hbox hb; have n0_ := zm (below_step (zg_0 HB.out) hb); have n1_ := zm (hbox); have n2_ := zm ((by rw [hg]; exact (below_size (zg_0 HB.out)) : w.heap.size ≤ gb543)); have n3_ := zm ((by rw [hg]; exact (below_size (zg_0 HB.out)) : w.heap.size ≤ gb543)); clear HB; have HB := n0_; have Za := n1_; have Ze := n2_; have Zb := n3_; clear n0_ n1_ n2_ n3_; clear hb hbox hg; have hcz20_0 : w19.cell? ⟨gb543, 0, none⟩ = some (.slice A0_0 l0_0.length c0_0) := (blk_cell Za.out 0).trans rfl; have hcz20_1 : w19.cell? ⟨gb543, 1, none⟩ = some (.slice A0_1 l0_1.length c0_1) := (blk_cell Za.out 1).trans rfl; have hfz20_0 := blk_frozen Za.out 0; have hfz20_1 := blk_frozen Za.out 1))
  go_ret
  exact ⟨by first | rfl | (simp [errW_none, errW_some] <;> rfl) | (simp [*, errW_none, errW_some] <;> rfl), zg_1 HB.out Zb.out⟩
theorem eqA28 (d : Nat) (w : World) (x0 y0 : Int) (x1 y1 : ByteArray) :
    (Op.equalIn (d + 2) 28 (.agg #[.int .i64 x0, .string x1]) (.agg #[.int .i64 y0, .string y1])).run Try.prog w = .ok (x0 == y0 && (x1.toList == y1.toList)) w := by
  refine eqA_of Try.underlying28 (by kernel_rfl) ?_
  refine eqf_cons (by rfl) (by go_simp; rfl) (by go_simp; rfl) (by go_simp) ?_
  exact eqf_last (by rfl) (by go_simp; rfl) (by go_simp; rfl) (by go_simp)
section
attribute [local go_sem high] eqA28
/-! ### impl_first: function 54 -/
def impl_first.f (l0 : List Any) : Option Int := if l0.length ≤ 1000 then firstO l0 else none
theorem firstO_at : ∀ (l : List Any) (r : Int), firstO l = some r → l = [] ∧ r = 0 ∨ ∃ x c t, l = .b x :: .n c :: t ∧ (if x = true then some c else firstO t) = some r
  | [], r, h => .inl ⟨rfl, by simpa [firstO] using h.symm⟩
  | .b x :: .n c :: t, r, h => .inr ⟨x, c, t, rfl, by simpa [firstO] using h⟩
  | [.b _], _, h => by simp [firstO] at h
  | .b _ :: .b _ :: _, _, h => by simp [firstO] at h
  | .b _ :: .s _ :: _, _, h => by simp [firstO] at h
  | .n _ :: _, _, h => by simp [firstO] at h
  | .s _ :: _, _, h => by simp [firstO] at h
set_option maxHeartbeats 1000000 in
set_option maxRecDepth 100000 in
theorem impl_first.calls (A0 : Option Addr) (c0 : Nat) (l0 : List Any) (r : Int) (w : World) (hr0 : Kd.C kAny w A0 l0.length l0) (hc0 : l0.length ≤ c0) (h : impl_first.f l0 = some r) :
    Calls Try.prog 54 #[.slice A0 l0.length c0] w fun e w' => e = .returned (.int .i64 r) ∧ Drawn0 w w' := by
 have HR0 := zm hr0
 have hlen : l0.length ≤ 1000 := by
  unfold impl_first.f at h; split at h
  ·assumption
  ·cases h
 have H' := zm (show firstO (l0.drop 0) = some r by unfold impl_first.f at h; rw [if_pos hlen] at h; exact h)
 clear hr0 h
 have hta : ∀ (v : Bool) (W : World), (Instr.typeAssert (.iface 4 (.bool v)) 20 4 true).run Try.prog W = .ok (.tuple #[.bool v, .bool true]) W := fun v W => by rfl
 have htb : ∀ (v : Int) (W : World), (Instr.typeAssert (.iface 3 (.int .i64 v)) 20 3 true).run Try.prog W = .ok (.tuple #[.int .i64 v, .bool true]) W := fun v W => by rfl
 go_enter Try.func54, Try.ntmps54
 go_wp2
 go_loopg [3] (l0.length + 1) (fun kq v3 w' => ∃ k : Nat, v3 = .int .i64 (k : Int) ∧ Aside0 (kq + k ≥ l0.length + 1 ∧ k ≤ l0.length) ∧ Aside0 (firstO (l0.drop k) = some r) ∧ w = w')
 case atStart => exact ⟨0, rfl, ⟨by omega, by omega⟩, H', rfl⟩
 case round =>
  clear H'
  obtain ⟨k, rfl, HK, HA, rfl⟩ := hrel
  cases gk with
  | zero =>
   have hk := HK.out
   omega
  | succ k1 =>
   have hlen2 := HK.out.2
   rcases firstO_at _ _ HA.out with ⟨h1, h2⟩ | ⟨x, c, t, ht, h2⟩
   ·have hk : l0.length ≤ k := by simpa using h1
    clear h1
    have H2 := zm h2
    clear h2
    go_wp2
    go_ret
    exact ⟨by rw [H2.out] <;> rfl, Drawn0.refl _⟩
   ·have hl : k + 2 ≤ l0.length := by
     have := congrArg List.length ht
     simp at this; omega
    have e0 : l0[k]? = some (.b x) := by
     have := congrArg (fun l : List Any => l[0]?) ht
     simpa using this
    have e1 : l0[k + 1]? = some (.n c) := by
     have := congrArg (fun l : List Any => l[1]?) ht
     simpa using this
    have e2 : l0.drop (k + 2) = t := by
     have := congrArg (fun l : List Any => l.drop 2) ht
     simpa using this
    obtain ⟨ad, ea, hx0⟩ := any_at HR0.out k (by omega) _ e0
    obtain ⟨ad', ea', hx1⟩ := any_at HR0.out (k + 1) (by omega) _ e1
    have had : ad = ad' := Option.some.inj (ea.symm.trans ea')
    clear ea'
    subst had
    cases ea
    have hx0' : w.cell? (ad.add k) = some (.iface 4 (.bool x)) := hx0
    have hx1' : w.cell? ⟨ad.block, ad.off + (k + 1), none⟩ = some (.iface 3 (.int .i64 c)) := by simpa [Addr.add, encAny] using hx1
    have HT := zm ht
    have E2 := zm e2
    have H2 := zm h2
    clear hx0 hx1 ht e0 e1 e2 h2 HA
    cases x with
    | true =>
     go_wp2
     go_ret
     exact ⟨by have := H2.out; simp at this; rw [this] <;> rfl, Drawn0.refl _⟩
    | false =>
     go_wp2
     go_roundg k1
     case measure => omega
     case rel => exact ⟨k + 2, by simp, ⟨by have := HK.out; omega, by omega⟩, ⟨by rw [E2.out]; simpa using H2.out⟩, rfl⟩
end
/-! ### impl_Disk_codes: function 74 -/
def impl_Disk_codes.f (l0_0 : List ByteArray) (l0_1 : List (S92)) (a1 : Int) : Option (Int) := (impl_DiskOK.f l0_0 l0_1).bind fun t591 => ((impl_isHost.f a1).bind fun t592 => ((impl_first.f (([Any.b (!t591), Any.n 1, Any.b (!t592), Any.n 4] : List Any))).bind fun t596 => (some t596)))
set_option maxHeartbeats 8000000 in
set_option maxRecDepth 100000 in
theorem impl_Disk_codes.calls (A0_0 : Option Addr) (c0_0 : Nat) (l0_0 : List ByteArray) (A0_1 : Option Addr) (c0_1 : Nat) (l0_1 : List (S92)) (a1 : Int) (r : Int) (w : World) (hr0_0 : Kd.C Kd.string w A0_0 l0_0.length l0_0) (hc0_0 : l0_0.length ≤ c0_0) (hr0_1 : Kd.C k92 w A0_1 l0_1.length l0_1) (hc0_1 : l0_1.length ≤ c0_1) (h : impl_Disk_codes.f l0_0 l0_1 a1 = some r) :
    Calls Try.prog 74 #[.agg #[.slice A0_0 l0_0.length c0_0, .slice A0_1 l0_1.length c0_1], .int .i64 a1] w fun e w' => e = .returned (.int .i64 r) ∧ Below w.heap.size w w' := by
 have hu48 := Try.underlying48
 have HR0_0 := zm hr0_0
 have HC0_0 := zm hc0_0
 clear hr0_0 hc0_0
 have HR0_1 := zm hr0_1
 have HC0_1 := zm hc0_1
 clear hr0_1 hc0_1
 have HB := zm (Below.refl w.heap.size w)
 have H : ((impl_DiskOK.f l0_0 l0_1).bind fun t591 => ((impl_isHost.f a1).bind fun t592 => ((impl_first.f (([Any.b (!t591), Any.n 1, Any.b (!t592), Any.n 4] : List Any))).bind fun t596 => (some t596)))) = some r := h
 clear h
 replace H := Option.bind_eq_some_iff.mp H
 obtain ⟨t591, A30, H⟩ := H
 replace H : ((impl_isHost.f a1).bind fun t592 => ((impl_first.f (([Any.b (!t591), Any.n 1, Any.b (!t592), Any.n 4] : List Any))).bind fun t596 => (some t596))) = some r := H
 have A3 := zm A30
 clear A30
 replace H := Option.bind_eq_some_iff.mp H
 obtain ⟨t592, A40, H⟩ := H
 replace H : ((impl_first.f (([Any.b (!t591), Any.n 1, Any.b (!t592), Any.n 4] : List Any))).bind fun t596 => (some t596)) = some r := H
 have A4 := zm A40
 clear A40
 obtain ⟨y593, hy593⟩ : ∃ y_ : List Any, y_ = (([Any.b (!t591), Any.n 1, Any.b (!t592), Any.n 4] : List Any)) := ⟨_, rfl⟩
 replace H : ((impl_first.f y593).bind fun t596 => (some t596)) = some r := by first | (rw [hy593]; with_reducible exact H) | (have H2_ := (Option.bind_some _ _).symm.trans H; rw [hy593]; with_reducible exact H2_) | (have H2_ := (Option.bind_some _ _).symm.trans H; with_reducible exact H2_) | with_reducible exact H | (rw [hy593]; exact H) | exact H
 have Ny593 := zm hy593
 clear hy593
 replace H := Option.bind_eq_some_iff.mp H
 obtain ⟨t596, A50, H⟩ := H
 replace H : (some t596) = some r := H
 have A5 := zm A50
 clear A50
 obtain rfl := Option.some.inj H
 go_enter Try.func74, Try.ntmps74
 go_wp2_with (first | ((with_reducible refine gate_dst (N := 2) rfl ?_); refine box_event ?hg (N := 2) ?hd (cs := #[.slice A0_0 l0_0.length c0_0, .slice A0_1 l0_1.length c0_1]) (t := 48) ?hr ?_; (case hd => rfl); (case hg => rfl); (case hr => first | (go_simp; done) | (go_simp; rfl)); intro gb590 hg w6 hbox hb; have n0_ := zm (below_step (zg_0 HB.out) hb); have n1_ := zm (hbox); have n2_ := zm ((by rw [hg]; exact (below_size (zg_0 HB.out)) : w.heap.size ≤ gb590)); have n3_ := zm ((by rw [hg]; exact (below_size (zg_0 HB.out)) : w.heap.size ≤ gb590)); clear HB; have HB := n0_; have BK590 := n1_; have GW590 := n2_; have GE590 := n3_; clear n0_ n1_ n2_ n3_; clear hb hbox hg; have hcz7_0 : w6.cell? ⟨gb590, 0, none⟩ = some (.slice A0_0 l0_0.length c0_0) := (blk_cell BK590.out 0).trans rfl; have hcz7_1 : w6.cell? ⟨gb590, 1, none⟩ = some (.slice A0_1 l0_1.length c0_1) := (blk_cell BK590.out 1).trans rfl; have hfz7_0 := blk_frozen BK590.out 0; have hfz7_1 := blk_frozen BK590.out 1) | ((with_reducible refine gate_callee (f := 42) rfl ?_); refine goesL_ (some 6) rfl rfl Try.func42 (by kernel_rfl) rfl #[.agg #[.slice A0_0 l0_0.length c0_0, .slice A0_1 l0_1.length c0_1]] rfl zq ?_; (with_reducible refine (impl_DiskOK.calls _ _ l0_0 _ _ l0_1 t591 _ ?side1 ?side2 ?side3 ?side4 A3.out).mono ?_); (case side1 => repeat (first | exact (Kd.C_below HR0_0.out HB.out) | (with_reducible refine Kd.C_alloc ?_ _) | (with_reducible refine Kd.C_drewN ?_ _) | (with_reducible refine Kd.C_drew ?_))); (case side2 => exact HC0_0.out); (case side3 => repeat (first | exact (Kd.C_below HR0_1.out HB.out) | (with_reducible refine Kd.C_alloc ?_ _) | (with_reducible refine Kd.C_drewN ?_ _) | (with_reducible refine Kd.C_drew ?_))); (case side4 => exact HC0_1.out); rintro e w8 ⟨rfl, hb⟩; refine ⟨_, rfl, ?_⟩; have n0_ := zm (blk_below (g := gb590) (o := .cells #[.slice A0_0 l0_0.length c0_0, .slice A0_1 l0_1.length c0_1] 48 (0, 0)) (zg_2 BK590.out) hb); have n1_ := zm (below_step (zg_1 HB.out GE590.out) hb); clear BK590; clear HB; have BK590 := n0_; have HB := n1_; clear n0_ n1_; (try clear hb); (try clear hb2); (try clear hk); (try clear hi)) | ((with_reducible refine gate_callee (f := 56) rfl ?_); refine goesL_ (some 11) rfl rfl Try.func56 (by kernel_rfl) rfl #[.int .i64 a1] rfl zq ?_; (with_reducible refine (impl_isHost.calls a1 t592 _ A4.out).mono ?_); rintro e w' ⟨rfl, ⟨nd, rfl⟩⟩; refine ⟨_, rfl, ?_⟩) | ((with_reducible refine gate_dst (N := 15) rfl ?_); refine Kd.R_lit kAny _ 20 ?hg (N := 15) ?hd (xs := ([Any.b (!t591), Any.n 1, Any.b (!t592), Any.n 4] : List Any)) (inner := [.iface 4 (.bool (!t591)), .iface 3 (.int .i64 1), .iface 4 (.bool (!t592)), .iface 3 (.int .i64 4)]) (ok := fun _ => True) (okp := fun _ => True) ?hr ?hp (fun _ hk => hk) trivial (Below.refl _ _) (Nat.le_refl _) (by simp) ?_; (case hd => rfl); (case hg => rfl); (case hr => first | (go_simp; done) | (go_simp; rfl)); (case hp => exact (Reps.one (show Kd.M kAny _ _ _ (Any.b (!t591)) [.iface 4 (.bool (!t591))] from rfl) (Reps.one (show Kd.M kAny _ _ _ (Any.n 1) [.iface 3 (.int .i64 1)] from rfl) (Reps.one (show Kd.M kAny _ _ _ (Any.b (!t592)) [.iface 4 (.bool (!t592))] from rfl) (Reps.one (show Kd.M kAny _ _ _ (Any.n 4) [.iface 3 (.int .i64 4)] from rfl) (Reps.none _ _)))))); intro v594 w9 ho10 hb hg_ hnew_; clear hg_ hnew_; (first | rw [← Ny593.out] at ho10 | (simp only [Int.reduceToNat] at ho10; rw [← Ny593.out] at ho10)); have n0_ := zm (Kd.R_lower ho10 (below_size (zg_1 HB.out GE590.out))); have n1_ := zm (blk_below (g := gb590) (o := .cells #[.slice A0_0 l0_0.length c0_0, .slice A0_1 l0_1.length c0_1] 48 (0, 0)) (zg_2 BK590.out) hb); have n2_ := zm (below_step (zg_1 HB.out GE590.out) hb); clear BK590; clear HB; have HO595 := n0_; have BK590 := n1_; have HB := n2_; clear n0_ n1_ n2_; clear hb ho10; obtain ⟨Ao11, co11, eo11⟩ := Kd.R_slice HO595.out; subst eo11) | ((with_reducible refine gate_callee (f := 54) rfl ?_); refine goesL_ (some 16) rfl rfl Try.func54 (by kernel_rfl) rfl #[.slice Ao11 y593.length co11] rfl zq ?_; (with_reducible refine (impl_first.calls _ _ y593 t596 _ ?side1 ?side2 A5.out).mono ?_); (case side1 => repeat (first | exact (Kd.R_reads' HO595.out).2.2 | (with_reducible refine Kd.C_alloc ?_ _) | (with_reducible refine Kd.C_drewN ?_ _) | (with_reducible refine Kd.C_drew ?_))); (case side2 => exact (Kd.R_reads' HO595.out).2.1); rintro e w' ⟨rfl, ⟨nd, rfl⟩⟩; refine ⟨_, rfl, ?_⟩))
 go_ret
 exact ⟨by first | rfl | (simp [errW_none, errW_some] <;> rfl) | (simp [*, errW_none, errW_some] <;> rfl), zg_1 HB.out GE590.out⟩
/-! ### impl_Io_118: function 118 -/
def impl_Io_118.f (l0 : List S92) : Option (List S92) := if l0.length < 4398046511104 then some l0 else none
set_option maxHeartbeats 1000000 in
set_option maxRecDepth 100000 in
theorem impl_Io_118.calls (A0 : Option Addr) (c0 : Nat) (l0 : List S92) (r : List S92) (w : World) (hr0 : Kd.C k92 w A0 l0.length l0) (hc0 : l0.length ≤ c0) (h : impl_Io_118.f l0 = some r) :
    Calls Try.prog 118 #[.slice A0 l0.length c0] w fun e w' => ∃ v : Value, e = .returned v ∧ Kd.R k92 92 w' w.heap.size (fun _ => True) v r ∧ Below w.heap.size w w' := by
  have hlim : l0.length < 4398046511104 := by
    unfold impl_Io_118.f at h; split at h
    · assumption
    · cases h
  have hres : l0 = r := by unfold impl_Io_118.f at h; rw [if_pos hlim] at h; exact Option.some.inj h
  subst hres
  have HR0 := Aside0.mk hr0
  have HB := Aside0.mk (Below.refl w.heap.size w)
  have LM := Aside0.mk hlim
  have heq := fun (wx : World) (a : Option Addr) => Lib.run_eql_slice_nil (P := Try.prog) wx 46 92 a l0.length c0 0 0 Try.underlying46
  clear hr0 h hlim
  cases A0 with
  | none =>
    have hl : l0 = [] := by
      by_cases hn : 0 < l0.length
      · obtain ⟨ad, ha, _⟩ := HR0.out.2.2 hn
        cases ha
      · exact List.eq_nil_of_length_eq_zero (by omega)
    subst hl
    simp only [List.length_nil] at heq
    clear HR0 LM
    go_enter Try.func118, Try.ntmps118
    go_wp2
    go_ret
    exact ⟨_, rfl, Kd.R_nil _ _ _ _ _, HB.out⟩
  | some a =>
    go_enter Try.func118, Try.ntmps118
    go_wp2_with (first | ((with_reducible refine gate_dst (N := 5) rfl ?_); refine Kd.R_lit k92 _ 92 ?hg (N := 5) ?hd (xs := ([] : List S92)) (inner := []) (ok := fun _ => True) (okp := fun _ => True) ?hr ?hp (fun _ hk => hk) trivial (Below.refl _ _) (Nat.le_refl _) (by simp) ?_; (case hd => rfl); (case hg => rfl); (case hr => first | (go_simp; done) | (go_simp; rfl)); (case hp => exact (Reps.none _ _)); intro v5 w2 ho hb hg_ hnew_; clear hg_ hnew_; have HO := Aside0.mk ho; have HB2 := Aside0.mk hb; clear ho hb) | ((with_reducible refine gate_builtin (b := .append) (xs := #[.tmp 5, .tmp 6]) rfl ?_); at_builtin; refine Kd.R_append_rows k92 (w0 := w) w.heap.size rfl (.tmp 5) (.tmp 6) 46 92 (.agg #[(.int .i64 0), (.int .i64 0), (.string ⟨#[]⟩)]) 32 rfl Try.underlying46 info92 rfl (by decide) (by omega) v5 ([] : List S92) l0 _ _ _ (fun _ => True) (fun _ => False) rfl rfl ?aO ?aR (fun _ _ h => h) (fun _ h => h.elim) ?aF ?aB ?aS ?aL ?_; (case aR => exact Kd.C_below HR0.out HB2.out); (case aB => exact HB2.out); (case aF => exact (fun _ _ => trivial)); (case aO => exact HO.out); (case aS => exact (below_size HB2.out)); (case aL => have := LM.out; simp; omega); intro v7 w3 ho hb hg hat; have HO3 := Aside0.mk ho; have HB3 := Aside0.mk hb; clear ho hb hg hat))
    go_ret
    exact ⟨_, rfl, by simpa using HO3.out, HB3.out⟩
/-! ### slices_Clone_string_string: function 117 -/
def slices_Clone_string_string.f (l0 : List ByteArray) : Option (List ByteArray) := if l0.length < 8796093022208 then some l0 else none
set_option maxHeartbeats 1000000 in
set_option maxRecDepth 100000 in
theorem slices_Clone_string_string.calls (A0 : Option Addr) (c0 : Nat) (l0 : List ByteArray) (r : List ByteArray) (w : World) (hr0 : Kd.C Kd.string w A0 l0.length l0) (hc0 : l0.length ≤ c0) (h : slices_Clone_string_string.f l0 = some r) :
    Calls Try.prog 117 #[.slice A0 l0.length c0] w fun e w' => ∃ v : Value, e = .returned v ∧ Kd.R Kd.string 9 w' w.heap.size (fun _ => True) v r ∧ Below w.heap.size w w' := by
  have hlim : l0.length < 8796093022208 := by
    unfold slices_Clone_string_string.f at h; split at h
    · assumption
    · cases h
  have hres : l0 = r := by unfold slices_Clone_string_string.f at h; rw [if_pos hlim] at h; exact Option.some.inj h
  subst hres
  have HR0 := Aside0.mk hr0
  have HB := Aside0.mk (Below.refl w.heap.size w)
  have LM := Aside0.mk hlim
  have heq := fun (wx : World) (a : Option Addr) => Lib.run_eql_slice_nil (P := Try.prog) wx 45 9 a l0.length c0 0 0 Try.underlying45
  clear hr0 h hlim
  cases A0 with
  | none =>
    have hl : l0 = [] := by
      by_cases hn : 0 < l0.length
      · obtain ⟨ad, ha, _⟩ := HR0.out.2.2 hn
        cases ha
      · exact List.eq_nil_of_length_eq_zero (by omega)
    subst hl
    simp only [List.length_nil] at heq
    clear HR0 LM
    go_enter Try.func117, Try.ntmps117
    go_wp2
    go_ret
    exact ⟨_, rfl, Kd.R_nil _ _ _ _ _, HB.out⟩
  | some a =>
    go_enter Try.func117, Try.ntmps117
    go_wp2_with (first | ((with_reducible refine gate_dst (N := 5) rfl ?_); refine Kd.R_lit Kd.string _ 9 ?hg (N := 5) ?hd (xs := ([] : List ByteArray)) (inner := []) (ok := fun _ => True) (okp := fun _ => True) ?hr ?hp (fun _ hk => hk) trivial (Below.refl _ _) (Nat.le_refl _) (by simp) ?_; (case hd => rfl); (case hg => rfl); (case hr => first | (go_simp; done) | (go_simp; rfl)); (case hp => exact (Reps.none _ _)); intro v5 w2 ho hb hg_ hnew_; clear hg_ hnew_; have HO := Aside0.mk ho; have HB2 := Aside0.mk hb; clear ho hb) | ((with_reducible refine gate_builtin (b := .append) (xs := #[.tmp 5, .tmp 6]) rfl ?_); at_builtin; refine Kd.R_append_rows Kd.string (w0 := w) w.heap.size rfl (.tmp 5) (.tmp 6) 45 9 (.string ⟨#[]⟩) 16 rfl Try.underlying45 info9 rfl (by decide) (by omega) v5 ([] : List ByteArray) l0 _ _ _ (fun _ => True) (fun _ => False) rfl rfl ?aO ?aR (fun _ _ h => h) (fun _ h => h.elim) ?aF ?aB ?aS ?aL ?_; (case aR => exact Kd.C_below HR0.out HB2.out); (case aB => exact HB2.out); (case aF => exact (fun _ _ => trivial)); (case aO => exact HO.out); (case aS => exact (below_size HB2.out)); (case aL => have := LM.out; simp; omega); intro v7 w3 ho hb hg hat; have HO3 := Aside0.mk ho; have HB3 := Aside0.mk hb; clear ho hb hg hat))
    go_ret
    exact ⟨_, rfl, by simpa using HO3.out, HB3.out⟩
/-! ### impl_Disk_copied: function 76 -/
def impl_Disk_copied.f (l0_0 : List ByteArray) (l0_1 : List (S92)) : Option (List ByteArray × (List (S92))) := (slices_Clone_string_string.f l0_0).bind fun t548 => ((impl_Io_118.f l0_1).bind fun t551 => (some (t548, t551)))
def impl_Disk_copied.T1 : Bool × List (List Nat × List Nat) := (true, [([], []), ([0], [0]), ([1], [1]), ([], []), ([3], [3]), ([4, 2], [4]), ([2, 5], [2, 5]), ([6, 5, 0, 1, 2, 3, 4, 5, 6], [6])])
def impl_Disk_copied.B1 : List Nat := [0, 1, 3, 0, 8, 31, 63, 127]
theorem impl_Disk_copied.tab1 : rtab .any (opsOf Try.f76 1) = impl_Disk_copied.T1 := by kernel_rfl
theorem impl_Disk_copied.bits1 : waitsOk impl_Disk_copied.T1.2 impl_Disk_copied.B1 = true := by kernel_rfl
set_option maxHeartbeats 8000000 in
set_option maxRecDepth 100000 in
theorem impl_Disk_copied.calls (A0_0 : Option Addr) (c0_0 : Nat) (l0_0 : List ByteArray) (A0_1 : Option Addr) (c0_1 : Nat) (l0_1 : List (S92)) (r1 : List ByteArray) (r2 : List (S92)) (w : World) (hr0_0 : Kd.C Kd.string w A0_0 l0_0.length l0_0) (hc0_0 : l0_0.length ≤ c0_0) (hr0_1 : Kd.C k92 w A0_1 l0_1.length l0_1) (hc0_1 : l0_1.length ≤ c0_1) (h : impl_Disk_copied.f l0_0 l0_1 = some (r1, r2)) :
    Calls Try.prog 76 #[.agg #[.slice A0_0 l0_0.length c0_0, .slice A0_1 l0_1.length c0_1]] w fun e w' => ∃ v0_ v1_ : Value, e = .returned (.agg #[v0_, v1_]) ∧ Kd.R Kd.string 9 w' w.heap.size (fun _ => True) v0_ r1 ∧ Kd.R k92 92 w' w.heap.size (fun _ => True) v1_ r2 ∧ Below w.heap.size w w' := by
 have hu48 := Try.underlying48
 have Zi := zm hr0_0
 have Zj := zm hc0_0
 clear hr0_0 hc0_0
 have Zk := zm hr0_1
 have Zl := zm hc0_1
 clear hr0_1 hc0_1
 have HB := zm (Below.refl w.heap.size w)
 have H : ((slices_Clone_string_string.f l0_0).bind fun t548 => ((impl_Io_118.f l0_1).bind fun t551 => (some (t548, t551)))) = some (r1, r2) := h
 clear h
 replace H := Option.bind_eq_some_iff.mp H
 obtain ⟨t548, A20, H⟩ := H
 replace H : ((impl_Io_118.f l0_1).bind fun t551 => (some (t548, t551))) = some (r1, r2) := H
 have A2 := zm A20
 clear A20
 replace H := Option.bind_eq_some_iff.mp H
 obtain ⟨t551, A30, H⟩ := H
 replace H : (some (t548, t551)) = some (r1, r2) := H
 have A3 := zm A30
 clear A30
 simp only [Option.some.injEq, Prod.mk.injEq] at H
 obtain ⟨rfl, rfl⟩ := H
 go_enter Try.func76, Try.ntmps76
 try go_wp2_with (first | ((with_reducible refine gate_dst (N := 1) rfl ?_); refine box_event ?hg (N := 1) ?hd (cs := #[.slice A0_0 l0_0.length c0_0, .slice A0_1 l0_1.length c0_1]) (t := 48) ?hr ?_; (case hd => rfl); (case hg => rfl); (case hr => first | (go_simp; done) | (go_simp; rfl)); intro gb546 hg w4 hbox hb; have n0_ := zm (below_step (zg_0 HB.out) hb); have n1_ := zm (hbox); have n2_ := zm ((by rw [hg]; exact (below_size (zg_0 HB.out)) : w.heap.size ≤ gb546)); have n3_ := zm ((by rw [hg]; exact (below_size (zg_0 HB.out)) : w.heap.size ≤ gb546)); clear HB; have HB := n0_; have Za := n1_; have Zm := n2_; have Zd := n3_; clear n0_ n1_ n2_ n3_; clear hb hbox hg) | ((with_reducible refine gate_dst (N := 2) rfl ?_); refine box_event ?hg (N := 2) ?hd (cs := #[.slice none 0 0, .slice none 0 0]) (t := 48) ?hr ?_; (case hd => rfl); (case hg => rfl); (case hr => first | (go_simp; done) | (go_simp; rfl)); intro gb547 hg w5 hbox hb; have n0_ := zm (blk_below (g := gb546) (o := .cells #[.slice A0_0 l0_0.length c0_0, .slice A0_1 l0_1.length c0_1] 48 (0, 0)) (zg_2 Za.out) hb); have n1_ := zm (below_step (zg_1 HB.out Zd.out) hb); have n2_ := zm (hbox); have n3_ := zm ((by rw [hg]; exact (below_size (zg_1 HB.out Zd.out)) : w.heap.size ≤ gb547)); have n4_ := zm ((by rw [hg]; exact (below_size (zg_1 HB.out Zd.out)) : w.heap.size ≤ gb547)); have n5_ := zm ((by rw [hg]; exact Nat.ne_of_lt (blk_lt (g := gb546) (o := .cells #[.slice A0_0 l0_0.length c0_0, .slice A0_1 l0_1.length c0_1] 48 (0, 0)) (zg_2 Za.out)) : gb546 ≠ gb547)); have n6_ := zm ((by rw [hg]; exact Nat.ne_of_gt (blk_lt (g := gb546) (o := .cells #[.slice A0_0 l0_0.length c0_0, .slice A0_1 l0_1.length c0_1] 48 (0, 0)) (zg_2 Za.out)) : gb547 ≠ gb546)); clear Za; clear HB; have Za := n0_; have HB := n1_; have Zb := n2_; have Zn := n3_; have Zf := n4_; have Zc := n5_; have Ze := n6_; clear n0_ n1_ n2_ n3_ n4_ n5_ n6_; clear hb hbox hg))
 have n0_ := zm (blk_drew Za.out)
 have n1_ := zm (blk_drew Zb.out)
 have n2_ := zm (below_drew1 HB.out)
 clear Za
 clear Zb
 clear HB
 have Za := n0_
 have Zb := n1_
 have HB := n2_
 clear n0_ n1_ n2_
 refine start_ (n := 8) (S := fun w' => w'.cell? ⟨gb546, 0, none⟩ = some (.slice A0_0 l0_0.length c0_0) ∧ w'.cell? ⟨gb546, 1, none⟩ = some (.slice A0_1 l0_1.length c0_1)) (ds := []) #[false, false, false, false, false, false, false, false] (by kernel_rfl) rfl rfl ⟨(blk_cell Za.out 0).trans rfl, (blk_cell Za.out 1).trans rfl⟩ (fun hHeld => ?_); refine with_tabW impl_Disk_copied.tab1 impl_Disk_copied.bits1 (fun HT_ HW_ => ?_)
 generalize w5.drew = w6 at Za Zb HB hHeld ⊢
 refine pure_ (i := 0) (N := some 3) (v := ?_) (a' := ?_) #[true, false, false, false, false, false, false, false] rfl rfl (any_of HT_.out (by kernel_rfl)) (fun _ _ _ h => h) (Or.inl ⟨by rfl, ?_⟩) ?_ ?_
 rotate_left
 ·intro w'
  go_simp
  with_reducible rfl
 rotate_left
 ·simp only [Act.put, zs, zz, zt, i64_w, i32_w]
  rfl
 refine pure_ (i := 3) (N := some 6) (v := ?_) (a' := ?_) #[true, false, false, true, false, false, false, false] rfl rfl (any_of HT_.out (by kernel_rfl)) (fun _ _ _ h => h) (Or.inl ⟨by rfl, ?_⟩) ?_ ?_
 rotate_left
 ·intro w'
  go_simp
  with_reducible rfl
 rotate_left
 ·simp only [Act.put, zs, zz, zt, i64_w, i32_w]
  rfl
 refine take_ (i := 1) (N := some 4) (v := ?_) (a' := ?_) #[true, true, false, true, false, false, false, false] rfl rfl (take_ofW HT_.out HW_.out (by kernel_rfl)) (fun _ _ _ h => h) (Or.inl ⟨by rfl, ?_⟩) hHeld ?_ ?_
 rotate_left
 ·rintro w' ⟨s0, s1⟩
  go_simp
  with_reducible rfl
 rotate_left
 ·simp only [Act.put, zs, zz, zt, i64_w, i32_w]
  rfl
 refine take_ (i := 4) (N := some 7) (v := ?_) (a' := ?_) #[true, true, false, true, true, false, false, false] rfl rfl (take_ofW HT_.out HW_.out (by kernel_rfl)) (fun _ _ _ h => h) (Or.inl ⟨by rfl, ?_⟩) hHeld ?_ ?_
 rotate_left
 ·rintro w' ⟨s0, s1⟩
  go_simp
  with_reducible rfl
 rotate_left
 ·simp only [Act.put, zs, zz, zt, i64_w, i32_w]
  rfl
 refine one_ (i := 2) (N := some 5) #[true, true, true, true, true, false, false, false] rfl rfl (one_of HT_.out (by kernel_rfl)) (by decide) (fun K hK => ?_)
 refine goes_ Try.func117 (by kernel_rfl) rfl #[.slice A0_0 l0_0.length c0_0] (by rfl) rfl rfl zq ?_
 with_reducible refine (slices_Clone_string_string.calls _ _ l0_0 t548 _ ?side1 ?side2 A2.out).mono ?_
 (case side1 => repeat (first | exact (Kd.C_below Zi.out HB.out) | (with_reducible refine Kd.C_alloc ?_ _) | (with_reducible refine Kd.C_drewN ?_ _) | (with_reducible refine Kd.C_drew ?_)))
 (case side2 => exact Zj.out)
 rintro e w7 ⟨v549, rfl, ho0, hb⟩
 refine ⟨_, rfl, ?_⟩
 have n0_ := zm (Kd.R_lower ho0 (below_size (zg_3 HB.out Zd.out Zf.out)))
 have n1_ := zm (blk_below (g := gb546) (o := .cells #[.slice A0_0 l0_0.length c0_0, .slice A0_1 l0_1.length c0_1] 48 (0, 0)) (zg_2 Za.out) hb)
 have n2_ := zm (blk_below (g := gb547) (o := .cells #[.slice none 0 0, .slice none 0 0] 48 (0, 0)) (zg_2 Zb.out) hb)
 have n3_ := zm (below_step (zg_3 HB.out Zd.out Zf.out) hb)
 clear Za
 clear Zb
 clear HB
 have Zg := n0_
 have Za := n1_
 have Zb := n2_
 have HB := n3_
 clear n0_ n1_ n2_ n3_
 (try clear hb)
 (try clear hb2)
 (try clear hk)
 (try clear hi)
 (try clear ho0)
 refine hK.out _ _ ⟨(blk_cell Za.out 0).trans rfl, (blk_cell Za.out 1).trans rfl⟩ (fun hHeld => ?_)
 clear hK K
 refine norm_ (a' := ?_) ?_ ?_
 rotate_left
 ·show Act.put _ (some 5) _ = _
  simp only [Act.put, zs, zz, zt, i64_w, i32_w]
  rfl
 refine one_ (i := 5) (N := some 8) #[true, true, true, true, true, true, false, false] rfl rfl (one_of HT_.out (by kernel_rfl)) (by decide) (fun K hK => ?_)
 refine goes_ Try.func118 (by kernel_rfl) rfl #[.slice A0_1 l0_1.length c0_1] (by rfl) rfl rfl zq ?_
 with_reducible refine (impl_Io_118.calls _ _ l0_1 t551 _ ?side1 ?side2 A3.out).mono ?_
 (case side1 => repeat (first | exact (Kd.C_below Zk.out HB.out) | (with_reducible refine Kd.C_alloc ?_ _) | (with_reducible refine Kd.C_drewN ?_ _) | (with_reducible refine Kd.C_drew ?_)))
 (case side2 => exact Zl.out)
 rintro e w8 ⟨v552, rfl, ho0, hb⟩
 refine ⟨_, rfl, ?_⟩
 have n0_ := zm (Kd.R_below (zg_4 Zg.out) hb)
 have n1_ := zm (Kd.R_lower ho0 (below_size (zg_3 HB.out Zd.out Zf.out)))
 have n2_ := zm (blk_below (g := gb546) (o := .cells #[.slice A0_0 l0_0.length c0_0, .slice A0_1 l0_1.length c0_1] 48 (0, 0)) (zg_2 Za.out) hb)
 have n3_ := zm (blk_below (g := gb547) (o := .cells #[.slice none 0 0, .slice none 0 0] 48 (0, 0)) (zg_2 Zb.out) hb)
 have n4_ := zm (below_step (zg_3 HB.out Zd.out Zf.out) hb)
 clear Zg
 clear Za
 clear Zb
 clear HB
 have Zg := n0_
 have Zh := n1_
 have Za := n2_
 have Zb := n3_
 have HB := n4_
 clear n0_ n1_ n2_ n3_ n4_
 (try clear hb)
 (try clear hb2)
 (try clear hk)
 (try clear hi)
 (try clear ho0)
 obtain ⟨Ao9, co9, eo9⟩ := Kd.R_slice Zh.out
 (first | subst eo9 | (injection eo9 with f1_ f2_ f3_; have f4_ := f1_.symm; have f5_ := f3_.symm; clear f1_ f2_ f3_; subst f4_; subst f5_))
 obtain ⟨Ao10, co10, eo10⟩ := Kd.R_slice Zg.out
 (first | subst eo10 | (injection eo10 with f1_ f2_ f3_; have f4_ := f1_.symm; have f5_ := f3_.symm; clear f1_ f2_ f3_; subst f4_; subst f5_))
 refine hK.out _ _ ⟨(blk_cell Za.out 0).trans rfl, (blk_cell Za.out 1).trans rfl⟩ (fun hHeld => ?_)
 clear hK K
 refine norm_ (a' := ?_) ?_ ?_
 rotate_left
 ·show Act.put _ (some 8) _ = _
  simp only [Act.put, zs, zz, zt, i64_w, i32_w]
  rfl
 refine pure_ (i := 6) (N := some 9) (v := ?_) (a' := ?_) #[true, true, true, true, true, true, true, false] rfl rfl (any_of HT_.out (by kernel_rfl)) (fun _ _ _ h => h) (Or.inl ⟨by rfl, ?_⟩) ?_ ?_
 rotate_left
 ·intro w'
  go_simp
  with_reducible rfl
 rotate_left
 ·simp only [Act.put, zs, zz, zt, i64_w, i32_w]
  rfl
 refine one_ (i := 7) (N := none) #[true, true, true, true, true, true, true, true] rfl rfl (one_of HT_.out (by kernel_rfl)) (by decide) (fun K hK => ?_)
 have hs11 : w8.cell? ⟨gb547, 0, none⟩ = some (.slice none 0 0) := (blk_cell Zb.out 0).trans rfl
 have hfs11 := blk_frozen Zb.out 0
 have hns11_0 := Zc.out
 have hms11_0 := Ze.out
 have hs12 : w8.cell? ⟨gb547, 1, none⟩ = some (.slice none 0 0) := (blk_cell Zb.out 1).trans rfl
 have hfs12 := blk_frozen Zb.out 1
 have hns12_0 := Zc.out
 have hms12_0 := Ze.out
 refine skip_ (w1 := ?_) (by rfl) rfl ?_ ?_
 rotate_left
 ·go_simp
  rfl
 refine hK.out _ _ ⟨((cell_far (p := ⟨gb547, _, none⟩) Zc.out _).trans (((cell_far (p := ⟨gb547, _, none⟩) Zc.out _).trans (hHeld.1)))), ((cell_far (p := ⟨gb547, _, none⟩) Zc.out _).trans (((cell_far (p := ⟨gb547, _, none⟩) Zc.out _).trans (hHeld.2))))⟩ (fun hHeld => ?_)
 clear hK K
 refine done_ (done_of HT_.out (by kernel_rfl)) ?_
 try go_wp2
 refine bodyPost_ret (results_cell_row rfl _ _ gb547 48 #[.slice Ao10 t548.length co10, .slice Ao9 t551.length co9] (0, 0) _ rfl (by (with_reducible repeat (first | refine blk_drewN ?_ _ | refine blk_drew ?_ | refine blk_alloc ?_ _)); refine blk_put (cs := #[.slice Ao10 t548.length co10, .slice none 0 0]) ?_ 1 _ rfl; (with_reducible repeat (first | refine blk_drewN ?_ _ | refine blk_drew ?_ | refine blk_alloc ?_ _)); refine blk_put (cs := #[.slice none 0 0, .slice none 0 0]) ?_ 0 _ rfl; (with_reducible repeat (first | refine blk_drewN ?_ _ | refine blk_drew ?_ | refine blk_alloc ?_ _)); exact Zb.out) Try.underlying48 rfl (by kernel_rfl)) rfl ?_
 exact ⟨_, _, by first | rfl | (simp [errW_none, errW_some] <;> rfl) | (simp [*, errW_none, errW_some] <;> rfl), by (with_reducible repeat (first | apply Kd.R_alloc | apply Kd.R_drewN | apply Kd.R_drew)); exact Kd.R_mono (Kd.R_far (p := ⟨gb547, 1, none⟩) (Kd.R_far (p := ⟨gb547, 0, none⟩) (Kd.R_types Zg.out Zb.out (by decide)) (fun _ hk => hk.2) (.slice Ao10 t548.length co10)) (fun _ hk => hk.2) (.slice Ao9 t551.length co9)) (fun _ hk => trivial), by (with_reducible repeat (first | apply Kd.R_alloc | apply Kd.R_drewN | apply Kd.R_drew)); exact Kd.R_mono (Kd.R_far (p := ⟨gb547, 1, none⟩) (Kd.R_far (p := ⟨gb547, 0, none⟩) (Kd.R_types Zh.out Zb.out (by decide)) (fun _ hk => hk.2) (.slice Ao10 t548.length co10)) (fun _ hk => hk.2) (.slice Ao9 t551.length co9)) (fun _ hk => trivial), zg_3 HB.out Zd.out Zf.out⟩
/-! ### impl_Disk_settle: function 70 -/
/-- What the closure of settle sees: the host, how many writes are to be kept, the disk, whether the others are lost. -/
structure impl_Disk_settle_I (W : World) (base gH gK gO gL gR : Nat) (host keep : Int) (lose : Bool) (sv pv : Value) (secs : List ByteArray) : Prop where
  h : W.heap[gH]? = some (.cells #[.int .i64 host] 3 (0, 0))
  k : W.heap[gK]? = some (.cells #[.int .i64 keep] 3 (0, 0))
  o : W.heap[gO]? = some (.cells #[sv, pv] 48 (0, 0))
  l : W.heap[gL]? = some (.cells #[.bool lose] 4 (0, 0))
  s : Kd.R Kd.string 9 W base (fun _ => True) sv secs
  n : gH ≠ gK
  r : W.heap[gR]? = some (.cells #[.slice none 0 0, .slice none 0 0] 48 (0, 0))
def impl_Disk_settle_stp (host : Int) (lose : Bool) (keep : Int) (secs : List ByteArray) (x : S92) : Option (Bool × Int × List ByteArray) :=
  if x.f0 = host then (if keep > 0 then (if 0 ≤ x.f1 then (if x.f1 < (secs.length : Int) then some (true, wrap64 (keep - 1), secs.set x.f1.toNat x.f2) else none) else none) else some (lose, keep, secs)) else some (false, keep, secs)
theorem impl_Disk_settle_I.below {W W1 : World} {base gH gK gO gL gR : Nat} {host keep : Int} {lose : Bool} {sv pv : Value} {secs : List ByteArray} (I : impl_Disk_settle_I W base gH gK gO gL gR host keep lose sv pv secs) (hb : Below W.heap.size W W1) : impl_Disk_settle_I W1 base gH gK gO gL gR host keep lose sv pv secs :=
  ⟨blk_below I.h hb, blk_below I.k hb, blk_below I.o hb, blk_below I.l hb, Kd.R_below I.s hb, I.n, blk_below I.r hb⟩
set_option maxHeartbeats 4000000 in
set_option maxRecDepth 100000 in
theorem impl_Disk_settle_clos {w0 W : World} {gH gK gO gL gR : Nat} {host keep : Int} {lose : Bool} {sv pv : Value} {secs : List ByteArray} (I : impl_Disk_settle_I W w0.heap.size gH gK gO gL gR host keep lose sv pv secs) (hB : Below w0.heap.size w0 W) (hg : w0.heap.size ≤ gK) (x : S92) (b : Bool) (keep' : Int) (secs' : List ByteArray) (hst : impl_Disk_settle_stp host lose keep secs x = some (b, keep', secs')) :
    Calls Try.prog 115 #[.agg #[.int .i64 x.f0, .int .i64 x.f1, .string x.f2], .pointer (some ⟨gH, 0, none⟩), .pointer (some ⟨gK, 0, none⟩), .pointer (some ⟨gO, 0, none⟩), .pointer (some ⟨gL, 0, none⟩)] W
      fun e W' => e = .returned (.bool b) ∧ impl_Disk_settle_I W' w0.heap.size gH gK gO gL gR host keep' lose sv pv secs' ∧ Below w0.heap.size w0 W' ∧ Kept W W' (fun k_ => k_ = gK ∨ some k_ = sv.ownBlock) := by
  have hu92 := Try.underlying92
  have hu48 := Try.underlying48
  have II := zm I
  have HB := zm hB
  have HG := zm hg
  clear I hB hg
  unfold impl_Disk_settle_stp at hst
  by_cases c1 : x.f0 = host
  · rw [if_pos c1] at hst
    have d1 : (x.f0 != host) = false := by simp [c1]
    have d2 : decide (x.f0 = host) = true := decide_eq_true c1
    have d3 : decide (x.f0 ≠ host) = false := by simp [c1]
    have d4 : (x.f0 == host) = true := by simp [c1]
    clear c1
    by_cases c2 : keep > 0
    · rw [if_pos c2] at hst
      have e1 : decide (keep > 0) = true := decide_eq_true c2
      have e2 : decide (0 < keep) = true := decide_eq_true c2
      clear c2
      by_cases c3 : 0 ≤ x.f1
      · rw [if_pos c3] at hst
        by_cases c4 : x.f1 < (secs.length : Int)
        · rw [if_pos c4] at hst
          simp only [Option.some.injEq, Prod.mk.injEq] at hst
          obtain ⟨rfl, rfl, rfl⟩ := hst
          have C3 := zm c3
          have C4 := zm c4
          have q3 := eq_true c3
          have q4 := eq_true c4
          have f3 : decide (0 ≤ x.f1) = true := decide_eq_true c3
          have f4 : decide (x.f1 < (secs.length : Int)) = true := decide_eq_true c4
          clear c3 c4
          obtain ⟨gs, cs, rfl, hgs, hgl, hcl, HS⟩ := Kd.R_form II.out.s (by have := C3.out; have := C4.out; omega)
          have GS := zm hgs
          clear hgs hgl hcl HS
          go_enter Try.func115, Try.ntmps115
          go_wp2_with (first
            | ((with_reducible refine gate_dst (N := 5) rfl ?_); refine box_event ?hg (N := 5) ?hd (cs := #[.int .i64 x.f0, .int .i64 x.f1, .string x.f2]) (t := 92) ?hr ?_; (case hd => rfl); (case hg => rfl); (case hr => first | (go_simp; done) | (go_simp; rfl)); intro gb hg w4 hbox hb; have BK := zm hbox; have I4 := zm (II.out.below hb); have HB4 := zm (below_step HB.out hb); have KK := zm (Kept.of_below hb (fun k_ => k_ = gK ∨ some k_ = (.slice (some ⟨gs, 0, none⟩) secs.length cs : Value).ownBlock)); clear hb hbox hg; have hx0 : w4.cell? ⟨gb, 0, none⟩ = some (.int .i64 x.f0) := (blk_cell BK.out 0).trans rfl; have hh : w4.cell? ⟨gH, 0, none⟩ = some (.int .i64 host) := (blk_cell I4.out.h 0).trans rfl; have hk : w4.cell? ⟨gK, 0, none⟩ = some (.int .i64 keep) := (blk_cell I4.out.k 0).trans rfl; have hfk := blk_frozen I4.out.k 0)
            | ((with_reducible refine gate_store (t := 3) (p := 2) rfl ?_); refine store_event (t := 3) (p := 2) (v := ?vo1) (w1 := (w4.setCell ⟨gK, 0, none⟩ (.int .i64 (wrap64 (keep - 1))))) ?hg ?ho ?hn ?hr ?_; (case ho => rfl); (case hg => rfl); (case hn => rfl); (case hr => first | (go_simp; done) | (go_simp; rfl)); intro w5 hw; have I5 := zm (show impl_Disk_settle_I w5 w0.heap.size gH gK gO gL gR host (wrap64 (keep - 1)) lose (.slice (some ⟨gs, 0, none⟩) secs.length cs) pv secs from by rw [hw]; exact ⟨blk_far I4.out.h I4.out.n _, blk_set I4.out.k 0 _, blk_far I4.out.o (blk_ne I4.out.o I4.out.k (by decide)) _, blk_far I4.out.l (blk_ne I4.out.l I4.out.k (by decide)) _, Kd.R_mono (Kd.R_set I4.out.s I4.out.k (by decide) 0 _) (fun _ _ => trivial), I4.out.n, blk_far I4.out.r (blk_ne I4.out.r I4.out.k (by decide)) _⟩); have B5 := zm (show w5.heap[gb]? = some (.cells #[.int .i64 x.f0, .int .i64 x.f1, .string x.f2] 92 (0, 0)) from by rw [hw]; exact blk_far BK.out (blk_ne BK.out I4.out.k (by decide)) _); have HB5 := zm (show Below w0.heap.size w0 w5 from by rw [hw]; exact below_set HB4.out HG.out); have K5 := zm (show Kept W w5 (fun k_ => k_ = gK ∨ some k_ = (.slice (some ⟨gs, 0, none⟩) secs.length cs : Value).ownBlock) from by rw [hw]; exact Kept.setCell KK.out (.inl (.inl rfl)) _); clear hw I4 BK HB4 KK hx0 hh hk hfk; have ho : w5.cell? ⟨gO, 0, none⟩ = some (.slice (some ⟨gs, 0, none⟩) secs.length cs) := (blk_cell I5.out.o 0).trans rfl; have hx1 : w5.cell? ⟨gb, 1, none⟩ = some (.int .i64 x.f1) := (blk_cell B5.out 1).trans rfl; have hx2 : w5.cell? ⟨gb, 2, none⟩ = some (.string x.f2) := (blk_cell B5.out 2).trans rfl; obtain ⟨hy, hz⟩ := Kd.R_celln (⟨#[]⟩ : ByteArray) I5.out.s x.f1 C3.out C4.out; have HP := zm (Kd.R_putg I5.out.s x.f1 x.f2))
            | ((with_reducible refine gate_store (t := 9) (p := 21) rfl ?_); refine store_event (t := 9) (p := 21) (v := ?vo2) (w1 := (w5.setCell ⟨gs, x.f1.toNat, none⟩ (.string x.f2))) ?hg ?ho ?hn ?hr ?_; (case ho => rfl); (case hg => rfl); (case hn => rfl); (case hr => first | (go_simp; done) | (go_simp; rfl)); intro w6 hw; have hgr : w5.grownBy w6 (some gs) := (by rw [hw]; exact HP.out.2); have nO := Kd.R_ne I5.out.s I5.out.o (by decide); have nH := Kd.R_ne I5.out.s I5.out.h (by decide); have nK := Kd.R_ne I5.out.s I5.out.k (by decide); have nL := Kd.R_ne I5.out.s I5.out.l (by decide); have nR := Kd.R_ne I5.out.s I5.out.r (by decide); have I6 := zm (show impl_Disk_settle_I w6 w0.heap.size gH gK gO gL gR host (wrap64 (keep - 1)) lose (.slice (some ⟨gs, 0, none⟩) secs.length cs) pv (secs.set x.f1.toNat x.f2) from ⟨blk_grown I5.out.h hgr nH, blk_grown I5.out.k hgr nK, blk_grown I5.out.o hgr nO, blk_grown I5.out.l hgr nL, (by rw [hw]; exact HP.out.1), I5.out.n, blk_grown I5.out.r hgr nR⟩); have HB6 := zm (show Below w0.heap.size w0 w6 from by rw [hw]; exact below_set HB5.out GS.out); have K6 := zm (Kept.of_grown (S := (fun k_ => k_ = gK ∨ some k_ = (.slice (some ⟨gs, 0, none⟩) secs.length cs : Value).ownBlock)) hgr K5.out (fun k_ e_ => .inl (.inr (by simp [Value.ownBlock, e_])))); clear hw hgr nO nH nK nL nR I5 B5 HB5 K5 ho hx1 hx2 hy hz HP))
          go_ret
          exact ⟨rfl, I6.out, HB6.out, K6.out⟩
        · rw [if_neg c4] at hst; cases hst
      · rw [if_neg c3] at hst; cases hst
    · rw [if_neg c2] at hst
      have e1 : decide (keep > 0) = false := decide_eq_false c2
      have e2 : decide (0 < keep) = false := decide_eq_false c2
      clear c2
      simp only [Option.some.injEq, Prod.mk.injEq] at hst
      obtain ⟨rfl, rfl, rfl⟩ := hst
      go_enter Try.func115, Try.ntmps115
      go_wp2_with (first
        | ((with_reducible refine gate_dst (N := 5) rfl ?_); refine box_event ?hg (N := 5) ?hd (cs := #[.int .i64 x.f0, .int .i64 x.f1, .string x.f2]) (t := 92) ?hr ?_; (case hd => rfl); (case hg => rfl); (case hr => first | (go_simp; done) | (go_simp; rfl)); intro gb hg w4 hbox hb; have BK := zm hbox; have I4 := zm (II.out.below hb); have HB4 := zm (below_step HB.out hb); have KK := zm (Kept.of_below hb (fun k_ => k_ = gK ∨ some k_ = sv.ownBlock)); clear hb hbox hg; have hx0 : w4.cell? ⟨gb, 0, none⟩ = some (.int .i64 x.f0) := (blk_cell BK.out 0).trans rfl; have hh : w4.cell? ⟨gH, 0, none⟩ = some (.int .i64 host) := (blk_cell I4.out.h 0).trans rfl; have hk : w4.cell? ⟨gK, 0, none⟩ = some (.int .i64 keep) := (blk_cell I4.out.k 0).trans rfl; have hl : w4.cell? ⟨gL, 0, none⟩ = some (.bool lose) := (blk_cell I4.out.l 0).trans rfl))
      go_ret
      exact ⟨rfl, I4.out, HB4.out, KK.out⟩
  · rw [if_neg c1] at hst
    have d1 : (x.f0 != host) = true := by simp [c1]
    have d2 : decide (x.f0 = host) = false := decide_eq_false c1
    have d3 : decide (x.f0 ≠ host) = true := decide_eq_true c1
    have d4 : (x.f0 == host) = false := by simp [c1]
    clear c1
    simp only [Option.some.injEq, Prod.mk.injEq] at hst
    obtain ⟨rfl, rfl, rfl⟩ := hst
    go_enter Try.func115, Try.ntmps115
    go_wp2_with (first
      | ((with_reducible refine gate_dst (N := 5) rfl ?_); refine box_event ?hg (N := 5) ?hd (cs := #[.int .i64 x.f0, .int .i64 x.f1, .string x.f2]) (t := 92) ?hr ?_; (case hd => rfl); (case hg => rfl); (case hr => first | (go_simp; done) | (go_simp; rfl)); intro gb hg w4 hbox hb; have BK := zm hbox; have I4 := zm (II.out.below hb); have HB4 := zm (below_step HB.out hb); have KK := zm (Kept.of_below hb (fun k_ => k_ = gK ∨ some k_ = sv.ownBlock)); clear hb hbox hg; have hx0 : w4.cell? ⟨gb, 0, none⟩ = some (.int .i64 x.f0) := (blk_cell BK.out 0).trans rfl; have hh : w4.cell? ⟨gH, 0, none⟩ = some (.int .i64 host) := (blk_cell I4.out.h 0).trans rfl))
    go_ret
    exact ⟨rfl, I4.out, HB4.out, KK.out⟩
def impl_Disk_settle_idx (host : Int) (lose : Bool) : List S92 → Int → List ByteArray → Nat → Option (Int × Int × List ByteArray)
  | [], keep, secs, _ => some (-1, keep, secs)
  | x :: r, keep, secs, i => (impl_Disk_settle_stp host lose keep secs x).bind fun b => if b.1 = true then some ((i : Int), b.2.1, b.2.2) else impl_Disk_settle_idx host lose r b.2.1 b.2.2 (i + 1)
theorem impl_Disk_settle_rd (l : List S92) (i : Nat) (h : i < l.length) : rd_T92 l (i : Int) = l[i] := by simp [rd_T92, h]
set_option maxHeartbeats 4000000 in
set_option maxRecDepth 100000 in
theorem impl_Disk_settle_index {w0 W : World} {gH gK gO gL gR : Nat} {host keep : Int} {lose : Bool} {sv pv v : Value} {secs : List ByteArray} {pend : List S92} (I : impl_Disk_settle_I W w0.heap.size gH gK gO gL gR host keep lose sv pv secs) (hB : Below w0.heap.size w0 W) (hg : w0.heap.size ≤ gK)
    (RP : Kd.R k92 92 W w0.heap.size (fun k_ => k_ ≠ gK ∧ some k_ ≠ sv.ownBlock) v pend) (hl : pend.length ≤ 1000000000) (r keep' : Int) (secs' : List ByteArray) (h : impl_Disk_settle_idx host lose pend keep secs 0 = some (r, keep', secs')) :
    Calls Try.prog 139 #[v, .func (.func 115) #[] #[.pointer (some ⟨gH, 0, none⟩), .pointer (some ⟨gK, 0, none⟩), .pointer (some ⟨gO, 0, none⟩), .pointer (some ⟨gL, 0, none⟩)]] W
      fun e W' => e = .returned (.int .i64 r) ∧ impl_Disk_settle_I W' w0.heap.size gH gK gO gL gR host keep' lose sv pv secs' ∧ Below w0.heap.size w0 W' ∧ Kept W W' (fun k_ => k_ = gK ∨ some k_ = sv.ownBlock) := by
  obtain ⟨Ao, co, rfl⟩ := Kd.R_slice RP
  have PP := zm RP
  have II := zm I
  have HB := zm hB
  have HG := zm hg
  have HK := zm (Kept.refl W (fun k_ => k_ = gK ∨ some k_ = sv.ownBlock))
  have H := zm h
  have HL := zm hl
  clear RP I hB hg h hl
  go_enter Try.func139, Try.ntmps139
  go_wp2
  go_loopg [8] pend.length (fun kq v8 w' => ∃ (x : Int) (kp : Int) (sc : List ByteArray), v8 = .int .i64 x ∧ Aside0 (0 ≤ x ∧ x.toNat ≤ pend.length ∧ kq = pend.length - x.toNat) ∧ Aside0 (impl_Disk_settle_idx host lose (pend.drop x.toNat) kp sc x.toNat = some (r, keep', secs')) ∧ Aside0 (impl_Disk_settle_I w' w0.heap.size gH gK gO gL gR host kp lose sv pv sc) ∧ Aside0 (Below w0.heap.size w0 w') ∧ Aside0 (Kept W w' (fun k_ => k_ = gK ∨ some k_ = sv.ownBlock)))
  case atStart => exact ⟨0, keep, secs, rfl, ⟨by omega, by omega, by simp⟩, ⟨by rw [show (0 : Int).toNat = 0 from rfl, List.drop_zero]; exact H.out⟩, II, HB, HK⟩
  case round =>
    try clear c1
    try clear p2
    clear II HB HK H
    obtain ⟨x, kp, sc, rfl, HM, H, II, HB, HK⟩ := hrel
    by_cases hc : x < (pend.length : Int)
    · have hd : decide (x < (pend.length : Int)) = true := decide_eq_true hc
      have hlt : x.toNat < pend.length := by have := HM.out; omega
      have h0x : 0 ≤ x := HM.out.1
      have h := H.out
      rw [List.drop_eq_getElem_cons hlt] at h
      simp only [impl_Disk_settle_idx] at h
      have h2 := Option.bind_eq_some_iff.mp h
      clear h
      obtain ⟨⟨b, k2, s2⟩, hst, h⟩ := h2
      have PQ := zm (Kd.R_kept PP.out HK.out (fun k_ hk_ hs_ => hs_.elim hk_.1 hk_.2))
      obtain ⟨gp, cp, ep, _, _, _, _⟩ := Kd.R_form PQ.out (by omega)
      (first | cases ep | (injection ep with ea_ en_ ec_; (first | subst ea_ | (injection ea_ with ea_; subst ea_)); subst ec_; clear en_))
      obtain ⟨ce, hcl, hM, hcc, hfr⟩ := Kd.R_elem PQ.out z92 x h0x hc
      obtain rfl := k92_openM hM
      have hx0 : wr.cell? ⟨gp, x.toNat * 3, none⟩ = some (.int .i64 (rd_T92 pend x).f0) := hcc 0 _ rfl
      have hx1 : wr.cell? ⟨gp, x.toNat * 3 + 1, none⟩ = some (.int .i64 (rd_T92 pend x).f1) := hcc 1 _ rfl
      have hx2 : wr.cell? ⟨gp, x.toNat * 3 + 2, none⟩ = some (.string (rd_T92 pend x).f2) := hcc 2 _ rfl
      clear hcl hM hcc hfr
      have hr0 : rd_T92 pend x = pend[x.toNat] := by simp [rd_T92, hlt]
      have ST := zm (show impl_Disk_settle_stp host lose kp sc (rd_T92 pend x) = some (b, k2, s2) from by rw [hr0]; exact hst)
      have HT := zm hlt
      have HH := zm h
      have WN : Aside0 (wrap64 (x + 1) = x + 1) := ⟨by unfold wrap64; have := HL.out; omega⟩
      have HC := zm hc
      have p0 := eq_true h0x
      have p1 := eq_true hc
      have d0 : decide (0 ≤ x) = true := decide_eq_true h0x
      clear h hst hr0 hlt H h0x hc
      cases b with
      | true =>
        go_wp2_with (first
          | ((with_reducible refine gate_dst (N := 16) rfl ?_); refine goesV (some 16) rfl rfl Try.func115 (by kernel_rfl) rfl #[.agg #[.int .i64 (rd_T92 pend x).f0, .int .i64 (rd_T92 pend x).f1, .string (rd_T92 pend x).f2], .pointer (some ⟨gH, 0, none⟩), .pointer (some ⟨gK, 0, none⟩), .pointer (some ⟨gO, 0, none⟩), .pointer (some ⟨gL, 0, none⟩)] rfl (cap := #[.pointer (some ⟨gH, 0, none⟩), .pointer (some ⟨gK, 0, none⟩), .pointer (some ⟨gO, 0, none⟩), .pointer (some ⟨gL, 0, none⟩)]) ?hx ?hargs ?_; (case hx => rfl); (case hargs => simp [Act.eval]); refine (impl_Disk_settle_clos II.out HB.out HG.out (rd_T92 pend x) _ _ _ ST.out).mono ?_; rintro e w2 ⟨rfl, hI, hb, hkp⟩; refine ⟨_, rfl, ?_⟩; have I2 := zm hI; have HB2 := zm hb; have HK2 := zm (HK.out.then_ hkp (fun _ h_ => .inl h_)); clear hI hb hkp hx0 hx1 hx2))
        have h := HH.out
        simp only [if_true, Option.some.injEq, Prod.mk.injEq] at h
        obtain ⟨e1, rfl, rfl⟩ := h
        have e2 : x = r := by have := HM.out; omega
        subst e2
        go_ret
        exact ⟨rfl, I2.out, HB2.out, HK2.out⟩
      | false =>
        go_wp2_with (first
          | ((with_reducible refine gate_dst (N := 16) rfl ?_); refine goesV (some 16) rfl rfl Try.func115 (by kernel_rfl) rfl #[.agg #[.int .i64 (rd_T92 pend x).f0, .int .i64 (rd_T92 pend x).f1, .string (rd_T92 pend x).f2], .pointer (some ⟨gH, 0, none⟩), .pointer (some ⟨gK, 0, none⟩), .pointer (some ⟨gO, 0, none⟩), .pointer (some ⟨gL, 0, none⟩)] rfl (cap := #[.pointer (some ⟨gH, 0, none⟩), .pointer (some ⟨gK, 0, none⟩), .pointer (some ⟨gO, 0, none⟩), .pointer (some ⟨gL, 0, none⟩)]) ?hx ?hargs ?_; (case hx => rfl); (case hargs => simp [Act.eval]); refine (impl_Disk_settle_clos II.out HB.out HG.out (rd_T92 pend x) _ _ _ ST.out).mono ?_; rintro e w2 ⟨rfl, hI, hb, hkp⟩; refine ⟨_, rfl, ?_⟩; have I2 := zm hI; have HB2 := zm hb; have HK2 := zm (HK.out.then_ hkp (fun _ h_ => .inl h_)); clear hI hb hkp hx0 hx1 hx2))
        go_roundg (pend.length - (x + 1).toNat)
        case measure => have := HM.out; have := HT.out; omega
        case rel => exact ⟨x + 1, k2, s2, by rw [WN.out], ⟨by have := HM.out; omega, by have := HM.out; have := HT.out; omega, rfl⟩, ⟨by have h := HH.out; simp only [Bool.false_eq_true, if_false] at h; rw [show (x + 1).toNat = x.toNat + 1 from by have := HM.out; omega]; exact h⟩, I2, HB2, HK2⟩
    · have hd : decide (x < (pend.length : Int)) = false := decide_eq_false hc
      have e : pend.drop x.toNat = [] := List.drop_of_length_le (by omega)
      have h := H.out
      rw [e] at h
      simp only [impl_Disk_settle_idx, Option.some.injEq, Prod.mk.injEq] at h
      obtain ⟨rfl, rfl, rfl⟩ := h
      clear e hc H
      go_wp2
      go_ret
      exact ⟨rfl, II.out, HB.out, HK.out⟩
def impl_Disk_settle_go (host : Int) (lose : Bool) : List S92 → Int → List ByteArray → Option (List S92 × Int × List ByteArray)
  | [], keep, secs => some ([], keep, secs)
  | x :: r, keep, secs => (impl_Disk_settle_stp host lose keep secs x).bind fun b => (impl_Disk_settle_go host lose r b.2.1 b.2.2).bind fun q => some (if b.1 = true then q.1 else x :: q.1, q.2.1, q.2.2)
theorem impl_Disk_settle_go_idx (host : Int) (lose : Bool) : ∀ (l : List S92) (keep : Int) (secs : List ByteArray) (n : Nat) (out : List S92) (kf : Int) (sf : List ByteArray), impl_Disk_settle_go host lose l keep secs = some (out, kf, sf) →
    (impl_Disk_settle_idx host lose l keep secs n = some (-1, kf, sf) ∧ out = l) ∨ ∃ (i : Nat) (k1 : Int) (s1 : List ByteArray) (rest : List S92), i < l.length ∧ impl_Disk_settle_idx host lose l keep secs n = some (((n + i : Nat) : Int), k1, s1) ∧ impl_Disk_settle_go host lose (l.drop (i + 1)) k1 s1 = some (rest, kf, sf) ∧ out = l.take i ++ rest := by
  intro l
  induction l with
  | nil =>
    intro keep secs n out kf sf h
    simp only [impl_Disk_settle_go, Option.some.injEq, Prod.mk.injEq] at h
    obtain ⟨rfl, rfl, rfl⟩ := h
    exact .inl ⟨rfl, rfl⟩
  | cons x r ih =>
    intro keep secs n out kf sf h
    simp only [impl_Disk_settle_go] at h
    obtain ⟨⟨b, k1, s1⟩, hst, h⟩ := Option.bind_eq_some_iff.mp h
    obtain ⟨⟨o1, k2, s2⟩, hgo, h⟩ := Option.bind_eq_some_iff.mp h
    simp only [Option.some.injEq, Prod.mk.injEq] at h
    obtain ⟨rfl, rfl, rfl⟩ := h
    cases b with
    | true =>
      refine .inr ⟨0, k1, s1, o1, by simp, ?_, by simpa using hgo, by simp⟩
      simp only [impl_Disk_settle_idx, hst, Option.bind_some, if_true, Nat.add_zero]
    | false =>
      rcases ih k1 s1 (n + 1) o1 k2 s2 hgo with ⟨h1, h2⟩ | ⟨i, k3, s3, rest, h1, h2, h3, h4⟩
      · refine .inl ⟨?_, by simp [h2]⟩
        simp only [impl_Disk_settle_idx, hst, Option.bind_some, Bool.false_eq_true, if_false]
        exact h1
      · refine .inr ⟨i + 1, k3, s3, rest, by simp; omega, ?_, by simpa using h3, by simp [h4]⟩
        simp only [impl_Disk_settle_idx, hst, Option.bind_some, Bool.false_eq_true, if_false]
        rw [h2]; congr 2; omega
theorem impl_Disk_settle_blk {g : Nat} {t : TypeId} : ∀ (vs : List Value) (o : Nat) {w : World} {cs : Array Value}, w.heap[g]? = some (.cells cs t (0, 0)) → ∃ cs', (w.setCells g o vs).heap[g]? = some (.cells cs' t (0, 0)) ∧ cs'.size = cs.size ∧ ∀ j, j < o → cs'[j]? = cs[j]? := by
  intro vs
  induction vs with
  | nil => intro o w cs h; exact ⟨cs, h, rfl, fun _ _ => rfl⟩
  | cons v r ih =>
    intro o w cs h
    obtain ⟨cs', h1, h2, h3⟩ := ih (o + 1) (blk_set h o v)
    refine ⟨cs', h1, by rw [h2, Array.size_setIfInBounds], fun j hj => ?_⟩
    rw [h3 j (by omega)]
    exact Array.getElem?_setIfInBounds_ne (by omega)
theorem impl_Disk_settle_cut {W : World} {base gp i cap : Nat} {ok : Nat → Prop} {xs : List S92} (h : Kd.R k92 92 W base ok (.slice (some ⟨gp, 0, none⟩) i cap) xs) (vs : List Value) (o : Nat) (ho : i * 3 ≤ o) : Kd.R k92 92 (W.setCells gp o vs) base ok (.slice (some ⟨gp, 0, none⟩) i cap) xs := by
  have hn := (Kd.R_reads' h).1
  obtain ⟨h0, inner, ⟨hl, ho'⟩, hr⟩ := h
  refine ⟨h0, inner, ⟨hl, ?_⟩, hr.imp_ (fun p c hp => by obtain rfl := k92_openM hp; exact k92_mkM _ _ _ p)⟩
  rcases ho' with ⟨e, _⟩ | ⟨g, cap', cur, e, hb, hh, h1, h2, h3, h4⟩
  · cases e
  · injection e with e1 e2 e3
    injection e1 with e1
    injection e1 with e1
    subst e1 e3
    obtain ⟨cs', q1, q2, q3⟩ := impl_Disk_settle_blk vs o hh
    refine .inr ⟨gp, _, cs', by rw [hn], hb, q1, h1, h2, q2.trans h3, ?_⟩
    rw [← h4]
    refine List.ext_getElem? (fun j => ?_)
    rw [List.getElem?_take, List.getElem?_take]
    by_cases c : j < xs.length * (k92).sz
    · rw [if_pos c, if_pos c, Array.getElem?_toList, Array.getElem?_toList]
      exact q3 j (Nat.lt_of_lt_of_le c (by rw [← hn]; exact ho))
    · rw [if_neg c, if_neg c]
theorem impl_Disk_settle_kept {g : Nat} : ∀ (vs : List Value) (o : Nat) (w : World), Kept w (w.setCells g o vs) (fun k_ => k_ = g) := by
  intro vs
  induction vs with
  | nil => intro o w; exact Kept.refl _ _
  | cons v r ih => intro o w; exact (Kept.setCell (Kept.refl w (fun k_ => k_ = g)) (p := ⟨g, o, none⟩) (.inl rfl) v).then_ (ih (o + 1) _) (fun _ h_ => .inl h_)
theorem impl_Disk_settle_bel {g : Nat} {w0 : World} (hg : w0.heap.size ≤ g) : ∀ (vs : List Value) (o : Nat) (w : World), Below w0.heap.size w0 w → Below w0.heap.size w0 (w.setCells g o vs) := by
  intro vs
  induction vs with
  | nil => intro o w h; exact h
  | cons v r ih => intro o w h; exact ih (o + 1) _ (below_set h hg)
theorem impl_Disk_settle_I.kept {W W1 : World} {base gH gK gO gL gR : Nat} {host keep : Int} {lose : Bool} {sv pv : Value} {secs : List ByteArray} (I : impl_Disk_settle_I W base gH gK gO gL gR host keep lose sv pv secs) {g : Nat} {cs : Array Value} (hk : Kept W W1 (fun k_ => k_ = g)) (hc : W.heap[g]? = some (.cells cs 92 (0, 0))) : impl_Disk_settle_I W1 base gH gK gO gL gR host keep lose sv pv secs :=
  ⟨blk_kept I.h hk (fun e => blk_ne I.h hc (by decide) e), blk_kept I.k hk (fun e => blk_ne I.k hc (by decide) e), blk_kept I.o hk (fun e => blk_ne I.o hc (by decide) e), blk_kept I.l hk (fun e => blk_ne I.l hc (by decide) e), Kd.R_mono (Kd.R_kept (Kd.R_types I.s hc (by decide)) hk (fun _ h_ e => h_.2 e)) (fun _ _ => trivial), I.n, blk_kept I.r hk (fun e => blk_ne I.r hc (by decide) e)⟩
/-- clear of the rest of a row: some cells from there on are written. -/
theorem impl_Disk_settle_clear {W : World} {base gp n cap : Nat} {ok : Nat → Prop} {xs : List S92} (h : Kd.R k92 92 W base ok (.slice (some ⟨gp, 0, none⟩) n cap) xs) (a : Nat) (ha : a < n) (cc : Nat) (ty : TypeId) :
    ∃ vs, (Builtin.clear_ #[46] ty #[.slice (some ⟨gp, a * 3, none⟩) (n - a) cc]).run Try.prog W = .ok (.tuple #[]) (W.setCells gp (a * 3) vs) := by
  have hz : ∀ w, (zeroValue 92).run Try.prog w = .ok (.agg #[.int .i64 0, .int .i64 0, .string ⟨#[]⟩]) w := Try.zeroValue92
  obtain ⟨m, hm⟩ : ∃ m, n - a = m + 1 := ⟨n - a - 1, by omega⟩
  refine ⟨(Builtin.zeroCells (Value.agg #[.int .i64 0, .int .i64 0, .string ⟨#[]⟩]).cells (n - a)).toList, ?_⟩
  have hlen : (Builtin.zeroCells (Value.agg #[.int .i64 0, .int .i64 0, .string ⟨#[]⟩]).cells (n - a)).toList.length = (n - a) * 3 := by simp [Builtin.zeroCells, Value.cells]
  have hn := (Kd.R_reads' h).1
  have hst := run_storeCells_cells (P := Try.prog) gp (a * 3) (Builtin.zeroCells (Value.agg #[.int .i64 0, .int .i64 0, .string ⟨#[]⟩]).cells (n - a)).toList 0 W (by
    intro j hj
    rw [hlen] at hj
    obtain ⟨c, hcl, hM, hcc, hfr⟩ := Kd.R_elem h z92 ((a + j / 3 : Nat) : Int) (by omega) (by omega)
    have hj3 : j % 3 < c.length := by rw [hcl]; exact Nat.mod_lt _ (by decide)
    have := hcc (j % 3) _ (List.getElem?_eq_getElem hj3)
    rw [Int.toNat_natCast] at this
    have e : a * 3 + 0 + j = (a + j / 3) * (k92).sz + j % 3 := by show a * 3 + 0 + j = (a + j / 3) * 3 + j % 3; omega
    rw [e, this]; rfl) (by
    intro j hj
    rw [hlen] at hj
    obtain ⟨c, hcl, hM, hcc, hfr⟩ := Kd.R_elem h z92 ((a + j / 3 : Nat) : Int) (by omega) (by omega)
    have := hfr (j % 3)
    rw [Int.toNat_natCast] at this
    have e : a * 3 + 0 + j = (a + j / 3) * (k92).sz + j % 3 := by show a * 3 + 0 + j = (a + j / 3) * 3 + j % 3; omega
    rw [e]; exact this) (by
    intro v hv
    simp only [Builtin.zeroCells, Array.toList_map, List.mem_map] at hv
    obtain ⟨q, _, rfl⟩ := hv
    have hq : q % 3 < 3 := Nat.mod_lt _ (by decide)
    show ((#[Value.int .i64 0, .int .i64 0, .string ⟨#[]⟩] : Array Value)[q % 3]!).oneCell' = true
    rcases (show q % 3 = 0 ∨ q % 3 = 1 ∨ q % 3 = 2 by omega) with e | e | e <;> rw [e] <;> rfl)
  simp only [Nat.add_zero] at hst
  rw [hm] at hst ⊢
  simp [Builtin.clear_, run_underlying Try.underlying46, hz, hst]
set_option maxHeartbeats 8000000 in
set_option maxRecDepth 100000 in
theorem impl_Disk_settle_delete {w0 W : World} {gH gK gO gL gR : Nat} {host keep : Int} {lose : Bool} {sv pv v : Value} {secs : List ByteArray} {pend : List S92} (I : impl_Disk_settle_I W w0.heap.size gH gK gO gL gR host keep lose sv pv secs) (hB : Below w0.heap.size w0 W) (hg : w0.heap.size ≤ gK)
    (RP : Kd.R k92 92 W w0.heap.size (fun k_ => k_ ≠ gK ∧ some k_ ≠ sv.ownBlock) v pend) (hl : pend.length ≤ 1000000000) (out : List S92) (kf : Int) (sf : List ByteArray) (h : impl_Disk_settle_go host lose pend keep secs = some (out, kf, sf)) :
    Calls Try.prog 114 #[v, .func (.func 115) #[] #[.pointer (some ⟨gH, 0, none⟩), .pointer (some ⟨gK, 0, none⟩), .pointer (some ⟨gO, 0, none⟩), .pointer (some ⟨gL, 0, none⟩)]] W
      fun e W' => ∃ v', e = .returned v' ∧ Kd.R k92 92 W' w0.heap.size (fun k_ => k_ ≠ gK ∧ some k_ ≠ sv.ownBlock) v' out ∧ impl_Disk_settle_I W' w0.heap.size gH gK gO gL gR host kf lose sv pv sf ∧ Below w0.heap.size w0 W' := by
  have hu92 := Try.underlying92
  have hidx := impl_Disk_settle_index (pend := pend) I hB hg RP hl
  have PP := zm RP
  have HG := zm hg
  have HL := zm hl
  obtain ⟨Ao, co, rfl⟩ := Kd.R_slice RP
  rcases impl_Disk_settle_go_idx host lose pend keep secs 0 out kf sf h with ⟨h1, rfl⟩ | ⟨i0, k1, s1, rest0, h1, h2, h3, rfl⟩
  · have HX := zm (hidx (-1) kf sf h1)
    clear I hB hg RP hl hidx h h1
    go_enter Try.func114, Try.ntmps114
    go_wp2_with (first
      | ((with_reducible refine gate_callee (f := 139) rfl ?_); refine goesL_ (some 10) rfl rfl Try.func139 (by kernel_rfl) rfl #[.slice Ao out.length co, .func (.func 115) #[] #[.pointer (some ⟨gH, 0, none⟩), .pointer (some ⟨gK, 0, none⟩), .pointer (some ⟨gO, 0, none⟩), .pointer (some ⟨gL, 0, none⟩)]] rfl (by (try simp only [List.map_toArray, List.map_cons, List.map_nil]); first | done | rfl) ?_; refine HX.out.mono ?_; rintro e w2 ⟨rfl, hI, hb, hkp⟩; refine ⟨_, rfl, ?_⟩; have I2 := zm hI; have HB2 := zm hb; have P2 := zm (Kd.R_kept PP.out hkp (fun k_ hk_ hs_ => hs_.elim hk_.1 hk_.2)); clear hI hb hkp))
    go_ret
    exact ⟨_, rfl, P2.out, I2.out, HB2.out⟩
  · have HX := zm (hidx _ k1 s1 h2)
    have H3 := zm h3
    have H1 := zm h1
    clear I hB hg RP hl hidx h h1 h2 h3
    obtain ⟨gp, cp, ep, gb1, _, gc1, _⟩ := Kd.R_form PP.out (by have := H1.out; omega)
    (first | cases ep | (injection ep with ea_ en_ ec_; (first | subst ea_ | (injection ea_ with ea_; subst ea_)); subst ec_; clear en_))
    have GP := zm gb1
    have NE : ((((0 + i0 : Nat) : Int)) == -1) = false := beq_eq_false_iff_ne.2 (by omega)
    have NE2 : decide ((((0 + i0 : Nat) : Int)) = -1) = false := decide_eq_false (by omega)
    clear gb1
    go_enter Try.func114, Try.ntmps114
    go_wp2_with (first
      | ((with_reducible refine gate_callee (f := 139) rfl ?_); refine goesL_ (some 10) rfl rfl Try.func139 (by kernel_rfl) rfl #[.slice (some ⟨gp, 0, none⟩) pend.length co, .func (.func 115) #[] #[.pointer (some ⟨gH, 0, none⟩), .pointer (some ⟨gK, 0, none⟩), .pointer (some ⟨gO, 0, none⟩), .pointer (some ⟨gL, 0, none⟩)]] rfl (by (try simp only [List.map_toArray, List.map_cons, List.map_nil]); first | done | rfl) ?_; refine HX.out.mono ?_; rintro e w2 ⟨rfl, hI, hb, hkp⟩; refine ⟨_, rfl, ?_⟩; have I2 := zm hI; have HB2 := zm hb; have P2 := zm (Kd.R_kept PP.out hkp (fun k_ hk_ hs_ => hs_.elim hk_.1 hk_.2)); clear hI hb hkp))
    go_loopg [5, 6] pend.length (fun kq v5 v6 w' => ∃ (a j : Int) (dk rest : List S92) (kp : Int) (sc : List ByteArray), v5 = .int .i64 a ∧ v6 = .int .i64 j ∧ Aside0 (0 ≤ a ∧ a < j ∧ j.toNat ≤ pend.length ∧ pend.length - j.toNat ≤ kq ∧ dk.length = pend.length) ∧ Aside0 (pend.take i0 ++ rest0 = dk.take a.toNat ++ rest ∧ dk.drop j.toNat = pend.drop j.toNat) ∧ Aside0 (impl_Disk_settle_go host lose (pend.drop j.toNat) kp sc = some (rest, kf, sf)) ∧ Aside0 (Kd.R k92 92 w' w0.heap.size (fun k_ => k_ ≠ gK ∧ some k_ ≠ sv.ownBlock) (.slice (some ⟨gp, 0, none⟩) pend.length co) dk) ∧ Aside0 (impl_Disk_settle_I w' w0.heap.size gH gK gO gL gR host kp lose sv pv sc) ∧ Aside0 (Below w0.heap.size w0 w'))
    case atStart =>
      have h1 := H1.out
      have hL := HL.out
      refine ⟨(i0 : Int), ((i0 + 1 : Nat) : Int), pend, rest0, k1, s1, by simp, ?_, ⟨by omega, by omega, by omega, ?_, rfl⟩, ⟨by simp, rfl⟩, ⟨by simpa using H3.out⟩, P2, I2, HB2⟩
      · have e : wrap64 ((((0 + i0 : Nat) : Int)) + 1) = ((i0 + 1 : Nat) : Int) := by unfold wrap64; omega
        first | rw [e] | (simp only [Nat.zero_add] at e; rw [e]) | simp [e]
      · omega
    case round =>
      try clear c1
      try clear p2
      clear HX PP H3 P2 I2 HB2
      obtain ⟨a, j, dk, rest, kp, sc, rfl, rfl, HM, HO, HGo, HR, II, HB⟩ := hrel
      by_cases hj : j < (pend.length : Int)
      · have hd : decide (j < (pend.length : Int)) = true := decide_eq_true hj
        have h0j : 0 ≤ j := by have := HM.out; omega
        have hjp : j.toNat < pend.length := by omega
        have hjd : j.toNat < dk.length := by have := HM.out; omega
        have he : dk[j.toNat] = pend[j.toNat] ∧ dk.drop (j.toNat + 1) = pend.drop (j.toNat + 1) := by
          have := HO.out.2
          rw [List.drop_eq_getElem_cons hjd, List.drop_eq_getElem_cons hjp] at this
          injection this with e1 e2
          exact ⟨e1, e2⟩
        have h := HGo.out
        rw [List.drop_eq_getElem_cons hjp] at h
        simp only [impl_Disk_settle_go] at h
        have hh := Option.bind_eq_some_iff.mp h
        clear h
        obtain ⟨⟨b, k2, s2⟩, hst, hh⟩ := hh
        have hh2 := Option.bind_eq_some_iff.mp hh
        clear hh
        obtain ⟨⟨o1, k3, s3⟩, hgo, hh⟩ := hh2
        simp only [Option.some.injEq, Prod.mk.injEq] at hh
        obtain ⟨hrest, rfl, rfl⟩ := hh
        obtain ⟨ce, hcl, hM, hcc, hfr⟩ := Kd.R_elem HR.out z92 j h0j hj
        obtain rfl := k92_openM hM
        obtain ⟨x, hx⟩ : ∃ x, x = rd_T92 dk j := ⟨_, rfl⟩
        have hxp : x = pend[j.toNat] := by rw [hx, ← he.1]; simp [rd_T92, hjd]
        have hx0 : wr.cell? ⟨gp, j.toNat * 3, none⟩ = some (.int .i64 x.f0) := by rw [hx]; exact hcc 0 _ rfl
        have hx1 : wr.cell? ⟨gp, j.toNat * 3 + 1, none⟩ = some (.int .i64 x.f1) := by rw [hx]; exact hcc 1 _ rfl
        have hx2 : wr.cell? ⟨gp, j.toNat * 3 + 2, none⟩ = some (.string x.f2) := by rw [hx]; exact hcc 2 _ rfl
        clear hcl hM hcc hfr hx
        have ST := zm (show impl_Disk_settle_stp host lose kp sc x = some (b, k2, s2) from by rw [hxp]; exact hst)
        have RS := zm (show rest = if b = true then o1 else x :: o1 from by rw [hxp]; exact hrest.symm)
        have GO := zm hgo
        have HE := zm he.2
        have HJ := zm hj
        have A0 := zm (show 0 ≤ a from HM.out.1)
        have A1 := zm (show a < (pend.length : Int) from by have := HM.out; omega)
        have WJ : Aside0 (wrap64 (j + 1) = j + 1) := ⟨by unfold wrap64; have := HL.out; omega⟩
        have WA : Aside0 (wrap64 (a + 1) = a + 1) := ⟨by unfold wrap64; have := HL.out; have := HM.out; omega⟩
        have p0 := eq_true h0j
        have p1 := eq_true hj
        have p3 := eq_true A0.out
        have p4 := eq_true A1.out
        clear h0j hj hjd he hst hrest hgo hxp hjp HGo
        cases b with
        | true =>
          go_wp2_with (first
            | ((with_reducible refine gate_dst (N := 7) rfl ?_); refine box_event ?hg (N := 7) ?hd (cs := #[.int .i64 0, .int .i64 0, .string ⟨#[]⟩]) (t := 92) ?hr ?_; (case hd => rfl); (case hg => rfl); (case hr => first | (go_simp; done) | (go_simp; rfl)); intro gb hgb w4 hbox hb; have BK := zm hbox; have R4 := zm (Kd.R_below (Kd.R_elderB HR.out gb (by rw [hgb]; exact Nat.le_refl _)) hb); have I4 := zm (II.out.below hb); have B4 := zm (below_step HB.out hb); have GE := zm (show w0.heap.size ≤ gb from by rw [hgb]; exact HB.out.size); clear hb hbox hgb HR II HB; have hz0 : w4.cell? ⟨gb, 0, none⟩ = some (.int .i64 0) := (blk_cell BK.out 0).trans rfl; have hz1 : w4.cell? ⟨gb, 1, none⟩ = some (.int .i64 0) := (blk_cell BK.out 1).trans rfl; have hz2 : w4.cell? ⟨gb, 2, none⟩ = some (.string ⟨#[]⟩) := (blk_cell BK.out 2).trans rfl; have hf0 := blk_frozen BK.out 0; have hf1 := blk_frozen BK.out 1; have hf2 := blk_frozen BK.out 2)
            | ((with_reducible refine gate_store (t := 92) (p := 7) rfl ?_); refine store_event (t := 92) (p := 7) (v := ?vo1) (w1 := (((w4.setCell ⟨gb, 0, none⟩ (.int .i64 x.f0)).setCell ⟨gb, 1, none⟩ (.int .i64 x.f1)).setCell ⟨gb, 2, none⟩ (.string x.f2))) ?hg ?ho ?hn ?hr ?_; (case ho => rfl); (case hg => rfl); (case hn => rfl); (case hr => first | (go_simp; done) | (go_simp; rfl)); intro w5 hw; have BB := zm (show w5.heap[gb]? = some (.cells #[.int .i64 x.f0, .int .i64 x.f1, .string x.f2] 92 (0, 0)) from by rw [hw]; exact blk_set (blk_set (blk_set BK.out 0 _) 1 _) 2 _); have K45 := (show Kept w4 w5 (fun k_ => k_ = gb) from by rw [hw]; exact Kept.setCell (Kept.setCell (Kept.setCell (Kept.refl w4 (fun k_ => k_ = gb)) (p := ⟨gb, 0, none⟩) (.inl rfl) _) (p := ⟨gb, 1, none⟩) (.inl rfl) _) (p := ⟨gb, 2, none⟩) (.inl rfl) _); have R5 := zm (Kd.R_kept R4.out K45 (fun _ h_ e_ => h_.2 e_)); have I5 := zm (I4.out.kept K45 BK.out); have B5 := zm (show Below w0.heap.size w0 w5 from by rw [hw]; exact below_set (below_set (below_set B4.out GE.out) GE.out) GE.out); clear hw K45 R4 I4 B4 BK GE hz0 hz1 hz2 hf0 hf1 hf2; have hb0 : w5.cell? ⟨gb, 0, none⟩ = some (.int .i64 x.f0) := (blk_cell BB.out 0).trans rfl; have hb1 : w5.cell? ⟨gb, 1, none⟩ = some (.int .i64 x.f1) := (blk_cell BB.out 1).trans rfl; have hb2 : w5.cell? ⟨gb, 2, none⟩ = some (.string x.f2) := (blk_cell BB.out 2).trans rfl)
            | ((with_reducible refine gate_dst (N := 28) rfl ?_); refine goesV (some 28) rfl rfl Try.func115 (by kernel_rfl) rfl #[.agg #[.int .i64 x.f0, .int .i64 x.f1, .string x.f2], .pointer (some ⟨gH, 0, none⟩), .pointer (some ⟨gK, 0, none⟩), .pointer (some ⟨gO, 0, none⟩), .pointer (some ⟨gL, 0, none⟩)] rfl (cap := #[.pointer (some ⟨gH, 0, none⟩), .pointer (some ⟨gK, 0, none⟩), .pointer (some ⟨gO, 0, none⟩), .pointer (some ⟨gL, 0, none⟩)]) ?hx ?hargs ?_; (case hx => rfl); (case hargs => simp [Act.eval]); refine (impl_Disk_settle_clos I5.out B5.out HG.out x _ _ _ ST.out).mono ?_; rintro e w6 ⟨rfl, hI, hb, hkp⟩; refine ⟨_, rfl, ?_⟩; have BC := zm (blk_kept BB.out hkp (fun h_ => h_.elim (fun e_ => blk_ne BB.out I5.out.k (by decide) e_) (fun e_ => Kd.R_ne I5.out.s BB.out (by decide) e_))); have R6 := zm (Kd.R_kept R5.out hkp (fun k_ hk_ hs_ => hs_.elim hk_.1.1 hk_.1.2)); have I6 := zm hI; have B6 := zm hb; clear hI hb hkp BB R5 I5 B5 hb0 hb1 hb2))
          go_roundg (pend.length - (j + 1).toNat)
          case measure => have := HM.out; have := HJ.out; omega
          case rel =>
            have hm := HM.out
            have hjl := HJ.out
            refine ⟨a, j + 1, dk, o1, k2, s2, rfl, by rw [WJ.out], ⟨hm.1, by omega, by omega, Nat.le_refl _, hm.2.2.2.2⟩, ⟨by rw [HO.out.1, RS.out]; simp, by rw [show (j + 1).toNat = j.toNat + 1 by omega]; exact HE.out⟩, ⟨by rw [show (j + 1).toNat = j.toNat + 1 by omega]; exact GO.out⟩, ⟨Kd.R_mono R6.out (fun _ h_ => h_.1)⟩, I6, B6⟩
        | false =>
          go_wp2_with (first
            | ((with_reducible refine gate_dst (N := 7) rfl ?_); refine box_event ?hg (N := 7) ?hd (cs := #[.int .i64 0, .int .i64 0, .string ⟨#[]⟩]) (t := 92) ?hr ?_; (case hd => rfl); (case hg => rfl); (case hr => first | (go_simp; done) | (go_simp; rfl)); intro gb hgb w4 hbox hb; have BK := zm hbox; have R4 := zm (Kd.R_below (Kd.R_elderB HR.out gb (by rw [hgb]; exact Nat.le_refl _)) hb); have I4 := zm (II.out.below hb); have B4 := zm (below_step HB.out hb); have GE := zm (show w0.heap.size ≤ gb from by rw [hgb]; exact HB.out.size); clear hb hbox hgb HR II HB; have hz0 : w4.cell? ⟨gb, 0, none⟩ = some (.int .i64 0) := (blk_cell BK.out 0).trans rfl; have hz1 : w4.cell? ⟨gb, 1, none⟩ = some (.int .i64 0) := (blk_cell BK.out 1).trans rfl; have hz2 : w4.cell? ⟨gb, 2, none⟩ = some (.string ⟨#[]⟩) := (blk_cell BK.out 2).trans rfl; have hf0 := blk_frozen BK.out 0; have hf1 := blk_frozen BK.out 1; have hf2 := blk_frozen BK.out 2)
            | ((with_reducible refine gate_store (t := 92) (p := 7) rfl ?_); refine store_event (t := 92) (p := 7) (v := ?vo1) (w1 := (((w4.setCell ⟨gb, 0, none⟩ (.int .i64 x.f0)).setCell ⟨gb, 1, none⟩ (.int .i64 x.f1)).setCell ⟨gb, 2, none⟩ (.string x.f2))) ?hg ?ho ?hn ?hr ?_; (case ho => rfl); (case hg => rfl); (case hn => rfl); (case hr => first | (go_simp; done) | (go_simp; rfl)); intro w5 hw; have BB := zm (show w5.heap[gb]? = some (.cells #[.int .i64 x.f0, .int .i64 x.f1, .string x.f2] 92 (0, 0)) from by rw [hw]; exact blk_set (blk_set (blk_set BK.out 0 _) 1 _) 2 _); have K45 := (show Kept w4 w5 (fun k_ => k_ = gb) from by rw [hw]; exact Kept.setCell (Kept.setCell (Kept.setCell (Kept.refl w4 (fun k_ => k_ = gb)) (p := ⟨gb, 0, none⟩) (.inl rfl) _) (p := ⟨gb, 1, none⟩) (.inl rfl) _) (p := ⟨gb, 2, none⟩) (.inl rfl) _); have R5 := zm (Kd.R_kept R4.out K45 (fun _ h_ e_ => h_.2 e_)); have I5 := zm (I4.out.kept K45 BK.out); have B5 := zm (show Below w0.heap.size w0 w5 from by rw [hw]; exact below_set (below_set (below_set B4.out GE.out) GE.out) GE.out); clear hw K45 R4 I4 B4 BK GE hz0 hz1 hz2 hf0 hf1 hf2; have hb0 : w5.cell? ⟨gb, 0, none⟩ = some (.int .i64 x.f0) := (blk_cell BB.out 0).trans rfl; have hb1 : w5.cell? ⟨gb, 1, none⟩ = some (.int .i64 x.f1) := (blk_cell BB.out 1).trans rfl; have hb2 : w5.cell? ⟨gb, 2, none⟩ = some (.string x.f2) := (blk_cell BB.out 2).trans rfl)
            | ((with_reducible refine gate_dst (N := 28) rfl ?_); refine goesV (some 28) rfl rfl Try.func115 (by kernel_rfl) rfl #[.agg #[.int .i64 x.f0, .int .i64 x.f1, .string x.f2], .pointer (some ⟨gH, 0, none⟩), .pointer (some ⟨gK, 0, none⟩), .pointer (some ⟨gO, 0, none⟩), .pointer (some ⟨gL, 0, none⟩)] rfl (cap := #[.pointer (some ⟨gH, 0, none⟩), .pointer (some ⟨gK, 0, none⟩), .pointer (some ⟨gO, 0, none⟩), .pointer (some ⟨gL, 0, none⟩)]) ?hx ?hargs ?_; (case hx => rfl); (case hargs => simp [Act.eval]); refine (impl_Disk_settle_clos I5.out B5.out HG.out x _ _ _ ST.out).mono ?_; rintro e w6 ⟨rfl, hI, hb, hkp⟩; refine ⟨_, rfl, ?_⟩; have BC := zm (blk_kept BB.out hkp (fun h_ => h_.elim (fun e_ => blk_ne BB.out I5.out.k (by decide) e_) (fun e_ => Kd.R_ne I5.out.s BB.out (by decide) e_))); have R6 := zm (Kd.R_kept R5.out hkp (fun k_ hk_ hs_ => hs_.elim hk_.1.1 hk_.1.2)); have I6 := zm hI; have B6 := zm hb; clear hI hb hkp BB R5 I5 B5 hb0 hb1 hb2; have hc0 : w6.cell? ⟨gb, 0, none⟩ = some (.int .i64 x.f0) := (blk_cell BC.out 0).trans rfl; have hc1 : w6.cell? ⟨gb, 1, none⟩ = some (.int .i64 x.f1) := (blk_cell BC.out 1).trans rfl; have hc2 : w6.cell? ⟨gb, 2, none⟩ = some (.string x.f2) := (blk_cell BC.out 2).trans rfl; obtain ⟨ce, hcl, hM, hcc, hfr⟩ := Kd.R_elem R6.out z92 a A0.out A1.out; obtain rfl := k92_openM hM; have hy0 := hcc 0 _ rfl; have hy1 := hcc 1 _ rfl; have hy2 := hcc 2 _ rfl; have hg0 := hfr 0; have hg1 := hfr 1; have hg2 := hfr 2; (try simp only [show (k92).sz = 3 from rfl, Nat.add_zero] at hy0 hy1 hy2 hg0 hg1 hg2); have HP := zm (Kd.R_seg R6.out a A0.out A1.out (seg := [.int .i64 x.f0, .int .i64 x.f1, .string x.f2]) (j := 0) hcl hcc (show 3 ≤ 3 from by decide) (x' := x) (okp := fun _ => False) (k92_mkM _ _ _ x) (fun _ hk => hk.elim)); clear hcl hM hcc hfr)
            | ((with_reducible refine gate_store (t := 92) (p := 33) rfl ?_); refine store_event (t := 92) (p := 33) (v := ?vo2) (w1 := (((w6.setCell ⟨gp, a.toNat * 3, none⟩ (.int .i64 x.f0)).setCell ⟨gp, a.toNat * 3 + 1, none⟩ (.int .i64 x.f1)).setCell ⟨gp, a.toNat * 3 + 2, none⟩ (.string x.f2))) ?hg ?ho ?hn ?hr ?_; (case ho => rfl); (case hg => rfl); (case hn => rfl); (case hr => first | (go_simp; done) | (go_simp; rfl)); intro w7 hw; have hgr : w6.grownBy w7 (some gp) := (by rw [hw]; exact HP.out.2); have R7 := zm (show Kd.R k92 92 w7 w0.heap.size (fun k_ => k_ ≠ gK ∧ some k_ ≠ sv.ownBlock) (.slice (some ⟨gp, 0, none⟩) pend.length co) (dk.set a.toNat x) from by rw [hw]; exact Kd.R_mono HP.out.1 (fun _ h_ => h_.1)); have I7 := zm (I6.out.kept (Kept.of_grown (S := fun k_ => k_ = gp) hgr (Kept.refl _ _) (fun k_ e_ => .inl (by injection e_ with e_; exact e_.symm))) (Classical.choose_spec (Kd.R_typed R6.out gp rfl))); have B7 := zm (show Below w0.heap.size w0 w7 from by rw [hw]; exact below_set (below_set (below_set B6.out GP.out) GP.out) GP.out); clear hw hgr HP R6 I6 B6 BC hc0 hc1 hc2 hy0 hy1 hy2 hg0 hg1 hg2))
          go_roundg (pend.length - (j + 1).toNat)
          case measure => have := HM.out; have := HJ.out; omega
          case rel =>
            have hm := HM.out
            have hjl := HJ.out
            refine ⟨a + 1, j + 1, dk.set a.toNat x, o1, k2, s2, by rw [WA.out], by rw [WJ.out], ⟨by omega, by omega, by omega, Nat.le_refl _, by rw [List.length_set]; exact hm.2.2.2.2⟩, ⟨?_, ?_⟩, ⟨by rw [show (j + 1).toNat = j.toNat + 1 by omega]; exact GO.out⟩, R7, I7, B7⟩
            · rw [HO.out.1, RS.out, show (a + 1).toNat = a.toNat + 1 by omega, List.take_succ_eq_append_getElem (by rw [List.length_set]; omega), List.getElem_set_self, List.take_set_of_le (Nat.le_refl _)]
              simp
            · rw [show (j + 1).toNat = j.toNat + 1 by omega, List.drop_set_of_lt (by omega)]; exact HE.out
      · have hd : decide (j < (pend.length : Int)) = false := decide_eq_false hj
        have ej : j.toNat = pend.length := by have := HM.out; omega
        have h := HGo.out
        rw [ej, List.drop_of_length_le (Nat.le_refl _)] at h
        simp only [impl_Disk_settle_go, Option.some.injEq, Prod.mk.injEq] at h
        obtain ⟨h4, rfl, rfl⟩ := h
        have HOUT := zm (show pend.take i0 ++ rest0 = dk.take a.toNat from by rw [HO.out.1, ← h4, List.append_nil])
        have A0 := zm (show 0 ≤ a from HM.out.1)
        have A1 := zm (show a.toNat < pend.length from by have := HM.out; omega)
        obtain ⟨vs, hclr⟩ := impl_Disk_settle_clear HR.out a.toNat A1.out (co - a.toNat) 0
        clear h4 ej hj HGo HO
        have hco : pend.length ≤ co := (Kd.R_reads' HR.out).2.1
        have n1 : (co = a.toNat) = False := eq_false (by have := A1.out; omega)
        have n2 : (a.toNat = co) = False := eq_false (by have := A1.out; omega)
        have n3 : ¬ co = a.toNat := by have := A1.out; omega
        have p3 := eq_true A0.out
        have p4 : (a ≤ (pend.length : Int)) = True := eq_true (by have := A1.out; omega)
        have p5 : (a.toNat ≤ pend.length) = True := eq_true (by have := A1.out; omega)
        have p6 : (a.toNat ≤ co) = True := eq_true (by have := A1.out; omega)
        have p7 : ((co : Int) < a) = False := eq_false (by have := A1.out; omega)
        have p8 : (a ≤ (co : Int)) = True := eq_true (by have := A1.out; omega)
        go_wp2
        go_ret
        refine ⟨_, rfl, ?_, II.out.kept (impl_Disk_settle_kept vs _ wr) (Classical.choose_spec (Kd.R_typed HR.out gp rfl)), impl_Disk_settle_bel GP.out vs _ _ HB.out⟩
        rw [HOUT.out]
        exact impl_Disk_settle_cut (Kd.R_take HR.out (by have := HM.out; omega)) vs _ (Nat.le_refl _)
def impl_Disk_settle.f (l0_0 : List ByteArray) (l0_1 : List (S92)) (a1 : Int) (a2 : Int) (a3 : Bool) : Option (List ByteArray × (List (S92))) := (impl_Disk_copied.f l0_0 l0_1).bind fun t => if t.2.length ≤ 1000000000 then (impl_Disk_settle_go a1 a3 t.2 a2 t.1).bind fun q => some (q.2.2, q.1) else none
set_option maxHeartbeats 8000000 in
set_option maxRecDepth 100000 in
theorem impl_Disk_settle.calls (A0_0 : Option Addr) (c0_0 : Nat) (l0_0 : List ByteArray) (A0_1 : Option Addr) (c0_1 : Nat) (l0_1 : List (S92)) (a1 : Int) (a2 : Int) (a3 : Bool) (r1 : List ByteArray) (r2 : List (S92)) (w : World) (hr0_0 : Kd.C Kd.string w A0_0 l0_0.length l0_0) (hc0_0 : l0_0.length ≤ c0_0) (hr0_1 : Kd.C k92 w A0_1 l0_1.length l0_1) (hc0_1 : l0_1.length ≤ c0_1) (h : impl_Disk_settle.f l0_0 l0_1 a1 a2 a3 = some (r1, r2)) :
    Calls Try.prog 70 #[.agg #[.slice A0_0 l0_0.length c0_0, .slice A0_1 l0_1.length c0_1], .int .i64 a1, .int .i64 a2, .bool a3] w fun e w' => ∃ v0_ v1_ : Value, e = .returned (.agg #[v0_, v1_]) ∧ Kd.R Kd.string 9 w' w.heap.size (fun _ => True) v0_ r1 ∧ Kd.R k92 92 w' w.heap.size (fun _ => True) v1_ r2 ∧ Below w.heap.size w w' := by
 have hu48 := Try.underlying48
 have HR0 := zm hr0_0
 have HC0 := zm hc0_0
 have HR1 := zm hr0_1
 have HC1 := zm hc0_1
 have HB := zm (Below.refl w.heap.size w)
 unfold impl_Disk_settle.f at h
 obtain ⟨⟨t1, t2⟩, ht, h⟩ := Option.bind_eq_some_iff.mp h
 have hlim : t2.length ≤ 1000000000 := by
  by_cases c : t2.length ≤ 1000000000
  ·exact c
  ·rw [if_neg c] at h; cases h
 rw [if_pos hlim] at h
 obtain ⟨⟨q1, kf, sf⟩, hgo, h⟩ := Option.bind_eq_some_iff.mp h
 simp only [Option.some.injEq, Prod.mk.injEq] at h
 obtain ⟨rfl, rfl⟩ := h
 have T0 := zm ht
 have HL := zm hlim
 have HGo := zm (show impl_Disk_settle_go a1 a3 t2 a2 t1 = some (q1, kf, sf) from hgo)
 clear hr0_0 hc0_0 hr0_1 hc0_1 ht hlim hgo
 go_enter Try.func70, Try.ntmps70
 go_wp2_with (first
  | ((with_reducible refine gate_dst (N := 4) rfl ?_); refine box_event ?hg (N := 4) ?hd (cs := #[.slice A0_0 l0_0.length c0_0, .slice A0_1 l0_1.length c0_1]) (t := 48) ?hr ?_; (case hd => rfl); (case hg => rfl); (case hr => first | (go_simp; done) | (go_simp; rfl)); intro g0 hg0 w1 hbox hb;  have ng0 := zm hbox; have nB := zm (below_step HB.out hb); have nG := zm (show w.heap.size ≤ g0 from by rw [hg0]; exact HB.out.size); clear HB hbox hb hg0; have HB := nB; have Bg0 := ng0; have Gg0 := nG; clear nB ng0 nG)
  | ((with_reducible refine gate_dst (N := 5) rfl ?_); refine box_event ?hg (N := 5) ?hd (cs := #[.int .i64 a1]) (t := 3) ?hr ?_; (case hd => rfl); (case hg => rfl); (case hr => first | (go_simp; done) | (go_simp; rfl)); intro gH hgH w2 hbox hb; have mg0 := zm (blk_below Bg0.out hb); clear Bg0; have Bg0 := mg0; clear mg0;  have ngH := zm hbox; have nB := zm (below_step HB.out hb); have nG := zm (show w.heap.size ≤ gH from by rw [hgH]; exact HB.out.size); clear HB hbox hb hgH; have HB := nB; have BgH := ngH; have GgH := nG; clear nB ngH nG)
  | ((with_reducible refine gate_dst (N := 6) rfl ?_); refine box_event ?hg (N := 6) ?hd (cs := #[.int .i64 a2]) (t := 3) ?hr ?_; (case hd => rfl); (case hg => rfl); (case hr => first | (go_simp; done) | (go_simp; rfl)); intro gK hgK w3 hbox hb; have nHK := zm (show gH ≠ gK from by rw [hgK]; exact Nat.ne_of_lt (blk_lt BgH.out)); have mg0 := zm (blk_below Bg0.out hb); clear Bg0; have Bg0 := mg0; clear mg0; have mgH := zm (blk_below BgH.out hb); clear BgH; have BgH := mgH; clear mgH;  have ngK := zm hbox; have nB := zm (below_step HB.out hb); have nG := zm (show w.heap.size ≤ gK from by rw [hgK]; exact HB.out.size); clear HB hbox hb hgK; have HB := nB; have BgK := ngK; have GgK := nG; clear nB ngK nG ; have HHK := nHK; clear nHK)
  | ((with_reducible refine gate_dst (N := 7) rfl ?_); refine box_event ?hg (N := 7) ?hd (cs := #[.bool a3]) (t := 4) ?hr ?_; (case hd => rfl); (case hg => rfl); (case hr => first | (go_simp; done) | (go_simp; rfl)); intro gL hgL w4 hbox hb; have mg0 := zm (blk_below Bg0.out hb); clear Bg0; have Bg0 := mg0; clear mg0; have mgH := zm (blk_below BgH.out hb); clear BgH; have BgH := mgH; clear mgH; have mgK := zm (blk_below BgK.out hb); clear BgK; have BgK := mgK; clear mgK;  have ngL := zm hbox; have nB := zm (below_step HB.out hb); have nG := zm (show w.heap.size ≤ gL from by rw [hgL]; exact HB.out.size); clear HB hbox hb hgL; have HB := nB; have BgL := ngL; have GgL := nG; clear nB ngL nG)
  | ((with_reducible refine gate_dst (N := 8) rfl ?_); refine box_event ?hg (N := 8) ?hd (cs := #[.slice none 0 0, .slice none 0 0]) (t := 48) ?hr ?_; (case hd => rfl); (case hg => rfl); (case hr => first | (go_simp; done) | (go_simp; rfl)); intro gR hgR w5 hbox hb; have mg0 := zm (blk_below Bg0.out hb); clear Bg0; have Bg0 := mg0; clear mg0; have mgH := zm (blk_below BgH.out hb); clear BgH; have BgH := mgH; clear mgH; have mgK := zm (blk_below BgK.out hb); clear BgK; have BgK := mgK; clear mgK; have mgL := zm (blk_below BgL.out hb); clear BgL; have BgL := mgL; clear mgL;  have ngR := zm hbox; have nB := zm (below_step HB.out hb); have nG := zm (show w.heap.size ≤ gR from by rw [hgR]; exact HB.out.size); clear HB hbox hb hgR; have HB := nB; have BgR := ngR; have GgR := nG; clear nB ngR nG; have hcg0 : w5.cell? ⟨g0, 0, none⟩ = some (.slice A0_0 l0_0.length c0_0) := (blk_cell Bg0.out 0).trans rfl; have hcg1 : w5.cell? ⟨g0, 1, none⟩ = some (.slice A0_1 l0_1.length c0_1) := (blk_cell Bg0.out 1).trans rfl)
  | ((with_reducible refine gate_callee (f := 76) rfl ?_); refine goesL_ (some 11) rfl rfl Try.func76 (by kernel_rfl) rfl #[.agg #[.slice A0_0 l0_0.length c0_0, .slice A0_1 l0_1.length c0_1]] rfl (by (try simp only [List.map_toArray, List.map_cons, List.map_nil]); first | done | rfl) ?_; (with_reducible refine (impl_Disk_copied.calls A0_0 c0_0 l0_0 A0_1 c0_1 l0_1 t1 t2 _ ?s1 ?s2 ?s3 ?s4 T0.out).mono ?_); (case s1 => exact Kd.C_below HR0.out HB.out); (case s2 => exact HC0.out); (case s3 => exact Kd.C_below HR1.out HB.out); (case s4 => exact HC1.out); rintro e w6 ⟨v0, v1, rfl, ho0, ho1, hb⟩; refine ⟨_, rfl, ?_⟩; have R0 := zm (Kd.R_lower ho0 HB.out.size); have R1 := zm (Kd.R_lower ho1 HB.out.size); have mgH := zm (blk_below BgH.out hb); clear BgH; have BgH := mgH; clear mgH; have mgK := zm (blk_below BgK.out hb); clear BgK; have BgK := mgK; clear mgK; have mgL := zm (blk_below BgL.out hb); clear BgL; have BgL := mgL; clear mgL; have mgR := zm (blk_below BgR.out hb); clear BgR; have BgR := mgR; clear mgR;  have nB := zm (below_step HB.out hb); clear HB hb ho0 ho1 hcg0 hcg1 Bg0; have HB := nB; clear nB)
  | ((with_reducible refine gate_dst (N := 9) rfl ?_); refine box_event ?hg (N := 9) ?hd (cs := #[.slice none 0 0, .slice none 0 0]) (t := 48) ?hr ?_; (case hd => rfl); (case hg => rfl); (case hr => first | (go_simp; done) | (go_simp; rfl)); intro gO hgO w7 hbox hb; have NRO := zm (show gR ≠ gO from by rw [hgO]; exact Nat.ne_of_lt (blk_lt BgR.out)); have mgH := zm (blk_below BgH.out hb); clear BgH; have BgH := mgH; clear mgH; have mgK := zm (blk_below BgK.out hb); clear BgK; have BgK := mgK; clear mgK; have mgL := zm (blk_below BgL.out hb); clear BgL; have BgL := mgL; clear mgL; have mgR := zm (blk_below BgR.out hb); clear BgR; have BgR := mgR; clear mgR;  have mR0 := zm (Kd.R_below R0.out hb); have mR1 := zm (Kd.R_below R1.out hb); have BgO := zm hbox; have nB := zm (below_step HB.out hb); have GgO := zm (show w.heap.size ≤ gO from by rw [hgO]; exact HB.out.size); clear HB hbox hb hgO R0 R1; have HB := nB; have R0 := mR0; have R1 := mR1; clear nB mR0 mR1; have hz0 : w7.cell? ⟨gO, 0, none⟩ = some (.slice none 0 0) := (blk_cell BgO.out 0).trans rfl; have hz1 : w7.cell? ⟨gO, 1, none⟩ = some (.slice none 0 0) := (blk_cell BgO.out 1).trans rfl; have hf0 := blk_frozen BgO.out 0; have hf1 := blk_frozen BgO.out 1; obtain ⟨As, cs, rfl⟩ := Kd.R_slice R0.out; obtain ⟨Ap, cp, rfl⟩ := Kd.R_slice R1.out)
  | ((with_reducible refine gate_store (t := 48) (p := 9) rfl ?_); refine store_event (t := 48) (p := 9) (v := ?vo1) (w1 := ((w7.setCell ⟨gO, 0, none⟩ (.slice As t1.length cs)).setCell ⟨gO, 1, none⟩ (.slice Ap t2.length cp))) ?hg ?ho ?hn ?hr ?_; (case ho => rfl); (case hg => rfl); (case hn => rfl); (case hr => first | (go_simp; done) | (go_simp; rfl)); intro w8 hw; have K78 := (show Kept w7 w8 (fun k_ => k_ = gO) from by rw [hw]; exact Kept.setCell (Kept.setCell (Kept.refl w7 (fun k_ => k_ = gO)) (p := ⟨gO, 0, none⟩) (.inl rfl) _) (p := ⟨gO, 1, none⟩) (.inl rfl) _); have mO := zm (show w8.heap[gO]? = some (.cells #[.slice As t1.length cs, .slice Ap t2.length cp] 48 (0, 0)) from by rw [hw]; exact blk_set (blk_set BgO.out 0 _) 1 _); have mR := zm (blk_kept BgR.out K78 NRO.out); have I8 := zm (show impl_Disk_settle_I w8 w.heap.size gH gK gO gL gR a1 a2 a3 (.slice As t1.length cs) (.slice Ap t2.length cp) t1 from ⟨blk_kept BgH.out K78 (blk_ne BgH.out BgO.out (by decide)), blk_kept BgK.out K78 (blk_ne BgK.out BgO.out (by decide)), mO.out, blk_kept BgL.out K78 (blk_ne BgL.out BgO.out (by decide)), Kd.R_mono (Kd.R_kept (Kd.R_types R0.out BgO.out (by decide)) K78 (fun _ h_ => h_.2)) (fun _ _ => trivial), HHK.out, mR.out⟩); have nR1 := (Kd.R_kept (Kd.R_types R1.out BgO.out (by decide)) K78 (fun _ h_ => h_.2)); have R8 := zm (show Kd.R k92 92 w8 w.heap.size (fun k_ => k_ ≠ gK ∧ some k_ ≠ (.slice As t1.length cs : Value).ownBlock) (.slice Ap t2.length cp) t2 from Kd.R_mono (Kd.R_apart' (v := .slice As t1.length cs) (Kd.R_types nR1 I8.out.k (by decide)) (Kd.R_typed I8.out.s) (by decide)) (fun _ h_ => ⟨h_.1.2, h_.2⟩)); have nB := zm (show Below w.heap.size w w8 from by rw [hw]; exact below_set (below_set HB.out GgO.out) GgO.out); clear hw K78 R0 R1 nR1 HB BgR BgO BgH BgK BgL hz0 hz1 hf0 hf1; have HB := nB; have BgR := mR; clear nB mR mO; have hc1 : w8.cell? ⟨gO, 1, none⟩ = some (.slice Ap t2.length cp) := (blk_cell I8.out.o 1).trans rfl)
  | ((with_reducible refine gate_callee (f := 114) rfl ?_); refine goesL_ (some 15) rfl rfl Try.func114 (by kernel_rfl) rfl #[.slice Ap t2.length cp, .func (.func 115) #[] #[.pointer (some ⟨gH, 0, none⟩), .pointer (some ⟨gK, 0, none⟩), .pointer (some ⟨gO, 0, none⟩), .pointer (some ⟨gL, 0, none⟩)]] rfl (by (try simp only [List.map_toArray, List.map_cons, List.map_nil]); first | done | rfl) ?_; refine (impl_Disk_settle_delete (w0 := w) I8.out HB.out GgK.out R8.out HL.out q1 kf sf HGo.out).mono ?_; rintro e w9 ⟨v9, rfl, hr, hI, hb⟩; refine ⟨_, rfl, ?_⟩; obtain ⟨A9, c9, rfl⟩ := Kd.R_slice hr; have I9 := zm hI; have R9 := zm hr; have B9 := zm hb; clear hI hr hb I8 R8 HB BgR hc1; have hq1 : w9.cell? ⟨gO, 1, none⟩ = some (.slice Ap t2.length cp) := (blk_cell I9.out.o 1).trans rfl; have hfq := blk_frozen I9.out.o 1)
  | ((with_reducible refine gate_store (t := 46) (p := 16) rfl ?_); refine store_event (t := 46) (p := 16) (v := ?vo2) (w1 := (w9.setCell ⟨gO, 1, none⟩ (.slice A9 q1.length c9))) ?hg ?ho ?hn ?hr ?_; (case ho => rfl); (case hg => rfl); (case hn => rfl); (case hr => first | (go_simp; done) | (go_simp; rfl)); intro w10 hw; have K := (show Kept w9 w10 (fun k_ => k_ = gO) from by rw [hw]; exact Kept.setCell (Kept.refl w9 (fun k_ => k_ = gO)) (p := ⟨gO, 1, none⟩) (.inl rfl) _); have O10 := zm (show w10.heap[gO]? = some (.cells #[.slice As t1.length cs, .slice A9 q1.length c9] 48 (0, 0)) from by rw [hw]; exact blk_set I9.out.o 1 _); have Q10 := zm (blk_kept I9.out.r K NRO.out); have S10 := zm (Kd.R_kept (Kd.R_types I9.out.s I9.out.o (by decide)) K (fun _ h_ => h_.2)); have R10 := zm (Kd.R_kept (Kd.R_types R9.out I9.out.o (by decide)) K (fun _ h_ => h_.2)); have B10 := zm (show Below w.heap.size w w10 from by rw [hw]; exact below_set B9.out GgO.out); clear hw K I9 R9 B9 hq1 hfq; have ho0 : w10.cell? ⟨gO, 0, none⟩ = some (.slice As t1.length cs) := (blk_cell O10.out 0).trans rfl; have ho1 : w10.cell? ⟨gO, 1, none⟩ = some (.slice A9 q1.length c9) := (blk_cell O10.out 1).trans rfl; have hr0 : w10.cell? ⟨gR, 0, none⟩ = some (.slice none 0 0) := (blk_cell Q10.out 0).trans rfl; have hr1 : w10.cell? ⟨gR, 1, none⟩ = some (.slice none 0 0) := (blk_cell Q10.out 1).trans rfl; have hfr0 := blk_frozen Q10.out 0; have hfr1 := blk_frozen Q10.out 1)
  | ((with_reducible refine gate_store (t := 48) (p := 8) rfl ?_); refine store_event (t := 48) (p := 8) (v := ?vo3) (w1 := ((w10.setCell ⟨gR, 0, none⟩ (.slice As t1.length cs)).setCell ⟨gR, 1, none⟩ (.slice A9 q1.length c9))) ?hg ?ho ?hn ?hr ?_; (case ho => rfl); (case hg => rfl); (case hn => rfl); (case hr => first | (go_simp; done) | (go_simp; rfl)); intro w11 hw; have K := (show Kept w10 w11 (fun k_ => k_ = gR) from by rw [hw]; exact Kept.setCell (Kept.setCell (Kept.refl w10 (fun k_ => k_ = gR)) (p := ⟨gR, 0, none⟩) (.inl rfl) _) (p := ⟨gR, 1, none⟩) (.inl rfl) _); have Q11 := zm (show w11.heap[gR]? = some (.cells #[.slice As t1.length cs, .slice A9 q1.length c9] 48 (0, 0)) from by rw [hw]; exact blk_set (blk_set Q10.out 0 _) 1 _); have S11 := zm (Kd.R_kept (Kd.R_types S10.out Q10.out (by decide)) K (fun _ h_ => h_.2)); have R11 := zm (Kd.R_kept (Kd.R_types R10.out Q10.out (by decide)) K (fun _ h_ => h_.2)); have B11 := zm (show Below w.heap.size w w11 from by rw [hw]; exact below_set (below_set B10.out GgR.out) GgR.out); clear hw K S10 R10 B10 Q10 O10 ho0 ho1 hr0 hr1 hfr0 hfr1))
 refine bodyPost_ret (results_cell_row rfl _ _ gR 48 #[.slice As t1.length cs, .slice A9 q1.length c9] (0, 0) _ rfl Q11.out Try.underlying48 rfl (by kernel_rfl)) rfl ?_
 exact ⟨_, _, rfl, Kd.R_mono S11.out (fun _ _ => trivial), Kd.R_mono R11.out (fun _ _ => trivial), B11.out⟩
end Go.Proofs.Ytajflpcihblkfaa.Q
