/- What laws.FnExactGuestOK reaches, part 1: the functions as Lean functions, the proofs that the program's functions answer so, and plain laws about them. -/
import Derived.Test.YtbojcpgfkppkbaaProg
import Derived.Test.YtbojcpgfkppkbaaVFnExactGuestOKExt
import Derived.Test.YtbojcpgfkppkbaaShelf
import Derived.Below
import Derived.Deep.Draws
import Derived.Deep.AppendLies
import Derived.Maps.AppendAt
import Derived.OwnWalk
import Derived.Laws.BytesArg
import Derived.Laws.MakeOwn
import Derived.Laws.OwnMore
import Derived.Deep.OwnRows
import Derived.Tactics
import Derived.Lib.ConvBytes
import Derived.Laws.Slices
import Derived.WalkKit
import Derived.KernelRfl
import Derived.RowKit3
import Derived.Deep.LoopGhost
import Derived.Deep.QuietTactic
import Derived.BigQuiet
import Derived.WideLaws
import Derived.Deep.DeepCutAuto
import Derived.Deep.CutBlock
import Derived.Deep.RegionHeld3
import Derived.Laws.Rows
import Derived.Lib.AppendStr
import Derived.ArgAppend
import Derived.Laws.IdiomCopy
import Derived.OrdersHeld
import Derived.Laws.BitsLemmas
import Derived.RowKit
import Derived.Test.YtbojcpgfkppkbaaVFnExactGuestOKWWords
import Derived.Test.YtbojcpgfkppkbaaVFnExactGuestOKWLast
import Derived.Test.YtbojcpgfkppkbaaVFnExactGuestOKWTab
import Derived.Test.YtbojcpgfkppkbaaVFnExactGuestOKWFour
import Derived.Test.YtbojcpgfkppkbaaVFnExactGuestOKWQPut
import Derived.Test.YtbojcpgfkppkbaaVFnExactGuestOKWApart
import Derived.Test.YtbojcpgfkppkbaaVFnExactGuestOKWArr
import Derived.Test.YtbojcpgfkppkbaaVFnExactGuestOKWZeros
import Derived.Test.YtbojcpgfkppkbaaVFnExactGuestOKWFoot
import Derived.Test.YtbojcpgfkppkbaaVFnExactGuestOKWKept
import Derived.Test.YtbojcpgfkppkbaaVFnExactGuestOKWShare
import Derived.Test.YtbojcpgfkppkbaaVFnExactGuestOKWN
import Derived.Test.YtbojcpgfkppkbaaVFnExactGuestOKWFootNe
import Derived.Test.YtbojcpgfkppkbaaVFnExactGuestOKWAt
import Derived.Test.YtbojcpgfkppkbaaVFnExactGuestOKWEqStruct
import Derived.Test.YtbojcpgfkppkbaaVFnExactGuestOKWRepsOne
import Derived.Test.YtbojcpgfkppkbaaVFnExactGuestOKWInv
import Derived.Test.YtbojcpgfkppkbaaVFnExactGuestOKWInvWords
import Derived.Test.YtbojcpgfkppkbaaVFnExactGuestOKWGuard
import Derived.Test.YtbojcpgfkppkbaaVFnExactGuestOKWNEv
import Derived.Test.YtbojcpgfkppkbaaVFnExactGuestOKWMore
namespace Go.Proofs.Ytbojcpgfkppkbaa.Q
open Go.RowKit Go.Proofs.Ytbojcpgfkppkbaa.Ext Go.Proofs.YtbojcpgfkppkbaaW.PrintWords Go.Proofs.YtbojcpgfkppkbaaW.PrintLast Go.Proofs.YtbojcpgfkppkbaaW.PrintMore
attribute [local go_sem] max2_int min2_int max_two min_two max_three min_three max_four min_four   -- for this text's walks alone
set_option linter.unusedVariables false
set_option linter.unusedSimpArgs false

set_option linter.unusedVariables false
set_option linter.unusedSimpArgs false
def errW : Option Int → Value
  | none => .nilIface
  | some c => .iface 0 (.int .i64 c)
theorem errW_none : errW none = .nilIface := rfl
theorem errW_some (c : Int) : errW (some c) = .iface 0 (.int .i64 c) := rfl

theorem info3 : (Try.prog.info? 3).map (fun i => (i.zero, i.size, i.bytes)) = some (some (.int .i64 0), 1, 8) := by kernel_rfl
theorem info5 : (Try.prog.info? 5).map (fun i => (i.zero, i.size, i.bytes)) = some (some (.int .u8 0), 1, 1) := by kernel_rfl
theorem info9 : (Try.prog.info? 9).map (fun i => (i.zero, i.size, i.bytes)) = some (some (.string ⟨#[]⟩), 1, 16) := by kernel_rfl
theorem info20 : (Try.prog.info? 20).map (fun i => (i.zero, i.size, i.bytes)) = some (some (.nilIface), 1, 16) := by kernel_rfl
theorem info95 : (Try.prog.info? 95).map (fun i => (i.zero, i.size, i.bytes)) = some (some (.agg #[(.int .i64 0), (.string ⟨#[]⟩)]), 2, 24) := by kernel_rfl
theorem info101 : (Try.prog.info? 101).map (fun i => (i.zero, i.size, i.bytes)) = some (some (.agg #[(.int .i64 0), (.int .i64 0), (.string ⟨#[]⟩)]), 3, 32) := by kernel_rfl
theorem info117 : (Try.prog.info? 117).map (fun i => (i.zero, i.size, i.bytes)) = some (some (.agg #[(.string ⟨#[]⟩), (.slice none 0 0)]), 2, 40) := by kernel_rfl
theorem info129 : (Try.prog.info? 129).map (fun i => (i.zero, i.size, i.bytes)) = some (some (.agg #[(.int .i64 0), (.int .i64 0), (.string ⟨#[]⟩)]), 3, 32) := by kernel_rfl
-- the values' own types
/-! #### struct type 128 -/
structure S128 where
  f0 : Int
  f1 : Int
  f2 : ByteArray
def z128 : S128 := ⟨(0 : Int), (0 : Int), (⟨#[]⟩ : ByteArray)⟩
def k128 : Kd S128 := Kd.iso (Kd.pair (Kd.int .i64) (Kd.pair (Kd.int .i64) Kd.string)) (fun x : S128 => (x.f0, x.f1, x.f2))
theorem k128_open {w : World} {x : S128} {cs : List Value} (h : k128.K w x cs) : cs = [.int .i64 x.f0, .int .i64 x.f1, .string x.f2] := by
  obtain ⟨_, _, rfl, rfl, ⟨_, _, rfl, rfl, rfl⟩⟩ := h
  exact rfl
theorem k128_openM {w : World} {base : Nat} {ok : Nat → Prop} {x : S128} {cs : List Value} (h : k128.M w base ok x cs) : cs = [.int .i64 x.f0, .int .i64 x.f1, .string x.f2] := by
  obtain ⟨_, _, rfl, rfl, ⟨_, _, rfl, rfl, rfl⟩⟩ := h
  exact rfl
theorem k128_mk (w : World) (x : S128)  : k128.K w x [.int .i64 x.f0, .int .i64 x.f1, .string x.f2] := ⟨[.int .i64 x.f0], [.int .i64 x.f1, .string x.f2], rfl, rfl, ⟨[.int .i64 x.f1], [.string x.f2], rfl, rfl, rfl⟩⟩
theorem k128_mkM (w : World) (base : Nat) (ok : Nat → Prop) (x : S128)  : k128.M w base ok x [.int .i64 x.f0, .int .i64 x.f1, .string x.f2] := ⟨[.int .i64 x.f0], [.int .i64 x.f1, .string x.f2], rfl, rfl, ⟨[.int .i64 x.f1], [.string x.f2], rfl, rfl, rfl⟩⟩
def rd_T128 (xs : List S128) (i : Int) : S128 := xs.getD i.toNat z128
theorem at_T128 {w : World} {A : Option Addr} {n : Nat} {xs : List S128} (h : Kd.C k128 w A n xs) (i : Int) (h0 : 0 ≤ i) (h1 : i < n) : ∃ ad , A = some ad ∧ w.cell? (ad.add (i.toNat * 3)) = some (.int .i64 (rd_T128 xs i).f0) ∧ w.cell? ⟨(ad.add (i.toNat * 3)).block, (ad.add (i.toNat * 3)).off + 1, none⟩ = some (.int .i64 (rd_T128 xs i).f1) ∧ w.cell? ⟨(ad.add (i.toNat * 3)).block, (ad.add (i.toNat * 3)).off + 2, none⟩ = some (.string (rd_T128 xs i).f2) := by
  obtain ⟨ad, c, e, _, hK, hc0⟩ := Kd.C_get h z128 i h0 h1
  have hc : ∀ j u, c[j]? = some u → w.cell? (ad.add (i.toNat * 3 + j)) = some u := hc0
  obtain rfl := k128_open hK
  exact ⟨ad, e, hc 0 _ rfl, by rw [← add_field _ _ 1 (by omega)]; exact hc 1 _ rfl, by rw [← add_field _ _ 2 (by omega)]; exact hc 2 _ rfl⟩

/-! #### struct type 129 -/
structure S129 where
  f0 : Int
  f1 : Int
  f2 : ByteArray
def z129 : S129 := ⟨(0 : Int), (0 : Int), (⟨#[]⟩ : ByteArray)⟩
def k129 : Kd S129 := Kd.iso (Kd.pair (Kd.int .i64) (Kd.pair (Kd.int .i64) Kd.string)) (fun x : S129 => (x.f0, x.f1, x.f2))
theorem k129_open {w : World} {x : S129} {cs : List Value} (h : k129.K w x cs) : cs = [.int .i64 x.f0, .int .i64 x.f1, .string x.f2] := by
  obtain ⟨_, _, rfl, rfl, ⟨_, _, rfl, rfl, rfl⟩⟩ := h
  exact rfl
theorem k129_openM {w : World} {base : Nat} {ok : Nat → Prop} {x : S129} {cs : List Value} (h : k129.M w base ok x cs) : cs = [.int .i64 x.f0, .int .i64 x.f1, .string x.f2] := by
  obtain ⟨_, _, rfl, rfl, ⟨_, _, rfl, rfl, rfl⟩⟩ := h
  exact rfl
theorem k129_mk (w : World) (x : S129)  : k129.K w x [.int .i64 x.f0, .int .i64 x.f1, .string x.f2] := ⟨[.int .i64 x.f0], [.int .i64 x.f1, .string x.f2], rfl, rfl, ⟨[.int .i64 x.f1], [.string x.f2], rfl, rfl, rfl⟩⟩
theorem k129_mkM (w : World) (base : Nat) (ok : Nat → Prop) (x : S129)  : k129.M w base ok x [.int .i64 x.f0, .int .i64 x.f1, .string x.f2] := ⟨[.int .i64 x.f0], [.int .i64 x.f1, .string x.f2], rfl, rfl, ⟨[.int .i64 x.f1], [.string x.f2], rfl, rfl, rfl⟩⟩
def rd_T129 (xs : List S129) (i : Int) : S129 := xs.getD i.toNat z129
theorem at_T129 {w : World} {A : Option Addr} {n : Nat} {xs : List S129} (h : Kd.C k129 w A n xs) (i : Int) (h0 : 0 ≤ i) (h1 : i < n) : ∃ ad , A = some ad ∧ w.cell? (ad.add (i.toNat * 3)) = some (.int .i64 (rd_T129 xs i).f0) ∧ w.cell? ⟨(ad.add (i.toNat * 3)).block, (ad.add (i.toNat * 3)).off + 1, none⟩ = some (.int .i64 (rd_T129 xs i).f1) ∧ w.cell? ⟨(ad.add (i.toNat * 3)).block, (ad.add (i.toNat * 3)).off + 2, none⟩ = some (.string (rd_T129 xs i).f2) := by
  obtain ⟨ad, c, e, _, hK, hc0⟩ := Kd.C_get h z129 i h0 h1
  have hc : ∀ j u, c[j]? = some u → w.cell? (ad.add (i.toNat * 3 + j)) = some u := hc0
  obtain rfl := k129_open hK
  exact ⟨ad, e, hc 0 _ rfl, by rw [← add_field _ _ 1 (by omega)]; exact hc 1 _ rfl, by rw [← add_field _ _ 2 (by omega)]; exact hc 2 _ rfl⟩

def rd_L5 (xs : List (List ByteArray)) (i : Int) : (List ByteArray) := xs.getD i.toNat ([] : List ByteArray)
theorem at_L5 {w : World} {A : Option Addr} {n : Nat} {xs : List (List ByteArray)} (h : Kd.C (Kd.slice 9 Kd.string) w A n xs) (i : Int) (h0 : 0 ≤ i) (h1 : i < n) : ∃ ad A0 c0, A = some ad ∧ w.cell? (ad.add i.toNat) = some (.slice A0 (rd_L5 xs i).length c0) ∧ (rd_L5 xs i).length ≤ c0 ∧ Kd.string.C w A0 (rd_L5 xs i).length (rd_L5 xs i) := by
  obtain ⟨ad, c, e, _, hK, hc0⟩ := Kd.C_get h ([] : List ByteArray) i h0 h1
  have hc : ∀ j u, c[j]? = some u → w.cell? (ad.add (i.toNat * 1 + j)) = some u := hc0
  obtain ⟨A0, c0, rfl, l0, g0⟩ := hK
  exact ⟨ad, A0, c0, e, by have hq := hc 0 _ rfl; rwa [Nat.mul_one, Nat.add_zero] at hq, l0, g0⟩

def rd_L6 (xs : List (List S129)) (i : Int) : (List S129) := xs.getD i.toNat ([] : List S129)
theorem at_L6 {w : World} {A : Option Addr} {n : Nat} {xs : List (List S129)} (h : Kd.C (Kd.slice 129 k129) w A n xs) (i : Int) (h0 : 0 ≤ i) (h1 : i < n) : ∃ ad A0 c0, A = some ad ∧ w.cell? (ad.add i.toNat) = some (.slice A0 (rd_L6 xs i).length c0) ∧ (rd_L6 xs i).length ≤ c0 ∧ k129.C w A0 (rd_L6 xs i).length (rd_L6 xs i) := by
  obtain ⟨ad, c, e, _, hK, hc0⟩ := Kd.C_get h ([] : List S129) i h0 h1
  have hc : ∀ j u, c[j]? = some u → w.cell? (ad.add (i.toNat * 1 + j)) = some u := hc0
  obtain ⟨A0, c0, rfl, l0, g0⟩ := hK
  exact ⟨ad, A0, c0, e, by have hq := hc 0 _ rfl; rwa [Nat.mul_one, Nat.add_zero] at hq, l0, g0⟩

/-! #### struct type 95 -/
structure S95 where
  f0 : Int
  f1 : ByteArray
def z95 : S95 := ⟨(0 : Int), (⟨#[]⟩ : ByteArray)⟩
def k95 : Kd S95 := Kd.iso (Kd.pair (Kd.int .i64) Kd.string) (fun x : S95 => (x.f0, x.f1))
theorem k95_open {w : World} {x : S95} {cs : List Value} (h : k95.K w x cs) : cs = [.int .i64 x.f0, .string x.f1] := by
  obtain ⟨_, _, rfl, rfl, rfl⟩ := h
  exact rfl
theorem k95_openM {w : World} {base : Nat} {ok : Nat → Prop} {x : S95} {cs : List Value} (h : k95.M w base ok x cs) : cs = [.int .i64 x.f0, .string x.f1] := by
  obtain ⟨_, _, rfl, rfl, rfl⟩ := h
  exact rfl
theorem k95_mk (w : World) (x : S95)  : k95.K w x [.int .i64 x.f0, .string x.f1] := ⟨[.int .i64 x.f0], [.string x.f1], rfl, rfl, rfl⟩
theorem k95_mkM (w : World) (base : Nat) (ok : Nat → Prop) (x : S95)  : k95.M w base ok x [.int .i64 x.f0, .string x.f1] := ⟨[.int .i64 x.f0], [.string x.f1], rfl, rfl, rfl⟩
def rd_T95 (xs : List S95) (i : Int) : S95 := xs.getD i.toNat z95
theorem at_T95 {w : World} {A : Option Addr} {n : Nat} {xs : List S95} (h : Kd.C k95 w A n xs) (i : Int) (h0 : 0 ≤ i) (h1 : i < n) : ∃ ad , A = some ad ∧ w.cell? (ad.add (i.toNat * 2)) = some (.int .i64 (rd_T95 xs i).f0) ∧ w.cell? ⟨(ad.add (i.toNat * 2)).block, (ad.add (i.toNat * 2)).off + 1, none⟩ = some (.string (rd_T95 xs i).f1) := by
  obtain ⟨ad, c, e, _, hK, hc0⟩ := Kd.C_get h z95 i h0 h1
  have hc : ∀ j u, c[j]? = some u → w.cell? (ad.add (i.toNat * 2 + j)) = some u := hc0
  obtain rfl := k95_open hK
  exact ⟨ad, e, hc 0 _ rfl, by rw [← add_field _ _ 1 (by omega)]; exact hc 1 _ rfl⟩

/-! #### struct type 101 -/
structure S101 where
  f0 : Int
  f1 : Int
  f2 : ByteArray
def z101 : S101 := ⟨(0 : Int), (0 : Int), (⟨#[]⟩ : ByteArray)⟩
def k101 : Kd S101 := Kd.iso (Kd.pair (Kd.int .i64) (Kd.pair (Kd.int .i64) Kd.string)) (fun x : S101 => (x.f0, x.f1, x.f2))
theorem k101_open {w : World} {x : S101} {cs : List Value} (h : k101.K w x cs) : cs = [.int .i64 x.f0, .int .i64 x.f1, .string x.f2] := by
  obtain ⟨_, _, rfl, rfl, ⟨_, _, rfl, rfl, rfl⟩⟩ := h
  exact rfl
theorem k101_openM {w : World} {base : Nat} {ok : Nat → Prop} {x : S101} {cs : List Value} (h : k101.M w base ok x cs) : cs = [.int .i64 x.f0, .int .i64 x.f1, .string x.f2] := by
  obtain ⟨_, _, rfl, rfl, ⟨_, _, rfl, rfl, rfl⟩⟩ := h
  exact rfl
theorem k101_mk (w : World) (x : S101)  : k101.K w x [.int .i64 x.f0, .int .i64 x.f1, .string x.f2] := ⟨[.int .i64 x.f0], [.int .i64 x.f1, .string x.f2], rfl, rfl, ⟨[.int .i64 x.f1], [.string x.f2], rfl, rfl, rfl⟩⟩
theorem k101_mkM (w : World) (base : Nat) (ok : Nat → Prop) (x : S101)  : k101.M w base ok x [.int .i64 x.f0, .int .i64 x.f1, .string x.f2] := ⟨[.int .i64 x.f0], [.int .i64 x.f1, .string x.f2], rfl, rfl, ⟨[.int .i64 x.f1], [.string x.f2], rfl, rfl, rfl⟩⟩
def rd_T101 (xs : List S101) (i : Int) : S101 := xs.getD i.toNat z101
theorem at_T101 {w : World} {A : Option Addr} {n : Nat} {xs : List S101} (h : Kd.C k101 w A n xs) (i : Int) (h0 : 0 ≤ i) (h1 : i < n) : ∃ ad , A = some ad ∧ w.cell? (ad.add (i.toNat * 3)) = some (.int .i64 (rd_T101 xs i).f0) ∧ w.cell? ⟨(ad.add (i.toNat * 3)).block, (ad.add (i.toNat * 3)).off + 1, none⟩ = some (.int .i64 (rd_T101 xs i).f1) ∧ w.cell? ⟨(ad.add (i.toNat * 3)).block, (ad.add (i.toNat * 3)).off + 2, none⟩ = some (.string (rd_T101 xs i).f2) := by
  obtain ⟨ad, c, e, _, hK, hc0⟩ := Kd.C_get h z101 i h0 h1
  have hc : ∀ j u, c[j]? = some u → w.cell? (ad.add (i.toNat * 3 + j)) = some u := hc0
  obtain rfl := k101_open hK
  exact ⟨ad, e, hc 0 _ rfl, by rw [← add_field _ _ 1 (by omega)]; exact hc 1 _ rfl, by rw [← add_field _ _ 2 (by omega)]; exact hc 2 _ rfl⟩

def rd_L10 (xs : List (List Int)) (i : Int) : (List Int) := xs.getD i.toNat ([] : List Int)
theorem at_L10 {w : World} {A : Option Addr} {n : Nat} {xs : List (List Int)} (h : Kd.C (Kd.slice 3 (Kd.int .i64)) w A n xs) (i : Int) (h0 : 0 ≤ i) (h1 : i < n) : ∃ ad A0 c0, A = some ad ∧ w.cell? (ad.add i.toNat) = some (.slice A0 (rd_L10 xs i).length c0) ∧ (rd_L10 xs i).length ≤ c0 ∧ (Kd.int .i64).C w A0 (rd_L10 xs i).length (rd_L10 xs i) := by
  obtain ⟨ad, c, e, _, hK, hc0⟩ := Kd.C_get h ([] : List Int) i h0 h1
  have hc : ∀ j u, c[j]? = some u → w.cell? (ad.add (i.toNat * 1 + j)) = some u := hc0
  obtain ⟨A0, c0, rfl, l0, g0⟩ := hK
  exact ⟨ad, A0, c0, e, by have hq := hc 0 _ rfl; rwa [Nat.mul_one, Nat.add_zero] at hq, l0, g0⟩

/-! #### struct type 155 -/
structure S155 where
  f0 : ByteArray
  f1 : (List Int)
def z155 : S155 := ⟨(⟨#[]⟩ : ByteArray), ([] : List Int)⟩
def k155 : Kd S155 := Kd.iso (Kd.pair Kd.string (Kd.slice 3 (Kd.int .i64))) (fun x : S155 => (x.f0, x.f1))
theorem k155_open {w : World} {x : S155} {cs : List Value} (h : k155.K w x cs) : ∃ A1 c1, cs = [.string x.f0, .slice A1 x.f1.length c1] ∧ x.f1.length ≤ c1 ∧ (Kd.int .i64).C w A1 x.f1.length x.f1 := by
  obtain ⟨_, _, rfl, rfl, ⟨A1, c1, rfl, l1, g1⟩⟩ := h
  exact ⟨A1, c1, rfl, l1, g1⟩
theorem k155_openM {w : World} {base : Nat} {ok : Nat → Prop} {x : S155} {cs : List Value} (h : k155.M w base ok x cs) : ∃ v1, cs = [.string x.f0, v1] ∧ (Kd.int .i64).R 3 w base ok v1 x.f1 := by
  obtain ⟨_, _, rfl, rfl, ⟨v1, rfl, g1⟩⟩ := h
  exact ⟨v1, rfl, g1⟩
theorem k155_mk (w : World) (x : S155) {A1 : Option Addr} {c1 : Nat} (l1 : x.f1.length ≤ c1) (g1 : (Kd.int .i64).C w A1 x.f1.length x.f1) : k155.K w x [.string x.f0, .slice A1 x.f1.length c1] := ⟨[.string x.f0], [.slice A1 x.f1.length c1], rfl, rfl, ⟨A1, c1, rfl, l1, g1⟩⟩
theorem k155_mkM (w : World) (base : Nat) (ok : Nat → Prop) (x : S155) {v1 : Value} (g1 : (Kd.int .i64).R 3 w base ok v1 x.f1) : k155.M w base ok x [.string x.f0, v1] := ⟨[.string x.f0], [v1], rfl, rfl, ⟨v1, rfl, g1⟩⟩
def rd_T155 (xs : List S155) (i : Int) : S155 := xs.getD i.toNat z155
theorem at_T155 {w : World} {A : Option Addr} {n : Nat} {xs : List S155} (h : Kd.C k155 w A n xs) (i : Int) (h0 : 0 ≤ i) (h1 : i < n) : ∃ ad A1 c1, A = some ad ∧ w.cell? (ad.add (i.toNat * 2)) = some (.string (rd_T155 xs i).f0) ∧ w.cell? ⟨(ad.add (i.toNat * 2)).block, (ad.add (i.toNat * 2)).off + 1, none⟩ = some (.slice A1 (rd_T155 xs i).f1.length c1) ∧ (rd_T155 xs i).f1.length ≤ c1 ∧ (Kd.int .i64).C w A1 (rd_T155 xs i).f1.length (rd_T155 xs i).f1 := by
  obtain ⟨ad, c, e, _, hK, hc0⟩ := Kd.C_get h z155 i h0 h1
  have hc : ∀ j u, c[j]? = some u → w.cell? (ad.add (i.toNat * 2 + j)) = some u := hc0
  obtain ⟨A1, c1, rfl, l1, g1⟩ := k155_open hK
  exact ⟨ad, A1, c1, e, hc 0 _ rfl, by rw [← add_field _ _ 1 (by omega)]; exact hc 1 _ rfl, l1, g1⟩

/-! #### struct type 117 -/
structure S117 where
  f0 : ByteArray
  f1 : (List Int)
def z117 : S117 := ⟨(⟨#[]⟩ : ByteArray), ([] : List Int)⟩
def k117 : Kd S117 := Kd.iso (Kd.pair Kd.string (Kd.slice 3 (Kd.int .i64))) (fun x : S117 => (x.f0, x.f1))
theorem k117_open {w : World} {x : S117} {cs : List Value} (h : k117.K w x cs) : ∃ A1 c1, cs = [.string x.f0, .slice A1 x.f1.length c1] ∧ x.f1.length ≤ c1 ∧ (Kd.int .i64).C w A1 x.f1.length x.f1 := by
  obtain ⟨_, _, rfl, rfl, ⟨A1, c1, rfl, l1, g1⟩⟩ := h
  exact ⟨A1, c1, rfl, l1, g1⟩
theorem k117_openM {w : World} {base : Nat} {ok : Nat → Prop} {x : S117} {cs : List Value} (h : k117.M w base ok x cs) : ∃ v1, cs = [.string x.f0, v1] ∧ (Kd.int .i64).R 3 w base ok v1 x.f1 := by
  obtain ⟨_, _, rfl, rfl, ⟨v1, rfl, g1⟩⟩ := h
  exact ⟨v1, rfl, g1⟩
theorem k117_mk (w : World) (x : S117) {A1 : Option Addr} {c1 : Nat} (l1 : x.f1.length ≤ c1) (g1 : (Kd.int .i64).C w A1 x.f1.length x.f1) : k117.K w x [.string x.f0, .slice A1 x.f1.length c1] := ⟨[.string x.f0], [.slice A1 x.f1.length c1], rfl, rfl, ⟨A1, c1, rfl, l1, g1⟩⟩
theorem k117_mkM (w : World) (base : Nat) (ok : Nat → Prop) (x : S117) {v1 : Value} (g1 : (Kd.int .i64).R 3 w base ok v1 x.f1) : k117.M w base ok x [.string x.f0, v1] := ⟨[.string x.f0], [v1], rfl, rfl, ⟨v1, rfl, g1⟩⟩
def rd_T117 (xs : List S117) (i : Int) : S117 := xs.getD i.toNat z117
theorem at_T117 {w : World} {A : Option Addr} {n : Nat} {xs : List S117} (h : Kd.C k117 w A n xs) (i : Int) (h0 : 0 ≤ i) (h1 : i < n) : ∃ ad A1 c1, A = some ad ∧ w.cell? (ad.add (i.toNat * 2)) = some (.string (rd_T117 xs i).f0) ∧ w.cell? ⟨(ad.add (i.toNat * 2)).block, (ad.add (i.toNat * 2)).off + 1, none⟩ = some (.slice A1 (rd_T117 xs i).f1.length c1) ∧ (rd_T117 xs i).f1.length ≤ c1 ∧ (Kd.int .i64).C w A1 (rd_T117 xs i).f1.length (rd_T117 xs i).f1 := by
  obtain ⟨ad, c, e, _, hK, hc0⟩ := Kd.C_get h z117 i h0 h1
  have hc : ∀ j u, c[j]? = some u → w.cell? (ad.add (i.toNat * 2 + j)) = some u := hc0
  obtain ⟨A1, c1, rfl, l1, g1⟩ := k117_open hK
  exact ⟨ad, A1, c1, e, hc 0 _ rfl, by rw [← add_field _ _ 1 (by omega)]; exact hc 1 _ rfl, l1, g1⟩
/-! ### all92: function 92 -/
theorem clos92 {α : Type} {d : Kd α} {F : FuncId} {p : α → Option Bool} (hF : Asks1 F d (fun cs => .agg cs.toArray) p) (a : Addr) (x : α) (y0 y1 : Value) (r : Bool) (w : World) (hK : d.K w x [y0, y1]) (hc : w.cell? a = some (.func (.func F) #[] #[])) (h : p x = some r) :
    Calls Try.prog 136 #[.agg #[y0, y1], .pointer (some a)] w fun e w' => e = .returned (.bool !r) ∧ Below w.heap.size w w' := by
  obtain ⟨⟨fn, h1, h2, h3⟩, hF⟩ := hF
  have hb1 : Below w.heap.size w (w.alloc (.cells #[y0, y1] 117 (0, 0))) := (Below.refl _ _).alloc (Nat.le_refl _) _
  have H := Aside0.mk (show Calls Try.prog F #[.agg #[y0, y1]] (w.alloc (.cells #[y0, y1] 117 (0, 0))) _ from hF x [y0, y1] r _ (Kd.K_below _ hb1 hK) h)
  have HB0 := Aside0.mk hb1
  have hc2 : (w.alloc (.cells #[y0, y1] 117 (0, 0))).cell? a = some (.func (.func F) #[] #[]) := (hb1.cell (World.block_lt_of_cell? w _ hc)).trans hc
  have H1 := Aside0.mk h1
  have H2 := Aside0.mk h2
  have H3 := Aside0.mk h3
  have hu := Try.underlying117
  clear hF h h1 h2 h3 hK hb1
  go_enter Try.func136, Try.ntmps136
  go_wp2_with (first | ((with_reducible refine gate_dst (N := 6) rfl ?_); refine Stop.out ?_))
  refine ⟨?_⟩
  refine goesV (some 6) rfl rfl H1.out H2.out H3.out #[.agg #[y0, y1]] rfl (cap := #[]) ?hx ?hargs ?_
  case hx => rfl
  case hargs => simp [Act.eval]
  refine H.out.mono ?_
  rintro e w1 ⟨rfl, hb⟩
  refine ⟨_, rfl, ?_⟩
  have HB := Aside0.mk (HB0.out.trans (hb.mono HB0.out.size))
  clear hb
  go_wp2
  go_ret
  exact ⟨rfl, HB.out⟩
set_option maxHeartbeats 1000000 in
set_option maxRecDepth 100000 in
theorem idx92 {F : FuncId} {p : S117 → Option Bool} (hF : Asks1 F k117 (fun cs => .agg cs.toArray) p) (A0 : Option Addr) (c0 : Nat) (l0 : List S117) (a : Addr) (r : Bool) (w : World) (hr0 : Kd.C k117 w A0 l0.length l0) (hc0 : l0.length ≤ c0)
    (hcl : w.cell? a = some (.func (.func F) #[] #[])) (h : allO p l0 = some r) :
    Calls Try.prog 162 #[.slice A0 l0.length c0, .func (.func 136) #[] #[.pointer (some a)]] w (IdxPost r w) := by
  have hlen : l0.length ≤ 9223372036854775807 := hr0.2.1
  have HR0 := Aside0.mk hr0
  have HCL := Aside0.mk hcl
  have HF := Aside0.mk hF
  have H' := Aside0.mk h
  have HB := Aside0.mk (Below.refl w.heap.size w)
  clear hr0 hcl hF h
  go_enter Try.func162, Try.ntmps162
  go_wp2
  go_loopg [8] (l0.length + 1) (fun kq v8 w' => ∃ k : Nat, v8 = .int .i64 (k : Int) ∧ Aside0 (kq + k = l0.length + 1 ∧ k ≤ l0.length) ∧ Aside0 (allO p (l0.drop k) = some r) ∧ Aside0 (Below w.heap.size w w'))
  case atStart => exact ⟨0, rfl, ⟨by omega, by omega⟩, H', HB⟩
  case round =>
    clear H' HB
    obtain ⟨k, rfl, HK, HA, HB⟩ := hrel
    cases gk with
    | zero =>
      have hk := HK.out
      omega
    | succ k1 =>
      by_cases hlt : k < l0.length
      · have q1 : (k : Int) < (l0.length : Int) := by omega
        have p1 : 0 ≤ (k : Int) := by omega
        obtain ⟨ad, A1, c1, ea, hx0, hx1, l1, g1⟩ := at_T117 HR0.out (k : Int) p1 q1
        cases ea
        simp only [Int.toNat_natCast] at hx0 hx1
        replace hx0 := (HB.out.cell (World.block_lt_of_cell? w _ hx0)).trans hx0
        replace hx1 := (HB.out.cell (World.block_lt_of_cell? w _ hx1)).trans hx1
        have HKK := Aside0.mk (show k117.K w (rd_T117 l0 k) [.string ((rd_T117 l0 k).f0), .slice A1 (rd_T117 l0 k).f1.length c1] from k117_mk w _ l1 g1)
        clear l1 g1
        have HX := Aside0.mk (show ∃ b, p (rd_T117 l0 k) = some b ∧ (if b = true then allO p (l0.drop (k+1)) else some false) = some r from by
          have := HA.out
          rw [List.drop_eq_getElem_cons hlt] at this
          simp only [allO] at this
          obtain ⟨b, hb, h2⟩ := Option.bind_eq_some_iff.1 this
          refine ⟨b, ?_, h2⟩
          rw [← hb]; congr 1; simp [rd_T117, hlt])
        obtain ⟨b, hb, h2⟩ := HX.out
        have HPB := Aside0.mk hb
        have H2 := Aside0.mk h2
        have HCL2 := Aside0.mk ((HB.out.cell (World.block_lt_of_cell? w _ HCL.out)).trans HCL.out)
        clear HX hb h2 q1 p1 HA
        cases b with
        | true =>
          go_wp2_with (first | ((with_reducible refine gate_dst (N := 16) rfl ?_); refine goesV (some 16) rfl rfl Try.func136 (by kernel_rfl) rfl #[.agg #[.string ((rd_T117 l0 k).f0), .slice A1 (rd_T117 l0 k).f1.length c1], .pointer (some a)] rfl (cap := #[.pointer (some a)]) ?hx ?hargs ?_; (case hx => rfl); (case hargs => simp [Act.eval]); refine (clos92 HF.out a _ (.string ((rd_T117 l0 k).f0)) (.slice A1 (rd_T117 l0 k).f1.length c1) _ _ (Kd.K_below _ HB.out HKK.out) HCL2.out HPB.out).mono ?_; rintro e w2 ⟨rfl, hb⟩; refine ⟨_, rfl, ?_⟩; have HB2 := Aside0.mk (HB.out.trans (hb.mono HB.out.size)); clear hb))
          go_roundg k1
          case measure => omega
          case rel => exact ⟨k + 1, by simp, ⟨by have := HK.out; omega, by have := HK.out; omega⟩, ⟨by simpa using H2.out⟩, HB2⟩
        | false =>
          go_wp2_with (first | ((with_reducible refine gate_dst (N := 16) rfl ?_); refine goesV (some 16) rfl rfl Try.func136 (by kernel_rfl) rfl #[.agg #[.string ((rd_T117 l0 k).f0), .slice A1 (rd_T117 l0 k).f1.length c1], .pointer (some a)] rfl (cap := #[.pointer (some a)]) ?hx ?hargs ?_; (case hx => rfl); (case hargs => simp [Act.eval]); refine (clos92 HF.out a _ (.string ((rd_T117 l0 k).f0)) (.slice A1 (rd_T117 l0 k).f1.length c1) _ _ (Kd.K_below _ HB.out HKK.out) HCL2.out HPB.out).mono ?_; rintro e w2 ⟨rfl, hb⟩; refine ⟨_, rfl, ?_⟩; have HB2 := Aside0.mk (HB.out.trans (hb.mono HB.out.size)); clear hb))
          go_ret
          have hr : r = false := by have := H2.out; simpa using this.symm
          exact ⟨k, rfl, by rw [hr]; simp, HB2.out⟩
      · have hge : l0.length ≤ k := by omega
        go_wp2
        go_ret
        have hr : r = true := by
          have := HA.out
          rw [List.drop_of_length_le hge] at this
          simpa [allO] using this.symm
        exact ⟨-1, rfl, by rw [hr]; decide, HB.out⟩
theorem cont92 {F : FuncId} {p : S117 → Option Bool} (hF : Asks1 F k117 (fun cs => .agg cs.toArray) p) (A0 : Option Addr) (c0 : Nat) (l0 : List S117) (a : Addr) (r : Bool) (w : World) (hr0 : Kd.C k117 w A0 l0.length l0) (hc0 : l0.length ≤ c0)
    (hcl : w.cell? a = some (.func (.func F) #[] #[])) (h : allO p l0 = some r) :
    Calls Try.prog 135 #[.slice A0 l0.length c0, .func (.func 136) #[] #[.pointer (some a)]] w fun e w' => e = .returned (.bool !r) ∧ Below w.heap.size w w' := by
  have H := Aside0.mk (idx92 hF A0 c0 l0 a r w hr0 hc0 hcl h)
  clear hr0 hcl hF h
  go_enter Try.func135, Try.ntmps135
  go_wp2_with (go_at_call 162; (with_reducible refine H.out.mono ?_); rintro e w2 ⟨j, rfl, hj, hb⟩; have HJ := Aside0.mk hj; have HB := Aside0.mk hb; clear hj hb)
  go_ret
  exact ⟨by rw [← HJ.out]; rfl, HB.out⟩
theorem all92 {F : FuncId} {p : S117 → Option Bool} (hF : Asks1 F k117 (fun cs => .agg cs.toArray) p) (A0 : Option Addr) (c0 : Nat) (l0 : List S117) (r : Bool) (w : World) (hr0 : Kd.C k117 w A0 l0.length l0) (hc0 : l0.length ≤ c0)
    (h : allO p l0 = some r) :
    Calls Try.prog 92 #[.slice A0 l0.length c0, .func (.func F) #[] #[]] w fun e w' => e = .returned (.bool r) ∧ Below w.heap.size w w' := by
  have hb1 : ∀ o, Below w.heap.size w (w.alloc o) := fun o => (Below.refl _ _).alloc (Nat.le_refl _) o
  have H := Aside0.mk (cont92 hF A0 c0 l0 ⟨w.heap.size, 0, none⟩ r (w.alloc (.cells #[.func (.func F) #[] #[]] 123 (0, 0))) (Kd.C_below hr0 (hb1 _)) hc0 (by go_simp) h)
  have HB0 := Aside0.mk (hb1 (.cells #[.func (.func F) #[] #[]] 123 (0, 0)))
  clear hr0 hF h hb1
  go_enter Try.func92, Try.ntmps92
  go_wp2_with (go_at_call 135; (with_reducible refine H.out.mono ?_); rintro e w2 ⟨rfl, hb⟩; have HB := Aside0.mk (HB0.out.trans (hb.mono HB0.out.size)); clear hb)
  go_ret
  exact ⟨by simp, HB.out⟩
/-! ### all131: function 131 -/
theorem clos131 {α : Type} {d : Kd α} {val : List Value → Value} {F : FuncId} {p : α → Option Bool} (hF : Asks1 F d val p) (a : Addr) (x : α) (cs : List Value) (v : Value) (hv : val cs = v) (r : Bool) (w : World) (hK : d.K w x cs) (hc : w.cell? a = some (.func (.func F) #[] #[])) (h : p x = some r) :
    Calls Try.prog 159 #[v, .pointer (some a)] w fun e w' => e = .returned (.bool !r) ∧ Below w.heap.size w w' := by
  obtain ⟨⟨fn, h1, h2, h3⟩, hF⟩ := hF
  have h0 := hF x cs r w hK h
  rw [hv] at h0
  have H := Aside0.mk h0
  have H1 := Aside0.mk h1
  have H2 := Aside0.mk h2
  have H3 := Aside0.mk h3
  clear hF h h1 h2 h3 hK h0 hv
  go_enter Try.func159, Try.ntmps159
  go_wp2_with (first | ((with_reducible refine gate_dst (N := 6) rfl ?_); refine Stop.out ?_))
  refine ⟨?_⟩
  refine goesV (some 6) rfl rfl H1.out H2.out H3.out #[v] rfl (cap := #[]) ?hx ?hargs ?_
  case hx => rfl
  case hargs => simp [Act.eval]
  refine H.out.mono ?_
  rintro e w1 ⟨rfl, hb⟩
  refine ⟨_, rfl, ?_⟩
  have HB := Aside0.mk hb
  clear hb
  go_wp2
  go_ret
  exact ⟨rfl, HB.out⟩
set_option maxHeartbeats 1000000 in
set_option maxRecDepth 100000 in
theorem idx131 {F : FuncId} {p : Int → Option Bool} (hF : Asks1 F (Kd.int .i64) (fun cs => cs.headD undef) p) (A0 : Option Addr) (c0 : Nat) (l0 : List Int) (a : Addr) (r : Bool) (w : World) (hr0 : Kd.C (Kd.int .i64) w A0 l0.length l0) (hc0 : l0.length ≤ c0)
    (hcl : w.cell? a = some (.func (.func F) #[] #[])) (h : allO p l0 = some r) :
    Calls Try.prog 172 #[.slice A0 l0.length c0, .func (.func 159) #[] #[.pointer (some a)]] w (IdxPost r w) := by
  have hlen : l0.length ≤ 9223372036854775807 := hr0.2.1
  have HR0 := Aside0.mk hr0
  have HCL := Aside0.mk hcl
  have HF := Aside0.mk hF
  have H' := Aside0.mk h
  have HB := Aside0.mk (Below.refl w.heap.size w)
  clear hr0 hcl hF h
  go_enter Try.func172, Try.ntmps172
  go_wp2
  go_loopg [8] (l0.length + 1) (fun kq v8 w' => ∃ k : Nat, v8 = .int .i64 (k : Int) ∧ Aside0 (kq + k = l0.length + 1 ∧ k ≤ l0.length) ∧ Aside0 (allO p (l0.drop k) = some r) ∧ Aside0 (Below w.heap.size w w'))
  case atStart => exact ⟨0, rfl, ⟨by omega, by omega⟩, H', HB⟩
  case round =>
    clear H' HB
    obtain ⟨k, rfl, HK, HA, HB⟩ := hrel
    cases gk with
    | zero =>
      have hk := HK.out
      omega
    | succ k1 =>
      by_cases hlt : k < l0.length
      · have q1 : (k : Int) < (l0.length : Int) := by omega
        have p1 : 0 ≤ (k : Int) := by omega
        obtain ⟨ad, ea, hx⟩ := Kd.at_int HR0.out (k : Int) p1 q1
        cases ea
        rw [Int.toNat_natCast] at hx
        replace hx := (HB.out.cell (World.block_lt_of_cell? w _ hx)).trans hx
        have HKK := Aside0.mk (show (Kd.int .i64).K w (rd l0 k) [.int .i64 (rd l0 k)] from rfl)
        have HX := Aside0.mk (show ∃ b, p (rd l0 k) = some b ∧ (if b = true then allO p (l0.drop (k+1)) else some false) = some r from by
          have := HA.out
          rw [List.drop_eq_getElem_cons hlt] at this
          simp only [allO] at this
          obtain ⟨b, hb, h2⟩ := Option.bind_eq_some_iff.1 this
          refine ⟨b, ?_, h2⟩
          rw [← hb]; congr 1; simp [rd, rdOf, hlt])
        obtain ⟨b, hb, h2⟩ := HX.out
        have HPB := Aside0.mk hb
        have H2 := Aside0.mk h2
        have HCL2 := Aside0.mk ((HB.out.cell (World.block_lt_of_cell? w _ HCL.out)).trans HCL.out)
        clear HX hb h2 q1 p1 HA
        cases b with
        | true =>
          go_wp2_with (first | ((with_reducible refine gate_dst (N := 16) rfl ?_); refine goesV (some 16) rfl rfl Try.func159 (by kernel_rfl) rfl #[.int .i64 (rd l0 k), .pointer (some a)] rfl (cap := #[.pointer (some a)]) ?hx ?hargs ?_; (case hx => rfl); (case hargs => simp [Act.eval]); refine (clos131 HF.out a _ [.int .i64 (rd l0 k)] _ rfl _ _ (Kd.K_below _ HB.out HKK.out) HCL2.out HPB.out).mono ?_; rintro e w2 ⟨rfl, hb⟩; refine ⟨_, rfl, ?_⟩; have HB2 := Aside0.mk (HB.out.trans (hb.mono HB.out.size)); clear hb))
          go_roundg k1
          case measure => omega
          case rel => exact ⟨k + 1, by simp, ⟨by have := HK.out; omega, by have := HK.out; omega⟩, ⟨by simpa using H2.out⟩, HB2⟩
        | false =>
          go_wp2_with (first | ((with_reducible refine gate_dst (N := 16) rfl ?_); refine goesV (some 16) rfl rfl Try.func159 (by kernel_rfl) rfl #[.int .i64 (rd l0 k), .pointer (some a)] rfl (cap := #[.pointer (some a)]) ?hx ?hargs ?_; (case hx => rfl); (case hargs => simp [Act.eval]); refine (clos131 HF.out a _ [.int .i64 (rd l0 k)] _ rfl _ _ (Kd.K_below _ HB.out HKK.out) HCL2.out HPB.out).mono ?_; rintro e w2 ⟨rfl, hb⟩; refine ⟨_, rfl, ?_⟩; have HB2 := Aside0.mk (HB.out.trans (hb.mono HB.out.size)); clear hb))
          go_ret
          have hr : r = false := by have := H2.out; simpa using this.symm
          exact ⟨k, rfl, by rw [hr]; simp, HB2.out⟩
      · have hge : l0.length ≤ k := by omega
        go_wp2
        go_ret
        have hr : r = true := by
          have := HA.out
          rw [List.drop_of_length_le hge] at this
          simpa [allO] using this.symm
        exact ⟨-1, rfl, by rw [hr]; decide, HB.out⟩
theorem cont131 {F : FuncId} {p : Int → Option Bool} (hF : Asks1 F (Kd.int .i64) (fun cs => cs.headD undef) p) (A0 : Option Addr) (c0 : Nat) (l0 : List Int) (a : Addr) (r : Bool) (w : World) (hr0 : Kd.C (Kd.int .i64) w A0 l0.length l0) (hc0 : l0.length ≤ c0)
    (hcl : w.cell? a = some (.func (.func F) #[] #[])) (h : allO p l0 = some r) :
    Calls Try.prog 158 #[.slice A0 l0.length c0, .func (.func 159) #[] #[.pointer (some a)]] w fun e w' => e = .returned (.bool !r) ∧ Below w.heap.size w w' := by
  have H := Aside0.mk (idx131 hF A0 c0 l0 a r w hr0 hc0 hcl h)
  clear hr0 hcl hF h
  go_enter Try.func158, Try.ntmps158
  go_wp2_with (go_at_call 172; (with_reducible refine H.out.mono ?_); rintro e w2 ⟨j, rfl, hj, hb⟩; have HJ := Aside0.mk hj; have HB := Aside0.mk hb; clear hj hb)
  go_ret
  exact ⟨by rw [← HJ.out]; rfl, HB.out⟩
theorem all131 {F : FuncId} {p : Int → Option Bool} (hF : Asks1 F (Kd.int .i64) (fun cs => cs.headD undef) p) (A0 : Option Addr) (c0 : Nat) (l0 : List Int) (r : Bool) (w : World) (hr0 : Kd.C (Kd.int .i64) w A0 l0.length l0) (hc0 : l0.length ≤ c0)
    (h : allO p l0 = some r) :
    Calls Try.prog 131 #[.slice A0 l0.length c0, .func (.func F) #[] #[]] w fun e w' => e = .returned (.bool r) ∧ Below w.heap.size w w' := by
  have hb1 : ∀ o, Below w.heap.size w (w.alloc o) := fun o => (Below.refl _ _).alloc (Nat.le_refl _) o
  have H := Aside0.mk (cont131 hF A0 c0 l0 ⟨w.heap.size, 0, none⟩ r (w.alloc (.cells #[.func (.func F) #[] #[]] 87 (0, 0))) (Kd.C_below hr0 (hb1 _)) hc0 (by go_simp) h)
  have HB0 := Aside0.mk (hb1 (.cells #[.func (.func F) #[] #[]] 87 (0, 0)))
  clear hr0 hF h hb1
  go_enter Try.func131, Try.ntmps131
  go_wp2_with (go_at_call 158; (with_reducible refine H.out.mono ?_); rintro e w2 ⟨rfl, hb⟩; have HB := Aside0.mk (HB0.out.trans (hb.mono HB0.out.size)); clear hb)
  go_ret
  exact ⟨by simp, HB.out⟩
/-! ### impl_within: function 60 -/
def impl_within.f (a0 : Int) (a1 : Int) (a2 : Int) : Option (Bool) := if a1 ≤ a0 then (some (decide (a0 ≤ a2))) else (some false)
set_option maxHeartbeats 8000000 in
set_option maxRecDepth 100000 in
theorem impl_within.calls (a0 : Int) (a1 : Int) (a2 : Int) (r : Bool) (w : World) (h : impl_within.f a0 a1 a2 = some r) :
    Calls Try.prog 60 #[.int .i64 a0, .int .i64 a1, .int .i64 a2] w fun e w' => e = .returned (.bool r) ∧ Drawn0 w w' := by
  have H : (if a1 ≤ a0 then (some (decide (a0 ≤ a2))) else (some false)) = some r := h
  clear h
  by_cases c4 : a1 ≤ a0
  · rw [if_pos c4] at H
    have c4b0 : decide (a1 ≤ a0) = true := decide_eq_true c4
    clear c4
    obtain rfl := Option.some.inj H
    go_enter Try.func60, Try.ntmps60
    go_wp2
    go_ret
    exact ⟨by first | rfl | (simp; done) | (simp [*]; done), by repeat (first | exact Drawn0.refl _ | apply Drawn0.step)⟩
  · rw [if_neg c4] at H
    have c4b0 : decide (a1 ≤ a0) = false := decide_eq_false c4
    clear c4
    obtain rfl := Option.some.inj H
    go_enter Try.func60, Try.ntmps60
    go_wp2
    go_ret
    exact ⟨by first | rfl | (simp; done) | (simp [*]; done), by repeat (first | exact Drawn0.refl _ | apply Drawn0.step)⟩
/-! ### impl_isNumber: function 68 -/
def impl_isNumber.f (a0 : Int) : Option (Bool) := (impl_within.f a0 0 2147483647).bind fun t101 => (some t101)
set_option maxHeartbeats 8000000 in
set_option maxRecDepth 100000 in
theorem impl_isNumber.calls (a0 : Int) (r : Bool) (w : World) (h : impl_isNumber.f a0 = some r) :
    Calls Try.prog 68 #[.int .i64 a0] w fun e w' => e = .returned (.bool r) ∧ Drawn0 w w' := by
  have H : ((impl_within.f a0 0 2147483647).bind fun t101 => (some t101)) = some r := h
  clear h
  replace H := Option.bind_eq_some_iff.mp H
  obtain ⟨t101, A20, H⟩ := H
  replace H : (some t101) = some r := H
  have A2 := Aside0.mk A20
  clear A20
  obtain rfl := Option.some.inj H
  go_enter Try.func68, Try.ntmps68
  go_wp2_with (first | ((with_reducible refine gate_callee (f := 60) rfl ?_); refine goesL_ (some 4) rfl rfl Try.func60 (by kernel_rfl) rfl #[.int .i64 a0, .int .i64 0, .int .i64 2147483647] rfl (by (try simp only [List.map_toArray, List.map_cons, List.map_nil]); first | done | rfl | (simp only [List.length_drop, List.length_take]; rfl)) ?_; (with_reducible refine (impl_within.calls a0 0 2147483647 t101 _ A2.out).mono ?_); rintro e w' ⟨rfl, ⟨nd, rfl⟩⟩; refine ⟨_, rfl, ?_⟩))
  go_ret
  exact ⟨by first | rfl | (simp; done) | (simp [*]; done), by repeat (first | exact Drawn0.refl _ | apply Drawn0.step)⟩
/-! ### all131_impl_isNumber: function 131 -/
def all131_impl_isNumber.f (l0 : List Int) (_ : Unit) : Option Bool := allO (fun x => impl_isNumber.f x) l0
theorem all131_impl_isNumber.asks : Asks1 68 (Kd.int .i64) (fun cs => cs.headD undef) (fun x => impl_isNumber.f x) := ⟨⟨_, Try.func68, by kernel_rfl, rfl⟩, fun x cs r w hK h => by
  cases hK
  exact (impl_isNumber.calls x r w h).mono fun e w' hh => ⟨hh.1, hh.2.below⟩⟩
theorem all131_impl_isNumber.calls (A0 : Option Addr) (c0 : Nat) (l0 : List Int) (_u : Unit) (r : Bool) (w : World) (hr0 : Kd.C (Kd.int .i64) w A0 l0.length l0) (hc0 : l0.length ≤ c0) (h : all131_impl_isNumber.f l0 () = some r) :
    Calls Try.prog 131 #[.slice A0 l0.length c0, .func (.func 68) #[] #[]] w fun e w' => e = .returned (.bool r) ∧ Below w.heap.size w w' :=
  all131 (all131_impl_isNumber.asks) A0 c0 l0 r w hr0 hc0 h
/-! ### impl_areValues: function 89 -/
def impl_areValues.f (l0 : List Int) : Option (Bool) := if (l0.length : Int) ≤ 12 then ((all131_impl_isNumber.f l0 ()).bind fun t102 => (some t102)) else (some false)
set_option maxHeartbeats 8000000 in
set_option maxRecDepth 100000 in
theorem impl_areValues.calls (A0 : Option Addr) (c0 : Nat) (l0 : List Int) (r : Bool) (w : World) (hr0 : Kd.C (Kd.int .i64) w A0 l0.length l0) (hc0 : l0.length ≤ c0) (h : impl_areValues.f l0 = some r) :
    Calls Try.prog 89 #[.slice A0 l0.length c0] w fun e w' => e = .returned (.bool r) ∧ Below w.heap.size w w' := by
  have HR0 := Aside0.mk hr0
  have HC0 := Aside0.mk hc0
  clear hr0 hc0
  have HB := Aside0.mk (Below.refl w.heap.size w)
  have H : (if (l0.length : Int) ≤ 12 then ((all131_impl_isNumber.f l0 ()).bind fun t102 => (some t102)) else (some false)) = some r := h
  clear h
  by_cases c2 : (l0.length : Int) ≤ 12
  · rw [if_pos c2] at H
    have c2b0 : decide ((l0.length : Int) ≤ 12) = true := decide_eq_true c2
    have c2b1 : decide (l0.length ≤ 12) = true := decide_eq_true (by omega)
    clear c2
    replace H := Option.bind_eq_some_iff.mp H
    obtain ⟨t102, A30, H⟩ := H
    replace H : (some t102) = some r := H
    have A3 := Aside0.mk A30
    clear A30
    obtain rfl := Option.some.inj H
    go_enter Try.func89, Try.ntmps89
    go_wp2_with (first | (go_at_call 131; (with_reducible refine (all131_impl_isNumber.calls _ _ l0 () t102 _ ?side1 ?side2 A3.out).mono ?_); (case side1 => repeat (first | exact HR0.out | (with_reducible refine Kd.C_alloc ?_ _) | (with_reducible refine Kd.C_drewN ?_ _) | (with_reducible refine Kd.C_drew ?_))); (case side2 => exact HC0.out); rintro e w4 ⟨rfl, hb⟩; have n0_ := Aside0.mk (below_step (by repeat (first | (with_reducible first | exact HB.out | apply below_alloc | apply pw_below_drewN | apply below_drew1) | exact HB.out)) hb); clear HB; have HB := n0_; clear n0_; (try clear hb); (try clear hb2); (try clear hk); (try clear hi)))
    go_ret
    exact ⟨by first | rfl | (simp [errW_none, errW_some] <;> rfl) | (simp [*, errW_none, errW_some] <;> rfl), by repeat (first | (with_reducible first | exact HB.out | apply below_alloc | apply pw_below_drewN | apply below_drew1) | exact HB.out)⟩
  · rw [if_neg c2] at H
    have c2b0 : decide ((l0.length : Int) ≤ 12) = false := decide_eq_false c2
    have c2b1 : decide (l0.length ≤ 12) = false := decide_eq_false (by omega)
    clear c2
    obtain rfl := Option.some.inj H
    go_enter Try.func89, Try.ntmps89
    go_wp2
    go_ret
    exact ⟨by first | rfl | (simp [errW_none, errW_some] <;> rfl) | (simp [*, errW_none, errW_some] <;> rfl), by repeat (first | (with_reducible first | exact HB.out | apply below_alloc | apply pw_below_drewN | apply below_drew1) | exact HB.out)⟩
/-! ### impl_GuestOK_1: function 93 -/
def impl_GuestOK_1.f (a0_0 : ByteArray) (l0_1 : List Int) : Option (Bool) := (impl_areValues.f l0_1).bind fun t104 => (some t104)
set_option maxHeartbeats 8000000 in
set_option maxRecDepth 100000 in
theorem impl_GuestOK_1.calls (a0_0 : ByteArray) (A0_1 : Option Addr) (c0_1 : Nat) (l0_1 : List Int) (r : Bool) (w : World) (hr0_1 : Kd.C (Kd.int .i64) w A0_1 l0_1.length l0_1) (hc0_1 : l0_1.length ≤ c0_1) (h : impl_GuestOK_1.f a0_0 l0_1 = some r) :
    Calls Try.prog 93 #[.agg #[.string a0_0, .slice A0_1 l0_1.length c0_1]] w fun e w' => e = .returned (.bool r) ∧ Below w.heap.size w w' := by
  have hu117 := Try.underlying117
  have HR0_1 := Aside0.mk hr0_1
  have HC0_1 := Aside0.mk hc0_1
  clear hr0_1 hc0_1
  have HB := Aside0.mk (Below.refl w.heap.size w)
  have H : ((impl_areValues.f l0_1).bind fun t104 => (some t104)) = some r := h
  clear h
  replace H := Option.bind_eq_some_iff.mp H
  obtain ⟨t104, A20, H⟩ := H
  replace H : (some t104) = some r := H
  have A2 := Aside0.mk A20
  clear A20
  obtain rfl := Option.some.inj H
  go_enter Try.func93, Try.ntmps93
  go_wp2_with (first | ((with_reducible refine gate_dst (N := 1) rfl ?_); refine box_event ?hg (N := 1) ?hd (cs := #[.string a0_0, .slice A0_1 l0_1.length c0_1]) (t := 117) ?hr ?_; (case hd => rfl); (case hg => rfl); (case hr => first | (go_simp; done) | (go_simp; rfl)); intro gb103 hg w3 hbox hb; have n0_ := Aside0.mk (below_step (by repeat (first | (with_reducible first | exact HB.out | apply below_alloc | apply pw_below_drewN | apply below_drew1) | exact HB.out)) hb); have n1_ := Aside0.mk (hbox); have n2_ := Aside0.mk ((by rw [hg]; exact (below_size (by repeat (first | (with_reducible first | exact HB.out | apply below_alloc | apply pw_below_drewN | apply below_drew1) | exact HB.out))) : w.heap.size ≤ gb103)); have n3_ := Aside0.mk ((by rw [hg]; exact (below_size (by repeat (first | (with_reducible first | exact HB.out | apply below_alloc | apply pw_below_drewN | apply below_drew1) | exact HB.out))) : w.heap.size ≤ gb103)); clear HB; have HB := n0_; have BK103 := n1_; have GW103 := n2_; have GE103 := n3_; clear n0_ n1_ n2_ n3_; clear hb hbox hg; have hcz4_0 : w3.cell? ⟨gb103, 0, none⟩ = some (.string a0_0) := (blk_cell BK103.out 0).trans rfl; have hcz4_1 : w3.cell? ⟨gb103, 1, none⟩ = some (.slice A0_1 l0_1.length c0_1) := (blk_cell BK103.out 1).trans rfl; have hfz4_0 := blk_frozen BK103.out 0; have hfz4_1 := blk_frozen BK103.out 1) | ((with_reducible refine gate_callee (f := 89) rfl ?_); refine goesL_ (some 5) rfl rfl Try.func89 (by kernel_rfl) rfl #[.slice A0_1 l0_1.length c0_1] rfl (by (try simp only [List.map_toArray, List.map_cons, List.map_nil]); first | done | rfl | (simp only [List.length_drop, List.length_take]; rfl)) ?_; (with_reducible refine (impl_areValues.calls _ _ l0_1 t104 _ ?side1 ?side2 A2.out).mono ?_); (case side1 => repeat (first | exact (Kd.C_below HR0_1.out HB.out) | (with_reducible refine Kd.C_alloc ?_ _) | (with_reducible refine Kd.C_drewN ?_ _) | (with_reducible refine Kd.C_drew ?_))); (case side2 => exact HC0_1.out); rintro e w5 ⟨rfl, hb⟩; refine ⟨_, rfl, ?_⟩; have n0_ := Aside0.mk (blk_below (g := gb103) (o := .cells #[.string a0_0, .slice A0_1 l0_1.length c0_1] 117 (0, 0)) (by (with_reducible repeat (first | refine blk_drewN ?_ _ | refine blk_drew ?_ | refine blk_alloc ?_ _)); exact BK103.out) hb); have n1_ := Aside0.mk (below_step (by repeat (first | (with_reducible first | exact HB.out | apply below_alloc | apply pw_below_drewN | apply below_drew1 | refine below_set ?_ GE103.out) | exact HB.out)) hb); clear BK103; clear HB; have BK103 := n0_; have HB := n1_; clear n0_ n1_; (try clear hb); (try clear hb2); (try clear hk); (try clear hi)))
  go_ret
  exact ⟨by first | rfl | (simp [errW_none, errW_some] <;> rfl) | (simp [*, errW_none, errW_some] <;> rfl), by repeat (first | (with_reducible first | exact HB.out | apply below_alloc | apply pw_below_drewN | apply below_drew1 | refine below_set ?_ GE103.out) | exact HB.out)⟩
/-! ### all92_impl_GuestOK_1: function 92 -/
def all92_impl_GuestOK_1.f (l0 : List S117) (_ : Unit) : Option Bool := allO (fun x => impl_GuestOK_1.f x.f0 x.f1) l0
theorem all92_impl_GuestOK_1.asks : Asks1 93 k117 (fun cs => .agg cs.toArray) (fun x => impl_GuestOK_1.f x.f0 x.f1) := ⟨⟨_, Try.func93, by kernel_rfl, rfl⟩, fun x cs r w hK h => by
  obtain ⟨A1, c1, rfl, l1, g1⟩ := k117_open hK
  exact (impl_GuestOK_1.calls x.f0 A1 c1 x.f1 r w g1 l1 h).mono fun e w' hh => ⟨hh.1, hh.2⟩⟩
theorem all92_impl_GuestOK_1.calls (A0 : Option Addr) (c0 : Nat) (l0 : List S117) (_u : Unit) (r : Bool) (w : World) (hr0 : Kd.C k117 w A0 l0.length l0) (hc0 : l0.length ≤ c0) (h : all92_impl_GuestOK_1.f l0 () = some r) :
    Calls Try.prog 92 #[.slice A0 l0.length c0, .func (.func 93) #[] #[]] w fun e w' => e = .returned (.bool r) ∧ Below w.heap.size w w' :=
  all92 (all92_impl_GuestOK_1.asks) A0 c0 l0 r w hr0 hc0 h
/-! ### impl_Guest_names: function 91 -/
def impl_Guest_names.l0 : Nat → List ByteArray → List (S117) → Int → Int → Option (List ByteArray)
  | 0, _, _, _, _ => none
  | k + 1, x3, x8, x9, x10 => if x10 < x9 then (if 0 ≤ x10 then (if x10 < (x8.length : Int) then (if x3.length < 8796093022208 then (impl_Guest_names.l0 k (x3 ++ [(rd_T117 x8 x10).f0]) x8 x9 (wrap64 (x10 + 1))) else (none)) else (none)) else (none)) else (some x3)
def impl_Guest_names.f (k : Nat) (l0_0 : List Int) (l0_1 : List (S117)) : Option (List ByteArray) := impl_Guest_names.l0 k (([] : List ByteArray)) l0_1 (l0_1.length : Int) 0
theorem impl_Guest_names.mono_l : ∀ k, (∀ y0 y1 y2 y3, LeO (impl_Guest_names.l0 k y0 y1 y2 y3) (impl_Guest_names.l0 (k + 1) y0 y1 y2 y3))
  | 0 => fun _ _ _ _ r h => by simp [impl_Guest_names.l0] at h
  | k + 1 => by
    have ih0 := impl_Guest_names.mono_l k
    · intro y0 y1 y2 y3
      unfold impl_Guest_names.l0
      repeat' first
      | (with_reducible exact ih0 _ _ _ _)
      | (with_reducible exact LeO.refl _)
      | (with_reducible exact LeO.none _)
      | (with_reducible refine LeO.ite ?_ ?_)
      | (with_reducible refine LeO.bind ?_ (fun _ => ?_))
      | exact ih0 _ _ _ _
      | exact LeO.none _
      | refine LeO.ite ?_ ?_
      | refine LeO.bind ?_ (fun _ => ?_)
theorem impl_Guest_names.mono : ∀ a0 a1 k, LeO (impl_Guest_names.f k a0 a1) (impl_Guest_names.f (k + 1) a0 a1) := by
  intro a0 a1 k
  have ih0 := impl_Guest_names.mono_l k
  unfold impl_Guest_names.f
  repeat' first
      | (with_reducible exact ih0 _ _ _ _)
      | (with_reducible exact LeO.refl _)
      | (with_reducible exact LeO.none _)
      | (with_reducible refine LeO.ite ?_ ?_)
      | (with_reducible refine LeO.bind ?_ (fun _ => ?_))
      | exact ih0 _ _ _ _
      | exact LeO.none _
      | refine LeO.ite ?_ ?_
      | refine LeO.bind ?_ (fun _ => ?_)
set_option maxHeartbeats 8000000 in
set_option maxRecDepth 100000 in
theorem impl_Guest_names.calls (k : Nat) (A0_0 : Option Addr) (c0_0 : Nat) (l0_0 : List Int) (A0_1 : Option Addr) (c0_1 : Nat) (l0_1 : List (S117)) (r : List ByteArray) (w : World) (hr0_0 : Kd.C (Kd.int .i64) w A0_0 l0_0.length l0_0) (hc0_0 : l0_0.length ≤ c0_0) (hr0_1 : Kd.C k117 w A0_1 l0_1.length l0_1) (hc0_1 : l0_1.length ≤ c0_1) (h : impl_Guest_names.f k l0_0 l0_1 = some r) :
    Calls Try.prog 91 #[.agg #[.slice A0_0 l0_0.length c0_0, .slice A0_1 l0_1.length c0_1]] w fun e w' => ∃ v0_ : Value, e = .returned (v0_) ∧ Kd.R Kd.string 9 w' w.heap.size (fun _ => True) v0_ r ∧ Below w.heap.size w w' := by
 have hu69 := Try.underlying69
 have hu117 := Try.underlying117
 have HR0_0 := Aside0.mk hr0_0
 have HC0_0 := Aside0.mk hc0_0
 clear hr0_0 hc0_0
 have HR0_1 := Aside0.mk hr0_1
 have HC0_1 := Aside0.mk hc0_1
 clear hr0_1 hc0_1
 have HB := Aside0.mk (Below.refl w.heap.size w)
 have H : (impl_Guest_names.l0 k (([] : List ByteArray)) l0_1 (l0_1.length : Int) 0) = some r := h
 clear h
 obtain ⟨y1038, hy1038⟩ : ∃ y_ : List ByteArray, y_ = (([] : List ByteArray)) := ⟨_, rfl⟩
 replace H : (impl_Guest_names.l0 k y1038 l0_1 (l0_1.length : Int) 0) = some r := by first | (rw [hy1038]; with_reducible exact H) | (have H2_ := (Option.bind_some _ _).symm.trans H; rw [hy1038]; with_reducible exact H2_) | (have H2_ := (Option.bind_some _ _).symm.trans H; with_reducible exact H2_) | with_reducible exact H | (rw [hy1038]; exact H) | exact H
 have Ny1038 := Aside0.mk hy1038
 clear hy1038
 have H' := Aside0.mk H
 clear H
 go_enter Try.func91, Try.ntmps91
 go_wp2_with (first | ((with_reducible refine gate_dst (N := 1) rfl ?_); refine box_event ?hg (N := 1) ?hd (cs := #[.slice A0_0 l0_0.length c0_0, .slice A0_1 l0_1.length c0_1]) (t := 69) ?hr ?_; (case hd => rfl); (case hg => rfl); (case hr => first | (go_simp; done) | (go_simp; rfl)); intro gb1037 hg w2 hbox hb; have n0_ := Aside0.mk (below_step (by repeat (first | (with_reducible first | exact HB.out | apply below_alloc | apply pw_below_drewN | apply below_drew1) | exact HB.out)) hb); have n1_ := Aside0.mk (hbox); have n2_ := Aside0.mk ((by rw [hg]; exact (below_size (by repeat (first | (with_reducible first | exact HB.out | apply below_alloc | apply pw_below_drewN | apply below_drew1) | exact HB.out))) : w.heap.size ≤ gb1037)); have n3_ := Aside0.mk ((by rw [hg]; exact (below_size (by repeat (first | (with_reducible first | exact HB.out | apply below_alloc | apply pw_below_drewN | apply below_drew1) | exact HB.out))) : w.heap.size ≤ gb1037)); clear HB; have HB := n0_; have BK1037 := n1_; have GW1037 := n2_; have GE1037 := n3_; clear n0_ n1_ n2_ n3_; clear hb hbox hg) | ((with_reducible refine gate_dst (N := 6) rfl ?_); refine Kd.R_lit Kd.string _ 9 ?hg (N := 6) ?hd (xs := ([] : List ByteArray)) (inner := []) (ok := fun _ => True) (okp := fun _ => True) ?hr ?hp (fun _ hk => hk) trivial (Below.refl _ _) (Nat.le_refl _) (by simp) ?_; (case hd => rfl); (case hg => rfl); (case hr => first | (go_simp; done) | (go_simp; rfl)); (case hp => exact (Reps.none _ _)); intro v1039 w3 ho4 hb hg_ hnew_; clear hg_ hnew_; (first | rw [← Ny1038.out] at ho4 | (simp only [Int.reduceToNat] at ho4; rw [← Ny1038.out] at ho4)); have n0_ := Aside0.mk (Kd.R_lower ho4 (below_size (by repeat (first | (with_reducible first | exact HB.out | apply below_alloc | apply pw_below_drewN | apply below_drew1 | refine below_set ?_ GE1037.out) | exact HB.out)))); have n1_ := Aside0.mk (blk_below (g := gb1037) (o := .cells #[.slice A0_0 l0_0.length c0_0, .slice A0_1 l0_1.length c0_1] 69 (0, 0)) (by (with_reducible repeat (first | refine blk_drewN ?_ _ | refine blk_drew ?_ | refine blk_alloc ?_ _)); exact BK1037.out) hb); have n2_ := Aside0.mk (below_step (by repeat (first | (with_reducible first | exact HB.out | apply below_alloc | apply pw_below_drewN | apply below_drew1 | refine below_set ?_ GE1037.out) | exact HB.out)) hb); clear BK1037; clear HB; have HO1040 := n0_; have BK1037 := n1_; have HB := n2_; clear n0_ n1_ n2_; clear hb ho4; have hcz5_0 : w3.cell? ⟨gb1037, 0, none⟩ = some (.slice A0_0 l0_0.length c0_0) := (blk_cell BK1037.out 0).trans rfl; have hcz5_1 : w3.cell? ⟨gb1037, 1, none⟩ = some (.slice A0_1 l0_1.length c0_1) := (blk_cell BK1037.out 1).trans rfl; have hfz5_0 := blk_frozen BK1037.out 0; have hfz5_1 := blk_frozen BK1037.out 1))
 go_loopg [3, 10] k (fun kq v3 v10 w' => ∃ (x3_1 : List ByteArray) (x10_1 : Int), v10 = .int .i64 x10_1 ∧ Aside0 (impl_Guest_names.l0 kq x3_1 l0_1 (l0_1.length : Int) x10_1 = some r) ∧ Aside0 (kq ≤ k) ∧ Aside0 (Kd.R Kd.string 9 w' w.heap.size (fun _ => True) v3 x3_1) ∧ Aside0 (w'.heap[gb1037]? = some (.cells #[(.slice A0_0 l0_0.length c0_0), (.slice A0_1 l0_1.length c0_1)] 69 (0, 0))) ∧ Aside0 (Below w.heap.size w w'))
 case atStart => exact ⟨(y1038), (0), (by first | rfl | (simp; done) | (simp [*]; done)), H', ⟨Nat.le_refl _⟩, ⟨by (with_reducible repeat (first | apply Kd.R_alloc | apply Kd.R_drewN | apply Kd.R_drew)); exact HO1040.out⟩, ⟨by (with_reducible repeat (first | refine blk_drewN ?_ _ | refine blk_drew ?_ | refine blk_alloc ?_ _)); exact BK1037.out⟩, ⟨by repeat (first | (with_reducible first | exact HB.out | apply below_alloc | apply pw_below_drewN | apply below_drew1 | refine below_set ?_ GE1037.out) | exact HB.out)⟩⟩
 case round =>
  clear H'
  try clear p2
  try clear hcz5_0
  try clear hcz5_1
  try clear hfz5_0
  try clear hfz5_1
  obtain ⟨x3_1, x10_1, rfl, HA, HK1, HO_3, BK1037, HB⟩ := hrel
  cases gk with
  | zero => exact absurd HA.out (by simp [impl_Guest_names.l0])
  | succ k1 =>
   have H := HA.out
   clear HA
   simp only [impl_Guest_names.l0] at H
   by_cases c6 : x10_1 < (l0_1.length : Int)
   ·rw [if_pos c6] at H
    have c6b0 : decide (x10_1 < (l0_1.length : Int)) = true := decide_eq_true c6
    clear c6
    by_cases c7 : 0 ≤ x10_1
    ·rw [if_pos c7] at H
     have c7b0 : decide (0 ≤ x10_1) = true := decide_eq_true c7
     clear c7
     by_cases c8 : x10_1 < (l0_1.length : Int)
     ·rw [if_pos c8] at H
      have c8b0 : decide (x10_1 < (l0_1.length : Int)) = true := decide_eq_true c8
      clear c8
      by_cases c9 : x3_1.length < 8796093022208
      ·rw [if_pos c9] at H
       have LMc9 := Aside0.mk c9
       clear c9
       obtain ⟨y1043, hy1043⟩ : ∃ y_ : List ByteArray, y_ = (x3_1 ++ [(rd_T117 l0_1 x10_1).f0]) := ⟨_, rfl⟩
       replace H : (impl_Guest_names.l0 k1 y1043 l0_1 (l0_1.length : Int) (wrap64 (x10_1 + 1))) = some r := by first | (rw [hy1043]; with_reducible exact H) | (have H2_ := (Option.bind_some _ _).symm.trans H; rw [hy1043]; with_reducible exact H2_) | (have H2_ := (Option.bind_some _ _).symm.trans H; with_reducible exact H2_) | with_reducible exact H | (rw [hy1043]; exact H) | exact H
       have Ny1043 := Aside0.mk hy1043
       clear hy1043
       have H' := Aside0.mk H
       clear H
       have p1041 : 0 ≤ (x10_1 : Int) := of_decide_eq_true (by first | (with_reducible assumption) | assumption)
       have q1041 : x10_1 < (l0_1.length : Int) := of_decide_eq_true (by first | (with_reducible assumption) | assumption)
       obtain ⟨ad1041, A1041_1, c1041_1, e1041, hx1041_0, hx1041_1, hl1041_1, hi1041_1⟩ := at_T117 HR0_1.out x10_1 p1041 q1041
       cases e1041
       replace hx1041_0 := (HB.out.cell (World.block_lt_of_cell? w _ hx1041_0)).trans hx1041_0
       replace hx1041_1 := (HB.out.cell (World.block_lt_of_cell? w _ hx1041_1)).trans hx1041_1
       have HR1041_1 := Aside0.mk hi1041_1
       have HC1041_1 := Aside0.mk hl1041_1
       clear hi1041_1 hl1041_1
       replace p1041 := eq_true p1041
       replace q1041 := eq_true q1041
       go_wp2_with (first | ((with_reducible refine gate_dst (N := 5) rfl ?_); refine box_event ?hg (N := 5) ?hd (cs := #[.string (⟨#[]⟩ : ByteArray), .slice none 0 0]) (t := 117) ?hr ?_; (case hd => rfl); (case hg => rfl); (case hr => first | (go_simp; done) | (go_simp; rfl)); intro gb1042 hg w10 hbox hb; have n0_ := Aside0.mk (Kd.R_below (by (with_reducible repeat (first | apply Kd.R_alloc | apply Kd.R_drewN | apply Kd.R_drew)); exact HO_3.out) hb); have n1_ := Aside0.mk (blk_below (g := gb1037) (o := .cells #[.slice A0_0 l0_0.length c0_0, .slice (some ad1041) l0_1.length c0_1] 69 (0, 0)) (by (with_reducible repeat (first | refine blk_drewN ?_ _ | refine blk_drew ?_ | refine blk_alloc ?_ _)); exact BK1037.out) hb); have n2_ := Aside0.mk (below_step (by repeat (first | (with_reducible first | exact HB.out | apply below_alloc | apply pw_below_drewN | apply below_drew1 | refine below_set ?_ GE1037.out) | exact HB.out)) hb); have n3_ := Aside0.mk (hbox); have n4_ := Aside0.mk ((by rw [hg]; exact (below_size (by repeat (first | (with_reducible first | exact HB.out | apply below_alloc | apply pw_below_drewN | apply below_drew1 | refine below_set ?_ GE1037.out) | exact HB.out))) : w.heap.size ≤ gb1042)); have n5_ := Aside0.mk ((by rw [hg]; exact (below_size (by repeat (first | (with_reducible first | exact HB.out | apply below_alloc | apply pw_below_drewN | apply below_drew1 | refine below_set ?_ GE1037.out) | exact HB.out))) : w.heap.size ≤ gb1042)); have n6_ := Aside0.mk ((by rw [hg]; exact Nat.ne_of_lt (blk_lt (g := gb1037) (o := .cells #[.slice A0_0 l0_0.length c0_0, .slice (some ad1041) l0_1.length c0_1] 69 (0, 0)) (by (with_reducible repeat (first | refine blk_drewN ?_ _ | refine blk_drew ?_ | refine blk_alloc ?_ _)); exact BK1037.out)) : gb1037 ≠ gb1042)); have n7_ := Aside0.mk ((by rw [hg]; exact Nat.ne_of_gt (blk_lt (g := gb1037) (o := .cells #[.slice A0_0 l0_0.length c0_0, .slice (some ad1041) l0_1.length c0_1] 69 (0, 0)) (by (with_reducible repeat (first | refine blk_drewN ?_ _ | refine blk_drew ?_ | refine blk_alloc ?_ _)); exact BK1037.out)) : gb1042 ≠ gb1037)); clear HO_3; clear BK1037; clear HB; have HO_3 := n0_; have BK1037 := n1_; have HB := n2_; have BK1042 := n3_; have GW1042 := n4_; have GE1042 := n5_; have NB1037_1042 := n6_; have NB1042_1037 := n7_; clear n0_ n1_ n2_ n3_ n4_ n5_ n6_ n7_; clear hb hbox hg; have hnb11 := NB1042_1037.out; have hnc11 := NB1037_1042.out; have hcz12_0 : w10.cell? ⟨gb1042, 0, none⟩ = some (.string (⟨#[]⟩ : ByteArray)) := (blk_cell BK1042.out 0).trans rfl; have hcz12_1 : w10.cell? ⟨gb1042, 1, none⟩ = some (.slice none 0 0) := (blk_cell BK1042.out 1).trans rfl; have hfz12_0 := blk_frozen BK1042.out 0; have hfz12_1 := blk_frozen BK1042.out 1) | ((with_reducible refine gate_builtin (b := .append) (xs := #[.tmp 14, .tmp 17]) rfl ?_); at_builtin; refine Kd.R_append Kd.string (w0 := w) w.heap.size rfl (.tmp 14) (.tmp 17) 22 9 (.string ⟨#[]⟩) 16 rfl Try.underlying22 info9 rfl (by decide) (by omega) u3 x3_1 ((rd_T117 l0_1 x10_1).f0) [.string ((rd_T117 l0_1 x10_1).f0)] (fun _ => True) (fun _ => False) rfl (by first | (go_simp; done) | (go_simp; rfl)) ?aP (fun _ hk => hk.elim) ?aF ?aO ?aB ?aS ?aL ?_; (case aP => exact rfl); (case aB => exact (by repeat (first | (with_reducible first | exact HB.out | apply below_alloc | apply pw_below_drewN | apply below_drew1 | refine below_set ?_ GE1037.out | refine below_set ?_ GE1042.out) | exact HB.out))); (case aF => exact (fun _ _ => trivial)); (case aO => exact (by (with_reducible repeat (first | apply Kd.R_alloc | apply Kd.R_drewN | apply Kd.R_drew)); exact Kd.R_mono (Kd.R_far (p := ⟨gb1042, 1, none⟩) (Kd.R_far (p := ⟨gb1042, 0, none⟩) (Kd.R_types HO_3.out BK1042.out (by decide)) (fun _ hk => hk.2) (.string ((rd_T117 l0_1 x10_1).f0))) (fun _ hk => hk.2) (.slice A1041_1 ((rd_T117 l0_1 x10_1).f1).length c1041_1)) (fun _ hk => trivial))); (case aS => exact (below_size (by repeat (first | (with_reducible first | exact HB.out | apply below_alloc | apply pw_below_drewN | apply below_drew1 | refine below_set ?_ GE1037.out | refine below_set ?_ GE1042.out) | exact HB.out)))); (case aL => have := LMc9.out; omega); intro v1044 w13 ho hb hg hat; rw [← Ny1043.out] at ho; have n0_ := Aside0.mk (blk_grown (g := gb1037) (o := .cells #[.slice A0_0 l0_0.length c0_0, .slice (some ad1041) l0_1.length c0_1] 69 (0, 0)) (by (with_reducible repeat (first | refine blk_drewN ?_ _ | refine blk_drew ?_ | refine blk_alloc ?_ _)); refine blk_far ?_ NB1037_1042.out _; (with_reducible repeat (first | refine blk_drewN ?_ _ | refine blk_drew ?_ | refine blk_alloc ?_ _)); refine blk_far ?_ NB1037_1042.out _; (with_reducible repeat (first | refine blk_drewN ?_ _ | refine blk_drew ?_ | refine blk_alloc ?_ _)); exact BK1037.out) hg (Kd.R_ne HO_3.out BK1037.out (by decide))); have n1_ := Aside0.mk (blk_grown (g := gb1042) (o := .cells #[.string ((rd_T117 l0_1 x10_1).f0), .slice A1041_1 ((rd_T117 l0_1 x10_1).f1).length c1041_1] 117 (0, 0)) (by (with_reducible repeat (first | refine blk_drewN ?_ _ | refine blk_drew ?_ | refine blk_alloc ?_ _)); refine blk_put (cs := #[.string ((rd_T117 l0_1 x10_1).f0), .slice none 0 0]) ?_ 1 _ rfl; (with_reducible repeat (first | refine blk_drewN ?_ _ | refine blk_drew ?_ | refine blk_alloc ?_ _)); refine blk_put (cs := #[.string (⟨#[]⟩ : ByteArray), .slice none 0 0]) ?_ 0 _ rfl; (with_reducible repeat (first | refine blk_drewN ?_ _ | refine blk_drew ?_ | refine blk_alloc ?_ _)); exact BK1042.out) hg (Kd.R_ne HO_3.out BK1042.out (by decide))); have n2_ := Aside0.mk (hb); have n3_ := Aside0.mk (ho); clear BK1037; clear BK1042; clear HB; clear HO_3; have BK1037 := n0_; have BK1042 := n1_; have HB := n2_; have HO1045 := n3_; clear n0_ n1_ n2_ n3_; clear ho hb hg hat))
       go_roundg k1
       case measure => have := HK1.out; omega
       case rel => exact ⟨(y1043), (wrap64 (x10_1 + 1)), (by first | rfl | (simp; done) | (simp [*]; done)), H', ⟨by have := HK1.out; omega⟩, ⟨by (with_reducible repeat (first | apply Kd.R_alloc | apply Kd.R_drewN | apply Kd.R_drew)); exact HO1045.out⟩, ⟨by (with_reducible repeat (first | refine blk_drewN ?_ _ | refine blk_drew ?_ | refine blk_alloc ?_ _)); exact BK1037.out⟩, ⟨by repeat (first | (with_reducible first | exact HB.out | apply below_alloc | apply pw_below_drewN | apply below_drew1 | refine below_set ?_ GE1037.out | refine below_set ?_ GE1042.out) | exact HB.out)⟩⟩
      ·rw [if_neg c9] at H
       exact absurd H (by simp)
     ·rw [if_neg c8] at H
      exact absurd H (by simp)
    ·rw [if_neg c7] at H
     exact absurd H (by simp)
   ·rw [if_neg c6] at H
    have c6b0 : decide (x10_1 < (l0_1.length : Int)) = false := decide_eq_false c6
    clear c6
    obtain rfl := Option.some.inj H
    go_wp2
    go_ret
    exact ⟨_, by first | rfl | (simp [errW_none, errW_some] <;> rfl) | (simp [*, errW_none, errW_some] <;> rfl), by (with_reducible repeat (first | apply Kd.R_alloc | apply Kd.R_drewN | apply Kd.R_drew)); exact HO_3.out, by repeat (first | (with_reducible first | exact HB.out | apply below_alloc | apply pw_below_drewN | apply below_drew1 | refine below_set ?_ GE1037.out) | exact HB.out)⟩
/-! ### all103: function 103 -/
theorem clos103 {α : Type} {d : Kd α} {val : List Value → Value} {F : FuncId} {p : α → Option Bool} (hF : Asks1 F d val p) (a : Addr) (x : α) (cs : List Value) (v : Value) (hv : val cs = v) (r : Bool) (w : World) (hK : d.K w x cs) (hc : w.cell? a = some (.func (.func F) #[] #[])) (h : p x = some r) :
    Calls Try.prog 141 #[v, .pointer (some a)] w fun e w' => e = .returned (.bool !r) ∧ Below w.heap.size w w' := by
  obtain ⟨⟨fn, h1, h2, h3⟩, hF⟩ := hF
  have h0 := hF x cs r w hK h
  rw [hv] at h0
  have H := Aside0.mk h0
  have H1 := Aside0.mk h1
  have H2 := Aside0.mk h2
  have H3 := Aside0.mk h3
  clear hF h h1 h2 h3 hK h0 hv
  go_enter Try.func141, Try.ntmps141
  go_wp2_with (first | ((with_reducible refine gate_dst (N := 6) rfl ?_); refine Stop.out ?_))
  refine ⟨?_⟩
  refine goesV (some 6) rfl rfl H1.out H2.out H3.out #[v] rfl (cap := #[]) ?hx ?hargs ?_
  case hx => rfl
  case hargs => simp [Act.eval]
  refine H.out.mono ?_
  rintro e w1 ⟨rfl, hb⟩
  refine ⟨_, rfl, ?_⟩
  have HB := Aside0.mk hb
  clear hb
  go_wp2
  go_ret
  exact ⟨rfl, HB.out⟩
set_option maxHeartbeats 1000000 in
set_option maxRecDepth 100000 in
theorem idx103 {F : FuncId} {p : ByteArray → Option Bool} (hF : Asks1 F Kd.string (fun cs => cs.headD undef) p) (A0 : Option Addr) (c0 : Nat) (l0 : List ByteArray) (a : Addr) (r : Bool) (w : World) (hr0 : Kd.C Kd.string w A0 l0.length l0) (hc0 : l0.length ≤ c0)
    (hcl : w.cell? a = some (.func (.func F) #[] #[])) (h : allO p l0 = some r) :
    Calls Try.prog 163 #[.slice A0 l0.length c0, .func (.func 141) #[] #[.pointer (some a)]] w (IdxPost r w) := by
  have hlen : l0.length ≤ 9223372036854775807 := hr0.2.1
  have HR0 := Aside0.mk hr0
  have HCL := Aside0.mk hcl
  have HF := Aside0.mk hF
  have H' := Aside0.mk h
  have HB := Aside0.mk (Below.refl w.heap.size w)
  clear hr0 hcl hF h
  go_enter Try.func163, Try.ntmps163
  go_wp2
  go_loopg [8] (l0.length + 1) (fun kq v8 w' => ∃ k : Nat, v8 = .int .i64 (k : Int) ∧ Aside0 (kq + k = l0.length + 1 ∧ k ≤ l0.length) ∧ Aside0 (allO p (l0.drop k) = some r) ∧ Aside0 (Below w.heap.size w w'))
  case atStart => exact ⟨0, rfl, ⟨by omega, by omega⟩, H', HB⟩
  case round =>
    clear H' HB
    obtain ⟨k, rfl, HK, HA, HB⟩ := hrel
    cases gk with
    | zero =>
      have hk := HK.out
      omega
    | succ k1 =>
      by_cases hlt : k < l0.length
      · have q1 : (k : Int) < (l0.length : Int) := by omega
        have p1 : 0 ≤ (k : Int) := by omega
        obtain ⟨ad, ea, hx⟩ := Kd.at_string HR0.out (k : Int) p1 q1
        cases ea
        rw [Int.toNat_natCast] at hx
        replace hx := (HB.out.cell (World.block_lt_of_cell? w _ hx)).trans hx
        have HKK := Aside0.mk (show Kd.string.K w (rdOf ByteArray.empty l0 k) [.string (rdOf ByteArray.empty l0 k)] from rfl)
        have HX := Aside0.mk (show ∃ b, p (rdOf ByteArray.empty l0 k) = some b ∧ (if b = true then allO p (l0.drop (k+1)) else some false) = some r from by
          have := HA.out
          rw [List.drop_eq_getElem_cons hlt] at this
          simp only [allO] at this
          obtain ⟨b, hb, h2⟩ := Option.bind_eq_some_iff.1 this
          refine ⟨b, ?_, h2⟩
          rw [← hb]; congr 1; simp [rd, rdOf, hlt])
        obtain ⟨b, hb, h2⟩ := HX.out
        have HPB := Aside0.mk hb
        have H2 := Aside0.mk h2
        have HCL2 := Aside0.mk ((HB.out.cell (World.block_lt_of_cell? w _ HCL.out)).trans HCL.out)
        clear HX hb h2 q1 p1 HA
        cases b with
        | true =>
          go_wp2_with (first | ((with_reducible refine gate_dst (N := 16) rfl ?_); refine goesV (some 16) rfl rfl Try.func141 (by kernel_rfl) rfl #[.string (rdOf ByteArray.empty l0 k), .pointer (some a)] rfl (cap := #[.pointer (some a)]) ?hx ?hargs ?_; (case hx => rfl); (case hargs => simp [Act.eval]); refine (clos103 HF.out a _ [.string (rdOf ByteArray.empty l0 k)] _ rfl _ _ (Kd.K_below _ HB.out HKK.out) HCL2.out HPB.out).mono ?_; rintro e w2 ⟨rfl, hb⟩; refine ⟨_, rfl, ?_⟩; have HB2 := Aside0.mk (HB.out.trans (hb.mono HB.out.size)); clear hb))
          go_roundg k1
          case measure => omega
          case rel => exact ⟨k + 1, by simp, ⟨by have := HK.out; omega, by have := HK.out; omega⟩, ⟨by simpa using H2.out⟩, HB2⟩
        | false =>
          go_wp2_with (first | ((with_reducible refine gate_dst (N := 16) rfl ?_); refine goesV (some 16) rfl rfl Try.func141 (by kernel_rfl) rfl #[.string (rdOf ByteArray.empty l0 k), .pointer (some a)] rfl (cap := #[.pointer (some a)]) ?hx ?hargs ?_; (case hx => rfl); (case hargs => simp [Act.eval]); refine (clos103 HF.out a _ [.string (rdOf ByteArray.empty l0 k)] _ rfl _ _ (Kd.K_below _ HB.out HKK.out) HCL2.out HPB.out).mono ?_; rintro e w2 ⟨rfl, hb⟩; refine ⟨_, rfl, ?_⟩; have HB2 := Aside0.mk (HB.out.trans (hb.mono HB.out.size)); clear hb))
          go_ret
          have hr : r = false := by have := H2.out; simpa using this.symm
          exact ⟨k, rfl, by rw [hr]; simp, HB2.out⟩
      · have hge : l0.length ≤ k := by omega
        go_wp2
        go_ret
        have hr : r = true := by
          have := HA.out
          rw [List.drop_of_length_le hge] at this
          simpa [allO] using this.symm
        exact ⟨-1, rfl, by rw [hr]; decide, HB.out⟩
theorem cont103 {F : FuncId} {p : ByteArray → Option Bool} (hF : Asks1 F Kd.string (fun cs => cs.headD undef) p) (A0 : Option Addr) (c0 : Nat) (l0 : List ByteArray) (a : Addr) (r : Bool) (w : World) (hr0 : Kd.C Kd.string w A0 l0.length l0) (hc0 : l0.length ≤ c0)
    (hcl : w.cell? a = some (.func (.func F) #[] #[])) (h : allO p l0 = some r) :
    Calls Try.prog 140 #[.slice A0 l0.length c0, .func (.func 141) #[] #[.pointer (some a)]] w fun e w' => e = .returned (.bool !r) ∧ Below w.heap.size w w' := by
  have H := Aside0.mk (idx103 hF A0 c0 l0 a r w hr0 hc0 hcl h)
  clear hr0 hcl hF h
  go_enter Try.func140, Try.ntmps140
  go_wp2_with (go_at_call 163; (with_reducible refine H.out.mono ?_); rintro e w2 ⟨j, rfl, hj, hb⟩; have HJ := Aside0.mk hj; have HB := Aside0.mk hb; clear hj hb)
  go_ret
  exact ⟨by rw [← HJ.out]; rfl, HB.out⟩
theorem all103 {F : FuncId} {p : ByteArray → Option Bool} (hF : Asks1 F Kd.string (fun cs => cs.headD undef) p) (A0 : Option Addr) (c0 : Nat) (l0 : List ByteArray) (r : Bool) (w : World) (hr0 : Kd.C Kd.string w A0 l0.length l0) (hc0 : l0.length ≤ c0)
    (h : allO p l0 = some r) :
    Calls Try.prog 103 #[.slice A0 l0.length c0, .func (.func F) #[] #[]] w fun e w' => e = .returned (.bool r) ∧ Below w.heap.size w w' := by
  have hb1 : ∀ o, Below w.heap.size w (w.alloc o) := fun o => (Below.refl _ _).alloc (Nat.le_refl _) o
  have H := Aside0.mk (cont103 hF A0 c0 l0 ⟨w.heap.size, 0, none⟩ r (w.alloc (.cells #[.func (.func F) #[] #[]] 115 (0, 0))) (Kd.C_below hr0 (hb1 _)) hc0 (by go_simp) h)
  have HB0 := Aside0.mk (hb1 (.cells #[.func (.func F) #[] #[]] 115 (0, 0)))
  clear hr0 hF h hb1
  go_enter Try.func103, Try.ntmps103
  go_wp2_with (go_at_call 140; (with_reducible refine H.out.mono ?_); rintro e w2 ⟨rfl, hb⟩; have HB := Aside0.mk (HB0.out.trans (hb.mono HB0.out.size)); clear hb)
  go_ret
  exact ⟨by simp, HB.out⟩
/-! ### impl_snapNameOK: function 133 -/
def impl_snapNameOK.l0 : Nat → ByteArray → Int → Int → Option (Bool)
  | 0, _, _, _ => none
  | k + 1, x0, x5, x6 => if x6 < x5 then (if 0 ≤ x6 then (if x6 < (x0.size : Int) then (if (bt x0 x6) < 97 then (some false) else (if (bt x0 x6) > 122 then (some false) else (impl_snapNameOK.l0 k x0 x5 (wrap64 (x6 + 1))))) else (none)) else (none)) else ((impl_within.f (x0.size : Int) 1 6).bind fun t1022 => (some t1022))
def impl_snapNameOK.f (k : Nat) (a0 : ByteArray) : Option (Bool) := impl_snapNameOK.l0 k a0 (a0.size : Int) 0
theorem impl_snapNameOK.mono_l : ∀ k, (∀ y0 y1 y2, LeO (impl_snapNameOK.l0 k y0 y1 y2) (impl_snapNameOK.l0 (k + 1) y0 y1 y2))
  | 0 => fun _ _ _ r h => by simp [impl_snapNameOK.l0] at h
  | k + 1 => by
    have ih0 := impl_snapNameOK.mono_l k
    · intro y0 y1 y2
      unfold impl_snapNameOK.l0
      repeat' first
      | (with_reducible exact ih0 _ _ _)
      | (with_reducible exact LeO.refl _)
      | (with_reducible exact LeO.none _)
      | (with_reducible refine LeO.ite ?_ ?_)
      | (with_reducible refine LeO.bind ?_ (fun _ => ?_))
      | exact ih0 _ _ _
      | exact LeO.none _
      | refine LeO.ite ?_ ?_
      | refine LeO.bind ?_ (fun _ => ?_)
theorem impl_snapNameOK.mono : ∀ a0 k, LeO (impl_snapNameOK.f k a0) (impl_snapNameOK.f (k + 1) a0) := by
  intro a0 k
  have ih0 := impl_snapNameOK.mono_l k
  unfold impl_snapNameOK.f
  repeat' first
      | (with_reducible exact ih0 _ _ _)
      | (with_reducible exact LeO.refl _)
      | (with_reducible exact LeO.none _)
      | (with_reducible refine LeO.ite ?_ ?_)
      | (with_reducible refine LeO.bind ?_ (fun _ => ?_))
      | exact ih0 _ _ _
      | exact LeO.none _
      | refine LeO.ite ?_ ?_
      | refine LeO.bind ?_ (fun _ => ?_)
set_option maxHeartbeats 8000000 in
set_option maxRecDepth 100000 in
theorem impl_snapNameOK.calls (k : Nat) (a0 : ByteArray) (r : Bool) (w : World) (h : impl_snapNameOK.f k a0 = some r) :
    Calls Try.prog 133 #[.string a0] w fun e w' => e = .returned (.bool r) ∧ Drawn0 w w' := by
  have H : (impl_snapNameOK.l0 k a0 (a0.size : Int) 0) = some r := h
  clear h
  have H' := Aside0.mk H
  clear H
  go_enter Try.func133, Try.ntmps133
  go_wp2
  go_loopg [6] k (fun kq v6 w' => ∃ (x6_1 : Int), v6 = .int .i64 x6_1 ∧ Aside0 (impl_snapNameOK.l0 kq a0 (a0.size : Int) x6_1 = some r) ∧ Aside0 (kq ≤ k) ∧ Drawn0 w w')
  case atStart => exact ⟨(0), (by first | rfl | (simp; done) | (simp [*]; done)), H', ⟨Nat.le_refl _⟩, by repeat (first | exact Drawn0.refl _ | apply Drawn0.step)⟩
  case round =>
    clear H'
    try clear c1
    obtain ⟨x6_1, rfl, HA, HK1, ⟨m1, rfl⟩⟩ := hrel
    cases gk with
    | zero => exact absurd HA.out (by simp [impl_snapNameOK.l0])
    | succ k1 =>
      have H := HA.out
      clear HA
      simp only [impl_snapNameOK.l0] at H
      by_cases c2 : x6_1 < (a0.size : Int)
      · rw [if_pos c2] at H
        have c2b0 : decide (x6_1 < (a0.size : Int)) = true := decide_eq_true c2
        clear c2
        by_cases c3 : 0 ≤ x6_1
        · rw [if_pos c3] at H
          have c3b0 : decide (0 ≤ x6_1) = true := decide_eq_true c3
          clear c3
          by_cases c4 : x6_1 < (a0.size : Int)
          · rw [if_pos c4] at H
            have c4b0 : decide (x6_1 < (a0.size : Int)) = true := decide_eq_true c4
            clear c4
            by_cases c6 : (bt a0 x6_1) < 97
            · rw [if_pos c6] at H
              have c6b0 : decide ((bt a0 x6_1) < 97) = true := decide_eq_true c6
              clear c6
              obtain rfl := Option.some.inj H
              have p5 : 0 ≤ (x6_1 : Int) := of_decide_eq_true (by first | (with_reducible assumption) | assumption)
              have q5 : x6_1 < (a0.size : Int) := of_decide_eq_true (by first | (with_reducible assumption) | assumption)
              have hx5 := bt_at a0 x6_1
              replace p5 := eq_true p5
              replace q5 := eq_true q5
              go_wp2
              go_ret
              exact ⟨by first | rfl | (simp; done) | (simp [*]; done), by repeat (first | exact Drawn0.refl _ | apply Drawn0.step)⟩
            · rw [if_neg c6] at H
              have c6b0 : decide ((bt a0 x6_1) < 97) = false := decide_eq_false c6
              clear c6
              by_cases c8 : (bt a0 x6_1) > 122
              · rw [if_pos c8] at H
                have c8b0 : decide (122 < (bt a0 x6_1)) = true := decide_eq_true c8
                clear c8
                obtain rfl := Option.some.inj H
                have p5 : 0 ≤ (x6_1 : Int) := of_decide_eq_true (by first | (with_reducible assumption) | assumption)
                have q5 : x6_1 < (a0.size : Int) := of_decide_eq_true (by first | (with_reducible assumption) | assumption)
                have hx5 := bt_at a0 x6_1
                replace p5 := eq_true p5
                replace q5 := eq_true q5
                have p7 : 0 ≤ (x6_1 : Int) := of_decide_eq_true (by first | (with_reducible assumption) | assumption)
                have q7 : x6_1 < (a0.size : Int) := of_decide_eq_true (by first | (with_reducible assumption) | assumption)
                have hx7 := bt_at a0 x6_1
                replace p7 := eq_true p7
                replace q7 := eq_true q7
                go_wp2
                go_ret
                exact ⟨by first | rfl | (simp; done) | (simp [*]; done), by repeat (first | exact Drawn0.refl _ | apply Drawn0.step)⟩
              · rw [if_neg c8] at H
                have c8b0 : decide (122 < (bt a0 x6_1)) = false := decide_eq_false c8
                clear c8
                have H' := Aside0.mk H
                clear H
                have p5 : 0 ≤ (x6_1 : Int) := of_decide_eq_true (by first | (with_reducible assumption) | assumption)
                have q5 : x6_1 < (a0.size : Int) := of_decide_eq_true (by first | (with_reducible assumption) | assumption)
                have hx5 := bt_at a0 x6_1
                replace p5 := eq_true p5
                replace q5 := eq_true q5
                have p7 : 0 ≤ (x6_1 : Int) := of_decide_eq_true (by first | (with_reducible assumption) | assumption)
                have q7 : x6_1 < (a0.size : Int) := of_decide_eq_true (by first | (with_reducible assumption) | assumption)
                have hx7 := bt_at a0 x6_1
                replace p7 := eq_true p7
                replace q7 := eq_true q7
                go_wp2
                go_roundg k1
                case measure => have := HK1.out; omega
                case rel => exact ⟨(wrap64 (x6_1 + 1)), (by first | rfl | (simp; done) | (simp [*]; done)), H', ⟨by have := HK1.out; omega⟩, by repeat (first | exact Drawn0.refl _ | apply Drawn0.step)⟩
          · rw [if_neg c4] at H
            exact absurd H (by simp)
        · rw [if_neg c3] at H
          exact absurd H (by simp)
      · rw [if_neg c2] at H
        have c2b0 : decide (x6_1 < (a0.size : Int)) = false := decide_eq_false c2
        clear c2
        replace H := Option.bind_eq_some_iff.mp H
        obtain ⟨t1022, A90, H⟩ := H
        replace H : (some t1022) = some r := H
        have A9 := Aside0.mk A90
        clear A90
        obtain rfl := Option.some.inj H
        go_wp2_with (first | ((with_reducible refine gate_callee (f := 60) rfl ?_); refine goesL_ (some 22) rfl rfl Try.func60 (by kernel_rfl) rfl #[.int .i64 (a0.size : Int), .int .i64 1, .int .i64 6] rfl (by (try simp only [List.map_toArray, List.map_cons, List.map_nil]); first | done | rfl | (simp only [List.length_drop, List.length_take]; rfl)) ?_; (with_reducible refine (impl_within.calls (a0.size : Int) 1 6 t1022 _ A9.out).mono ?_); rintro e w' ⟨rfl, ⟨nd, rfl⟩⟩; refine ⟨_, rfl, ?_⟩))
        go_ret
        exact ⟨by first | rfl | (simp; done) | (simp [*]; done), by repeat (first | exact Drawn0.refl _ | apply Drawn0.step)⟩

-- NOT PRINTED: function 134 (slices_Compact_string_string)
/-! ### all103_impl_snapNameOK: function 103 -/
def all103_impl_snapNameOK.f (k : Nat) (l0 : List ByteArray) (_ : Unit) : Option Bool := allO (fun x => impl_snapNameOK.f k x) l0
theorem all103_impl_snapNameOK.mono : ∀ a0 a1 k, LeO (all103_impl_snapNameOK.f k a0 a1) (all103_impl_snapNameOK.f (k + 1) a0 a1) := fun l u k => allO_mono (fun x => impl_snapNameOK.mono x k) l
theorem all103_impl_snapNameOK.asks (k : Nat) : Asks1 133 Kd.string (fun cs => cs.headD undef) (fun x => impl_snapNameOK.f k x) := ⟨⟨_, Try.func133, by kernel_rfl, rfl⟩, fun x cs r w hK h => by
  cases hK
  exact (impl_snapNameOK.calls k x r w h).mono fun e w' hh => ⟨hh.1, hh.2.below⟩⟩
theorem all103_impl_snapNameOK.calls (k : Nat) (A0 : Option Addr) (c0 : Nat) (l0 : List ByteArray) (_u : Unit) (r : Bool) (w : World) (hr0 : Kd.C Kd.string w A0 l0.length l0) (hc0 : l0.length ≤ c0) (h : all103_impl_snapNameOK.f k l0 () = some r) :
    Calls Try.prog 103 #[.slice A0 l0.length c0, .func (.func 133) #[] #[]] w fun e w' => e = .returned (.bool r) ∧ Below w.heap.size w w' :=
  all103 (all103_impl_snapNameOK.asks k) A0 c0 l0 r w hr0 hc0 h
/-! ### slices_Clone_string_string: function 109 -/
def slices_Clone_string_string.f (l0 : List ByteArray) : Option (List ByteArray) := if l0.length < 8796093022208 then some l0 else none
set_option maxHeartbeats 1000000 in
set_option maxRecDepth 100000 in
theorem slices_Clone_string_string.calls (A0 : Option Addr) (c0 : Nat) (l0 : List ByteArray) (r : List ByteArray) (w : World) (hr0 : Kd.C Kd.string w A0 l0.length l0) (hc0 : l0.length ≤ c0) (h : slices_Clone_string_string.f l0 = some r) :
    Calls Try.prog 109 #[.slice A0 l0.length c0] w fun e w' => ∃ v : Value, e = .returned v ∧ Kd.R Kd.string 9 w' w.heap.size (fun _ => True) v r ∧ Below w.heap.size w w' := by
  have hlim : l0.length < 8796093022208 := by
    unfold slices_Clone_string_string.f at h; split at h
    · assumption
    · cases h
  have hres : l0 = r := by unfold slices_Clone_string_string.f at h; rw [if_pos hlim] at h; exact Option.some.inj h
  subst hres
  have HR0 := Aside0.mk hr0
  have HB := Aside0.mk (Below.refl w.heap.size w)
  have LM := Aside0.mk hlim
  have heq := fun (wx : World) (a : Option Addr) => Lib.run_eql_slice_nil (P := Try.prog) wx 22 9 a l0.length c0 0 0 Try.underlying22
  clear hr0 h hlim
  cases A0 with
  | none =>
    have hl : l0 = [] := by
      by_cases hn : 0 < l0.length
      · obtain ⟨ad, ha, _⟩ := HR0.out.2.2 hn
        cases ha
      · exact List.eq_nil_of_length_eq_zero (by omega)
    subst hl
    simp only [List.length_nil] at heq
    clear HR0 LM
    go_enter Try.func109, Try.ntmps109
    go_wp2
    go_ret
    exact ⟨_, rfl, Kd.R_nil _ _ _ _ _, HB.out⟩
  | some a =>
    go_enter Try.func109, Try.ntmps109
    go_wp2_with (first | ((with_reducible refine gate_dst (N := 5) rfl ?_); refine Kd.R_lit Kd.string _ 9 ?hg (N := 5) ?hd (xs := ([] : List ByteArray)) (inner := []) (ok := fun _ => True) (okp := fun _ => True) ?hr ?hp (fun _ hk => hk) trivial (Below.refl _ _) (Nat.le_refl _) (by simp) ?_; (case hd => rfl); (case hg => rfl); (case hr => first | (go_simp; done) | (go_simp; rfl)); (case hp => exact (Reps.none _ _)); intro v5 w2 ho hb hg_ hnew_; clear hg_ hnew_; have HO := Aside0.mk ho; have HB2 := Aside0.mk hb; clear ho hb) | ((with_reducible refine gate_builtin (b := .append) (xs := #[.tmp 5, .tmp 6]) rfl ?_); at_builtin; refine Kd.R_append_rows Kd.string (w0 := w) w.heap.size rfl (.tmp 5) (.tmp 6) 22 9 (.string ⟨#[]⟩) 16 rfl Try.underlying22 info9 rfl (by decide) (by omega) v5 ([] : List ByteArray) l0 _ _ _ (fun _ => True) (fun _ => False) rfl rfl ?aO ?aR (fun _ _ h => h) (fun _ h => h.elim) ?aF ?aB ?aS ?aL ?_; (case aR => exact Kd.C_below HR0.out HB2.out); (case aB => exact HB2.out); (case aF => exact (fun _ _ => trivial)); (case aO => exact HO.out); (case aS => exact (below_size HB2.out)); (case aL => have := LM.out; simp; omega); intro v7 w3 ho hb hg hat; have HO3 := Aside0.mk ho; have HB3 := Aside0.mk hb; clear ho hb hg hat))
    go_ret
    exact ⟨_, rfl, by simpa using HO3.out, HB3.out⟩
/-! ### impl_areNames: function 90 -/
theorem impl_areNames_reps {l : List ByteArray} {inner : List Value} {w : World} {base : Nat} {ok : Nat → Prop} (h : Reps (Kd.M Kd.string w base ok) 1 l inner) : inner = l.map Value.string := by
  obtain ⟨h1, h2⟩ := h
  refine List.ext_getElem (by rw [h1, List.length_map, Nat.mul_one]) (fun j hj hj' => ?_)
  have hl : j < l.length := by rw [List.length_map] at hj'; exact hj'
  have h3 : ((inner.drop (j * 1)).take 1) = [.string l[j]] := h2 j l[j] (List.getElem?_eq_getElem hl)
  rw [Nat.mul_one, List.drop_eq_getElem_cons hj, List.take_succ_cons, List.take_zero] at h3
  rw [List.getElem_map]
  injection h3
theorem impl_areNames_own {w : World} {base : Nat} {ok : Nat → Prop} {v : Value} {l : List ByteArray} (h : Kd.R Kd.string 9 w base ok v l) : w.ownsRow base 9 1 v l.length ((l.map (·.data.toList)).map encStr) := by
  rw [Lib.map_encStr]
  obtain ⟨_, inner, ho, hr⟩ := h
  have := impl_areNames_reps hr
  subst this; exact ho
theorem impl_areNames_held {w w' : World} {g : Nat} {d : Array (List UInt8)} (h : Sort.Holds encStr w g 0 d) (hb : Below w.heap.size w w') (hg : g < w.heap.size) : Sort.Holds encStr w' g 0 d := fun j hj => by
  obtain ⟨h1, h2⟩ := h j hj
  refine ⟨pw_cell_below hb h1, ?_⟩
  have := hb.block g hg
  unfold World.frozen? at h2 ⊢
  simpa [this] using h2
def impl_areNames_sorted (l : List ByteArray) : List (List UInt8) := (l.map (·.data.toList)).mergeSort (fun x y => decide (x ≤ y))
def impl_areNames.f (k : Nat) (l0 : List ByteArray) : Option Bool := if l0.length < 8796093022208 then (if (l0.length : Int) ≤ 3 then ((all103_impl_snapNameOK.f k l0 ()).bind fun t => if t = true then some (((Lib.compact (impl_areNames_sorted l0)).length : Int) == (l0.length : Int)) else some false) else some false) else none
theorem impl_areNames.mono : ∀ a0 k, LeO (impl_areNames.f k a0) (impl_areNames.f (k + 1) a0) := fun l k => LeO.ite (LeO.ite (LeO.bind (all103_impl_snapNameOK.mono l () k) fun t => LeO.refl _) (LeO.refl _)) (LeO.refl _)
set_option maxHeartbeats 4000000 in
set_option maxRecDepth 100000 in
theorem impl_areNames.calls (k : Nat) (A0 : Option Addr) (c0 : Nat) (l0 : List ByteArray) (r : Bool) (w : World) (hr0 : Kd.C Kd.string w A0 l0.length l0) (hc0 : l0.length ≤ c0) (h : impl_areNames.f k l0 = some r) :
    Calls Try.prog 90 #[.slice A0 l0.length c0] w fun e w' => e = .returned (.bool r) ∧ Below w.heap.size w w' := by
  unfold impl_areNames.f at h
  have hlim : l0.length < 8796093022208 := by
    by_cases c : l0.length < 8796093022208
    · exact c
    · rw [if_neg c] at h; cases h
  rw [if_pos hlim] at h
  have hclone : slices_Clone_string_string.f l0 = some l0 := by unfold slices_Clone_string_string.f; exact if_pos hlim
  have key : ∀ (w1 : World) (v1 : Value), Below w.heap.size w w1 → Kd.R Kd.string 9 w1 w.heap.size (fun _ => True) v1 l0 →
      ∃ A1 c1, v1 = .slice A1 l0.length c1 ∧ Calls Try.prog 132 #[.slice A1 l0.length c1] w1 (fun e w2 => e = .returned (.tuple #[]) ∧ Below w.heap.size w w2 ∧ ∀ w3, Below w2.heap.size w2 w3 → Calls Try.prog 134 #[.slice A1 l0.length c1] w3 (fun e w' => ∃ A2 c2, e = .returned (.slice A2 (Lib.compact (impl_areNames_sorted l0)).length c2) ∧ Below w.heap.size w w')) := by
    intro w1 v1 hb1 hR
    have hown := impl_areNames_own hR
    obtain ⟨A1, c1, e1⟩ := Kd.R_slice hR
    by_cases hn : l0 = []
    · subst hn
      refine ⟨A1, c1, e1, (calls_of_every_depth fun D => AnyS.slices_Sort_string_none_alone Try.laysSort D A1 c1 w1).mono ?_⟩
      rintro e w' ⟨rfl, rfl⟩
      refine ⟨rfl, hb1, fun w3 hb3 => (calls_of_every_depth fun D => AnyS.slices_Compact_string_empty_in Try.laysCompact D A1 c1 w3).mono ?_⟩
      rintro e w' ⟨rfl, rfl⟩
      exact ⟨A1, c1, by simp [impl_areNames_sorted, Lib.compact, Lib.compactUpTo], below_step hb1 hb3⟩
    · have hpos : 0 < l0.length := List.length_pos_iff.2 hn
      have hnn : v1 ≠ .slice none 0 0 := by rw [e1]; intro e; injection e with _ e2 _; omega
      obtain ⟨g, cap, e2, hbg, hgl, hncap, hcm, hlen, hH⟩ := Lib.holds_of_ownsRow hown hnn
      rw [e2] at e1
      injection e1 with e3 _ e4
      subst e3 e4 e2
      have hl2 : (impl_areNames_sorted l0).length = l0.length := by unfold impl_areNames_sorted; rw [List.length_mergeSort, List.length_map]
      have hsort := calls_of_every_depth fun D => AnyS.slices_Sort_string_alone Try.laysSort D g 0 cap (l0.map (·.data.toList)) w1 hH hgl (by rw [hlen]; omega)
      rw [hlen] at hsort
      refine ⟨_, _, rfl, hsort.mono ?_⟩
      rintro e w2 ⟨rfl, nn, os, rfl⟩
      refine ⟨rfl, hb1.grown (grownBy_sorted _) hb1.size (fun j hj => by cases hj; exact hbg), fun w3 hb3 => ?_⟩
      have hsz : g < (Sort.grow (Sort.putRow encStr (Sort.ahead w1 nn) g 0 (impl_areNames_sorted l0).toArray) os).heap.size := Nat.lt_of_lt_of_le hgl (grownBy_sorted (n := nn) (os := os) _).size
      have hH2 : Sort.Holds encStr (Sort.grow (Sort.putRow encStr (Sort.ahead w1 nn) g 0 (impl_areNames_sorted l0).toArray) os) g 0 (impl_areNames_sorted l0).toArray :=
        Sort.holds_grow encStr _ os g 0 _ (by simpa [Sort.putRow, Sort.mapBlock, Sort.ahead] using hgl) (Sort.holds_putRow encStr _ g 0 _ _ (Sort.holds_ahead encStr w1 nn g 0 _ hH) (by simp [impl_areNames_sorted]))
      have hH3 := impl_areNames_held hH2 hb3 hsz
      have hcomp := calls_of_every_depth fun D => AnyS.slices_Compact_string_in Try.laysCompact D g 0 cap (impl_areNames_sorted l0) w3 hH3 (by rw [hl2]; omega) (by rw [hl2]; exact hncap)
      rw [hl2] at hcomp
      refine hcomp.mono ?_
      rintro e w4 ⟨rfl, q, rfl⟩
      exact ⟨_, _, rfl, Lib.below_putRow (below_step (hb1.grown (grownBy_sorted _) hb1.size (fun j hj => by cases hj; exact hbg)) hb3) hbg⟩
  have HR0 := Aside0.mk hr0
  have HC0 := Aside0.mk hc0
  have HCL := Aside0.mk hclone
  have KEY := Aside0.mk key
  clear key hclone hr0 hc0
  by_cases c3 : (l0.length : Int) ≤ 3
  · rw [if_pos c3] at h
    obtain ⟨t, ht, h⟩ := Option.bind_eq_some_iff.mp h
    have hd : decide ((l0.length : Int) ≤ 3) = true := decide_eq_true c3
    have HT := Aside0.mk ht
    clear ht
    cases t
    · cases h
      go_enter Try.func90, Try.ntmps90
      go_wp2_with (first
        | (go_at_call 109; refine (slices_Clone_string_string.calls A0 c0 l0 l0 w HR0.out HC0.out HCL.out).mono ?_; rintro e w1 ⟨v1, rfl, hR, hB1⟩; obtain ⟨A1, c1, rfl, hS⟩ := KEY.out w1 v1 hB1 hR; have HS := Aside0.mk hS; clear hS hR hB1)
        | (go_at_call 132; refine HS.out.mono ?_; rintro e w2 ⟨rfl, hB2, hC⟩; have HB2 := Aside0.mk hB2; have HC := Aside0.mk hC; clear hB2 hC)
        | (go_at_call 103; refine (all103_impl_snapNameOK.calls k A0 c0 l0 () false w2 (Kd.C_below HR0.out HB2.out) HC0.out HT.out).mono ?_; rintro e w3 ⟨rfl, hB3⟩; have HB3 := Aside0.mk hB3; clear hB3))
      go_ret
      exact ⟨rfl, below_step HB2.out HB3.out⟩
    · cases h
      go_enter Try.func90, Try.ntmps90
      go_wp2_with (first
        | (go_at_call 109; refine (slices_Clone_string_string.calls A0 c0 l0 l0 w HR0.out HC0.out HCL.out).mono ?_; rintro e w1 ⟨v1, rfl, hR, hB1⟩; obtain ⟨A1, c1, rfl, hS⟩ := KEY.out w1 v1 hB1 hR; have HS := Aside0.mk hS; clear hS hR hB1)
        | (go_at_call 132; refine HS.out.mono ?_; rintro e w2 ⟨rfl, hB2, hC⟩; have HB2 := Aside0.mk hB2; have HC := Aside0.mk hC; clear hB2 hC)
        | (go_at_call 103; refine (all103_impl_snapNameOK.calls k A0 c0 l0 () true w2 (Kd.C_below HR0.out HB2.out) HC0.out HT.out).mono ?_; rintro e w3 ⟨rfl, hB3⟩; have HB3 := Aside0.mk hB3; clear hB3)
        | (go_at_call 134; refine (HC.out w3 HB3.out).mono ?_; rintro e w4 ⟨A2, c2, rfl, hB4⟩; have HB4 := Aside0.mk hB4; clear hB4))
      go_ret
      exact ⟨rfl, HB4.out⟩
  · rw [if_neg c3] at h
    cases h
    have hd : decide ((l0.length : Int) ≤ 3) = false := decide_eq_false c3
    go_enter Try.func90, Try.ntmps90
    go_wp2_with (first
      | (go_at_call 109; refine (slices_Clone_string_string.calls A0 c0 l0 l0 w HR0.out HC0.out HCL.out).mono ?_; rintro e w1 ⟨v1, rfl, hR, hB1⟩; obtain ⟨A1, c1, rfl, hS⟩ := KEY.out w1 v1 hB1 hR; have HS := Aside0.mk hS; clear hS hR hB1)
      | (go_at_call 132; refine HS.out.mono ?_; rintro e w2 ⟨rfl, hB2, hC⟩; have HB2 := Aside0.mk hB2; have HC := Aside0.mk hC; clear hB2 hC))
    go_ret
    exact ⟨rfl, HB2.out⟩
/-! ### impl_GuestOK: function 39 -/
def impl_GuestOK.f (k : Nat) (l0_0 : List Int) (l0_1 : List (S117)) : Option (Bool) := (impl_areValues.f l0_0).bind fun t1047 => (if t1047 = true then (if (l0_1.length : Int) ≤ 3 then ((impl_Guest_names.f k l0_0 l0_1).bind fun t1048 => ((impl_areNames.f k t1048).bind fun t1051 => (if t1051 = true then ((all92_impl_GuestOK_1.f l0_1 ()).bind fun t1052 => (some t1052)) else (some false)))) else (some false)) else (some false))
theorem impl_GuestOK.mono : ∀ a0 a1 k, LeO (impl_GuestOK.f k a0 a1) (impl_GuestOK.f (k + 1) a0 a1) := by
  intro a0 a1 k
  unfold impl_GuestOK.f
  repeat' first
      | (with_reducible exact impl_Guest_names.mono _ _ _)
      | (with_reducible exact impl_areNames.mono _ _)
      | (with_reducible exact LeO.refl _)
      | (with_reducible exact LeO.none _)
      | (with_reducible refine LeO.ite ?_ ?_)
      | (with_reducible refine LeO.bind ?_ (fun _ => ?_))
      | exact impl_Guest_names.mono _ _ _
      | exact impl_areNames.mono _ _
      | exact LeO.none _
      | refine LeO.ite ?_ ?_
      | refine LeO.bind ?_ (fun _ => ?_)
set_option maxHeartbeats 8000000 in
set_option maxRecDepth 100000 in
theorem impl_GuestOK.calls (k : Nat) (A0_0 : Option Addr) (c0_0 : Nat) (l0_0 : List Int) (A0_1 : Option Addr) (c0_1 : Nat) (l0_1 : List (S117)) (r : Bool) (w : World) (hr0_0 : Kd.C (Kd.int .i64) w A0_0 l0_0.length l0_0) (hc0_0 : l0_0.length ≤ c0_0) (hr0_1 : Kd.C k117 w A0_1 l0_1.length l0_1) (hc0_1 : l0_1.length ≤ c0_1) (h : impl_GuestOK.f k l0_0 l0_1 = some r) :
    Calls Try.prog 39 #[.agg #[.slice A0_0 l0_0.length c0_0, .slice A0_1 l0_1.length c0_1]] w fun e w' => e = .returned (.bool r) ∧ Below w.heap.size w w' := by
 have hu69 := Try.underlying69
 have HR0_0 := Aside0.mk hr0_0
 have HC0_0 := Aside0.mk hc0_0
 clear hr0_0 hc0_0
 have HR0_1 := Aside0.mk hr0_1
 have HC0_1 := Aside0.mk hc0_1
 clear hr0_1 hc0_1
 have HB := Aside0.mk (Below.refl w.heap.size w)
 have H : ((impl_areValues.f l0_0).bind fun t1047 => (if t1047 = true then (if (l0_1.length : Int) ≤ 3 then ((impl_Guest_names.f k l0_0 l0_1).bind fun t1048 => ((impl_areNames.f k t1048).bind fun t1051 => (if t1051 = true then ((all92_impl_GuestOK_1.f l0_1 ()).bind fun t1052 => (some t1052)) else (some false)))) else (some false)) else (some false))) = some r := h
 clear h
 replace H := Option.bind_eq_some_iff.mp H
 obtain ⟨t1047, A20, H⟩ := H
 replace H : (if t1047 = true then (if (l0_1.length : Int) ≤ 3 then ((impl_Guest_names.f k l0_0 l0_1).bind fun t1048 => ((impl_areNames.f k t1048).bind fun t1051 => (if t1051 = true then ((all92_impl_GuestOK_1.f l0_1 ()).bind fun t1052 => (some t1052)) else (some false)))) else (some false)) else (some false)) = some r := H
 have A2 := Aside0.mk A20
 clear A20
 by_cases c3 : t1047 = true
 ·subst c3
  have H1 : (if (l0_1.length : Int) ≤ 3 then ((impl_Guest_names.f k l0_0 l0_1).bind fun t1048 => ((impl_areNames.f k t1048).bind fun t1051 => (if t1051 = true then ((all92_impl_GuestOK_1.f l0_1 ()).bind fun t1052 => (some t1052)) else (some false)))) else (some false)) = some r := by rw [if_pos rfl] at H; exact H
  clear H
  have H := H1
  clear H1
  by_cases c4 : (l0_1.length : Int) ≤ 3
  ·rw [if_pos c4] at H
   have c4b0 : decide ((l0_1.length : Int) ≤ 3) = true := decide_eq_true c4
   have c4b1 : decide (l0_1.length ≤ 3) = true := decide_eq_true (by omega)
   clear c4
   replace H := Option.bind_eq_some_iff.mp H
   obtain ⟨t1048, A50, H⟩ := H
   replace H : ((impl_areNames.f k t1048).bind fun t1051 => (if t1051 = true then ((all92_impl_GuestOK_1.f l0_1 ()).bind fun t1052 => (some t1052)) else (some false))) = some r := H
   have A5 := Aside0.mk A50
   clear A50
   replace H := Option.bind_eq_some_iff.mp H
   obtain ⟨t1051, A60, H⟩ := H
   replace H : (if t1051 = true then ((all92_impl_GuestOK_1.f l0_1 ()).bind fun t1052 => (some t1052)) else (some false)) = some r := H
   have A6 := Aside0.mk A60
   clear A60
   by_cases c7 : t1051 = true
   ·subst c7
    have H1 : ((all92_impl_GuestOK_1.f l0_1 ()).bind fun t1052 => (some t1052)) = some r := by rw [if_pos rfl] at H; exact H
    clear H
    have H := H1
    clear H1
    replace H := Option.bind_eq_some_iff.mp H
    obtain ⟨t1052, A80, H⟩ := H
    replace H : (some t1052) = some r := H
    have A8 := Aside0.mk A80
    clear A80
    obtain rfl := Option.some.inj H
    go_enter Try.func39, Try.ntmps39
    go_wp2_with (first | ((with_reducible refine gate_dst (N := 1) rfl ?_); (try (refine gate_guard (by rfl) ?_; dsimp only)); refine box_event ?hg (N := 1) ?hd (cs := #[.slice A0_0 l0_0.length c0_0, .slice A0_1 l0_1.length c0_1]) (t := 69) ?hr ?_; (case hd => rfl); (case hg => rfl); (case hr => first | (go_simp; done) | (go_simp; rfl)); intro gb1046 hg w9 hbox hb; have n0_ := Aside0.mk (below_step (by repeat (first | (with_reducible first | exact HB.out | apply below_alloc | apply pw_below_drewN | apply below_drew1) | exact HB.out)) hb); have n1_ := Aside0.mk (hbox); have n2_ := Aside0.mk ((by rw [hg]; exact (below_size (by repeat (first | (with_reducible first | exact HB.out | apply below_alloc | apply pw_below_drewN | apply below_drew1) | exact HB.out))) : w.heap.size ≤ gb1046)); have n3_ := Aside0.mk ((by rw [hg]; exact (below_size (by repeat (first | (with_reducible first | exact HB.out | apply below_alloc | apply pw_below_drewN | apply below_drew1) | exact HB.out))) : w.heap.size ≤ gb1046)); clear HB; have HB := n0_; have BK1046 := n1_; have GW1046 := n2_; have GE1046 := n3_; clear n0_ n1_ n2_ n3_; clear hb hbox hg; have hcz10_0 : w9.cell? ⟨gb1046, 0, none⟩ = some (.slice A0_0 l0_0.length c0_0) := (blk_cell BK1046.out 0).trans rfl; have hcz10_1 : w9.cell? ⟨gb1046, 1, none⟩ = some (.slice A0_1 l0_1.length c0_1) := (blk_cell BK1046.out 1).trans rfl; have hfz10_0 := blk_frozen BK1046.out 0; have hfz10_1 := blk_frozen BK1046.out 1) | ((with_reducible refine gate_callee (f := 89) rfl ?_); refine goesL_ (some 5) rfl rfl Try.func89 (by kernel_rfl) rfl #[.slice A0_0 l0_0.length c0_0] rfl (by (try simp only [List.map_toArray, List.map_cons, List.map_nil]); first | done | rfl | (simp only [List.length_drop, List.length_take]; rfl)) ?_; (with_reducible refine (impl_areValues.calls _ _ l0_0 true _ ?side1 ?side2 A2.out).mono ?_); (case side1 => repeat (first | exact (Kd.C_below HR0_0.out HB.out) | (with_reducible refine Kd.C_alloc ?_ _) | (with_reducible refine Kd.C_drewN ?_ _) | (with_reducible refine Kd.C_drew ?_))); (case side2 => exact HC0_0.out); rintro e w11 ⟨rfl, hb⟩; refine ⟨_, rfl, ?_⟩; have n0_ := Aside0.mk (blk_below (g := gb1046) (o := .cells #[.slice A0_0 l0_0.length c0_0, .slice A0_1 l0_1.length c0_1] 69 (0, 0)) (by (with_reducible repeat (first | refine blk_drewN ?_ _ | refine blk_drew ?_ | refine blk_alloc ?_ _)); exact BK1046.out) hb); have n1_ := Aside0.mk (below_step (by repeat (first | (with_reducible first | exact HB.out | apply below_alloc | apply pw_below_drewN | apply below_drew1 | refine below_set ?_ GE1046.out) | exact HB.out)) hb); clear BK1046; clear HB; have BK1046 := n0_; have HB := n1_; clear n0_ n1_; (try clear hb); (try clear hb2); (try clear hk); (try clear hi); have hcz12_0 : w11.cell? ⟨gb1046, 0, none⟩ = some (.slice A0_0 l0_0.length c0_0) := (blk_cell BK1046.out 0).trans rfl; have hcz12_1 : w11.cell? ⟨gb1046, 1, none⟩ = some (.slice A0_1 l0_1.length c0_1) := (blk_cell BK1046.out 1).trans rfl; have hfz12_0 := blk_frozen BK1046.out 0; have hfz12_1 := blk_frozen BK1046.out 1) | (go_at_call 91; (with_reducible refine (impl_Guest_names.calls k _ _ l0_0 _ _ l0_1 t1048 _ ?side1 ?side2 ?side3 ?side4 A5.out).mono ?_); (case side1 => repeat (first | exact (Kd.C_below HR0_0.out HB.out) | (with_reducible refine Kd.C_alloc ?_ _) | (with_reducible refine Kd.C_drewN ?_ _) | (with_reducible refine Kd.C_drew ?_))); (case side2 => exact HC0_0.out); (case side3 => repeat (first | exact (Kd.C_below HR0_1.out HB.out) | (with_reducible refine Kd.C_alloc ?_ _) | (with_reducible refine Kd.C_drewN ?_ _) | (with_reducible refine Kd.C_drew ?_))); (case side4 => exact HC0_1.out); rintro e w13 ⟨v1049, rfl, ho0, hb⟩; have n0_ := Aside0.mk (Kd.R_lower ho0 (below_size (by repeat (first | (with_reducible first | exact HB.out | apply below_alloc | apply pw_below_drewN | apply below_drew1 | refine below_set ?_ GE1046.out) | exact HB.out)))); have n1_ := Aside0.mk (blk_below (g := gb1046) (o := .cells #[.slice A0_0 l0_0.length c0_0, .slice A0_1 l0_1.length c0_1] 69 (0, 0)) (by (with_reducible repeat (first | refine blk_drewN ?_ _ | refine blk_drew ?_ | refine blk_alloc ?_ _)); exact BK1046.out) hb); have n2_ := Aside0.mk (below_step (by repeat (first | (with_reducible first | exact HB.out | apply below_alloc | apply pw_below_drewN | apply below_drew1 | refine below_set ?_ GE1046.out) | exact HB.out)) hb); clear BK1046; clear HB; have HO1050 := n0_; have BK1046 := n1_; have HB := n2_; clear n0_ n1_ n2_; (try clear hb); (try clear hb2); (try clear hk); (try clear hi); (try clear ho0); obtain ⟨Ao14, co14, eo14⟩ := Kd.R_slice HO1050.out; subst eo14) | (go_at_call 90; (with_reducible refine (impl_areNames.calls k _ _ t1048 true _ ?side1 ?side2 A6.out).mono ?_); (case side1 => repeat (first | exact (Kd.R_reads' HO1050.out).2.2 | (with_reducible refine Kd.C_alloc ?_ _) | (with_reducible refine Kd.C_drewN ?_ _) | (with_reducible refine Kd.C_drew ?_))); (case side2 => exact (Kd.R_reads' HO1050.out).2.1); rintro e w15 ⟨rfl, hb⟩; have n0_ := Aside0.mk (Kd.R_below (by (with_reducible repeat (first | apply Kd.R_alloc | apply Kd.R_drewN | apply Kd.R_drew)); exact HO1050.out) hb); have n1_ := Aside0.mk (blk_below (g := gb1046) (o := .cells #[.slice A0_0 l0_0.length c0_0, .slice A0_1 l0_1.length c0_1] 69 (0, 0)) (by (with_reducible repeat (first | refine blk_drewN ?_ _ | refine blk_drew ?_ | refine blk_alloc ?_ _)); exact BK1046.out) hb); have n2_ := Aside0.mk (below_step (by repeat (first | (with_reducible first | exact HB.out | apply below_alloc | apply pw_below_drewN | apply below_drew1 | refine below_set ?_ GE1046.out) | exact HB.out)) hb); clear HO1050; clear BK1046; clear HB; have HO1050 := n0_; have BK1046 := n1_; have HB := n2_; clear n0_ n1_ n2_; (try clear hb); (try clear hb2); (try clear hk); (try clear hi); have hcz16_0 : w15.cell? ⟨gb1046, 0, none⟩ = some (.slice A0_0 l0_0.length c0_0) := (blk_cell BK1046.out 0).trans rfl; have hcz16_1 : w15.cell? ⟨gb1046, 1, none⟩ = some (.slice A0_1 l0_1.length c0_1) := (blk_cell BK1046.out 1).trans rfl; have hfz16_0 := blk_frozen BK1046.out 0; have hfz16_1 := blk_frozen BK1046.out 1) | (go_at_call 92; (with_reducible refine (all92_impl_GuestOK_1.calls _ _ l0_1 () t1052 _ ?side1 ?side2 A8.out).mono ?_); (case side1 => repeat (first | exact (Kd.C_below HR0_1.out HB.out) | (with_reducible refine Kd.C_alloc ?_ _) | (with_reducible refine Kd.C_drewN ?_ _) | (with_reducible refine Kd.C_drew ?_))); (case side2 => exact HC0_1.out); rintro e w17 ⟨rfl, hb⟩; have n0_ := Aside0.mk (Kd.R_below (by (with_reducible repeat (first | apply Kd.R_alloc | apply Kd.R_drewN | apply Kd.R_drew)); exact HO1050.out) hb); have n1_ := Aside0.mk (blk_below (g := gb1046) (o := .cells #[.slice A0_0 l0_0.length c0_0, .slice A0_1 l0_1.length c0_1] 69 (0, 0)) (by (with_reducible repeat (first | refine blk_drewN ?_ _ | refine blk_drew ?_ | refine blk_alloc ?_ _)); exact BK1046.out) hb); have n2_ := Aside0.mk (below_step (by repeat (first | (with_reducible first | exact HB.out | apply below_alloc | apply pw_below_drewN | apply below_drew1 | refine below_set ?_ GE1046.out) | exact HB.out)) hb); clear HO1050; clear BK1046; clear HB; have HO1050 := n0_; have BK1046 := n1_; have HB := n2_; clear n0_ n1_ n2_; (try clear hb); (try clear hb2); (try clear hk); (try clear hi)))
    go_ret
    exact ⟨by first | rfl | (simp [errW_none, errW_some] <;> rfl) | (simp [*, errW_none, errW_some] <;> rfl), by repeat (first | (with_reducible first | exact HB.out | apply below_alloc | apply pw_below_drewN | apply below_drew1 | refine below_set ?_ GE1046.out) | exact HB.out)⟩
   ·replace c7 := Bool.eq_false_iff.mpr c7
    subst c7
    have H1 : (some false) = some r := by rw [if_neg (show ¬ (false = true) by decide)] at H; exact H
    clear H
    have H := H1
    clear H1
    obtain rfl := Option.some.inj H
    go_enter Try.func39, Try.ntmps39
    go_wp2_with (first | ((with_reducible refine gate_dst (N := 1) rfl ?_); (try (refine gate_guard (by rfl) ?_; dsimp only)); refine box_event ?hg (N := 1) ?hd (cs := #[.slice A0_0 l0_0.length c0_0, .slice A0_1 l0_1.length c0_1]) (t := 69) ?hr ?_; (case hd => rfl); (case hg => rfl); (case hr => first | (go_simp; done) | (go_simp; rfl)); intro gb1046 hg w18 hbox hb; have n0_ := Aside0.mk (below_step (by repeat (first | (with_reducible first | exact HB.out | apply below_alloc | apply pw_below_drewN | apply below_drew1) | exact HB.out)) hb); have n1_ := Aside0.mk (hbox); have n2_ := Aside0.mk ((by rw [hg]; exact (below_size (by repeat (first | (with_reducible first | exact HB.out | apply below_alloc | apply pw_below_drewN | apply below_drew1) | exact HB.out))) : w.heap.size ≤ gb1046)); have n3_ := Aside0.mk ((by rw [hg]; exact (below_size (by repeat (first | (with_reducible first | exact HB.out | apply below_alloc | apply pw_below_drewN | apply below_drew1) | exact HB.out))) : w.heap.size ≤ gb1046)); clear HB; have HB := n0_; have BK1046 := n1_; have GW1046 := n2_; have GE1046 := n3_; clear n0_ n1_ n2_ n3_; clear hb hbox hg; have hcz19_0 : w18.cell? ⟨gb1046, 0, none⟩ = some (.slice A0_0 l0_0.length c0_0) := (blk_cell BK1046.out 0).trans rfl; have hcz19_1 : w18.cell? ⟨gb1046, 1, none⟩ = some (.slice A0_1 l0_1.length c0_1) := (blk_cell BK1046.out 1).trans rfl; have hfz19_0 := blk_frozen BK1046.out 0; have hfz19_1 := blk_frozen BK1046.out 1) | ((with_reducible refine gate_callee (f := 89) rfl ?_); refine goesL_ (some 5) rfl rfl Try.func89 (by kernel_rfl) rfl #[.slice A0_0 l0_0.length c0_0] rfl (by (try simp only [List.map_toArray, List.map_cons, List.map_nil]); first | done | rfl | (simp only [List.length_drop, List.length_take]; rfl)) ?_; (with_reducible refine (impl_areValues.calls _ _ l0_0 true _ ?side1 ?side2 A2.out).mono ?_); (case side1 => repeat (first | exact (Kd.C_below HR0_0.out HB.out) | (with_reducible refine Kd.C_alloc ?_ _) | (with_reducible refine Kd.C_drewN ?_ _) | (with_reducible refine Kd.C_drew ?_))); (case side2 => exact HC0_0.out); rintro e w20 ⟨rfl, hb⟩; refine ⟨_, rfl, ?_⟩; have n0_ := Aside0.mk (blk_below (g := gb1046) (o := .cells #[.slice A0_0 l0_0.length c0_0, .slice A0_1 l0_1.length c0_1] 69 (0, 0)) (by (with_reducible repeat (first | refine blk_drewN ?_ _ | refine blk_drew ?_ | refine blk_alloc ?_ _)); exact BK1046.out) hb); have n1_ := Aside0.mk (below_step (by repeat (first | (with_reducible first | exact HB.out | apply below_alloc | apply pw_below_drewN | apply below_drew1 | refine below_set ?_ GE1046.out) | exact HB.out)) hb); clear BK1046; clear HB; have BK1046 := n0_; have HB := n1_; clear n0_ n1_; (try clear hb); (try clear hb2); (try clear hk); (try clear hi); have hcz21_0 : w20.cell? ⟨gb1046, 0, none⟩ = some (.slice A0_0 l0_0.length c0_0) := (blk_cell BK1046.out 0).trans rfl; have hcz21_1 : w20.cell? ⟨gb1046, 1, none⟩ = some (.slice A0_1 l0_1.length c0_1) := (blk_cell BK1046.out 1).trans rfl; have hfz21_0 := blk_frozen BK1046.out 0; have hfz21_1 := blk_frozen BK1046.out 1) | (go_at_call 91; (with_reducible refine (impl_Guest_names.calls k _ _ l0_0 _ _ l0_1 t1048 _ ?side1 ?side2 ?side3 ?side4 A5.out).mono ?_); (case side1 => repeat (first | exact (Kd.C_below HR0_0.out HB.out) | (with_reducible refine Kd.C_alloc ?_ _) | (with_reducible refine Kd.C_drewN ?_ _) | (with_reducible refine Kd.C_drew ?_))); (case side2 => exact HC0_0.out); (case side3 => repeat (first | exact (Kd.C_below HR0_1.out HB.out) | (with_reducible refine Kd.C_alloc ?_ _) | (with_reducible refine Kd.C_drewN ?_ _) | (with_reducible refine Kd.C_drew ?_))); (case side4 => exact HC0_1.out); rintro e w22 ⟨v1049, rfl, ho0, hb⟩; have n0_ := Aside0.mk (Kd.R_lower ho0 (below_size (by repeat (first | (with_reducible first | exact HB.out | apply below_alloc | apply pw_below_drewN | apply below_drew1 | refine below_set ?_ GE1046.out) | exact HB.out)))); have n1_ := Aside0.mk (blk_below (g := gb1046) (o := .cells #[.slice A0_0 l0_0.length c0_0, .slice A0_1 l0_1.length c0_1] 69 (0, 0)) (by (with_reducible repeat (first | refine blk_drewN ?_ _ | refine blk_drew ?_ | refine blk_alloc ?_ _)); exact BK1046.out) hb); have n2_ := Aside0.mk (below_step (by repeat (first | (with_reducible first | exact HB.out | apply below_alloc | apply pw_below_drewN | apply below_drew1 | refine below_set ?_ GE1046.out) | exact HB.out)) hb); clear BK1046; clear HB; have HO1050 := n0_; have BK1046 := n1_; have HB := n2_; clear n0_ n1_ n2_; (try clear hb); (try clear hb2); (try clear hk); (try clear hi); (try clear ho0); obtain ⟨Ao23, co23, eo23⟩ := Kd.R_slice HO1050.out; subst eo23) | (go_at_call 90; (with_reducible refine (impl_areNames.calls k _ _ t1048 false _ ?side1 ?side2 A6.out).mono ?_); (case side1 => repeat (first | exact (Kd.R_reads' HO1050.out).2.2 | (with_reducible refine Kd.C_alloc ?_ _) | (with_reducible refine Kd.C_drewN ?_ _) | (with_reducible refine Kd.C_drew ?_))); (case side2 => exact (Kd.R_reads' HO1050.out).2.1); rintro e w24 ⟨rfl, hb⟩; have n0_ := Aside0.mk (Kd.R_below (by (with_reducible repeat (first | apply Kd.R_alloc | apply Kd.R_drewN | apply Kd.R_drew)); exact HO1050.out) hb); have n1_ := Aside0.mk (blk_below (g := gb1046) (o := .cells #[.slice A0_0 l0_0.length c0_0, .slice A0_1 l0_1.length c0_1] 69 (0, 0)) (by (with_reducible repeat (first | refine blk_drewN ?_ _ | refine blk_drew ?_ | refine blk_alloc ?_ _)); exact BK1046.out) hb); have n2_ := Aside0.mk (below_step (by repeat (first | (with_reducible first | exact HB.out | apply below_alloc | apply pw_below_drewN | apply below_drew1 | refine below_set ?_ GE1046.out) | exact HB.out)) hb); clear HO1050; clear BK1046; clear HB; have HO1050 := n0_; have BK1046 := n1_; have HB := n2_; clear n0_ n1_ n2_; (try clear hb); (try clear hb2); (try clear hk); (try clear hi)))
    go_ret
    exact ⟨by first | rfl | (simp [errW_none, errW_some] <;> rfl) | (simp [*, errW_none, errW_some] <;> rfl), by repeat (first | (with_reducible first | exact HB.out | apply below_alloc | apply pw_below_drewN | apply below_drew1 | refine below_set ?_ GE1046.out) | exact HB.out)⟩
  ·rw [if_neg c4] at H
   have c4b0 : decide ((l0_1.length : Int) ≤ 3) = false := decide_eq_false c4
   have c4b1 : decide (l0_1.length ≤ 3) = false := decide_eq_false (by omega)
   clear c4
   obtain rfl := Option.some.inj H
   go_enter Try.func39, Try.ntmps39
   go_wp2_with (first | ((with_reducible refine gate_dst (N := 1) rfl ?_); (try (refine gate_guard (by rfl) ?_; dsimp only)); refine box_event ?hg (N := 1) ?hd (cs := #[.slice A0_0 l0_0.length c0_0, .slice A0_1 l0_1.length c0_1]) (t := 69) ?hr ?_; (case hd => rfl); (case hg => rfl); (case hr => first | (go_simp; done) | (go_simp; rfl)); intro gb1046 hg w25 hbox hb; have n0_ := Aside0.mk (below_step (by repeat (first | (with_reducible first | exact HB.out | apply below_alloc | apply pw_below_drewN | apply below_drew1) | exact HB.out)) hb); have n1_ := Aside0.mk (hbox); have n2_ := Aside0.mk ((by rw [hg]; exact (below_size (by repeat (first | (with_reducible first | exact HB.out | apply below_alloc | apply pw_below_drewN | apply below_drew1) | exact HB.out))) : w.heap.size ≤ gb1046)); have n3_ := Aside0.mk ((by rw [hg]; exact (below_size (by repeat (first | (with_reducible first | exact HB.out | apply below_alloc | apply pw_below_drewN | apply below_drew1) | exact HB.out))) : w.heap.size ≤ gb1046)); clear HB; have HB := n0_; have BK1046 := n1_; have GW1046 := n2_; have GE1046 := n3_; clear n0_ n1_ n2_ n3_; clear hb hbox hg; have hcz26_0 : w25.cell? ⟨gb1046, 0, none⟩ = some (.slice A0_0 l0_0.length c0_0) := (blk_cell BK1046.out 0).trans rfl; have hcz26_1 : w25.cell? ⟨gb1046, 1, none⟩ = some (.slice A0_1 l0_1.length c0_1) := (blk_cell BK1046.out 1).trans rfl; have hfz26_0 := blk_frozen BK1046.out 0; have hfz26_1 := blk_frozen BK1046.out 1) | ((with_reducible refine gate_callee (f := 89) rfl ?_); refine goesL_ (some 5) rfl rfl Try.func89 (by kernel_rfl) rfl #[.slice A0_0 l0_0.length c0_0] rfl (by (try simp only [List.map_toArray, List.map_cons, List.map_nil]); first | done | rfl | (simp only [List.length_drop, List.length_take]; rfl)) ?_; (with_reducible refine (impl_areValues.calls _ _ l0_0 true _ ?side1 ?side2 A2.out).mono ?_); (case side1 => repeat (first | exact (Kd.C_below HR0_0.out HB.out) | (with_reducible refine Kd.C_alloc ?_ _) | (with_reducible refine Kd.C_drewN ?_ _) | (with_reducible refine Kd.C_drew ?_))); (case side2 => exact HC0_0.out); rintro e w27 ⟨rfl, hb⟩; refine ⟨_, rfl, ?_⟩; have n0_ := Aside0.mk (blk_below (g := gb1046) (o := .cells #[.slice A0_0 l0_0.length c0_0, .slice A0_1 l0_1.length c0_1] 69 (0, 0)) (by (with_reducible repeat (first | refine blk_drewN ?_ _ | refine blk_drew ?_ | refine blk_alloc ?_ _)); exact BK1046.out) hb); have n1_ := Aside0.mk (below_step (by repeat (first | (with_reducible first | exact HB.out | apply below_alloc | apply pw_below_drewN | apply below_drew1 | refine below_set ?_ GE1046.out) | exact HB.out)) hb); clear BK1046; clear HB; have BK1046 := n0_; have HB := n1_; clear n0_ n1_; (try clear hb); (try clear hb2); (try clear hk); (try clear hi); have hcz28_0 : w27.cell? ⟨gb1046, 0, none⟩ = some (.slice A0_0 l0_0.length c0_0) := (blk_cell BK1046.out 0).trans rfl; have hcz28_1 : w27.cell? ⟨gb1046, 1, none⟩ = some (.slice A0_1 l0_1.length c0_1) := (blk_cell BK1046.out 1).trans rfl; have hfz28_0 := blk_frozen BK1046.out 0; have hfz28_1 := blk_frozen BK1046.out 1))
   go_ret
   exact ⟨by first | rfl | (simp [errW_none, errW_some] <;> rfl) | (simp [*, errW_none, errW_some] <;> rfl), by repeat (first | (with_reducible first | exact HB.out | apply below_alloc | apply pw_below_drewN | apply below_drew1 | refine below_set ?_ GE1046.out) | exact HB.out)⟩
 ·replace c3 := Bool.eq_false_iff.mpr c3
  subst c3
  have H1 : (some false) = some r := by rw [if_neg (show ¬ (false = true) by decide)] at H; exact H
  clear H
  have H := H1
  clear H1
  obtain rfl := Option.some.inj H
  go_enter Try.func39, Try.ntmps39
  go_wp2_with (first | ((with_reducible refine gate_dst (N := 1) rfl ?_); (try (refine gate_guard (by rfl) ?_; dsimp only)); refine box_event ?hg (N := 1) ?hd (cs := #[.slice A0_0 l0_0.length c0_0, .slice A0_1 l0_1.length c0_1]) (t := 69) ?hr ?_; (case hd => rfl); (case hg => rfl); (case hr => first | (go_simp; done) | (go_simp; rfl)); intro gb1046 hg w29 hbox hb; have n0_ := Aside0.mk (below_step (by repeat (first | (with_reducible first | exact HB.out | apply below_alloc | apply pw_below_drewN | apply below_drew1) | exact HB.out)) hb); have n1_ := Aside0.mk (hbox); have n2_ := Aside0.mk ((by rw [hg]; exact (below_size (by repeat (first | (with_reducible first | exact HB.out | apply below_alloc | apply pw_below_drewN | apply below_drew1) | exact HB.out))) : w.heap.size ≤ gb1046)); have n3_ := Aside0.mk ((by rw [hg]; exact (below_size (by repeat (first | (with_reducible first | exact HB.out | apply below_alloc | apply pw_below_drewN | apply below_drew1) | exact HB.out))) : w.heap.size ≤ gb1046)); clear HB; have HB := n0_; have BK1046 := n1_; have GW1046 := n2_; have GE1046 := n3_; clear n0_ n1_ n2_ n3_; clear hb hbox hg; have hcz30_0 : w29.cell? ⟨gb1046, 0, none⟩ = some (.slice A0_0 l0_0.length c0_0) := (blk_cell BK1046.out 0).trans rfl; have hcz30_1 : w29.cell? ⟨gb1046, 1, none⟩ = some (.slice A0_1 l0_1.length c0_1) := (blk_cell BK1046.out 1).trans rfl; have hfz30_0 := blk_frozen BK1046.out 0; have hfz30_1 := blk_frozen BK1046.out 1) | ((with_reducible refine gate_callee (f := 89) rfl ?_); refine goesL_ (some 5) rfl rfl Try.func89 (by kernel_rfl) rfl #[.slice A0_0 l0_0.length c0_0] rfl (by (try simp only [List.map_toArray, List.map_cons, List.map_nil]); first | done | rfl | (simp only [List.length_drop, List.length_take]; rfl)) ?_; (with_reducible refine (impl_areValues.calls _ _ l0_0 false _ ?side1 ?side2 A2.out).mono ?_); (case side1 => repeat (first | exact (Kd.C_below HR0_0.out HB.out) | (with_reducible refine Kd.C_alloc ?_ _) | (with_reducible refine Kd.C_drewN ?_ _) | (with_reducible refine Kd.C_drew ?_))); (case side2 => exact HC0_0.out); rintro e w31 ⟨rfl, hb⟩; refine ⟨_, rfl, ?_⟩; have n0_ := Aside0.mk (blk_below (g := gb1046) (o := .cells #[.slice A0_0 l0_0.length c0_0, .slice A0_1 l0_1.length c0_1] 69 (0, 0)) (by (with_reducible repeat (first | refine blk_drewN ?_ _ | refine blk_drew ?_ | refine blk_alloc ?_ _)); exact BK1046.out) hb); have n1_ := Aside0.mk (below_step (by repeat (first | (with_reducible first | exact HB.out | apply below_alloc | apply pw_below_drewN | apply below_drew1 | refine below_set ?_ GE1046.out) | exact HB.out)) hb); clear BK1046; clear HB; have BK1046 := n0_; have HB := n1_; clear n0_ n1_; (try clear hb); (try clear hb2); (try clear hk); (try clear hi)))
  go_ret
  exact ⟨by first | rfl | (simp [errW_none, errW_some] <;> rfl) | (simp [*, errW_none, errW_some] <;> rfl), by repeat (first | (with_reducible first | exact HB.out | apply below_alloc | apply pw_below_drewN | apply below_drew1 | refine below_set ?_ GE1046.out) | exact HB.out)⟩
/-! ### laws_eqIntS: function 94 -/
def laws_eqIntS.l0 : Nat → List Int → List Int → Int → Option (Bool)
  | 0, _, _, _ => none
  | k + 1, x0, x1, x5 => if x5 < (x0.length : Int) then (if 0 ≤ x5 then (if x5 < (x1.length : Int) then (if (rd x0 x5) = (rd x1 x5) then (laws_eqIntS.l0 k x0 x1 (wrap64 (x5 + 1))) else (some false)) else (none)) else (none)) else (some true)
def laws_eqIntS.f (k : Nat) (l0 : List Int) (l1 : List Int) : Option (Bool) := if (l0.length : Int) = (l1.length : Int) then (laws_eqIntS.l0 k l0 l1 0) else (some false)
theorem laws_eqIntS.mono_l : ∀ k, (∀ y0 y1 y2, LeO (laws_eqIntS.l0 k y0 y1 y2) (laws_eqIntS.l0 (k + 1) y0 y1 y2))
  | 0 => fun _ _ _ r h => by simp [laws_eqIntS.l0] at h
  | k + 1 => by
    have ih0 := laws_eqIntS.mono_l k
    · intro y0 y1 y2
      unfold laws_eqIntS.l0
      repeat' first
      | (with_reducible exact ih0 _ _ _)
      | (with_reducible exact LeO.refl _)
      | (with_reducible exact LeO.none _)
      | (with_reducible refine LeO.ite ?_ ?_)
      | (with_reducible refine LeO.bind ?_ (fun _ => ?_))
      | exact ih0 _ _ _
      | exact LeO.none _
      | refine LeO.ite ?_ ?_
      | refine LeO.bind ?_ (fun _ => ?_)
theorem laws_eqIntS.mono : ∀ a0 a1 k, LeO (laws_eqIntS.f k a0 a1) (laws_eqIntS.f (k + 1) a0 a1) := by
  intro a0 a1 k
  have ih0 := laws_eqIntS.mono_l k
  unfold laws_eqIntS.f
  repeat' first
      | (with_reducible exact ih0 _ _ _)
      | (with_reducible exact LeO.refl _)
      | (with_reducible exact LeO.none _)
      | (with_reducible refine LeO.ite ?_ ?_)
      | (with_reducible refine LeO.bind ?_ (fun _ => ?_))
      | exact ih0 _ _ _
      | exact LeO.none _
      | refine LeO.ite ?_ ?_
      | refine LeO.bind ?_ (fun _ => ?_)
set_option maxHeartbeats 8000000 in
set_option maxRecDepth 100000 in
theorem laws_eqIntS.calls (k : Nat) (A0 : Option Addr) (c0 : Nat) (l0 : List Int) (A1 : Option Addr) (c1 : Nat) (l1 : List Int) (r : Bool) (w : World) (hr0 : Kd.C (Kd.int .i64) w A0 l0.length l0) (hc0 : l0.length ≤ c0) (hr1 : Kd.C (Kd.int .i64) w A1 l1.length l1) (hc1 : l1.length ≤ c1) (h : laws_eqIntS.f k l0 l1 = some r) :
    Calls Try.prog 94 #[.slice A0 l0.length c0, .slice A1 l1.length c1] w fun e w' => e = .returned (.bool r) ∧ Drawn0 w w' := by
  have HR0 := Aside0.mk hr0
  have HC0 := Aside0.mk hc0
  clear hr0 hc0
  have HR1 := Aside0.mk hr1
  have HC1 := Aside0.mk hc1
  clear hr1 hc1
  have H : (if (l0.length : Int) = (l1.length : Int) then (laws_eqIntS.l0 k l0 l1 0) else (some false)) = some r := h
  clear h
  by_cases c3 : (l0.length : Int) = (l1.length : Int)
  · rw [if_pos c3] at H
    have c3b0 : ((l0.length : Int) == (l1.length : Int)) = true := beq_iff_eq.mpr c3
    have c3b1 : ((l0.length : Int) != (l1.length : Int)) = false := bne_eq_false_iff_eq.mpr c3
    have c3b2 : (l0.length == l1.length) = true := by first | simpa using c3 | (simp at c3 ⊢; omega)
    clear c3
    have H' := Aside0.mk H
    clear H
    go_enter Try.func94, Try.ntmps94
    go_wp2
    repeat (go_quiet (fail); try go_wp2)
    go_loopg [5] k (fun kq v5 w' => ∃ (x5_1 : Int), v5 = .int .i64 x5_1 ∧ Aside0 (laws_eqIntS.l0 kq l0 l1 x5_1 = some r) ∧ Aside0 (kq ≤ k) ∧ Drawn0 w w')
    case atStart => exact ⟨(0), (by first | rfl | (simp; done) | (simp [*]; done)), H', ⟨Nat.le_refl _⟩, by repeat (first | exact Drawn0.refl _ | apply Drawn0.step)⟩
    case round =>
      clear H'
      try clear c1
      try clear p2
      try clear c3
      try clear c3b0
      try clear c3b1
      try clear c3b2
      obtain ⟨x5_1, rfl, HA, HK1, ⟨m1, rfl⟩⟩ := hrel
      cases gk with
      | zero => exact absurd HA.out (by simp [laws_eqIntS.l0])
      | succ k1 =>
        have H := HA.out
        clear HA
        simp only [laws_eqIntS.l0] at H
        by_cases c4 : x5_1 < (l0.length : Int)
        · rw [if_pos c4] at H
          have c4b0 : decide (x5_1 < (l0.length : Int)) = true := decide_eq_true c4
          clear c4
          by_cases c5 : 0 ≤ x5_1
          · rw [if_pos c5] at H
            have c5b0 : decide (0 ≤ x5_1) = true := decide_eq_true c5
            clear c5
            by_cases c6 : x5_1 < (l1.length : Int)
            · rw [if_pos c6] at H
              have c6b0 : decide (x5_1 < (l1.length : Int)) = true := decide_eq_true c6
              clear c6
              by_cases c7 : (rd l0 x5_1) = (rd l1 x5_1)
              · rw [if_pos c7] at H
                have c7b0 : ((rd l0 x5_1) == (rd l1 x5_1)) = true := beq_iff_eq.mpr c7
                have c7b1 : ((rd l0 x5_1) != (rd l1 x5_1)) = false := bne_eq_false_iff_eq.mpr c7
                clear c7
                have H' := Aside0.mk H
                clear H
                have p1053 : 0 ≤ (x5_1 : Int) := of_decide_eq_true (by first | (with_reducible assumption) | assumption)
                have q1053 : x5_1 < (l0.length : Int) := of_decide_eq_true (by first | (with_reducible assumption) | assumption)
                obtain ⟨ad1053, e1053, hx1053_0⟩ := Kd.at_int HR0.out x5_1 p1053 q1053
                cases e1053
                replace p1053 := eq_true p1053
                replace q1053 := eq_true q1053
                have p1054 : 0 ≤ (x5_1 : Int) := of_decide_eq_true (by first | (with_reducible assumption) | assumption)
                have q1054 : x5_1 < (l1.length : Int) := of_decide_eq_true (by first | (with_reducible assumption) | assumption)
                obtain ⟨ad1054, e1054, hx1054_0⟩ := Kd.at_int HR1.out x5_1 p1054 q1054
                cases e1054
                replace p1054 := eq_true p1054
                replace q1054 := eq_true q1054
                go_wp2
                repeat (go_quiet (fail); try go_wp2)
                go_roundg k1
                case measure => have := HK1.out; omega
                case rel => exact ⟨(wrap64 (x5_1 + 1)), (by first | rfl | (simp; done) | (simp [*]; done)), H', ⟨by have := HK1.out; omega⟩, by repeat (first | exact Drawn0.refl _ | apply Drawn0.step)⟩
              · rw [if_neg c7] at H
                have c7b0 : ((rd l0 x5_1) == (rd l1 x5_1)) = false := beq_eq_false_iff_ne.mpr c7
                have c7b1 : ((rd l0 x5_1) != (rd l1 x5_1)) = true := bne_iff_ne.mpr c7
                obtain rfl := Option.some.inj H
                have p1053 : 0 ≤ (x5_1 : Int) := of_decide_eq_true (by first | (with_reducible assumption) | assumption)
                have q1053 : x5_1 < (l0.length : Int) := of_decide_eq_true (by first | (with_reducible assumption) | assumption)
                obtain ⟨ad1053, e1053, hx1053_0⟩ := Kd.at_int HR0.out x5_1 p1053 q1053
                cases e1053
                replace p1053 := eq_true p1053
                replace q1053 := eq_true q1053
                have p1054 : 0 ≤ (x5_1 : Int) := of_decide_eq_true (by first | (with_reducible assumption) | assumption)
                have q1054 : x5_1 < (l1.length : Int) := of_decide_eq_true (by first | (with_reducible assumption) | assumption)
                obtain ⟨ad1054, e1054, hx1054_0⟩ := Kd.at_int HR1.out x5_1 p1054 q1054
                cases e1054
                replace p1054 := eq_true p1054
                replace q1054 := eq_true q1054
                go_wp2
                repeat (go_quiet (fail); try go_wp2)
                go_ret
                exact ⟨by first | rfl | (simp; done) | (simp [*]; done), by repeat (first | exact Drawn0.refl _ | apply Drawn0.step)⟩
            · rw [if_neg c6] at H
              exact absurd H (by simp)
          · rw [if_neg c5] at H
            exact absurd H (by simp)
        · rw [if_neg c4] at H
          have c4b0 : decide (x5_1 < (l0.length : Int)) = false := decide_eq_false c4
          clear c4
          obtain rfl := Option.some.inj H
          go_wp2
          repeat (go_quiet (fail); try go_wp2)
          go_ret
          exact ⟨by first | rfl | (simp; done) | (simp [*]; done), by repeat (first | exact Drawn0.refl _ | apply Drawn0.step)⟩
  · rw [if_neg c3] at H
    have c3b0 : ((l0.length : Int) == (l1.length : Int)) = false := beq_eq_false_iff_ne.mpr c3
    have c3b1 : ((l0.length : Int) != (l1.length : Int)) = true := bne_iff_ne.mpr c3
    have c3b2 : (l0.length == l1.length) = false := by first | simpa using c3 | (simp at c3 ⊢; omega)
    obtain rfl := Option.some.inj H
    go_enter Try.func94, Try.ntmps94
    go_wp2
    repeat (go_quiet (fail); try go_wp2)
    go_ret
    exact ⟨by first | rfl | (simp; done) | (simp [*]; done), by repeat (first | exact Drawn0.refl _ | apply Drawn0.step)⟩
/-! ### laws_eqShot: function 137 -/
def laws_eqShot.f (k : Nat) (a0_0 : ByteArray) (l0_1 : List Int) (a1_0 : ByteArray) (l1_1 : List Int) : Option (Bool) := if a0_0.toList = a1_0.toList then ((laws_eqIntS.f k l0_1 l1_1).bind fun t1057 => (if t1057 = true then (some true) else (some false))) else (some false)
theorem laws_eqShot.mono : ∀ a0 a1 a2 a3 k, LeO (laws_eqShot.f k a0 a1 a2 a3) (laws_eqShot.f (k + 1) a0 a1 a2 a3) := by
  intro a0 a1 a2 a3 k
  unfold laws_eqShot.f
  repeat' first
      | (with_reducible exact laws_eqIntS.mono _ _ _)
      | (with_reducible exact LeO.refl _)
      | (with_reducible exact LeO.none _)
      | (with_reducible refine LeO.ite ?_ ?_)
      | (with_reducible refine LeO.bind ?_ (fun _ => ?_))
      | exact laws_eqIntS.mono _ _ _
      | exact LeO.none _
      | refine LeO.ite ?_ ?_
      | refine LeO.bind ?_ (fun _ => ?_)
set_option maxHeartbeats 8000000 in
set_option maxRecDepth 100000 in
theorem laws_eqShot.calls (k : Nat) (a0_0 : ByteArray) (A0_1 : Option Addr) (c0_1 : Nat) (l0_1 : List Int) (a1_0 : ByteArray) (A1_1 : Option Addr) (c1_1 : Nat) (l1_1 : List Int) (r : Bool) (w : World) (hr0_1 : Kd.C (Kd.int .i64) w A0_1 l0_1.length l0_1) (hc0_1 : l0_1.length ≤ c0_1) (hr1_1 : Kd.C (Kd.int .i64) w A1_1 l1_1.length l1_1) (hc1_1 : l1_1.length ≤ c1_1) (h : laws_eqShot.f k a0_0 l0_1 a1_0 l1_1 = some r) :
    Calls Try.prog 137 #[.agg #[.string a0_0, .slice A0_1 l0_1.length c0_1], .agg #[.string a1_0, .slice A1_1 l1_1.length c1_1]] w fun e w' => e = .returned (.bool r) ∧ Below w.heap.size w w' := by
 have hu117 := Try.underlying117
 have HR0_1 := Aside0.mk hr0_1
 have HC0_1 := Aside0.mk hc0_1
 clear hr0_1 hc0_1
 have HR1_1 := Aside0.mk hr1_1
 have HC1_1 := Aside0.mk hc1_1
 clear hr1_1 hc1_1
 have HB := Aside0.mk (Below.refl w.heap.size w)
 have H : (if a0_0.toList = a1_0.toList then ((laws_eqIntS.f k l0_1 l1_1).bind fun t1057 => (if t1057 = true then (some true) else (some false))) else (some false)) = some r := h
 clear h
 by_cases c3 : a0_0.toList = a1_0.toList
 ·rw [if_pos c3] at H
  have c3b0 : (a0_0.toList == a1_0.toList) = true := beq_iff_eq.mpr c3
  have c3b1 : (a0_0.toList != a1_0.toList) = false := bne_eq_false_iff_eq.mpr c3
  clear c3
  replace H := Option.bind_eq_some_iff.mp H
  obtain ⟨t1057, A40, H⟩ := H
  replace H : (if t1057 = true then (some true) else (some false)) = some r := H
  have A4 := Aside0.mk A40
  clear A40
  by_cases c5 : t1057 = true
  ·subst c5
   have H1 : (some true) = some r := by rw [if_pos rfl] at H; exact H
   clear H
   have H := H1
   clear H1
   obtain rfl := Option.some.inj H
   go_enter Try.func137, Try.ntmps137
   go_wp2_with (first | ((with_reducible refine gate_dst (N := 2) rfl ?_); refine box_event ?hg (N := 2) ?hd (cs := #[.string a0_0, .slice A0_1 l0_1.length c0_1]) (t := 117) ?hr ?_; (case hd => rfl); (case hg => rfl); (case hr => first | (go_simp; done) | (go_simp; rfl)); intro gb1055 hg w6 hbox hb; have n0_ := Aside0.mk (below_step (by repeat (first | (with_reducible first | exact HB.out | apply below_alloc | apply pw_below_drewN | apply below_drew1) | exact HB.out)) hb); have n1_ := Aside0.mk (hbox); have n2_ := Aside0.mk ((by rw [hg]; exact (below_size (by repeat (first | (with_reducible first | exact HB.out | apply below_alloc | apply pw_below_drewN | apply below_drew1) | exact HB.out))) : w.heap.size ≤ gb1055)); have n3_ := Aside0.mk ((by rw [hg]; exact (below_size (by repeat (first | (with_reducible first | exact HB.out | apply below_alloc | apply pw_below_drewN | apply below_drew1) | exact HB.out))) : w.heap.size ≤ gb1055)); clear HB; have HB := n0_; have BK1055 := n1_; have GW1055 := n2_; have GE1055 := n3_; clear n0_ n1_ n2_ n3_; clear hb hbox hg) | ((with_reducible refine gate_dst (N := 3) rfl ?_); refine box_event ?hg (N := 3) ?hd (cs := #[.string a1_0, .slice A1_1 l1_1.length c1_1]) (t := 117) ?hr ?_; (case hd => rfl); (case hg => rfl); (case hr => first | (go_simp; done) | (go_simp; rfl)); intro gb1056 hg w7 hbox hb; have n0_ := Aside0.mk (blk_below (g := gb1055) (o := .cells #[.string a0_0, .slice A0_1 l0_1.length c0_1] 117 (0, 0)) (by (with_reducible repeat (first | refine blk_drewN ?_ _ | refine blk_drew ?_ | refine blk_alloc ?_ _)); exact BK1055.out) hb); have n1_ := Aside0.mk (below_step (by repeat (first | (with_reducible first | exact HB.out | apply below_alloc | apply pw_below_drewN | apply below_drew1 | refine below_set ?_ GE1055.out) | exact HB.out)) hb); have n2_ := Aside0.mk (hbox); have n3_ := Aside0.mk ((by rw [hg]; exact (below_size (by repeat (first | (with_reducible first | exact HB.out | apply below_alloc | apply pw_below_drewN | apply below_drew1 | refine below_set ?_ GE1055.out) | exact HB.out))) : w.heap.size ≤ gb1056)); have n4_ := Aside0.mk ((by rw [hg]; exact (below_size (by repeat (first | (with_reducible first | exact HB.out | apply below_alloc | apply pw_below_drewN | apply below_drew1 | refine below_set ?_ GE1055.out) | exact HB.out))) : w.heap.size ≤ gb1056)); have n5_ := Aside0.mk ((by rw [hg]; exact Nat.ne_of_lt (blk_lt (g := gb1055) (o := .cells #[.string a0_0, .slice A0_1 l0_1.length c0_1] 117 (0, 0)) (by (with_reducible repeat (first | refine blk_drewN ?_ _ | refine blk_drew ?_ | refine blk_alloc ?_ _)); exact BK1055.out)) : gb1055 ≠ gb1056)); have n6_ := Aside0.mk ((by rw [hg]; exact Nat.ne_of_gt (blk_lt (g := gb1055) (o := .cells #[.string a0_0, .slice A0_1 l0_1.length c0_1] 117 (0, 0)) (by (with_reducible repeat (first | refine blk_drewN ?_ _ | refine blk_drew ?_ | refine blk_alloc ?_ _)); exact BK1055.out)) : gb1056 ≠ gb1055)); clear BK1055; clear HB; have BK1055 := n0_; have HB := n1_; have BK1056 := n2_; have GW1056 := n3_; have GE1056 := n4_; have NB1055_1056 := n5_; have NB1056_1055 := n6_; clear n0_ n1_ n2_ n3_ n4_ n5_ n6_; clear hb hbox hg; have hnb8 := NB1055_1056.out; have hnc8 := NB1056_1055.out; have hcz9_0 : w7.cell? ⟨gb1055, 0, none⟩ = some (.string a0_0) := (blk_cell BK1055.out 0).trans rfl; have hcz9_1 : w7.cell? ⟨gb1055, 1, none⟩ = some (.slice A0_1 l0_1.length c0_1) := (blk_cell BK1055.out 1).trans rfl; have hfz9_0 := blk_frozen BK1055.out 0; have hfz9_1 := blk_frozen BK1055.out 1; have hcz10_0 : w7.cell? ⟨gb1056, 0, none⟩ = some (.string a1_0) := (blk_cell BK1056.out 0).trans rfl; have hcz10_1 : w7.cell? ⟨gb1056, 1, none⟩ = some (.slice A1_1 l1_1.length c1_1) := (blk_cell BK1056.out 1).trans rfl; have hfz10_0 := blk_frozen BK1056.out 0; have hfz10_1 := blk_frozen BK1056.out 1) | ((with_reducible refine gate_callee (f := 94) rfl ?_); refine goesL_ (some 14) rfl rfl Try.func94 (by kernel_rfl) rfl #[.slice A0_1 l0_1.length c0_1, .slice A1_1 l1_1.length c1_1] rfl (by (try simp only [List.map_toArray, List.map_cons, List.map_nil]); first | done | rfl | (simp only [List.length_drop, List.length_take]; rfl)) ?_; (with_reducible refine (laws_eqIntS.calls k _ _ l0_1 _ _ l1_1 true _ ?side1 ?side2 ?side3 ?side4 A4.out).mono ?_); (case side1 => repeat (first | exact (Kd.C_below HR0_1.out HB.out) | (with_reducible refine Kd.C_alloc ?_ _) | (with_reducible refine Kd.C_drewN ?_ _) | (with_reducible refine Kd.C_drew ?_))); (case side2 => exact HC0_1.out); (case side3 => repeat (first | exact (Kd.C_below HR1_1.out HB.out) | (with_reducible refine Kd.C_alloc ?_ _) | (with_reducible refine Kd.C_drewN ?_ _) | (with_reducible refine Kd.C_drew ?_))); (case side4 => exact HC1_1.out); rintro e w' ⟨rfl, ⟨nd, rfl⟩⟩; refine ⟨_, rfl, ?_⟩))
   go_ret
   exact ⟨by first | rfl | (simp [errW_none, errW_some] <;> rfl) | (simp [*, errW_none, errW_some] <;> rfl), by repeat (first | (with_reducible first | exact HB.out | apply below_alloc | apply pw_below_drewN | apply below_drew1 | refine below_set ?_ GE1055.out | refine below_set ?_ GE1056.out) | exact HB.out)⟩
  ·replace c5 := Bool.eq_false_iff.mpr c5
   subst c5
   have H1 : (some false) = some r := by rw [if_neg (show ¬ (false = true) by decide)] at H; exact H
   clear H
   have H := H1
   clear H1
   obtain rfl := Option.some.inj H
   go_enter Try.func137, Try.ntmps137
   go_wp2_with (first | ((with_reducible refine gate_dst (N := 2) rfl ?_); refine box_event ?hg (N := 2) ?hd (cs := #[.string a0_0, .slice A0_1 l0_1.length c0_1]) (t := 117) ?hr ?_; (case hd => rfl); (case hg => rfl); (case hr => first | (go_simp; done) | (go_simp; rfl)); intro gb1055 hg w11 hbox hb; have n0_ := Aside0.mk (below_step (by repeat (first | (with_reducible first | exact HB.out | apply below_alloc | apply pw_below_drewN | apply below_drew1) | exact HB.out)) hb); have n1_ := Aside0.mk (hbox); have n2_ := Aside0.mk ((by rw [hg]; exact (below_size (by repeat (first | (with_reducible first | exact HB.out | apply below_alloc | apply pw_below_drewN | apply below_drew1) | exact HB.out))) : w.heap.size ≤ gb1055)); have n3_ := Aside0.mk ((by rw [hg]; exact (below_size (by repeat (first | (with_reducible first | exact HB.out | apply below_alloc | apply pw_below_drewN | apply below_drew1) | exact HB.out))) : w.heap.size ≤ gb1055)); clear HB; have HB := n0_; have BK1055 := n1_; have GW1055 := n2_; have GE1055 := n3_; clear n0_ n1_ n2_ n3_; clear hb hbox hg) | ((with_reducible refine gate_dst (N := 3) rfl ?_); refine box_event ?hg (N := 3) ?hd (cs := #[.string a1_0, .slice A1_1 l1_1.length c1_1]) (t := 117) ?hr ?_; (case hd => rfl); (case hg => rfl); (case hr => first | (go_simp; done) | (go_simp; rfl)); intro gb1056 hg w12 hbox hb; have n0_ := Aside0.mk (blk_below (g := gb1055) (o := .cells #[.string a0_0, .slice A0_1 l0_1.length c0_1] 117 (0, 0)) (by (with_reducible repeat (first | refine blk_drewN ?_ _ | refine blk_drew ?_ | refine blk_alloc ?_ _)); exact BK1055.out) hb); have n1_ := Aside0.mk (below_step (by repeat (first | (with_reducible first | exact HB.out | apply below_alloc | apply pw_below_drewN | apply below_drew1 | refine below_set ?_ GE1055.out) | exact HB.out)) hb); have n2_ := Aside0.mk (hbox); have n3_ := Aside0.mk ((by rw [hg]; exact (below_size (by repeat (first | (with_reducible first | exact HB.out | apply below_alloc | apply pw_below_drewN | apply below_drew1 | refine below_set ?_ GE1055.out) | exact HB.out))) : w.heap.size ≤ gb1056)); have n4_ := Aside0.mk ((by rw [hg]; exact (below_size (by repeat (first | (with_reducible first | exact HB.out | apply below_alloc | apply pw_below_drewN | apply below_drew1 | refine below_set ?_ GE1055.out) | exact HB.out))) : w.heap.size ≤ gb1056)); have n5_ := Aside0.mk ((by rw [hg]; exact Nat.ne_of_lt (blk_lt (g := gb1055) (o := .cells #[.string a0_0, .slice A0_1 l0_1.length c0_1] 117 (0, 0)) (by (with_reducible repeat (first | refine blk_drewN ?_ _ | refine blk_drew ?_ | refine blk_alloc ?_ _)); exact BK1055.out)) : gb1055 ≠ gb1056)); have n6_ := Aside0.mk ((by rw [hg]; exact Nat.ne_of_gt (blk_lt (g := gb1055) (o := .cells #[.string a0_0, .slice A0_1 l0_1.length c0_1] 117 (0, 0)) (by (with_reducible repeat (first | refine blk_drewN ?_ _ | refine blk_drew ?_ | refine blk_alloc ?_ _)); exact BK1055.out)) : gb1056 ≠ gb1055)); clear BK1055; clear HB; have BK1055 := n0_; have HB := n1_; have BK1056 := n2_; have GW1056 := n3_; have GE1056 := n4_; have NB1055_1056 := n5_; have NB1056_1055 := n6_; clear n0_ n1_ n2_ n3_ n4_ n5_ n6_; clear hb hbox hg; have hnb13 := NB1055_1056.out; have hnc13 := NB1056_1055.out; have hcz14_0 : w12.cell? ⟨gb1055, 0, none⟩ = some (.string a0_0) := (blk_cell BK1055.out 0).trans rfl; have hcz14_1 : w12.cell? ⟨gb1055, 1, none⟩ = some (.slice A0_1 l0_1.length c0_1) := (blk_cell BK1055.out 1).trans rfl; have hfz14_0 := blk_frozen BK1055.out 0; have hfz14_1 := blk_frozen BK1055.out 1; have hcz15_0 : w12.cell? ⟨gb1056, 0, none⟩ = some (.string a1_0) := (blk_cell BK1056.out 0).trans rfl; have hcz15_1 : w12.cell? ⟨gb1056, 1, none⟩ = some (.slice A1_1 l1_1.length c1_1) := (blk_cell BK1056.out 1).trans rfl; have hfz15_0 := blk_frozen BK1056.out 0; have hfz15_1 := blk_frozen BK1056.out 1) | ((with_reducible refine gate_callee (f := 94) rfl ?_); refine goesL_ (some 14) rfl rfl Try.func94 (by kernel_rfl) rfl #[.slice A0_1 l0_1.length c0_1, .slice A1_1 l1_1.length c1_1] rfl (by (try simp only [List.map_toArray, List.map_cons, List.map_nil]); first | done | rfl | (simp only [List.length_drop, List.length_take]; rfl)) ?_; (with_reducible refine (laws_eqIntS.calls k _ _ l0_1 _ _ l1_1 false _ ?side1 ?side2 ?side3 ?side4 A4.out).mono ?_); (case side1 => repeat (first | exact (Kd.C_below HR0_1.out HB.out) | (with_reducible refine Kd.C_alloc ?_ _) | (with_reducible refine Kd.C_drewN ?_ _) | (with_reducible refine Kd.C_drew ?_))); (case side2 => exact HC0_1.out); (case side3 => repeat (first | exact (Kd.C_below HR1_1.out HB.out) | (with_reducible refine Kd.C_alloc ?_ _) | (with_reducible refine Kd.C_drewN ?_ _) | (with_reducible refine Kd.C_drew ?_))); (case side4 => exact HC1_1.out); rintro e w' ⟨rfl, ⟨nd, rfl⟩⟩; refine ⟨_, rfl, ?_⟩))
   go_ret
   exact ⟨by first | rfl | (simp [errW_none, errW_some] <;> rfl) | (simp [*, errW_none, errW_some] <;> rfl), by repeat (first | (with_reducible first | exact HB.out | apply below_alloc | apply pw_below_drewN | apply below_drew1 | refine below_set ?_ GE1055.out | refine below_set ?_ GE1056.out) | exact HB.out)⟩
 ·rw [if_neg c3] at H
  have c3b0 : (a0_0.toList == a1_0.toList) = false := beq_eq_false_iff_ne.mpr c3
  have c3b1 : (a0_0.toList != a1_0.toList) = true := bne_iff_ne.mpr c3
  obtain rfl := Option.some.inj H
  go_enter Try.func137, Try.ntmps137
  go_wp2_with (first | ((with_reducible refine gate_dst (N := 2) rfl ?_); refine box_event ?hg (N := 2) ?hd (cs := #[.string a0_0, .slice A0_1 l0_1.length c0_1]) (t := 117) ?hr ?_; (case hd => rfl); (case hg => rfl); (case hr => first | (go_simp; done) | (go_simp; rfl)); intro gb1055 hg w16 hbox hb; have n0_ := Aside0.mk (below_step (by repeat (first | (with_reducible first | exact HB.out | apply below_alloc | apply pw_below_drewN | apply below_drew1) | exact HB.out)) hb); have n1_ := Aside0.mk (hbox); have n2_ := Aside0.mk ((by rw [hg]; exact (below_size (by repeat (first | (with_reducible first | exact HB.out | apply below_alloc | apply pw_below_drewN | apply below_drew1) | exact HB.out))) : w.heap.size ≤ gb1055)); have n3_ := Aside0.mk ((by rw [hg]; exact (below_size (by repeat (first | (with_reducible first | exact HB.out | apply below_alloc | apply pw_below_drewN | apply below_drew1) | exact HB.out))) : w.heap.size ≤ gb1055)); clear HB; have HB := n0_; have BK1055 := n1_; have GW1055 := n2_; have GE1055 := n3_; clear n0_ n1_ n2_ n3_; clear hb hbox hg) | ((with_reducible refine gate_dst (N := 3) rfl ?_); refine box_event ?hg (N := 3) ?hd (cs := #[.string a1_0, .slice A1_1 l1_1.length c1_1]) (t := 117) ?hr ?_; (case hd => rfl); (case hg => rfl); (case hr => first | (go_simp; done) | (go_simp; rfl)); intro gb1056 hg w17 hbox hb; have n0_ := Aside0.mk (blk_below (g := gb1055) (o := .cells #[.string a0_0, .slice A0_1 l0_1.length c0_1] 117 (0, 0)) (by (with_reducible repeat (first | refine blk_drewN ?_ _ | refine blk_drew ?_ | refine blk_alloc ?_ _)); exact BK1055.out) hb); have n1_ := Aside0.mk (below_step (by repeat (first | (with_reducible first | exact HB.out | apply below_alloc | apply pw_below_drewN | apply below_drew1 | refine below_set ?_ GE1055.out) | exact HB.out)) hb); have n2_ := Aside0.mk (hbox); have n3_ := Aside0.mk ((by rw [hg]; exact (below_size (by repeat (first | (with_reducible first | exact HB.out | apply below_alloc | apply pw_below_drewN | apply below_drew1 | refine below_set ?_ GE1055.out) | exact HB.out))) : w.heap.size ≤ gb1056)); have n4_ := Aside0.mk ((by rw [hg]; exact (below_size (by repeat (first | (with_reducible first | exact HB.out | apply below_alloc | apply pw_below_drewN | apply below_drew1 | refine below_set ?_ GE1055.out) | exact HB.out))) : w.heap.size ≤ gb1056)); have n5_ := Aside0.mk ((by rw [hg]; exact Nat.ne_of_lt (blk_lt (g := gb1055) (o := .cells #[.string a0_0, .slice A0_1 l0_1.length c0_1] 117 (0, 0)) (by (with_reducible repeat (first | refine blk_drewN ?_ _ | refine blk_drew ?_ | refine blk_alloc ?_ _)); exact BK1055.out)) : gb1055 ≠ gb1056)); have n6_ := Aside0.mk ((by rw [hg]; exact Nat.ne_of_gt (blk_lt (g := gb1055) (o := .cells #[.string a0_0, .slice A0_1 l0_1.length c0_1] 117 (0, 0)) (by (with_reducible repeat (first | refine blk_drewN ?_ _ | refine blk_drew ?_ | refine blk_alloc ?_ _)); exact BK1055.out)) : gb1056 ≠ gb1055)); clear BK1055; clear HB; have BK1055 := n0_; have HB := n1_; have BK1056 := n2_; have GW1056 := n3_; have GE1056 := n4_; have NB1055_1056 := n5_; have NB1056_1055 := n6_; clear n0_ n1_ n2_ n3_ n4_ n5_ n6_; clear hb hbox hg; have hnb18 := NB1055_1056.out; have hnc18 := NB1056_1055.out; have hcz19_0 : w17.cell? ⟨gb1055, 0, none⟩ = some (.string a0_0) := (blk_cell BK1055.out 0).trans rfl; have hcz19_1 : w17.cell? ⟨gb1055, 1, none⟩ = some (.slice A0_1 l0_1.length c0_1) := (blk_cell BK1055.out 1).trans rfl; have hfz19_0 := blk_frozen BK1055.out 0; have hfz19_1 := blk_frozen BK1055.out 1; have hcz20_0 : w17.cell? ⟨gb1056, 0, none⟩ = some (.string a1_0) := (blk_cell BK1056.out 0).trans rfl; have hcz20_1 : w17.cell? ⟨gb1056, 1, none⟩ = some (.slice A1_1 l1_1.length c1_1) := (blk_cell BK1056.out 1).trans rfl; have hfz20_0 := blk_frozen BK1056.out 0; have hfz20_1 := blk_frozen BK1056.out 1))
  go_ret
  exact ⟨by first | rfl | (simp [errW_none, errW_some] <;> rfl) | (simp [*, errW_none, errW_some] <;> rfl), by repeat (first | (with_reducible first | exact HB.out | apply below_alloc | apply pw_below_drewN | apply below_drew1 | refine below_set ?_ GE1055.out | refine below_set ?_ GE1056.out) | exact HB.out)⟩
end Go.Proofs.Ytbojcpgfkppkbaa.Q
