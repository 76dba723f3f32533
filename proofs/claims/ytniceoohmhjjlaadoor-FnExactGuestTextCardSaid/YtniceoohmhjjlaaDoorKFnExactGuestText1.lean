/- What laws.FnExactGuestText reaches, part 1: the functions as Lean functions, the proofs that the program's functions answer so, and plain laws about them. -/
import Derived.Test.YtniceoohmhjjlaaDoorProg
import Derived.Test.YtniceoohmhjjlaaDoorVFnExactGuestTextExt
import Derived.Test.YtniceoohmhjjlaaDoorShelf
import Derived.Below
import Derived.Deep.Draws
import Derived.Deep.AppendLies
import Derived.Maps.AppendAt
import Derived.OwnWalk
import Derived.Laws.BytesArg
import Derived.Laws.MakeOwn
import Derived.Laws.OwnMore
import Derived.Deep.OwnRows
import Derived.Tactics
import Derived.Lib.ConvBytes
import Derived.Laws.Slices
import Derived.WalkKit
import Derived.KernelRfl
import Derived.RowKit3
import Derived.Deep.LoopGhost
import Derived.Deep.QuietTactic
import Derived.BigQuiet
import Derived.WideLaws
import Derived.Deep.DeepCutAuto
import Derived.Deep.CutBlock
import Derived.Deep.RegionHeld3
import Derived.Laws.Rows
import Derived.Lib.AppendStr
import Derived.ArgAppend
import Derived.Laws.IdiomCopy
import Derived.OrdersHeld
import Derived.Laws.BitsLemmas
import Derived.RowKit
import Derived.Test.YtniceoohmhjjlaaDoorVFnExactGuestTextWWords
import Derived.Test.YtniceoohmhjjlaaDoorVFnExactGuestTextWLast
import Derived.Test.YtniceoohmhjjlaaDoorVFnExactGuestTextWTab
import Derived.Test.YtniceoohmhjjlaaDoorVFnExactGuestTextWFour
import Derived.Test.YtniceoohmhjjlaaDoorVFnExactGuestTextWQPut
import Derived.Test.YtniceoohmhjjlaaDoorVFnExactGuestTextWApart
import Derived.Test.YtniceoohmhjjlaaDoorVFnExactGuestTextWArr
import Derived.Test.YtniceoohmhjjlaaDoorVFnExactGuestTextWZeros
import Derived.Test.YtniceoohmhjjlaaDoorVFnExactGuestTextWFoot
import Derived.Test.YtniceoohmhjjlaaDoorVFnExactGuestTextWKept
import Derived.Test.YtniceoohmhjjlaaDoorVFnExactGuestTextWShare
import Derived.Test.YtniceoohmhjjlaaDoorVFnExactGuestTextWN
import Derived.Test.YtniceoohmhjjlaaDoorVFnExactGuestTextWFootNe
import Derived.Test.YtniceoohmhjjlaaDoorVFnExactGuestTextWAt
import Derived.Test.YtniceoohmhjjlaaDoorVFnExactGuestTextWEqStruct
import Derived.Test.YtniceoohmhjjlaaDoorVFnExactGuestTextWRepsOne
import Derived.Test.YtniceoohmhjjlaaDoorVFnExactGuestTextWInv
import Derived.Test.YtniceoohmhjjlaaDoorVFnExactGuestTextWInvWords
import Derived.Test.YtniceoohmhjjlaaDoorVFnExactGuestTextWGuard
import Derived.Test.YtniceoohmhjjlaaDoorVFnExactGuestTextWNEv
import Derived.Test.YtniceoohmhjjlaaDoorVFnExactGuestTextWMore
namespace Go.Proofs.YtniceoohmhjjlaaDoor.Q
open Go.RowKit Go.Proofs.YtniceoohmhjjlaaDoor.Ext Go.Proofs.YtniceoohmhjjlaaDoorW.PrintWords Go.Proofs.YtniceoohmhjjlaaDoorW.PrintLast Go.Proofs.YtniceoohmhjjlaaDoorW.PrintMore
attribute [local go_sem] max2_int min2_int max_two min_two max_three min_three max_four min_four   -- for this text's walks alone
set_option linter.unusedVariables false
set_option linter.unusedSimpArgs false

set_option linter.unusedVariables false
set_option linter.unusedSimpArgs false
def errW : Option Int → Value
  | none => .nilIface
  | some c => .iface 0 (.int .i64 c)
theorem errW_none : errW none = .nilIface := rfl
theorem errW_some (c : Int) : errW (some c) = .iface 0 (.int .i64 c) := rfl

theorem info3 : (Tryd.prog.info? 3).map (fun i => (i.zero, i.size, i.bytes)) = some (some (.int .i64 0), 1, 8) := by kernel_rfl
theorem info5 : (Tryd.prog.info? 5).map (fun i => (i.zero, i.size, i.bytes)) = some (some (.int .u8 0), 1, 1) := by kernel_rfl
theorem info9 : (Tryd.prog.info? 9).map (fun i => (i.zero, i.size, i.bytes)) = some (some (.string ⟨#[]⟩), 1, 16) := by kernel_rfl
theorem info20 : (Tryd.prog.info? 20).map (fun i => (i.zero, i.size, i.bytes)) = some (some (.nilIface), 1, 16) := by kernel_rfl
theorem info102 : (Tryd.prog.info? 102).map (fun i => (i.zero, i.size, i.bytes)) = some (some (.agg #[(.string ⟨#[]⟩), (.slice none 0 0)]), 2, 40) := by kernel_rfl
-- the values' own types
def rd_L4 (xs : List (List Int)) (i : Int) : (List Int) := xs.getD i.toNat ([] : List Int)
theorem at_L4 {w : World} {A : Option Addr} {n : Nat} {xs : List (List Int)} (h : Kd.C (Kd.slice 3 (Kd.int .i64)) w A n xs) (i : Int) (h0 : 0 ≤ i) (h1 : i < n) : ∃ ad A0 c0, A = some ad ∧ w.cell? (ad.add i.toNat) = some (.slice A0 (rd_L4 xs i).length c0) ∧ (rd_L4 xs i).length ≤ c0 ∧ (Kd.int .i64).C w A0 (rd_L4 xs i).length (rd_L4 xs i) := by
  obtain ⟨ad, c, e, _, hK, hc0⟩ := Kd.C_get h ([] : List Int) i h0 h1
  have hc : ∀ j u, c[j]? = some u → w.cell? (ad.add (i.toNat * 1 + j)) = some u := hc0
  obtain ⟨A0, c0, rfl, l0, g0⟩ := hK
  exact ⟨ad, A0, c0, e, by have hq := hc 0 _ rfl; rwa [Nat.mul_one, Nat.add_zero] at hq, l0, g0⟩

/-! #### struct type 100 -/
structure S100 where
  f0 : ByteArray
  f1 : (List Int)
def z100 : S100 := ⟨(⟨#[]⟩ : ByteArray), ([] : List Int)⟩
def k100 : Kd S100 := Kd.iso (Kd.pair Kd.string (Kd.slice 3 (Kd.int .i64))) (fun x : S100 => (x.f0, x.f1))
theorem k100_open {w : World} {x : S100} {cs : List Value} (h : k100.K w x cs) : ∃ A1 c1, cs = [.string x.f0, .slice A1 x.f1.length c1] ∧ x.f1.length ≤ c1 ∧ (Kd.int .i64).C w A1 x.f1.length x.f1 := by
  obtain ⟨_, _, rfl, rfl, ⟨A1, c1, rfl, l1, g1⟩⟩ := h
  exact ⟨A1, c1, rfl, l1, g1⟩
theorem k100_openM {w : World} {base : Nat} {ok : Nat → Prop} {x : S100} {cs : List Value} (h : k100.M w base ok x cs) : ∃ v1, cs = [.string x.f0, v1] ∧ (Kd.int .i64).R 3 w base ok v1 x.f1 := by
  obtain ⟨_, _, rfl, rfl, ⟨v1, rfl, g1⟩⟩ := h
  exact ⟨v1, rfl, g1⟩
theorem k100_mk (w : World) (x : S100) {A1 : Option Addr} {c1 : Nat} (l1 : x.f1.length ≤ c1) (g1 : (Kd.int .i64).C w A1 x.f1.length x.f1) : k100.K w x [.string x.f0, .slice A1 x.f1.length c1] := ⟨[.string x.f0], [.slice A1 x.f1.length c1], rfl, rfl, ⟨A1, c1, rfl, l1, g1⟩⟩
theorem k100_mkM (w : World) (base : Nat) (ok : Nat → Prop) (x : S100) {v1 : Value} (g1 : (Kd.int .i64).R 3 w base ok v1 x.f1) : k100.M w base ok x [.string x.f0, v1] := ⟨[.string x.f0], [v1], rfl, rfl, ⟨v1, rfl, g1⟩⟩
def rd_T100 (xs : List S100) (i : Int) : S100 := xs.getD i.toNat z100
theorem at_T100 {w : World} {A : Option Addr} {n : Nat} {xs : List S100} (h : Kd.C k100 w A n xs) (i : Int) (h0 : 0 ≤ i) (h1 : i < n) : ∃ ad A1 c1, A = some ad ∧ w.cell? (ad.add (i.toNat * 2)) = some (.string (rd_T100 xs i).f0) ∧ w.cell? ⟨(ad.add (i.toNat * 2)).block, (ad.add (i.toNat * 2)).off + 1, none⟩ = some (.slice A1 (rd_T100 xs i).f1.length c1) ∧ (rd_T100 xs i).f1.length ≤ c1 ∧ (Kd.int .i64).C w A1 (rd_T100 xs i).f1.length (rd_T100 xs i).f1 := by
  obtain ⟨ad, c, e, _, hK, hc0⟩ := Kd.C_get h z100 i h0 h1
  have hc : ∀ j u, c[j]? = some u → w.cell? (ad.add (i.toNat * 2 + j)) = some u := hc0
  obtain ⟨A1, c1, rfl, l1, g1⟩ := k100_open hK
  exact ⟨ad, A1, c1, e, hc 0 _ rfl, by rw [← add_field _ _ 1 (by omega)]; exact hc 1 _ rfl, l1, g1⟩

/-! #### struct type 102 -/
structure S102 where
  f0 : ByteArray
  f1 : (List Int)
def z102 : S102 := ⟨(⟨#[]⟩ : ByteArray), ([] : List Int)⟩
def k102 : Kd S102 := Kd.iso (Kd.pair Kd.string (Kd.slice 3 (Kd.int .i64))) (fun x : S102 => (x.f0, x.f1))
theorem k102_open {w : World} {x : S102} {cs : List Value} (h : k102.K w x cs) : ∃ A1 c1, cs = [.string x.f0, .slice A1 x.f1.length c1] ∧ x.f1.length ≤ c1 ∧ (Kd.int .i64).C w A1 x.f1.length x.f1 := by
  obtain ⟨_, _, rfl, rfl, ⟨A1, c1, rfl, l1, g1⟩⟩ := h
  exact ⟨A1, c1, rfl, l1, g1⟩
theorem k102_openM {w : World} {base : Nat} {ok : Nat → Prop} {x : S102} {cs : List Value} (h : k102.M w base ok x cs) : ∃ v1, cs = [.string x.f0, v1] ∧ (Kd.int .i64).R 3 w base ok v1 x.f1 := by
  obtain ⟨_, _, rfl, rfl, ⟨v1, rfl, g1⟩⟩ := h
  exact ⟨v1, rfl, g1⟩
theorem k102_mk (w : World) (x : S102) {A1 : Option Addr} {c1 : Nat} (l1 : x.f1.length ≤ c1) (g1 : (Kd.int .i64).C w A1 x.f1.length x.f1) : k102.K w x [.string x.f0, .slice A1 x.f1.length c1] := ⟨[.string x.f0], [.slice A1 x.f1.length c1], rfl, rfl, ⟨A1, c1, rfl, l1, g1⟩⟩
theorem k102_mkM (w : World) (base : Nat) (ok : Nat → Prop) (x : S102) {v1 : Value} (g1 : (Kd.int .i64).R 3 w base ok v1 x.f1) : k102.M w base ok x [.string x.f0, v1] := ⟨[.string x.f0], [v1], rfl, rfl, ⟨v1, rfl, g1⟩⟩
def rd_T102 (xs : List S102) (i : Int) : S102 := xs.getD i.toNat z102
theorem at_T102 {w : World} {A : Option Addr} {n : Nat} {xs : List S102} (h : Kd.C k102 w A n xs) (i : Int) (h0 : 0 ≤ i) (h1 : i < n) : ∃ ad A1 c1, A = some ad ∧ w.cell? (ad.add (i.toNat * 2)) = some (.string (rd_T102 xs i).f0) ∧ w.cell? ⟨(ad.add (i.toNat * 2)).block, (ad.add (i.toNat * 2)).off + 1, none⟩ = some (.slice A1 (rd_T102 xs i).f1.length c1) ∧ (rd_T102 xs i).f1.length ≤ c1 ∧ (Kd.int .i64).C w A1 (rd_T102 xs i).f1.length (rd_T102 xs i).f1 := by
  obtain ⟨ad, c, e, _, hK, hc0⟩ := Kd.C_get h z102 i h0 h1
  have hc : ∀ j u, c[j]? = some u → w.cell? (ad.add (i.toNat * 2 + j)) = some u := hc0
  obtain ⟨A1, c1, rfl, l1, g1⟩ := k102_open hK
  exact ⟨ad, A1, c1, e, hc 0 _ rfl, by rw [← add_field _ _ 1 (by omega)]; exact hc 1 _ rfl, l1, g1⟩

def rd_L7 (xs : List (List ByteArray)) (i : Int) : (List ByteArray) := xs.getD i.toNat ([] : List ByteArray)
theorem at_L7 {w : World} {A : Option Addr} {n : Nat} {xs : List (List ByteArray)} (h : Kd.C (Kd.slice 9 Kd.string) w A n xs) (i : Int) (h0 : 0 ≤ i) (h1 : i < n) : ∃ ad A0 c0, A = some ad ∧ w.cell? (ad.add i.toNat) = some (.slice A0 (rd_L7 xs i).length c0) ∧ (rd_L7 xs i).length ≤ c0 ∧ Kd.string.C w A0 (rd_L7 xs i).length (rd_L7 xs i) := by
  obtain ⟨ad, c, e, _, hK, hc0⟩ := Kd.C_get h ([] : List ByteArray) i h0 h1
  have hc : ∀ j u, c[j]? = some u → w.cell? (ad.add (i.toNat * 1 + j)) = some u := hc0
  obtain ⟨A0, c0, rfl, l0, g0⟩ := hK
  exact ⟨ad, A0, c0, e, by have hq := hc 0 _ rfl; rwa [Nat.mul_one, Nat.add_zero] at hq, l0, g0⟩

def rd_L8 (xs : List (List S102)) (i : Int) : (List S102) := xs.getD i.toNat ([] : List S102)
theorem at_L8 {w : World} {A : Option Addr} {n : Nat} {xs : List (List S102)} (h : Kd.C (Kd.slice 102 k102) w A n xs) (i : Int) (h0 : 0 ≤ i) (h1 : i < n) : ∃ ad A0 c0, A = some ad ∧ w.cell? (ad.add i.toNat) = some (.slice A0 (rd_L8 xs i).length c0) ∧ (rd_L8 xs i).length ≤ c0 ∧ k102.C w A0 (rd_L8 xs i).length (rd_L8 xs i) := by
  obtain ⟨ad, c, e, _, hK, hc0⟩ := Kd.C_get h ([] : List S102) i h0 h1
  have hc : ∀ j u, c[j]? = some u → w.cell? (ad.add (i.toNat * 1 + j)) = some u := hc0
  obtain ⟨A0, c0, rfl, l0, g0⟩ := hK
  exact ⟨ad, A0, c0, e, by have hq := hc 0 _ rfl; rwa [Nat.mul_one, Nat.add_zero] at hq, l0, g0⟩
theorem zd {p : Prop} [Decidable p] (h : decide p = true := by first | (with_reducible assumption) | assumption) : p := of_decide_eq_true h
theorem zC {P Q : Prop} (h_ : P) (q : P → Q := by intro h_; repeat (first | exact h_ | (with_reducible refine Kd.C_alloc ?_ _) | (with_reducible refine Kd.C_drewN ?_ _) | (with_reducible refine Kd.C_drew ?_))) : Q := q h_
theorem zq {p : Prop} (h : p := by (try simp only [List.map_toArray, List.map_cons, List.map_nil]); first | done | rfl | (simp only [List.length_drop, List.length_take]; rfl)) : p := h
theorem zr {p : Prop} (h : p := by first | rfl | (simp; done) | (simp [*]; done)) : p := h
theorem zm {p : Prop} (h : p) : Aside0 p := ⟨h⟩
theorem zs {α : Type} {l : List α} {i : Nat} {a : α} : l.toArray.setIfInBounds i a = (l.set i a).toArray := List.setIfInBounds_toArray ..
theorem zz {α : Type} {a b : α} {l : List α} : (a :: l).set 0 b = b :: l := rfl
theorem zt {α : Type} {a b : α} {l : List α} {i : Nat} : (a :: l).set (i + 1) b = a :: l.set i b := rfl
theorem zg_0 {P Q  : Prop} (h_ : P)  (q : P → Q := by intro h_ ; repeat (first | (with_reducible first | exact h_ | apply below_alloc | apply pw_below_drewN | apply below_drew1) | exact h_)) : Q := q h_ 
theorem zg_1 {P Q : Prop} (h_ : P) (q : P → Q := by intro h_; (with_reducible repeat (first | refine blk_drewN ?_ _ | refine blk_drew ?_ | refine blk_alloc ?_ _)); exact h_) : Q := q h_
theorem zg_2 {P Q A0 : Prop} (h_ : P) (a0_ : A0) (q : P → A0 → Q := by intro h_ a0_; repeat (first | (with_reducible first | exact h_ | apply below_alloc | apply pw_below_drewN | apply below_drew1 | refine below_set ?_ a0_) | exact h_)) : Q := q h_ a0_
theorem zg_3 {P Q : Prop} (h_ : P) (q : P → Q := by intro h_; (with_reducible repeat (first | apply Kd.R_alloc | apply Kd.R_drewN | apply Kd.R_drew)); exact h_) : Q := q h_
theorem zg_4 {P Q A0 A1 : Prop} (h_ : P) (a0_ : A0) (a1_ : A1) (q : P → A0 → A1 → Q := by intro h_ a0_ a1_; repeat (first | (with_reducible first | exact h_ | apply below_alloc | apply pw_below_drewN | apply below_drew1 | refine below_set ?_ a0_ | refine below_set ?_ a1_) | exact h_)) : Q := q h_ a0_ a1_
theorem zg_5 {P Q  : Prop} (h_ : P)  (q : P → Q := by intro h_ ; repeat (first | (with_reducible first | exact h_ | apply Kept.alloc | apply Kept.drewN | apply Kept.drew) | exact h_)) : Q := q h_ 
theorem zg_6 {P Q : Prop} (h_ : P) (q : P → Q := by intro h_; (with_reducible repeat (first | apply Kd.S_alloc | apply Kd.S_drewN | apply Kd.S_drew)); exact h_) : Q := q h_
theorem zg_7 {P Q A0 A1 A2 : Prop} (h_ : P) (a0_ : A0) (a1_ : A1) (a2_ : A2) (q : P → A0 → A1 → A2 → Q := by intro h_ a0_ a1_ a2_; repeat (first | (with_reducible first | exact h_ | apply below_alloc | apply pw_below_drewN | apply below_drew1 | refine below_set ?_ a0_ | refine below_set ?_ a1_ | refine below_set ?_ a2_) | exact h_)) : Q := q h_ a0_ a1_ a2_
/-! ### strconv_Itoa_95: function 95 -/
def TrydTab (w : World) : Prop := Lib.TabIs Tryd.prog w "internal/strconv.uint64pow10" .u64 Lib.pow10Tab
theorem TrydTab.to {w w' : World} (h : TrydTab w) (hb : Below w.heap.size w w') : TrydTab w' := Go.Joins.tab_stays (g := 3) (by kernel_rfl) h hb (Nat.le_refl _)
def strconv_Itoa_95.f (a0 : Int) : Option ByteArray := if -9223372036854775808 ≤ a0 then (if a0 ≤ 9223372036854775807 then some (⟨(Lib.itoa a0).toArray⟩ : ByteArray) else none) else none
theorem strconv_Itoa_95.calls (a0 : Int) (r : ByteArray) (w : World) (h : strconv_Itoa_95.f a0 = some r) (HTB_ : TrydTab w := by first | exact HTB_ | exact TrydTab.to HTB_ HB.out | exact TrydTab.to HTB_ (by repeat (first | exact HB.out | apply below_alloc | apply pw_below_drewN | apply below_drew1 | refine below_set ?_ (Aside0.out (by assumption))))) :
    Calls Tryd.prog 95 #[.int .i64 a0] w fun e w' => e = .returned (.string r) ∧ Below w.heap.size w w' := by
  unfold strconv_Itoa_95.f at h
  by_cases h0 : -9223372036854775808 ≤ a0
  · rw [if_pos h0] at h
    by_cases h1 : a0 ≤ 9223372036854775807
    · rw [if_pos h1] at h
      obtain rfl := Option.some.inj h
      refine (Any.strconv_Itoa Tryd.laysItoa a0 h0 h1 w HTB_).mono ?_
      rintro e w' ⟨rfl, k, os, rfl⟩
      exact ⟨rfl, Lib.below_grow _ _ (Nat.le_refl _) _ _⟩
    · rw [if_neg h1] at h; cases h
  · rw [if_neg h0] at h; cases h

-- NOT PRINTED: function 152 (abi_NoEscape)
/-! ### all91: function 91 -/
theorem clos91 {α : Type} {d : Kd α} {F : FuncId} {p : α → Option Bool} (hF : Asks1 F d (fun cs => .agg cs.toArray) p) (a : Addr) (x : α) (y0 y1 : Value) (r : Bool) (w : World) (hK : d.K w x [y0, y1]) (hc : w.cell? a = some (.func (.func F) #[] #[])) (h : p x = some r) :
    Calls Tryd.prog 106 #[.agg #[y0, y1], .pointer (some a)] w fun e w' => e = .returned (.bool !r) ∧ Below w.heap.size w w' := by
  obtain ⟨⟨fn, h1, h2, h3⟩, hF⟩ := hF
  have hb1 : Below w.heap.size w (w.alloc (.cells #[y0, y1] 102 (0, 0))) := (Below.refl _ _).alloc (Nat.le_refl _) _
  have H := Aside0.mk (show Calls Tryd.prog F #[.agg #[y0, y1]] (w.alloc (.cells #[y0, y1] 102 (0, 0))) _ from hF x [y0, y1] r _ (Kd.K_below _ hb1 hK) h)
  have HB0 := Aside0.mk hb1
  have hc2 : (w.alloc (.cells #[y0, y1] 102 (0, 0))).cell? a = some (.func (.func F) #[] #[]) := (hb1.cell (World.block_lt_of_cell? w _ hc)).trans hc
  have H1 := Aside0.mk h1
  have H2 := Aside0.mk h2
  have H3 := Aside0.mk h3
  have hu := Tryd.underlying102
  clear hF h h1 h2 h3 hK hb1
  go_enter Tryd.func106, Tryd.ntmps106
  go_wp2_with (first | ((with_reducible refine gate_dst (N := 6) rfl ?_); refine Stop.out ?_))
  refine ⟨?_⟩
  refine goesV (some 6) rfl rfl H1.out H2.out H3.out #[.agg #[y0, y1]] rfl (cap := #[]) ?hx ?hargs ?_
  case hx => rfl
  case hargs => simp [Act.eval]
  refine H.out.mono ?_
  rintro e w1 ⟨rfl, hb⟩
  refine ⟨_, rfl, ?_⟩
  have HB := Aside0.mk (HB0.out.trans (hb.mono HB0.out.size))
  clear hb
  go_wp2
  go_ret
  exact ⟨rfl, HB.out⟩
set_option maxHeartbeats 1000000 in
set_option maxRecDepth 100000 in
theorem idx91 {F : FuncId} {p : S102 → Option Bool} (hF : Asks1 F k102 (fun cs => .agg cs.toArray) p) (A0 : Option Addr) (c0 : Nat) (l0 : List S102) (a : Addr) (r : Bool) (w : World) (hr0 : Kd.C k102 w A0 l0.length l0) (hc0 : l0.length ≤ c0)
    (hcl : w.cell? a = some (.func (.func F) #[] #[])) (h : allO p l0 = some r) :
    Calls Tryd.prog 120 #[.slice A0 l0.length c0, .func (.func 106) #[] #[.pointer (some a)]] w (IdxPost r w) := by
 have hlen : l0.length ≤ 9223372036854775807 := hr0.2.1
 have HR0 := Aside0.mk hr0
 have HCL := Aside0.mk hcl
 have HF := Aside0.mk hF
 have H' := Aside0.mk h
 have HB := Aside0.mk (Below.refl w.heap.size w)
 clear hr0 hcl hF h
 go_enter Tryd.func120, Tryd.ntmps120
 go_wp2
 go_loopg [8] (l0.length + 1) (fun kq v8 w' => ∃ k : Nat, v8 = .int .i64 (k : Int) ∧ Aside0 (kq + k = l0.length + 1 ∧ k ≤ l0.length) ∧ Aside0 (allO p (l0.drop k) = some r) ∧ Aside0 (Below w.heap.size w w'))
 case atStart => exact ⟨0, rfl, ⟨by omega, by omega⟩, H', HB⟩
 case round =>
  clear H' HB
  obtain ⟨k, rfl, HK, HA, HB⟩ := hrel
  cases gk with
  | zero =>
   have hk := HK.out
   omega
  | succ k1 =>
   by_cases hlt : k < l0.length
   ·have q1 : (k : Int) < (l0.length : Int) := by omega
    have p1 : 0 ≤ (k : Int) := by omega
    obtain ⟨ad, A1, c1, ea, hx0, hx1, l1, g1⟩ := at_T102 HR0.out (k : Int) p1 q1
    cases ea
    simp only [Int.toNat_natCast] at hx0 hx1
    replace hx0 := (HB.out.cell (World.block_lt_of_cell? w _ hx0)).trans hx0
    replace hx1 := (HB.out.cell (World.block_lt_of_cell? w _ hx1)).trans hx1
    have HKK := Aside0.mk (show k102.K w (rd_T102 l0 k) [.string ((rd_T102 l0 k).f0), .slice A1 (rd_T102 l0 k).f1.length c1] from k102_mk w _ l1 g1)
    clear l1 g1
    have HX := Aside0.mk (show ∃ b, p (rd_T102 l0 k) = some b ∧ (if b = true then allO p (l0.drop (k+1)) else some false) = some r from by
     have := HA.out
     rw [List.drop_eq_getElem_cons hlt] at this
     simp only [allO] at this
     obtain ⟨b, hb, h2⟩ := Option.bind_eq_some_iff.1 this
     refine ⟨b, ?_, h2⟩
     rw [← hb]; congr 1; simp [rd_T102, hlt])
    obtain ⟨b, hb, h2⟩ := HX.out
    have HPB := Aside0.mk hb
    have H2 := Aside0.mk h2
    have HCL2 := Aside0.mk ((HB.out.cell (World.block_lt_of_cell? w _ HCL.out)).trans HCL.out)
    clear HX hb h2 q1 p1 HA
    cases b with
    | true =>
     go_wp2_with (first | ((with_reducible refine gate_dst (N := 16) rfl ?_); refine goesV (some 16) rfl rfl Tryd.func106 (by kernel_rfl) rfl #[.agg #[.string ((rd_T102 l0 k).f0), .slice A1 (rd_T102 l0 k).f1.length c1], .pointer (some a)] rfl (cap := #[.pointer (some a)]) ?hx ?hargs ?_; (case hx => rfl); (case hargs => simp [Act.eval]); refine (clos91 HF.out a _ (.string ((rd_T102 l0 k).f0)) (.slice A1 (rd_T102 l0 k).f1.length c1) _ _ (Kd.K_below _ HB.out HKK.out) HCL2.out HPB.out).mono ?_; rintro e w2 ⟨rfl, hb⟩; refine ⟨_, rfl, ?_⟩; have HB2 := Aside0.mk (HB.out.trans (hb.mono HB.out.size)); clear hb))
     go_roundg k1
     case measure => omega
     case rel => exact ⟨k + 1, by simp, ⟨by have := HK.out; omega, by have := HK.out; omega⟩, ⟨by simpa using H2.out⟩, HB2⟩
    | false =>
     go_wp2_with (first | ((with_reducible refine gate_dst (N := 16) rfl ?_); refine goesV (some 16) rfl rfl Tryd.func106 (by kernel_rfl) rfl #[.agg #[.string ((rd_T102 l0 k).f0), .slice A1 (rd_T102 l0 k).f1.length c1], .pointer (some a)] rfl (cap := #[.pointer (some a)]) ?hx ?hargs ?_; (case hx => rfl); (case hargs => simp [Act.eval]); refine (clos91 HF.out a _ (.string ((rd_T102 l0 k).f0)) (.slice A1 (rd_T102 l0 k).f1.length c1) _ _ (Kd.K_below _ HB.out HKK.out) HCL2.out HPB.out).mono ?_; rintro e w2 ⟨rfl, hb⟩; refine ⟨_, rfl, ?_⟩; have HB2 := Aside0.mk (HB.out.trans (hb.mono HB.out.size)); clear hb))
     go_ret
     have hr : r = false := by have := H2.out; simpa using this.symm
     exact ⟨k, rfl, by rw [hr]; simp, HB2.out⟩
   ·have hge : l0.length ≤ k := by omega
    go_wp2
    go_ret
    have hr : r = true := by
     have := HA.out
     rw [List.drop_of_length_le hge] at this
     simpa [allO] using this.symm
    exact ⟨-1, rfl, by rw [hr]; decide, HB.out⟩
theorem cont91 {F : FuncId} {p : S102 → Option Bool} (hF : Asks1 F k102 (fun cs => .agg cs.toArray) p) (A0 : Option Addr) (c0 : Nat) (l0 : List S102) (a : Addr) (r : Bool) (w : World) (hr0 : Kd.C k102 w A0 l0.length l0) (hc0 : l0.length ≤ c0)
 (hcl : w.cell? a = some (.func (.func F) #[] #[])) (h : allO p l0 = some r) :
 Calls Tryd.prog 105 #[.slice A0 l0.length c0, .func (.func 106) #[] #[.pointer (some a)]] w fun e w' => e = .returned (.bool !r) ∧ Below w.heap.size w w' := by
 have H := Aside0.mk (idx91 hF A0 c0 l0 a r w hr0 hc0 hcl h)
 clear hr0 hcl hF h
 go_enter Tryd.func105, Tryd.ntmps105
 go_wp2_with (go_at_call 120; (with_reducible refine H.out.mono ?_); rintro e w2 ⟨j, rfl, hj, hb⟩; have HJ := Aside0.mk hj; have HB := Aside0.mk hb; clear hj hb)
 go_ret
 exact ⟨by rw [← HJ.out]; rfl, HB.out⟩
theorem all91 {F : FuncId} {p : S102 → Option Bool} (hF : Asks1 F k102 (fun cs => .agg cs.toArray) p) (A0 : Option Addr) (c0 : Nat) (l0 : List S102) (r : Bool) (w : World) (hr0 : Kd.C k102 w A0 l0.length l0) (hc0 : l0.length ≤ c0)
 (h : allO p l0 = some r) :
 Calls Tryd.prog 91 #[.slice A0 l0.length c0, .func (.func F) #[] #[]] w fun e w' => e = .returned (.bool r) ∧ Below w.heap.size w w' := by
 have hb1 : ∀ o, Below w.heap.size w (w.alloc o) := fun o => (Below.refl _ _).alloc (Nat.le_refl _) o
 have H := Aside0.mk (cont91 hF A0 c0 l0 ⟨w.heap.size, 0, none⟩ r (w.alloc (.cells #[.func (.func F) #[] #[]] 107 (0, 0))) (Kd.C_below hr0 (hb1 _)) hc0 (by go_simp) h)
 have HB0 := Aside0.mk (hb1 (.cells #[.func (.func F) #[] #[]] 107 (0, 0)))
 clear hr0 hF h hb1
 go_enter Tryd.func91, Tryd.ntmps91
 go_wp2_with (go_at_call 105; (with_reducible refine H.out.mono ?_); rintro e w2 ⟨rfl, hb⟩; have HB := Aside0.mk (HB0.out.trans (hb.mono HB0.out.size)); clear hb)
 go_ret
 exact ⟨by simp, HB.out⟩
/-! ### all101: function 101 -/
theorem clos101 {α : Type} {d : Kd α} {val : List Value → Value} {F : FuncId} {p : α → Option Bool} (hF : Asks1 F d val p) (a : Addr) (x : α) (cs : List Value) (v : Value) (hv : val cs = v) (r : Bool) (w : World) (hK : d.K w x cs) (hc : w.cell? a = some (.func (.func F) #[] #[])) (h : p x = some r) :
    Calls Tryd.prog 117 #[v, .pointer (some a)] w fun e w' => e = .returned (.bool !r) ∧ Below w.heap.size w w' := by
  obtain ⟨⟨fn, h1, h2, h3⟩, hF⟩ := hF
  have h0 := hF x cs r w hK h
  rw [hv] at h0
  have H := Aside0.mk h0
  have H1 := Aside0.mk h1
  have H2 := Aside0.mk h2
  have H3 := Aside0.mk h3
  clear hF h h1 h2 h3 hK h0 hv
  go_enter Tryd.func117, Tryd.ntmps117
  go_wp2_with (first | ((with_reducible refine gate_dst (N := 6) rfl ?_); refine Stop.out ?_))
  refine ⟨?_⟩
  refine goesV (some 6) rfl rfl H1.out H2.out H3.out #[v] rfl (cap := #[]) ?hx ?hargs ?_
  case hx => rfl
  case hargs => simp [Act.eval]
  refine H.out.mono ?_
  rintro e w1 ⟨rfl, hb⟩
  refine ⟨_, rfl, ?_⟩
  have HB := Aside0.mk hb
  clear hb
  go_wp2
  go_ret
  exact ⟨rfl, HB.out⟩
set_option maxHeartbeats 1000000 in
set_option maxRecDepth 100000 in
theorem idx101 {F : FuncId} {p : Int → Option Bool} (hF : Asks1 F (Kd.int .i64) (fun cs => cs.headD undef) p) (A0 : Option Addr) (c0 : Nat) (l0 : List Int) (a : Addr) (r : Bool) (w : World) (hr0 : Kd.C (Kd.int .i64) w A0 l0.length l0) (hc0 : l0.length ≤ c0)
    (hcl : w.cell? a = some (.func (.func F) #[] #[])) (h : allO p l0 = some r) :
    Calls Tryd.prog 133 #[.slice A0 l0.length c0, .func (.func 117) #[] #[.pointer (some a)]] w (IdxPost r w) := by
 have hlen : l0.length ≤ 9223372036854775807 := hr0.2.1
 have HR0 := Aside0.mk hr0
 have HCL := Aside0.mk hcl
 have HF := Aside0.mk hF
 have H' := Aside0.mk h
 have HB := Aside0.mk (Below.refl w.heap.size w)
 clear hr0 hcl hF h
 go_enter Tryd.func133, Tryd.ntmps133
 go_wp2
 go_loopg [8] (l0.length + 1) (fun kq v8 w' => ∃ k : Nat, v8 = .int .i64 (k : Int) ∧ Aside0 (kq + k = l0.length + 1 ∧ k ≤ l0.length) ∧ Aside0 (allO p (l0.drop k) = some r) ∧ Aside0 (Below w.heap.size w w'))
 case atStart => exact ⟨0, rfl, ⟨by omega, by omega⟩, H', HB⟩
 case round =>
  clear H' HB
  obtain ⟨k, rfl, HK, HA, HB⟩ := hrel
  cases gk with
  | zero =>
   have hk := HK.out
   omega
  | succ k1 =>
   by_cases hlt : k < l0.length
   ·have q1 : (k : Int) < (l0.length : Int) := by omega
    have p1 : 0 ≤ (k : Int) := by omega
    obtain ⟨ad, ea, hx⟩ := Kd.at_int HR0.out (k : Int) p1 q1
    cases ea
    rw [Int.toNat_natCast] at hx
    replace hx := (HB.out.cell (World.block_lt_of_cell? w _ hx)).trans hx
    have HKK := Aside0.mk (show (Kd.int .i64).K w (rd l0 k) [.int .i64 (rd l0 k)] from rfl)
    have HX := Aside0.mk (show ∃ b, p (rd l0 k) = some b ∧ (if b = true then allO p (l0.drop (k+1)) else some false) = some r from by
     have := HA.out
     rw [List.drop_eq_getElem_cons hlt] at this
     simp only [allO] at this
     obtain ⟨b, hb, h2⟩ := Option.bind_eq_some_iff.1 this
     refine ⟨b, ?_, h2⟩
     rw [← hb]; congr 1; simp [rd, rdOf, hlt])
    obtain ⟨b, hb, h2⟩ := HX.out
    have HPB := Aside0.mk hb
    have H2 := Aside0.mk h2
    have HCL2 := Aside0.mk ((HB.out.cell (World.block_lt_of_cell? w _ HCL.out)).trans HCL.out)
    clear HX hb h2 q1 p1 HA
    cases b with
    | true =>
     go_wp2_with (first | ((with_reducible refine gate_dst (N := 16) rfl ?_); refine goesV (some 16) rfl rfl Tryd.func117 (by kernel_rfl) rfl #[.int .i64 (rd l0 k), .pointer (some a)] rfl (cap := #[.pointer (some a)]) ?hx ?hargs ?_; (case hx => rfl); (case hargs => simp [Act.eval]); refine (clos101 HF.out a _ [.int .i64 (rd l0 k)] _ rfl _ _ (Kd.K_below _ HB.out HKK.out) HCL2.out HPB.out).mono ?_; rintro e w2 ⟨rfl, hb⟩; refine ⟨_, rfl, ?_⟩; have HB2 := Aside0.mk (HB.out.trans (hb.mono HB.out.size)); clear hb))
     go_roundg k1
     case measure => omega
     case rel => exact ⟨k + 1, by simp, ⟨by have := HK.out; omega, by have := HK.out; omega⟩, ⟨by simpa using H2.out⟩, HB2⟩
    | false =>
     go_wp2_with (first | ((with_reducible refine gate_dst (N := 16) rfl ?_); refine goesV (some 16) rfl rfl Tryd.func117 (by kernel_rfl) rfl #[.int .i64 (rd l0 k), .pointer (some a)] rfl (cap := #[.pointer (some a)]) ?hx ?hargs ?_; (case hx => rfl); (case hargs => simp [Act.eval]); refine (clos101 HF.out a _ [.int .i64 (rd l0 k)] _ rfl _ _ (Kd.K_below _ HB.out HKK.out) HCL2.out HPB.out).mono ?_; rintro e w2 ⟨rfl, hb⟩; refine ⟨_, rfl, ?_⟩; have HB2 := Aside0.mk (HB.out.trans (hb.mono HB.out.size)); clear hb))
     go_ret
     have hr : r = false := by have := H2.out; simpa using this.symm
     exact ⟨k, rfl, by rw [hr]; simp, HB2.out⟩
   ·have hge : l0.length ≤ k := by omega
    go_wp2
    go_ret
    have hr : r = true := by
     have := HA.out
     rw [List.drop_of_length_le hge] at this
     simpa [allO] using this.symm
    exact ⟨-1, rfl, by rw [hr]; decide, HB.out⟩
theorem cont101 {F : FuncId} {p : Int → Option Bool} (hF : Asks1 F (Kd.int .i64) (fun cs => cs.headD undef) p) (A0 : Option Addr) (c0 : Nat) (l0 : List Int) (a : Addr) (r : Bool) (w : World) (hr0 : Kd.C (Kd.int .i64) w A0 l0.length l0) (hc0 : l0.length ≤ c0)
 (hcl : w.cell? a = some (.func (.func F) #[] #[])) (h : allO p l0 = some r) :
 Calls Tryd.prog 116 #[.slice A0 l0.length c0, .func (.func 117) #[] #[.pointer (some a)]] w fun e w' => e = .returned (.bool !r) ∧ Below w.heap.size w w' := by
 have H := Aside0.mk (idx101 hF A0 c0 l0 a r w hr0 hc0 hcl h)
 clear hr0 hcl hF h
 go_enter Tryd.func116, Tryd.ntmps116
 go_wp2_with (go_at_call 133; (with_reducible refine H.out.mono ?_); rintro e w2 ⟨j, rfl, hj, hb⟩; have HJ := Aside0.mk hj; have HB := Aside0.mk hb; clear hj hb)
 go_ret
 exact ⟨by rw [← HJ.out]; rfl, HB.out⟩
theorem all101 {F : FuncId} {p : Int → Option Bool} (hF : Asks1 F (Kd.int .i64) (fun cs => cs.headD undef) p) (A0 : Option Addr) (c0 : Nat) (l0 : List Int) (r : Bool) (w : World) (hr0 : Kd.C (Kd.int .i64) w A0 l0.length l0) (hc0 : l0.length ≤ c0)
 (h : allO p l0 = some r) :
 Calls Tryd.prog 101 #[.slice A0 l0.length c0, .func (.func F) #[] #[]] w fun e w' => e = .returned (.bool r) ∧ Below w.heap.size w w' := by
 have hb1 : ∀ o, Below w.heap.size w (w.alloc o) := fun o => (Below.refl _ _).alloc (Nat.le_refl _) o
 have H := Aside0.mk (cont101 hF A0 c0 l0 ⟨w.heap.size, 0, none⟩ r (w.alloc (.cells #[.func (.func F) #[] #[]] 72 (0, 0))) (Kd.C_below hr0 (hb1 _)) hc0 (by go_simp) h)
 have HB0 := Aside0.mk (hb1 (.cells #[.func (.func F) #[] #[]] 72 (0, 0)))
 clear hr0 hF h hb1
 go_enter Tryd.func101, Tryd.ntmps101
 go_wp2_with (go_at_call 116; (with_reducible refine H.out.mono ?_); rintro e w2 ⟨rfl, hb⟩; have HB := Aside0.mk (HB0.out.trans (hb.mono HB0.out.size)); clear hb)
 go_ret
 exact ⟨by simp, HB.out⟩
/-! ### impl_within: function 77 -/
def impl_within.f (a0 : Int) (a1 : Int) (a2 : Int) : Option (Bool) := if a1 ≤ a0 then (some (decide (a0 ≤ a2))) else (some false)
set_option maxHeartbeats 8000000 in
set_option maxRecDepth 100000 in
theorem impl_within.calls (a0 : Int) (a1 : Int) (a2 : Int) (r : Bool) (w : World) (h : impl_within.f a0 a1 a2 = some r) :
    Calls Tryd.prog 77 #[.int .i64 a0, .int .i64 a1, .int .i64 a2] w fun e w' => e = .returned (.bool r) ∧ Drawn0 w w' := by
  have H : (if a1 ≤ a0 then (some (decide (a0 ≤ a2))) else (some false)) = some r := h
  clear h
  by_cases c4 : a1 ≤ a0
  · rw [if_pos c4] at H
    have c4b0 : decide (a1 ≤ a0) = true := decide_eq_true c4
    clear c4
    obtain rfl := Option.some.inj H
    go_enter Tryd.func77, Tryd.ntmps77
    go_wp2
    go_ret
    exact ⟨by first | rfl | (simp; done) | (simp [*]; done), by repeat (first | exact Drawn0.refl _ | apply Drawn0.step)⟩
  · rw [if_neg c4] at H
    have c4b0 : decide (a1 ≤ a0) = false := decide_eq_false c4
    clear c4
    obtain rfl := Option.some.inj H
    go_enter Tryd.func77, Tryd.ntmps77
    go_wp2
    go_ret
    exact ⟨by first | rfl | (simp; done) | (simp [*]; done), by repeat (first | exact Drawn0.refl _ | apply Drawn0.step)⟩
/-! ### impl_isNumber: function 48 -/
def impl_isNumber.f (a0 : Int) : Option (Bool) := (impl_within.f a0 0 2147483647).bind fun t101 => (some t101)
set_option maxHeartbeats 8000000 in
set_option maxRecDepth 100000 in
theorem impl_isNumber.calls (a0 : Int) (r : Bool) (w : World) (h : impl_isNumber.f a0 = some r) :
    Calls Tryd.prog 48 #[.int .i64 a0] w fun e w' => e = .returned (.bool r) ∧ Drawn0 w w' := by
  have H : ((impl_within.f a0 0 2147483647).bind fun t101 => (some t101)) = some r := h
  clear h
  replace H := Option.bind_eq_some_iff.mp H
  obtain ⟨t101, A20, H⟩ := H
  replace H : (some t101) = some r := H
  have A2 := Aside0.mk A20
  clear A20
  obtain rfl := Option.some.inj H
  go_enter Tryd.func48, Tryd.ntmps48
  go_wp2_with (first | ((with_reducible refine gate_callee (f := 77) rfl ?_); refine goesL_ (some 4) rfl rfl Tryd.func77 (by kernel_rfl) rfl #[.int .i64 a0, .int .i64 0, .int .i64 2147483647] rfl (by (try simp only [List.map_toArray, List.map_cons, List.map_nil]); first | done | rfl | (simp only [List.length_drop, List.length_take]; rfl)) ?_; (with_reducible refine (impl_within.calls a0 0 2147483647 t101 _ A2.out).mono ?_); rintro e w' ⟨rfl, ⟨nd, rfl⟩⟩; refine ⟨_, rfl, ?_⟩))
  go_ret
  exact ⟨by first | rfl | (simp; done) | (simp [*]; done), by repeat (first | exact Drawn0.refl _ | apply Drawn0.step)⟩
/-! ### all101_impl_isNumber: function 101 -/
def all101_impl_isNumber.f (l0 : List Int) (_ : Unit) : Option Bool := allO (fun x => impl_isNumber.f x) l0
theorem all101_impl_isNumber.asks : Asks1 48 (Kd.int .i64) (fun cs => cs.headD undef) (fun x => impl_isNumber.f x) := ⟨⟨_, Tryd.func48, by kernel_rfl, rfl⟩, fun x cs r w hK h => by
  cases hK
  exact (impl_isNumber.calls x r w h).mono fun e w' hh => ⟨hh.1, hh.2.below⟩⟩
theorem all101_impl_isNumber.calls (A0 : Option Addr) (c0 : Nat) (l0 : List Int) (_u : Unit) (r : Bool) (w : World) (hr0 : Kd.C (Kd.int .i64) w A0 l0.length l0) (hc0 : l0.length ≤ c0) (h : all101_impl_isNumber.f l0 () = some r) :
    Calls Tryd.prog 101 #[.slice A0 l0.length c0, .func (.func 48) #[] #[]] w fun e w' => e = .returned (.bool r) ∧ Below w.heap.size w w' :=
  all101 (all101_impl_isNumber.asks) A0 c0 l0 r w hr0 hc0 h
/-! ### impl_areValues: function 88 -/
def impl_areValues.f (l0 : List Int) : Option (Bool) := if (l0.length : Int) ≤ 12 then ((all101_impl_isNumber.f l0 ()).bind fun t102 => (some t102)) else (some false)
set_option maxHeartbeats 8000000 in
set_option maxRecDepth 100000 in
theorem impl_areValues.calls (A0 : Option Addr) (c0 : Nat) (l0 : List Int) (r : Bool) (w : World) (hr0 : Kd.C (Kd.int .i64) w A0 l0.length l0) (hc0 : l0.length ≤ c0) (h : impl_areValues.f l0 = some r) :
    Calls Tryd.prog 88 #[.slice A0 l0.length c0] w fun e w' => e = .returned (.bool r) ∧ Below w.heap.size w w' := by
  have HR0 := Aside0.mk hr0
  have HC0 := Aside0.mk hc0
  clear hr0 hc0
  have HB := Aside0.mk (Below.refl w.heap.size w)
  have H : (if (l0.length : Int) ≤ 12 then ((all101_impl_isNumber.f l0 ()).bind fun t102 => (some t102)) else (some false)) = some r := h
  clear h
  by_cases c2 : (l0.length : Int) ≤ 12
  · rw [if_pos c2] at H
    have c2b0 : decide ((l0.length : Int) ≤ 12) = true := decide_eq_true c2
    have c2b1 : decide (l0.length ≤ 12) = true := decide_eq_true (by omega)
    clear c2
    replace H := Option.bind_eq_some_iff.mp H
    obtain ⟨t102, A30, H⟩ := H
    replace H : (some t102) = some r := H
    have A3 := Aside0.mk A30
    clear A30
    obtain rfl := Option.some.inj H
    go_enter Tryd.func88, Tryd.ntmps88
    go_wp2_with (first | (go_at_call 101; (with_reducible refine (all101_impl_isNumber.calls _ _ l0 () t102 _ ?side1 ?side2 A3.out).mono ?_); (case side1 => repeat (first | exact HR0.out | (with_reducible refine Kd.C_alloc ?_ _) | (with_reducible refine Kd.C_drewN ?_ _) | (with_reducible refine Kd.C_drew ?_))); (case side2 => exact HC0.out); rintro e w4 ⟨rfl, hb⟩; have n0_ := Aside0.mk (below_step (by repeat (first | (with_reducible first | exact HB.out | apply below_alloc | apply pw_below_drewN | apply below_drew1) | exact HB.out)) hb); clear HB; have HB := n0_; clear n0_; (try clear hb); (try clear hb2); (try clear hk); (try clear hi)))
    go_ret
    exact ⟨by first | rfl | (simp [errW_none, errW_some] <;> rfl) | (simp [*, errW_none, errW_some] <;> rfl), by repeat (first | (with_reducible first | exact HB.out | apply below_alloc | apply pw_below_drewN | apply below_drew1) | exact HB.out)⟩
  · rw [if_neg c2] at H
    have c2b0 : decide ((l0.length : Int) ≤ 12) = false := decide_eq_false c2
    have c2b1 : decide (l0.length ≤ 12) = false := decide_eq_false (by omega)
    clear c2
    obtain rfl := Option.some.inj H
    go_enter Tryd.func88, Tryd.ntmps88
    go_wp2
    go_ret
    exact ⟨by first | rfl | (simp [errW_none, errW_some] <;> rfl) | (simp [*, errW_none, errW_some] <;> rfl), by repeat (first | (with_reducible first | exact HB.out | apply below_alloc | apply pw_below_drewN | apply below_drew1) | exact HB.out)⟩
/-! ### impl_GuestOK_1: function 92 -/
def impl_GuestOK_1.f (a0_0 : ByteArray) (l0_1 : List Int) : Option (Bool) := (impl_areValues.f l0_1).bind fun t104 => (some t104)
set_option maxHeartbeats 8000000 in
set_option maxRecDepth 100000 in
theorem impl_GuestOK_1.calls (a0_0 : ByteArray) (A0_1 : Option Addr) (c0_1 : Nat) (l0_1 : List Int) (r : Bool) (w : World) (hr0_1 : Kd.C (Kd.int .i64) w A0_1 l0_1.length l0_1) (hc0_1 : l0_1.length ≤ c0_1) (h : impl_GuestOK_1.f a0_0 l0_1 = some r) :
    Calls Tryd.prog 92 #[.agg #[.string a0_0, .slice A0_1 l0_1.length c0_1]] w fun e w' => e = .returned (.bool r) ∧ Below w.heap.size w w' := by
 have hu102 := Tryd.underlying102
 have HR0_1 := zm hr0_1
 have HC0_1 := zm hc0_1
 clear hr0_1 hc0_1
 have HB := zm (Below.refl w.heap.size w)
 have H : ((impl_areValues.f l0_1).bind fun t104 => (some t104)) = some r := h
 clear h
 replace H := Option.bind_eq_some_iff.mp H
 obtain ⟨t104, A20, H⟩ := H
 replace H : (some t104) = some r := H
 have A2 := zm A20
 clear A20
 obtain rfl := Option.some.inj H
 go_enter Tryd.func92, Tryd.ntmps92
 go_wp2_with (first | ((with_reducible refine gate_dst (N := 1) rfl ?_); refine box_event ?hg (N := 1) ?hd (cs := #[.string a0_0, .slice A0_1 l0_1.length c0_1]) (t := 102) ?hr ?_; (case hd => rfl); (case hg => rfl); (case hr => first | (go_simp; done) | (go_simp; rfl)); intro gb103 hg w3 hbox hb; have n0_ := zm (below_step (zg_0 HB.out) hb); have n1_ := zm (hbox); have n2_ := zm ((by rw [hg]; exact (below_size (zg_0 HB.out)) : w.heap.size ≤ gb103)); have n3_ := zm ((by rw [hg]; exact (below_size (zg_0 HB.out)) : w.heap.size ≤ gb103)); clear HB; have HB := n0_; have BK103 := n1_; have GW103 := n2_; have GE103 := n3_; clear n0_ n1_ n2_ n3_; clear hb hbox hg; have hcz4_0 : w3.cell? ⟨gb103, 0, none⟩ = some (.string a0_0) := (blk_cell BK103.out 0).trans rfl; have hcz4_1 : w3.cell? ⟨gb103, 1, none⟩ = some (.slice A0_1 l0_1.length c0_1) := (blk_cell BK103.out 1).trans rfl; have hfz4_0 := blk_frozen BK103.out 0; have hfz4_1 := blk_frozen BK103.out 1) | ((with_reducible refine gate_callee (f := 88) rfl ?_); refine goesL_ (some 5) rfl rfl Tryd.func88 (by kernel_rfl) rfl #[.slice A0_1 l0_1.length c0_1] rfl zq ?_; (with_reducible refine (impl_areValues.calls _ _ l0_1 t104 _ ?side1 ?side2 A2.out).mono ?_); (case side1 => exact zC (Kd.C_below HR0_1.out HB.out)); (case side2 => exact HC0_1.out); rintro e w5 ⟨rfl, hb⟩; refine ⟨_, rfl, ?_⟩; have n0_ := zm (blk_below (g := gb103) (o := .cells #[.string a0_0, .slice A0_1 l0_1.length c0_1] 102 (0, 0)) (zg_1 BK103.out) hb); have n1_ := zm (below_step (zg_2 HB.out GE103.out) hb); clear BK103; clear HB; have BK103 := n0_; have HB := n1_; clear n0_ n1_; (try clear hb); (try clear hb2); (try clear hk); (try clear hi)))
 go_ret
 exact ⟨by first | rfl | (simp [errW_none, errW_some] <;> rfl) | (simp [*, errW_none, errW_some] <;> rfl), zg_2 HB.out GE103.out⟩
/-! ### all91_impl_GuestOK_1: function 91 -/
def all91_impl_GuestOK_1.f (l0 : List S102) (_ : Unit) : Option Bool := allO (fun x => impl_GuestOK_1.f x.f0 x.f1) l0
theorem all91_impl_GuestOK_1.asks : Asks1 92 k102 (fun cs => .agg cs.toArray) (fun x => impl_GuestOK_1.f x.f0 x.f1) := ⟨⟨_, Tryd.func92, by kernel_rfl, rfl⟩, fun x cs r w hK h => by
  obtain ⟨A1, c1, rfl, l1, g1⟩ := k102_open hK
  exact (impl_GuestOK_1.calls x.f0 A1 c1 x.f1 r w g1 l1 h).mono fun e w' hh => ⟨hh.1, hh.2⟩⟩
theorem all91_impl_GuestOK_1.calls (A0 : Option Addr) (c0 : Nat) (l0 : List S102) (_u : Unit) (r : Bool) (w : World) (hr0 : Kd.C k102 w A0 l0.length l0) (hc0 : l0.length ≤ c0) (h : all91_impl_GuestOK_1.f l0 () = some r) :
    Calls Tryd.prog 91 #[.slice A0 l0.length c0, .func (.func 92) #[] #[]] w fun e w' => e = .returned (.bool r) ∧ Below w.heap.size w w' :=
  all91 (all91_impl_GuestOK_1.asks) A0 c0 l0 r w hr0 hc0 h
/-! ### impl_Guest_names: function 90 -/
def impl_Guest_names.l0 : Nat → List ByteArray → List (S102) → Int → Int → Option (List ByteArray)
  | 0, _, _, _, _ => none
  | k + 1, x3, x8, x9, x10 => if x10 < x9 then (if 0 ≤ x10 then (if x10 < (x8.length : Int) then (if x3.length < 8796093022208 then (impl_Guest_names.l0 k (x3 ++ [(rd_T102 x8 x10).f0]) x8 x9 (wrap64 (x10 + 1))) else (none)) else (none)) else (none)) else (some x3)
def impl_Guest_names.f (k : Nat) (l0_0 : List Int) (l0_1 : List (S102)) : Option (List ByteArray) := impl_Guest_names.l0 k (([] : List ByteArray)) l0_1 (l0_1.length : Int) 0
theorem impl_Guest_names.mono_l : ∀ k, (∀ y0 y1 y2 y3, LeO (impl_Guest_names.l0 k y0 y1 y2 y3) (impl_Guest_names.l0 (k + 1) y0 y1 y2 y3))
  | 0 => fun _ _ _ _ r h => by simp [impl_Guest_names.l0] at h
  | k + 1 => by
    have ih0 := impl_Guest_names.mono_l k
    · intro y0 y1 y2 y3
      unfold impl_Guest_names.l0
      repeat' first
      | (with_reducible exact ih0 _ _ _ _)
      | (with_reducible exact LeO.refl _)
      | (with_reducible exact LeO.none _)
      | (with_reducible refine LeO.ite ?_ ?_)
      | (with_reducible refine LeO.bind ?_ (fun _ => ?_))
      | exact ih0 _ _ _ _
      | exact LeO.none _
      | refine LeO.ite ?_ ?_
      | refine LeO.bind ?_ (fun _ => ?_)
theorem impl_Guest_names.mono : ∀ a0 a1 k, LeO (impl_Guest_names.f k a0 a1) (impl_Guest_names.f (k + 1) a0 a1) := by
  intro a0 a1 k
  have ih0 := impl_Guest_names.mono_l k
  unfold impl_Guest_names.f
  repeat' first
      | (with_reducible exact ih0 _ _ _ _)
      | (with_reducible exact LeO.refl _)
      | (with_reducible exact LeO.none _)
      | (with_reducible refine LeO.ite ?_ ?_)
      | (with_reducible refine LeO.bind ?_ (fun _ => ?_))
      | exact ih0 _ _ _ _
      | exact LeO.none _
      | refine LeO.ite ?_ ?_
      | refine LeO.bind ?_ (fun _ => ?_)
set_option maxHeartbeats 8000000 in
set_option maxRecDepth 100000 in
theorem impl_Guest_names.calls (k : Nat) (A0_0 : Option Addr) (c0_0 : Nat) (l0_0 : List Int) (A0_1 : Option Addr) (c0_1 : Nat) (l0_1 : List (S102)) (r : List ByteArray) (w : World) (hr0_0 : Kd.C (Kd.int .i64) w A0_0 l0_0.length l0_0) (hc0_0 : l0_0.length ≤ c0_0) (hr0_1 : Kd.C k102 w A0_1 l0_1.length l0_1) (hc0_1 : l0_1.length ≤ c0_1) (h : impl_Guest_names.f k l0_0 l0_1 = some r) :
    Calls Tryd.prog 90 #[.agg #[.slice A0_0 l0_0.length c0_0, .slice A0_1 l0_1.length c0_1]] w fun e w' => ∃ v0_ : Value, e = .returned (v0_) ∧ Kd.R Kd.string 9 w' w.heap.size (fun _ => True) v0_ r ∧ Below w.heap.size w w' := by
 have hu55 := Tryd.underlying55
 have hu102 := Tryd.underlying102
 have Zm := zm hr0_0
 have Zn := zm hc0_0
 clear hr0_0 hc0_0
 have Zh := zm hr0_1
 have Zo := zm hc0_1
 clear hr0_1 hc0_1
 have HB := zm (Below.refl w.heap.size w)
 have H : (impl_Guest_names.l0 k (([] : List ByteArray)) l0_1 (l0_1.length : Int) 0) = some r := h
 clear h
 obtain ⟨y294, hy294⟩ : ∃ y_ : List ByteArray, y_ = (([] : List ByteArray)) := ⟨_, rfl⟩
 replace H : (impl_Guest_names.l0 k y294 l0_1 (l0_1.length : Int) 0) = some r := by first | (rw [hy294]; with_reducible exact H) | (have H2_ := (Option.bind_some _ _).symm.trans H; rw [hy294]; with_reducible exact H2_) | (have H2_ := (Option.bind_some _ _).symm.trans H; with_reducible exact H2_) | with_reducible exact H | (rw [hy294]; exact H) | exact H
 have Ny294 := zm hy294
 clear hy294
 have H' := zm H
 clear H
 go_enter Tryd.func90, Tryd.ntmps90
 go_wp2_with (first | ((with_reducible refine gate_dst (N := 1) rfl ?_); refine box_event ?hg (N := 1) ?hd (cs := #[.slice A0_0 l0_0.length c0_0, .slice A0_1 l0_1.length c0_1]) (t := 55) ?hr ?_; (case hd => rfl); (case hg => rfl); (case hr => first | (go_simp; done) | (go_simp; rfl)); intro gb293 hg w2 hbox hb; have n0_ := zm (below_step (zg_0 HB.out) hb); have n1_ := zm (hbox); have n2_ := zm ((by rw [hg]; exact (below_size (zg_0 HB.out)) : w.heap.size ≤ gb293)); have n3_ := zm ((by rw [hg]; exact (below_size (zg_0 HB.out)) : w.heap.size ≤ gb293)); clear HB; have HB := n0_; have Za := n1_; have Zp := n2_; have Zb := n3_; clear n0_ n1_ n2_ n3_; clear hb hbox hg) | ((with_reducible refine gate_dst (N := 6) rfl ?_); refine Kd.R_lit Kd.string _ 9 ?hg (N := 6) ?hd (xs := ([] : List ByteArray)) (inner := []) (ok := fun _ => True) (okp := fun _ => True) ?hr ?hp (fun _ hk => hk) trivial (Below.refl _ _) (Nat.le_refl _) (by simp) ?_; (case hd => rfl); (case hg => rfl); (case hr => first | (go_simp; done) | (go_simp; rfl)); (case hp => exact (Reps.none _ _)); intro v295 w3 ho4 hb hg_ hnew_; clear hg_ hnew_; (first | rw [← Ny294.out] at ho4 | (simp only [Int.reduceToNat] at ho4; rw [← Ny294.out] at ho4)); have n0_ := zm (Kd.R_lower ho4 (below_size (zg_2 HB.out Zb.out))); have n1_ := zm (blk_below (g := gb293) (o := .cells #[.slice A0_0 l0_0.length c0_0, .slice A0_1 l0_1.length c0_1] 55 (0, 0)) (zg_1 Za.out) hb); have n2_ := zm (below_step (zg_2 HB.out Zb.out) hb); clear Za; clear HB; have Zi := n0_; have Za := n1_; have HB := n2_; clear n0_ n1_ n2_; clear hb ho4; have hcz5_0 : w3.cell? ⟨gb293, 0, none⟩ = some (.slice A0_0 l0_0.length c0_0) := (blk_cell Za.out 0).trans rfl; have hcz5_1 : w3.cell? ⟨gb293, 1, none⟩ = some (.slice A0_1 l0_1.length c0_1) := (blk_cell Za.out 1).trans rfl; have hfz5_0 := blk_frozen Za.out 0; have hfz5_1 := blk_frozen Za.out 1))
 go_loopg [3, 10] k (fun kq v3 v10 w' => ∃ (x3_1 : List ByteArray) (x10_1 : Int), v10 = .int .i64 x10_1 ∧ Aside0 (impl_Guest_names.l0 kq x3_1 l0_1 (l0_1.length : Int) x10_1 = some r) ∧ Aside0 (kq ≤ k) ∧ Aside0 (Kd.R Kd.string 9 w' w.heap.size (fun _ => True) v3 x3_1) ∧ Aside0 (w'.heap[gb293]? = some (.cells #[(.slice A0_0 l0_0.length c0_0), (.slice A0_1 l0_1.length c0_1)] 55 (0, 0))) ∧ Aside0 (Below w.heap.size w w'))
 case atStart => exact ⟨(y294), (0), zr, H', ⟨Nat.le_refl _⟩, ⟨by (with_reducible repeat (first | apply Kd.R_alloc | apply Kd.R_drewN | apply Kd.R_drew)); exact Zi.out⟩, ⟨by (with_reducible repeat (first | refine blk_drewN ?_ _ | refine blk_drew ?_ | refine blk_alloc ?_ _)); exact Za.out⟩, ⟨zg_2 HB.out Zb.out⟩⟩
 case round =>
  clear H'
  try clear p2
  try clear hcz5_0
  try clear hcz5_1
  try clear hfz5_0
  try clear hfz5_1
  obtain ⟨x3_1, x10_1, rfl, HA, HK1, Ze, Za, HB⟩ := hrel
  cases gk with
  | zero => exact absurd HA.out (by simp [impl_Guest_names.l0])
  | succ k1 =>
   have H := HA.out
   clear HA
   simp only [impl_Guest_names.l0] at H
   by_cases c6 : x10_1 < (l0_1.length : Int)
   ·rw [if_pos c6] at H
    have c6b0 : decide (x10_1 < (l0_1.length : Int)) = true := decide_eq_true c6
    clear c6
    by_cases c7 : 0 ≤ x10_1
    ·rw [if_pos c7] at H
     have c7b0 : decide (0 ≤ x10_1) = true := decide_eq_true c7
     clear c7
     by_cases c8 : x10_1 < (l0_1.length : Int)
     ·rw [if_pos c8] at H
      have c8b0 : decide (x10_1 < (l0_1.length : Int)) = true := decide_eq_true c8
      clear c8
      by_cases c9 : x3_1.length < 8796093022208
      ·rw [if_pos c9] at H
       have LMc9 := zm c9
       clear c9
       obtain ⟨y299, hy299⟩ : ∃ y_ : List ByteArray, y_ = (x3_1 ++ [(rd_T102 l0_1 x10_1).f0]) := ⟨_, rfl⟩
       replace H : (impl_Guest_names.l0 k1 y299 l0_1 (l0_1.length : Int) (wrap64 (x10_1 + 1))) = some r := by first | (rw [hy299]; with_reducible exact H) | (have H2_ := (Option.bind_some _ _).symm.trans H; rw [hy299]; with_reducible exact H2_) | (have H2_ := (Option.bind_some _ _).symm.trans H; with_reducible exact H2_) | with_reducible exact H | (rw [hy299]; exact H) | exact H
       have Ny299 := zm hy299
       clear hy299
       have H' := zm H
       clear H
       have p297 : 0 ≤ (x10_1 : Int) := zd
       have q297 : x10_1 < (l0_1.length : Int) := zd
       obtain ⟨ad297, A297_1, c297_1, e297, hx297_0, hx297_1, hl297_1, hi297_1⟩ := at_T102 Zh.out x10_1 p297 q297
       cases e297
       replace hx297_0 := (HB.out.cell (World.block_lt_of_cell? w _ hx297_0)).trans hx297_0
       replace hx297_1 := (HB.out.cell (World.block_lt_of_cell? w _ hx297_1)).trans hx297_1
       have Zk := zm hi297_1
       have Zl := zm hl297_1
       clear hi297_1 hl297_1
       replace p297 := eq_true p297
       replace q297 := eq_true q297
       go_wp2_with (first | ((with_reducible refine gate_dst (N := 5) rfl ?_); refine box_event ?hg (N := 5) ?hd (cs := #[.string (⟨#[]⟩ : ByteArray), .slice none 0 0]) (t := 102) ?hr ?_; (case hd => rfl); (case hg => rfl); (case hr => first | (go_simp; done) | (go_simp; rfl)); intro gb298 hg w10 hbox hb; have n0_ := zm (Kd.R_below (zg_3 Ze.out) hb); have n1_ := zm (blk_below (g := gb293) (o := .cells #[.slice A0_0 l0_0.length c0_0, .slice (some ad297) l0_1.length c0_1] 55 (0, 0)) (zg_1 Za.out) hb); have n2_ := zm (below_step (zg_2 HB.out Zb.out) hb); have n3_ := zm (hbox); have n4_ := zm ((by rw [hg]; exact (below_size (zg_2 HB.out Zb.out)) : w.heap.size ≤ gb298)); have n5_ := zm ((by rw [hg]; exact (below_size (zg_2 HB.out Zb.out)) : w.heap.size ≤ gb298)); have n6_ := zm ((by rw [hg]; exact Nat.ne_of_lt (blk_lt (g := gb293) (o := .cells #[.slice A0_0 l0_0.length c0_0, .slice (some ad297) l0_1.length c0_1] 55 (0, 0)) (zg_1 Za.out)) : gb293 ≠ gb298)); have n7_ := zm ((by rw [hg]; exact Nat.ne_of_gt (blk_lt (g := gb293) (o := .cells #[.slice A0_0 l0_0.length c0_0, .slice (some ad297) l0_1.length c0_1] 55 (0, 0)) (zg_1 Za.out)) : gb298 ≠ gb293)); clear Ze; clear Za; clear HB; have Ze := n0_; have Za := n1_; have HB := n2_; have Zc := n3_; have Zq := n4_; have Zg := n5_; have Zd := n6_; have Zf := n7_; clear n0_ n1_ n2_ n3_ n4_ n5_ n6_ n7_; clear hb hbox hg; have hnb11 := Zf.out; have hnc11 := Zd.out; have hcz12_0 : w10.cell? ⟨gb298, 0, none⟩ = some (.string (⟨#[]⟩ : ByteArray)) := (blk_cell Zc.out 0).trans rfl; have hcz12_1 : w10.cell? ⟨gb298, 1, none⟩ = some (.slice none 0 0) := (blk_cell Zc.out 1).trans rfl; have hfz12_0 := blk_frozen Zc.out 0; have hfz12_1 := blk_frozen Zc.out 1) | ((with_reducible refine gate_builtin (b := .append) (xs := #[.tmp 14, .tmp 17]) rfl ?_); at_builtin; refine Kd.R_append Kd.string (w0 := w) w.heap.size rfl (.tmp 14) (.tmp 17) 37 9 (.string ⟨#[]⟩) 16 rfl Tryd.underlying37 info9 rfl (by decide) (by omega) u3 x3_1 ((rd_T102 l0_1 x10_1).f0) [.string ((rd_T102 l0_1 x10_1).f0)] (fun _ => True) (fun _ => False) rfl (by first | (go_simp; done) | (go_simp; rfl)) ?aP (fun _ hk => hk.elim) ?aF ?aO ?aB ?aS ?aL ?_; (case aP => exact rfl); (case aB => exact (zg_4 HB.out Zb.out Zg.out)); (case aF => exact (fun _ _ => trivial)); (case aO => exact (by (with_reducible repeat (first | apply Kd.R_alloc | apply Kd.R_drewN | apply Kd.R_drew)); exact Kd.R_mono (Kd.R_far (p := ⟨gb298, 1, none⟩) (Kd.R_far (p := ⟨gb298, 0, none⟩) (Kd.R_types Ze.out Zc.out (by decide)) (fun _ hk => hk.2) (.string ((rd_T102 l0_1 x10_1).f0))) (fun _ hk => hk.2) (.slice A297_1 ((rd_T102 l0_1 x10_1).f1).length c297_1)) (fun _ hk => trivial))); (case aS => exact (below_size (zg_4 HB.out Zb.out Zg.out))); (case aL => have := LMc9.out; omega); intro v300 w13 ho hb hg hat; rw [← Ny299.out] at ho; have n0_ := zm (blk_grown (g := gb293) (o := .cells #[.slice A0_0 l0_0.length c0_0, .slice (some ad297) l0_1.length c0_1] 55 (0, 0)) (by (with_reducible repeat (first | refine blk_drewN ?_ _ | refine blk_drew ?_ | refine blk_alloc ?_ _)); refine blk_far ?_ Zd.out _; (with_reducible repeat (first | refine blk_drewN ?_ _ | refine blk_drew ?_ | refine blk_alloc ?_ _)); refine blk_far ?_ Zd.out _; (with_reducible repeat (first | refine blk_drewN ?_ _ | refine blk_drew ?_ | refine blk_alloc ?_ _)); exact Za.out) hg (Kd.R_ne Ze.out Za.out (by decide))); have n1_ := zm (blk_grown (g := gb298) (o := .cells #[.string ((rd_T102 l0_1 x10_1).f0), .slice A297_1 ((rd_T102 l0_1 x10_1).f1).length c297_1] 102 (0, 0)) (by (with_reducible repeat (first | refine blk_drewN ?_ _ | refine blk_drew ?_ | refine blk_alloc ?_ _)); refine blk_put (cs := #[.string ((rd_T102 l0_1 x10_1).f0), .slice none 0 0]) ?_ 1 _ rfl; (with_reducible repeat (first | refine blk_drewN ?_ _ | refine blk_drew ?_ | refine blk_alloc ?_ _)); refine blk_put (cs := #[.string (⟨#[]⟩ : ByteArray), .slice none 0 0]) ?_ 0 _ rfl; (with_reducible repeat (first | refine blk_drewN ?_ _ | refine blk_drew ?_ | refine blk_alloc ?_ _)); exact Zc.out) hg (Kd.R_ne Ze.out Zc.out (by decide))); have n2_ := zm (hb); have n3_ := zm (ho); clear Za; clear Zc; clear HB; clear Ze; have Za := n0_; have Zc := n1_; have HB := n2_; have Zj := n3_; clear n0_ n1_ n2_ n3_; clear ho hb hg hat))
       go_roundg k1
       case measure => have := HK1.out; omega
       case rel => exact ⟨(y299), (wrap64 (x10_1 + 1)), zr, H', ⟨by have := HK1.out; omega⟩, ⟨by (with_reducible repeat (first | apply Kd.R_alloc | apply Kd.R_drewN | apply Kd.R_drew)); exact Zj.out⟩, ⟨by (with_reducible repeat (first | refine blk_drewN ?_ _ | refine blk_drew ?_ | refine blk_alloc ?_ _)); exact Za.out⟩, ⟨zg_4 HB.out Zb.out Zg.out⟩⟩
      ·rw [if_neg c9] at H
       exact absurd H (by simp)
     ·rw [if_neg c8] at H
      exact absurd H (by simp)
    ·rw [if_neg c7] at H
     exact absurd H (by simp)
   ·rw [if_neg c6] at H
    have c6b0 : decide (x10_1 < (l0_1.length : Int)) = false := decide_eq_false c6
    clear c6
    obtain rfl := Option.some.inj H
    go_wp2
    go_ret
    exact ⟨_, by first | rfl | (simp [errW_none, errW_some] <;> rfl) | (simp [*, errW_none, errW_some] <;> rfl), by (with_reducible repeat (first | apply Kd.R_alloc | apply Kd.R_drewN | apply Kd.R_drew)); exact Ze.out, zg_2 HB.out Zb.out⟩
/-! ### all49: function 49 -/
theorem clos49 {α : Type} {d : Kd α} {val : List Value → Value} {F : FuncId} {p : α → Option Bool} (hF : Asks1 F d val p) (a : Addr) (x : α) (cs : List Value) (v : Value) (hv : val cs = v) (r : Bool) (w : World) (hK : d.K w x cs) (hc : w.cell? a = some (.func (.func F) #[] #[])) (h : p x = some r) :
    Calls Tryd.prog 83 #[v, .pointer (some a)] w fun e w' => e = .returned (.bool !r) ∧ Below w.heap.size w w' := by
  obtain ⟨⟨fn, h1, h2, h3⟩, hF⟩ := hF
  have h0 := hF x cs r w hK h
  rw [hv] at h0
  have H := Aside0.mk h0
  have H1 := Aside0.mk h1
  have H2 := Aside0.mk h2
  have H3 := Aside0.mk h3
  clear hF h h1 h2 h3 hK h0 hv
  go_enter Tryd.func83, Tryd.ntmps83
  go_wp2_with (first | ((with_reducible refine gate_dst (N := 6) rfl ?_); refine Stop.out ?_))
  refine ⟨?_⟩
  refine goesV (some 6) rfl rfl H1.out H2.out H3.out #[v] rfl (cap := #[]) ?hx ?hargs ?_
  case hx => rfl
  case hargs => simp [Act.eval]
  refine H.out.mono ?_
  rintro e w1 ⟨rfl, hb⟩
  refine ⟨_, rfl, ?_⟩
  have HB := Aside0.mk hb
  clear hb
  go_wp2
  go_ret
  exact ⟨rfl, HB.out⟩
set_option maxHeartbeats 1000000 in
set_option maxRecDepth 100000 in
theorem idx49 {F : FuncId} {p : ByteArray → Option Bool} (hF : Asks1 F Kd.string (fun cs => cs.headD undef) p) (A0 : Option Addr) (c0 : Nat) (l0 : List ByteArray) (a : Addr) (r : Bool) (w : World) (hr0 : Kd.C Kd.string w A0 l0.length l0) (hc0 : l0.length ≤ c0)
    (hcl : w.cell? a = some (.func (.func F) #[] #[])) (h : allO p l0 = some r) :
    Calls Tryd.prog 97 #[.slice A0 l0.length c0, .func (.func 83) #[] #[.pointer (some a)]] w (IdxPost r w) := by
 have hlen : l0.length ≤ 9223372036854775807 := hr0.2.1
 have HR0 := Aside0.mk hr0
 have HCL := Aside0.mk hcl
 have HF := Aside0.mk hF
 have H' := Aside0.mk h
 have HB := Aside0.mk (Below.refl w.heap.size w)
 clear hr0 hcl hF h
 go_enter Tryd.func97, Tryd.ntmps97
 go_wp2
 go_loopg [8] (l0.length + 1) (fun kq v8 w' => ∃ k : Nat, v8 = .int .i64 (k : Int) ∧ Aside0 (kq + k = l0.length + 1 ∧ k ≤ l0.length) ∧ Aside0 (allO p (l0.drop k) = some r) ∧ Aside0 (Below w.heap.size w w'))
 case atStart => exact ⟨0, rfl, ⟨by omega, by omega⟩, H', HB⟩
 case round =>
  clear H' HB
  obtain ⟨k, rfl, HK, HA, HB⟩ := hrel
  cases gk with
  | zero =>
   have hk := HK.out
   omega
  | succ k1 =>
   by_cases hlt : k < l0.length
   ·have q1 : (k : Int) < (l0.length : Int) := by omega
    have p1 : 0 ≤ (k : Int) := by omega
    obtain ⟨ad, ea, hx⟩ := Kd.at_string HR0.out (k : Int) p1 q1
    cases ea
    rw [Int.toNat_natCast] at hx
    replace hx := (HB.out.cell (World.block_lt_of_cell? w _ hx)).trans hx
    have HKK := Aside0.mk (show Kd.string.K w (rdOf ByteArray.empty l0 k) [.string (rdOf ByteArray.empty l0 k)] from rfl)
    have HX := Aside0.mk (show ∃ b, p (rdOf ByteArray.empty l0 k) = some b ∧ (if b = true then allO p (l0.drop (k+1)) else some false) = some r from by
     have := HA.out
     rw [List.drop_eq_getElem_cons hlt] at this
     simp only [allO] at this
     obtain ⟨b, hb, h2⟩ := Option.bind_eq_some_iff.1 this
     refine ⟨b, ?_, h2⟩
     rw [← hb]; congr 1; simp [rd, rdOf, hlt])
    obtain ⟨b, hb, h2⟩ := HX.out
    have HPB := Aside0.mk hb
    have H2 := Aside0.mk h2
    have HCL2 := Aside0.mk ((HB.out.cell (World.block_lt_of_cell? w _ HCL.out)).trans HCL.out)
    clear HX hb h2 q1 p1 HA
    cases b with
    | true =>
     go_wp2_with (first | ((with_reducible refine gate_dst (N := 16) rfl ?_); refine goesV (some 16) rfl rfl Tryd.func83 (by kernel_rfl) rfl #[.string (rdOf ByteArray.empty l0 k), .pointer (some a)] rfl (cap := #[.pointer (some a)]) ?hx ?hargs ?_; (case hx => rfl); (case hargs => simp [Act.eval]); refine (clos49 HF.out a _ [.string (rdOf ByteArray.empty l0 k)] _ rfl _ _ (Kd.K_below _ HB.out HKK.out) HCL2.out HPB.out).mono ?_; rintro e w2 ⟨rfl, hb⟩; refine ⟨_, rfl, ?_⟩; have HB2 := Aside0.mk (HB.out.trans (hb.mono HB.out.size)); clear hb))
     go_roundg k1
     case measure => omega
     case rel => exact ⟨k + 1, by simp, ⟨by have := HK.out; omega, by have := HK.out; omega⟩, ⟨by simpa using H2.out⟩, HB2⟩
    | false =>
     go_wp2_with (first | ((with_reducible refine gate_dst (N := 16) rfl ?_); refine goesV (some 16) rfl rfl Tryd.func83 (by kernel_rfl) rfl #[.string (rdOf ByteArray.empty l0 k), .pointer (some a)] rfl (cap := #[.pointer (some a)]) ?hx ?hargs ?_; (case hx => rfl); (case hargs => simp [Act.eval]); refine (clos49 HF.out a _ [.string (rdOf ByteArray.empty l0 k)] _ rfl _ _ (Kd.K_below _ HB.out HKK.out) HCL2.out HPB.out).mono ?_; rintro e w2 ⟨rfl, hb⟩; refine ⟨_, rfl, ?_⟩; have HB2 := Aside0.mk (HB.out.trans (hb.mono HB.out.size)); clear hb))
     go_ret
     have hr : r = false := by have := H2.out; simpa using this.symm
     exact ⟨k, rfl, by rw [hr]; simp, HB2.out⟩
   ·have hge : l0.length ≤ k := by omega
    go_wp2
    go_ret
    have hr : r = true := by
     have := HA.out
     rw [List.drop_of_length_le hge] at this
     simpa [allO] using this.symm
    exact ⟨-1, rfl, by rw [hr]; decide, HB.out⟩
theorem cont49 {F : FuncId} {p : ByteArray → Option Bool} (hF : Asks1 F Kd.string (fun cs => cs.headD undef) p) (A0 : Option Addr) (c0 : Nat) (l0 : List ByteArray) (a : Addr) (r : Bool) (w : World) (hr0 : Kd.C Kd.string w A0 l0.length l0) (hc0 : l0.length ≤ c0)
 (hcl : w.cell? a = some (.func (.func F) #[] #[])) (h : allO p l0 = some r) :
 Calls Tryd.prog 82 #[.slice A0 l0.length c0, .func (.func 83) #[] #[.pointer (some a)]] w fun e w' => e = .returned (.bool !r) ∧ Below w.heap.size w w' := by
 have H := Aside0.mk (idx49 hF A0 c0 l0 a r w hr0 hc0 hcl h)
 clear hr0 hcl hF h
 go_enter Tryd.func82, Tryd.ntmps82
 go_wp2_with (go_at_call 97; (with_reducible refine H.out.mono ?_); rintro e w2 ⟨j, rfl, hj, hb⟩; have HJ := Aside0.mk hj; have HB := Aside0.mk hb; clear hj hb)
 go_ret
 exact ⟨by rw [← HJ.out]; rfl, HB.out⟩
theorem all49 {F : FuncId} {p : ByteArray → Option Bool} (hF : Asks1 F Kd.string (fun cs => cs.headD undef) p) (A0 : Option Addr) (c0 : Nat) (l0 : List ByteArray) (r : Bool) (w : World) (hr0 : Kd.C Kd.string w A0 l0.length l0) (hc0 : l0.length ≤ c0)
 (h : allO p l0 = some r) :
 Calls Tryd.prog 49 #[.slice A0 l0.length c0, .func (.func F) #[] #[]] w fun e w' => e = .returned (.bool r) ∧ Below w.heap.size w w' := by
 have hb1 : ∀ o, Below w.heap.size w (w.alloc o) := fun o => (Below.refl _ _).alloc (Nat.le_refl _) o
 have H := Aside0.mk (cont49 hF A0 c0 l0 ⟨w.heap.size, 0, none⟩ r (w.alloc (.cells #[.func (.func F) #[] #[]] 27 (0, 0))) (Kd.C_below hr0 (hb1 _)) hc0 (by go_simp) h)
 have HB0 := Aside0.mk (hb1 (.cells #[.func (.func F) #[] #[]] 27 (0, 0)))
 clear hr0 hF h hb1
 go_enter Tryd.func49, Tryd.ntmps49
 go_wp2_with (go_at_call 82; (with_reducible refine H.out.mono ?_); rintro e w2 ⟨rfl, hb⟩; have HB := Aside0.mk (HB0.out.trans (hb.mono HB0.out.size)); clear hb)
 go_ret
 exact ⟨by simp, HB.out⟩
/-! ### impl_snapNameOK: function 50 -/
def impl_snapNameOK.l0 : Nat → ByteArray → Int → Int → Option (Bool)
  | 0, _, _, _ => none
  | k + 1, x0, x5, x6 => if x6 < x5 then (if 0 ≤ x6 then (if x6 < (x0.size : Int) then (if (bt x0 x6) < 97 then (some false) else (if (bt x0 x6) > 122 then (some false) else (impl_snapNameOK.l0 k x0 x5 (wrap64 (x6 + 1))))) else (none)) else (none)) else ((impl_within.f (x0.size : Int) 1 6).bind fun t169 => (some t169))
def impl_snapNameOK.f (k : Nat) (a0 : ByteArray) : Option (Bool) := impl_snapNameOK.l0 k a0 (a0.size : Int) 0
theorem impl_snapNameOK.mono_l : ∀ k, (∀ y0 y1 y2, LeO (impl_snapNameOK.l0 k y0 y1 y2) (impl_snapNameOK.l0 (k + 1) y0 y1 y2))
  | 0 => fun _ _ _ r h => by simp [impl_snapNameOK.l0] at h
  | k + 1 => by
    have ih0 := impl_snapNameOK.mono_l k
    · intro y0 y1 y2
      unfold impl_snapNameOK.l0
      repeat' first
      | (with_reducible exact ih0 _ _ _)
      | (with_reducible exact LeO.refl _)
      | (with_reducible exact LeO.none _)
      | (with_reducible refine LeO.ite ?_ ?_)
      | (with_reducible refine LeO.bind ?_ (fun _ => ?_))
      | exact ih0 _ _ _
      | exact LeO.none _
      | refine LeO.ite ?_ ?_
      | refine LeO.bind ?_ (fun _ => ?_)
theorem impl_snapNameOK.mono : ∀ a0 k, LeO (impl_snapNameOK.f k a0) (impl_snapNameOK.f (k + 1) a0) := by
  intro a0 k
  have ih0 := impl_snapNameOK.mono_l k
  unfold impl_snapNameOK.f
  repeat' first
      | (with_reducible exact ih0 _ _ _)
      | (with_reducible exact LeO.refl _)
      | (with_reducible exact LeO.none _)
      | (with_reducible refine LeO.ite ?_ ?_)
      | (with_reducible refine LeO.bind ?_ (fun _ => ?_))
      | exact ih0 _ _ _
      | exact LeO.none _
      | refine LeO.ite ?_ ?_
      | refine LeO.bind ?_ (fun _ => ?_)
set_option maxHeartbeats 8000000 in
set_option maxRecDepth 100000 in
theorem impl_snapNameOK.calls (k : Nat) (a0 : ByteArray) (r : Bool) (w : World) (h : impl_snapNameOK.f k a0 = some r) :
    Calls Tryd.prog 50 #[.string a0] w fun e w' => e = .returned (.bool r) ∧ Drawn0 w w' := by
 have H : (impl_snapNameOK.l0 k a0 (a0.size : Int) 0) = some r := h
 clear h
 have H' := zm H
 clear H
 go_enter Tryd.func50, Tryd.ntmps50
 go_wp2
 go_loopg [6] k (fun kq v6 w' => ∃ (x6_1 : Int), v6 = .int .i64 x6_1 ∧ Aside0 (impl_snapNameOK.l0 kq a0 (a0.size : Int) x6_1 = some r) ∧ Aside0 (kq ≤ k) ∧ Drawn0 w w')
 case atStart => exact ⟨(0), zr, H', ⟨Nat.le_refl _⟩, by repeat (first | exact Drawn0.refl _ | apply Drawn0.step)⟩
 case round =>
  clear H'
  obtain ⟨x6_1, rfl, HA, HK1, ⟨m1, rfl⟩⟩ := hrel
  cases gk with
  | zero => exact absurd HA.out (by simp [impl_snapNameOK.l0])
  | succ k1 =>
   have H := HA.out
   clear HA
   simp only [impl_snapNameOK.l0] at H
   by_cases c2 : x6_1 < (a0.size : Int)
   ·rw [if_pos c2] at H
    have c2b0 : decide (x6_1 < (a0.size : Int)) = true := decide_eq_true c2
    clear c2
    by_cases c3 : 0 ≤ x6_1
    ·rw [if_pos c3] at H
     have c3b0 : decide (0 ≤ x6_1) = true := decide_eq_true c3
     clear c3
     by_cases c4 : x6_1 < (a0.size : Int)
     ·rw [if_pos c4] at H
      have c4b0 : decide (x6_1 < (a0.size : Int)) = true := decide_eq_true c4
      clear c4
      by_cases c6 : (bt a0 x6_1) < 97
      ·rw [if_pos c6] at H
       have c6b0 : decide ((bt a0 x6_1) < 97) = true := decide_eq_true c6
       clear c6
       obtain rfl := Option.some.inj H
       have p5 : 0 ≤ (x6_1 : Int) := zd
       have q5 : x6_1 < (a0.size : Int) := zd
       have hx5 := bt_at a0 x6_1
       replace p5 := eq_true p5
       replace q5 := eq_true q5
       go_wp2
       go_ret
       exact ⟨zr, by repeat (first | exact Drawn0.refl _ | apply Drawn0.step)⟩
      ·rw [if_neg c6] at H
       have c6b0 : decide ((bt a0 x6_1) < 97) = false := decide_eq_false c6
       clear c6
       by_cases c8 : (bt a0 x6_1) > 122
       ·rw [if_pos c8] at H
        have c8b0 : decide (122 < (bt a0 x6_1)) = true := decide_eq_true c8
        clear c8
        obtain rfl := Option.some.inj H
        have p5 : 0 ≤ (x6_1 : Int) := zd
        have q5 : x6_1 < (a0.size : Int) := zd
        have hx5 := bt_at a0 x6_1
        replace p5 := eq_true p5
        replace q5 := eq_true q5
        have p7 : 0 ≤ (x6_1 : Int) := zd
        have q7 : x6_1 < (a0.size : Int) := zd
        have hx7 := bt_at a0 x6_1
        replace p7 := eq_true p7
        replace q7 := eq_true q7
        go_wp2
        go_ret
        exact ⟨zr, by repeat (first | exact Drawn0.refl _ | apply Drawn0.step)⟩
       ·rw [if_neg c8] at H
        have c8b0 : decide (122 < (bt a0 x6_1)) = false := decide_eq_false c8
        clear c8
        have H' := zm H
        clear H
        have p5 : 0 ≤ (x6_1 : Int) := zd
        have q5 : x6_1 < (a0.size : Int) := zd
        have hx5 := bt_at a0 x6_1
        replace p5 := eq_true p5
        replace q5 := eq_true q5
        have p7 : 0 ≤ (x6_1 : Int) := zd
        have q7 : x6_1 < (a0.size : Int) := zd
        have hx7 := bt_at a0 x6_1
        replace p7 := eq_true p7
        replace q7 := eq_true q7
        go_wp2
        go_roundg k1
        case measure => have := HK1.out; omega
        case rel => exact ⟨(wrap64 (x6_1 + 1)), zr, H', ⟨by have := HK1.out; omega⟩, by repeat (first | exact Drawn0.refl _ | apply Drawn0.step)⟩
     ·rw [if_neg c4] at H
      exact absurd H (by simp)
    ·rw [if_neg c3] at H
     exact absurd H (by simp)
   ·rw [if_neg c2] at H
    have c2b0 : decide (x6_1 < (a0.size : Int)) = false := decide_eq_false c2
    clear c2
    replace H := Option.bind_eq_some_iff.mp H
    obtain ⟨t169, A90, H⟩ := H
    replace H : (some t169) = some r := H
    have A9 := zm A90
    clear A90
    obtain rfl := Option.some.inj H
    go_wp2_with (first | ((with_reducible refine gate_callee (f := 77) rfl ?_); refine goesL_ (some 22) rfl rfl Tryd.func77 (by kernel_rfl) rfl #[.int .i64 (a0.size : Int), .int .i64 1, .int .i64 6] rfl zq ?_; (with_reducible refine (impl_within.calls (a0.size : Int) 1 6 t169 _ A9.out).mono ?_); rintro e w' ⟨rfl, ⟨nd, rfl⟩⟩; refine ⟨_, rfl, ?_⟩))
    go_ret
    exact ⟨zr, by repeat (first | exact Drawn0.refl _ | apply Drawn0.step)⟩
/-! ### all49_impl_snapNameOK: function 49 -/
def all49_impl_snapNameOK.f (k : Nat) (l0 : List ByteArray) (_ : Unit) : Option Bool := allO (fun x => impl_snapNameOK.f k x) l0
theorem all49_impl_snapNameOK.mono : ∀ a0 a1 k, LeO (all49_impl_snapNameOK.f k a0 a1) (all49_impl_snapNameOK.f (k + 1) a0 a1) := fun l u k => allO_mono (fun x => impl_snapNameOK.mono x k) l
theorem all49_impl_snapNameOK.asks (k : Nat) : Asks1 50 Kd.string (fun cs => cs.headD undef) (fun x => impl_snapNameOK.f k x) := ⟨⟨_, Tryd.func50, by kernel_rfl, rfl⟩, fun x cs r w hK h => by
  cases hK
  exact (impl_snapNameOK.calls k x r w h).mono fun e w' hh => ⟨hh.1, hh.2.below⟩⟩
theorem all49_impl_snapNameOK.calls (k : Nat) (A0 : Option Addr) (c0 : Nat) (l0 : List ByteArray) (_u : Unit) (r : Bool) (w : World) (hr0 : Kd.C Kd.string w A0 l0.length l0) (hc0 : l0.length ≤ c0) (h : all49_impl_snapNameOK.f k l0 () = some r) :
    Calls Tryd.prog 49 #[.slice A0 l0.length c0, .func (.func 50) #[] #[]] w fun e w' => e = .returned (.bool r) ∧ Below w.heap.size w w' :=
  all49 (all49_impl_snapNameOK.asks k) A0 c0 l0 r w hr0 hc0 h
/-! ### slices_Clone_string_string: function 102 -/
def slices_Clone_string_string.f (l0 : List ByteArray) : Option (List ByteArray) := if l0.length < 8796093022208 then some l0 else none
set_option maxHeartbeats 1000000 in
set_option maxRecDepth 100000 in
theorem slices_Clone_string_string.calls (A0 : Option Addr) (c0 : Nat) (l0 : List ByteArray) (r : List ByteArray) (w : World) (hr0 : Kd.C Kd.string w A0 l0.length l0) (hc0 : l0.length ≤ c0) (h : slices_Clone_string_string.f l0 = some r) :
    Calls Tryd.prog 102 #[.slice A0 l0.length c0] w fun e w' => ∃ v : Value, e = .returned v ∧ Kd.R Kd.string 9 w' w.heap.size (fun _ => True) v r ∧ Below w.heap.size w w' := by
  have hlim : l0.length < 8796093022208 := by
    unfold slices_Clone_string_string.f at h; split at h
    · assumption
    · cases h
  have hres : l0 = r := by unfold slices_Clone_string_string.f at h; rw [if_pos hlim] at h; exact Option.some.inj h
  subst hres
  have HR0 := Aside0.mk hr0
  have HB := Aside0.mk (Below.refl w.heap.size w)
  have LM := Aside0.mk hlim
  have heq := fun (wx : World) (a : Option Addr) => Lib.run_eql_slice_nil (P := Tryd.prog) wx 37 9 a l0.length c0 0 0 Tryd.underlying37
  clear hr0 h hlim
  cases A0 with
  | none =>
    have hl : l0 = [] := by
      by_cases hn : 0 < l0.length
      · obtain ⟨ad, ha, _⟩ := HR0.out.2.2 hn
        cases ha
      · exact List.eq_nil_of_length_eq_zero (by omega)
    subst hl
    simp only [List.length_nil] at heq
    clear HR0 LM
    go_enter Tryd.func102, Tryd.ntmps102
    go_wp2
    go_ret
    exact ⟨_, rfl, Kd.R_nil _ _ _ _ _, HB.out⟩
  | some a =>
    go_enter Tryd.func102, Tryd.ntmps102
    go_wp2_with (first | ((with_reducible refine gate_dst (N := 5) rfl ?_); refine Kd.R_lit Kd.string _ 9 ?hg (N := 5) ?hd (xs := ([] : List ByteArray)) (inner := []) (ok := fun _ => True) (okp := fun _ => True) ?hr ?hp (fun _ hk => hk) trivial (Below.refl _ _) (Nat.le_refl _) (by simp) ?_; (case hd => rfl); (case hg => rfl); (case hr => first | (go_simp; done) | (go_simp; rfl)); (case hp => exact (Reps.none _ _)); intro v5 w2 ho hb hg_ hnew_; clear hg_ hnew_; have HO := Aside0.mk ho; have HB2 := Aside0.mk hb; clear ho hb) | ((with_reducible refine gate_builtin (b := .append) (xs := #[.tmp 5, .tmp 6]) rfl ?_); at_builtin; refine Kd.R_append_rows Kd.string (w0 := w) w.heap.size rfl (.tmp 5) (.tmp 6) 37 9 (.string ⟨#[]⟩) 16 rfl Tryd.underlying37 info9 rfl (by decide) (by omega) v5 ([] : List ByteArray) l0 _ _ _ (fun _ => True) (fun _ => False) rfl rfl ?aO ?aR (fun _ _ h => h) (fun _ h => h.elim) ?aF ?aB ?aS ?aL ?_; (case aR => exact Kd.C_below HR0.out HB2.out); (case aB => exact HB2.out); (case aF => exact (fun _ _ => trivial)); (case aO => exact HO.out); (case aS => exact (below_size HB2.out)); (case aL => have := LM.out; simp; omega); intro v7 w3 ho hb hg hat; have HO3 := Aside0.mk ho; have HB3 := Aside0.mk hb; clear ho hb hg hat))
    go_ret
    exact ⟨_, rfl, by simpa using HO3.out, HB3.out⟩
/-! ### impl_areNames: function 89 -/
theorem impl_areNames_reps {l : List ByteArray} {inner : List Value} {w : World} {base : Nat} {ok : Nat → Prop} (h : Reps (Kd.M Kd.string w base ok) 1 l inner) : inner = l.map Value.string := by
  obtain ⟨h1, h2⟩ := h
  refine List.ext_getElem (by rw [h1, List.length_map, Nat.mul_one]) (fun j hj hj' => ?_)
  have hl : j < l.length := by rw [List.length_map] at hj'; exact hj'
  have h3 : ((inner.drop (j * 1)).take 1) = [.string l[j]] := h2 j l[j] (List.getElem?_eq_getElem hl)
  rw [Nat.mul_one, List.drop_eq_getElem_cons hj, List.take_succ_cons, List.take_zero] at h3
  rw [List.getElem_map]
  injection h3
theorem impl_areNames_own {w : World} {base : Nat} {ok : Nat → Prop} {v : Value} {l : List ByteArray} (h : Kd.R Kd.string 9 w base ok v l) : w.ownsRow base 9 1 v l.length ((l.map (·.data.toList)).map encStr) := by
  rw [Lib.map_encStr]
  obtain ⟨_, inner, ho, hr⟩ := h
  have := impl_areNames_reps hr
  subst this; exact ho
theorem impl_areNames_held {w w' : World} {g : Nat} {d : Array (List UInt8)} (h : Sort.Holds encStr w g 0 d) (hb : Below w.heap.size w w') (hg : g < w.heap.size) : Sort.Holds encStr w' g 0 d := fun j hj => by
  obtain ⟨h1, h2⟩ := h j hj
  refine ⟨pw_cell_below hb h1, ?_⟩
  have := hb.block g hg
  unfold World.frozen? at h2 ⊢
  simpa [this] using h2
def impl_areNames_sorted (l : List ByteArray) : List (List UInt8) := (l.map (·.data.toList)).mergeSort (fun x y => decide (x ≤ y))
def impl_areNames.f (k : Nat) (l0 : List ByteArray) : Option Bool := if l0.length < 8796093022208 then (if (l0.length : Int) ≤ 3 then ((all49_impl_snapNameOK.f k l0 ()).bind fun t => if t = true then some (((Lib.compact (impl_areNames_sorted l0)).length : Int) == (l0.length : Int)) else some false) else some false) else none
theorem impl_areNames.mono : ∀ a0 k, LeO (impl_areNames.f k a0) (impl_areNames.f (k + 1) a0) := fun l k => LeO.ite (LeO.ite (LeO.bind (all49_impl_snapNameOK.mono l () k) fun t => LeO.refl _) (LeO.refl _)) (LeO.refl _)
set_option maxHeartbeats 4000000 in
set_option maxRecDepth 100000 in
theorem impl_areNames.calls (k : Nat) (A0 : Option Addr) (c0 : Nat) (l0 : List ByteArray) (r : Bool) (w : World) (hr0 : Kd.C Kd.string w A0 l0.length l0) (hc0 : l0.length ≤ c0) (h : impl_areNames.f k l0 = some r) :
    Calls Tryd.prog 89 #[.slice A0 l0.length c0] w fun e w' => e = .returned (.bool r) ∧ Below w.heap.size w w' := by
 unfold impl_areNames.f at h
 have hlim : l0.length < 8796093022208 := by
  by_cases c : l0.length < 8796093022208
  ·exact c
  ·rw [if_neg c] at h; cases h
 rw [if_pos hlim] at h
 have hclone : slices_Clone_string_string.f l0 = some l0 := by unfold slices_Clone_string_string.f; exact if_pos hlim
 have key : ∀ (w1 : World) (v1 : Value), Below w.heap.size w w1 → Kd.R Kd.string 9 w1 w.heap.size (fun _ => True) v1 l0 →
  ∃ A1 c1, v1 = .slice A1 l0.length c1 ∧ Calls Tryd.prog 103 #[.slice A1 l0.length c1] w1 (fun e w2 => e = .returned (.tuple #[]) ∧ Below w.heap.size w w2 ∧ ∀ w3, Below w2.heap.size w2 w3 → Calls Tryd.prog 104 #[.slice A1 l0.length c1] w3 (fun e w' => ∃ A2 c2, e = .returned (.slice A2 (Lib.compact (impl_areNames_sorted l0)).length c2) ∧ Below w.heap.size w w')) := by
  intro w1 v1 hb1 hR
  have hown := impl_areNames_own hR
  obtain ⟨A1, c1, e1⟩ := Kd.R_slice hR
  by_cases hn : l0 = []
  ·subst hn
   refine ⟨A1, c1, e1, (calls_of_every_depth fun D => AnyS.slices_Sort_string_none_alone Tryd.laysSort D A1 c1 w1).mono ?_⟩
   rintro e w' ⟨rfl, rfl⟩
   refine ⟨rfl, hb1, fun w3 hb3 => (calls_of_every_depth fun D => AnyS.slices_Compact_string_empty_in Tryd.laysCompact D A1 c1 w3).mono ?_⟩
   rintro e w' ⟨rfl, rfl⟩
   exact ⟨A1, c1, by simp [impl_areNames_sorted, Lib.compact, Lib.compactUpTo], below_step hb1 hb3⟩
  ·have hpos : 0 < l0.length := List.length_pos_iff.2 hn
   have hnn : v1 ≠ .slice none 0 0 := by rw [e1]; intro e; injection e with _ e2 _; omega
   obtain ⟨g, cap, e2, hbg, hgl, hncap, hcm, hlen, hH⟩ := Lib.holds_of_ownsRow hown hnn
   rw [e2] at e1
   injection e1 with e3 _ e4
   subst e3 e4 e2
   have hl2 : (impl_areNames_sorted l0).length = l0.length := by unfold impl_areNames_sorted; rw [List.length_mergeSort, List.length_map]
   have hsort := calls_of_every_depth fun D => AnyS.slices_Sort_string_alone Tryd.laysSort D g 0 cap (l0.map (·.data.toList)) w1 hH hgl (by rw [hlen]; omega)
   rw [hlen] at hsort
   refine ⟨_, _, rfl, hsort.mono ?_⟩
   rintro e w2 ⟨rfl, nn, os, rfl⟩
   refine ⟨rfl, hb1.grown (grownBy_sorted _) hb1.size (fun j hj => by cases hj; exact hbg), fun w3 hb3 => ?_⟩
   have hsz : g < (Sort.grow (Sort.putRow encStr (Sort.ahead w1 nn) g 0 (impl_areNames_sorted l0).toArray) os).heap.size := Nat.lt_of_lt_of_le hgl (grownBy_sorted (n := nn) (os := os) _).size
   have hH2 : Sort.Holds encStr (Sort.grow (Sort.putRow encStr (Sort.ahead w1 nn) g 0 (impl_areNames_sorted l0).toArray) os) g 0 (impl_areNames_sorted l0).toArray :=
    Sort.holds_grow encStr _ os g 0 _ (by simpa [Sort.putRow, Sort.mapBlock, Sort.ahead] using hgl) (Sort.holds_putRow encStr _ g 0 _ _ (Sort.holds_ahead encStr w1 nn g 0 _ hH) (by simp [impl_areNames_sorted]))
   have hH3 := impl_areNames_held hH2 hb3 hsz
   have hcomp := calls_of_every_depth fun D => AnyS.slices_Compact_string_in Tryd.laysCompact D g 0 cap (impl_areNames_sorted l0) w3 hH3 (by rw [hl2]; omega) (by rw [hl2]; exact hncap)
   rw [hl2] at hcomp
   refine hcomp.mono ?_
   rintro e w4 ⟨rfl, q, rfl⟩
   exact ⟨_, _, rfl, Lib.below_putRow (below_step (hb1.grown (grownBy_sorted _) hb1.size (fun j hj => by cases hj; exact hbg)) hb3) hbg⟩
 have HR0 := zm hr0
 have HC0 := zm hc0
 have HCL := zm hclone
 have KEY := zm key
 clear key hclone hr0 hc0
 by_cases c3 : (l0.length : Int) ≤ 3
 ·rw [if_pos c3] at h
  obtain ⟨t, ht, h⟩ := Option.bind_eq_some_iff.mp h
  have hd : decide ((l0.length : Int) ≤ 3) = true := decide_eq_true c3
  have HT := zm ht
  clear ht
  cases t
  ·cases h
   go_enter Tryd.func89, Tryd.ntmps89
   go_wp2_with (first
    | (go_at_call 102; refine (slices_Clone_string_string.calls A0 c0 l0 l0 w HR0.out HC0.out HCL.out).mono ?_; rintro e w1 ⟨v1, rfl, hR, hB1⟩; obtain ⟨A1, c1, rfl, hS⟩ := KEY.out w1 v1 hB1 hR; have HS := zm hS; clear hS hR hB1)
    | (go_at_call 103; refine HS.out.mono ?_; rintro e w2 ⟨rfl, hB2, hC⟩; have HB2 := zm hB2; have HC := zm hC; clear hB2 hC)
    | (go_at_call 49; refine (all49_impl_snapNameOK.calls k A0 c0 l0 () false w2 (Kd.C_below HR0.out HB2.out) HC0.out HT.out).mono ?_; rintro e w3 ⟨rfl, hB3⟩; have HB3 := zm hB3; clear hB3))
   go_ret
   exact ⟨rfl, below_step HB2.out HB3.out⟩
  ·cases h
   go_enter Tryd.func89, Tryd.ntmps89
   go_wp2_with (first
    | (go_at_call 102; refine (slices_Clone_string_string.calls A0 c0 l0 l0 w HR0.out HC0.out HCL.out).mono ?_; rintro e w1 ⟨v1, rfl, hR, hB1⟩; obtain ⟨A1, c1, rfl, hS⟩ := KEY.out w1 v1 hB1 hR; have HS := zm hS; clear hS hR hB1)
    | (go_at_call 103; refine HS.out.mono ?_; rintro e w2 ⟨rfl, hB2, hC⟩; have HB2 := zm hB2; have HC := zm hC; clear hB2 hC)
    | (go_at_call 49; refine (all49_impl_snapNameOK.calls k A0 c0 l0 () true w2 (Kd.C_below HR0.out HB2.out) HC0.out HT.out).mono ?_; rintro e w3 ⟨rfl, hB3⟩; have HB3 := zm hB3; clear hB3)
    | (go_at_call 104; refine (HC.out w3 HB3.out).mono ?_; rintro e w4 ⟨A2, c2, rfl, hB4⟩; have HB4 := zm hB4; clear hB4))
   go_ret
   exact ⟨rfl, HB4.out⟩
 ·rw [if_neg c3] at h
  cases h
  have hd : decide ((l0.length : Int) ≤ 3) = false := decide_eq_false c3
  go_enter Tryd.func89, Tryd.ntmps89
  go_wp2_with (first
   | (go_at_call 102; refine (slices_Clone_string_string.calls A0 c0 l0 l0 w HR0.out HC0.out HCL.out).mono ?_; rintro e w1 ⟨v1, rfl, hR, hB1⟩; obtain ⟨A1, c1, rfl, hS⟩ := KEY.out w1 v1 hB1 hR; have HS := zm hS; clear hS hR hB1)
   | (go_at_call 103; refine HS.out.mono ?_; rintro e w2 ⟨rfl, hB2, hC⟩; have HB2 := zm hB2; have HC := zm hC; clear hB2 hC))
  go_ret
  exact ⟨rfl, HB2.out⟩
/-! ### impl_GuestOK: function 58 -/
def impl_GuestOK.f (k : Nat) (l0_0 : List Int) (l0_1 : List (S102)) : Option (Bool) := (impl_areValues.f l0_0).bind fun t303 => (if t303 = true then (if (l0_1.length : Int) ≤ 3 then ((impl_Guest_names.f k l0_0 l0_1).bind fun t304 => ((impl_areNames.f k t304).bind fun t307 => (if t307 = true then ((all91_impl_GuestOK_1.f l0_1 ()).bind fun t308 => (some t308)) else (some false)))) else (some false)) else (some false))
theorem impl_GuestOK.mono : ∀ a0 a1 k, LeO (impl_GuestOK.f k a0 a1) (impl_GuestOK.f (k + 1) a0 a1) := by
  intro a0 a1 k
  unfold impl_GuestOK.f
  repeat' first
      | (with_reducible exact impl_Guest_names.mono _ _ _)
      | (with_reducible exact impl_areNames.mono _ _)
      | (with_reducible exact LeO.refl _)
      | (with_reducible exact LeO.none _)
      | (with_reducible refine LeO.ite ?_ ?_)
      | (with_reducible refine LeO.bind ?_ (fun _ => ?_))
      | exact impl_Guest_names.mono _ _ _
      | exact impl_areNames.mono _ _
      | exact LeO.none _
      | refine LeO.ite ?_ ?_
      | refine LeO.bind ?_ (fun _ => ?_)
set_option maxHeartbeats 8000000 in
set_option maxRecDepth 100000 in
theorem impl_GuestOK.calls (k : Nat) (A0_0 : Option Addr) (c0_0 : Nat) (l0_0 : List Int) (A0_1 : Option Addr) (c0_1 : Nat) (l0_1 : List (S102)) (r : Bool) (w : World) (hr0_0 : Kd.C (Kd.int .i64) w A0_0 l0_0.length l0_0) (hc0_0 : l0_0.length ≤ c0_0) (hr0_1 : Kd.C k102 w A0_1 l0_1.length l0_1) (hc0_1 : l0_1.length ≤ c0_1) (h : impl_GuestOK.f k l0_0 l0_1 = some r) :
    Calls Tryd.prog 58 #[.agg #[.slice A0_0 l0_0.length c0_0, .slice A0_1 l0_1.length c0_1]] w fun e w' => e = .returned (.bool r) ∧ Below w.heap.size w w' := by
 have hu55 := Tryd.underlying55
 have Zd := zm hr0_0
 have Ze := zm hc0_0
 clear hr0_0 hc0_0
 have Zf := zm hr0_1
 have Zg := zm hc0_1
 clear hr0_1 hc0_1
 have HB := zm (Below.refl w.heap.size w)
 have H : ((impl_areValues.f l0_0).bind fun t303 => (if t303 = true then (if (l0_1.length : Int) ≤ 3 then ((impl_Guest_names.f k l0_0 l0_1).bind fun t304 => ((impl_areNames.f k t304).bind fun t307 => (if t307 = true then ((all91_impl_GuestOK_1.f l0_1 ()).bind fun t308 => (some t308)) else (some false)))) else (some false)) else (some false))) = some r := h
 clear h
 replace H := Option.bind_eq_some_iff.mp H
 obtain ⟨t303, A20, H⟩ := H
 replace H : (if t303 = true then (if (l0_1.length : Int) ≤ 3 then ((impl_Guest_names.f k l0_0 l0_1).bind fun t304 => ((impl_areNames.f k t304).bind fun t307 => (if t307 = true then ((all91_impl_GuestOK_1.f l0_1 ()).bind fun t308 => (some t308)) else (some false)))) else (some false)) else (some false)) = some r := H
 have A2 := zm A20
 clear A20
 by_cases c3 : t303 = true
 ·subst c3
  have H1 : (if (l0_1.length : Int) ≤ 3 then ((impl_Guest_names.f k l0_0 l0_1).bind fun t304 => ((impl_areNames.f k t304).bind fun t307 => (if t307 = true then ((all91_impl_GuestOK_1.f l0_1 ()).bind fun t308 => (some t308)) else (some false)))) else (some false)) = some r := by rw [if_pos rfl] at H; exact H
  clear H
  have H := H1
  clear H1
  by_cases c4 : (l0_1.length : Int) ≤ 3
  ·rw [if_pos c4] at H
   have c4b0 : decide ((l0_1.length : Int) ≤ 3) = true := decide_eq_true c4
   have c4b1 : decide (l0_1.length ≤ 3) = true := decide_eq_true (by omega)
   clear c4
   replace H := Option.bind_eq_some_iff.mp H
   obtain ⟨t304, A50, H⟩ := H
   replace H : ((impl_areNames.f k t304).bind fun t307 => (if t307 = true then ((all91_impl_GuestOK_1.f l0_1 ()).bind fun t308 => (some t308)) else (some false))) = some r := H
   have A5 := zm A50
   clear A50
   replace H := Option.bind_eq_some_iff.mp H
   obtain ⟨t307, A60, H⟩ := H
   replace H : (if t307 = true then ((all91_impl_GuestOK_1.f l0_1 ()).bind fun t308 => (some t308)) else (some false)) = some r := H
   have A6 := zm A60
   clear A60
   by_cases c7 : t307 = true
   ·subst c7
    have H1 : ((all91_impl_GuestOK_1.f l0_1 ()).bind fun t308 => (some t308)) = some r := by rw [if_pos rfl] at H; exact H
    clear H
    have H := H1
    clear H1
    replace H := Option.bind_eq_some_iff.mp H
    obtain ⟨t308, A80, H⟩ := H
    replace H : (some t308) = some r := H
    have A8 := zm A80
    clear A80
    obtain rfl := Option.some.inj H
    go_enter Tryd.func58, Tryd.ntmps58
    go_wp2_with (first | ((with_reducible refine gate_dst (N := 1) rfl ?_); (try (refine gate_guard (by rfl) ?_; dsimp only)); refine box_event ?hg (N := 1) ?hd (cs := #[.slice A0_0 l0_0.length c0_0, .slice A0_1 l0_1.length c0_1]) (t := 55) ?hr ?_; (case hd => rfl); (case hg => rfl); (case hr => first | (go_simp; done) | (go_simp; rfl)); intro gb302 hg w9 hbox hb; have n0_ := zm (below_step (zg_0 HB.out) hb); have n1_ := zm (hbox); have n2_ := zm ((by rw [hg]; exact (below_size (zg_0 HB.out)) : w.heap.size ≤ gb302)); have n3_ := zm ((by rw [hg]; exact (below_size (zg_0 HB.out)) : w.heap.size ≤ gb302)); clear HB; have HB := n0_; have Za := n1_; have Zh := n2_; have Zb := n3_; clear n0_ n1_ n2_ n3_; clear hb hbox hg; have hcz10_0 : w9.cell? ⟨gb302, 0, none⟩ = some (.slice A0_0 l0_0.length c0_0) := (blk_cell Za.out 0).trans rfl; have hcz10_1 : w9.cell? ⟨gb302, 1, none⟩ = some (.slice A0_1 l0_1.length c0_1) := (blk_cell Za.out 1).trans rfl; have hfz10_0 := blk_frozen Za.out 0; have hfz10_1 := blk_frozen Za.out 1) | ((with_reducible refine gate_callee (f := 88) rfl ?_); refine goesL_ (some 5) rfl rfl Tryd.func88 (by kernel_rfl) rfl #[.slice A0_0 l0_0.length c0_0] rfl zq ?_; (with_reducible refine (impl_areValues.calls _ _ l0_0 true _ ?side1 ?side2 A2.out).mono ?_); (case side1 => exact zC (Kd.C_below Zd.out HB.out)); (case side2 => exact Ze.out); rintro e w11 ⟨rfl, hb⟩; refine ⟨_, rfl, ?_⟩; have n0_ := zm (blk_below (g := gb302) (o := .cells #[.slice A0_0 l0_0.length c0_0, .slice A0_1 l0_1.length c0_1] 55 (0, 0)) (zg_1 Za.out) hb); have n1_ := zm (below_step (zg_2 HB.out Zb.out) hb); clear Za; clear HB; have Za := n0_; have HB := n1_; clear n0_ n1_; (try clear hb); (try clear hb2); (try clear hk); (try clear hi); have hcz12_0 : w11.cell? ⟨gb302, 0, none⟩ = some (.slice A0_0 l0_0.length c0_0) := (blk_cell Za.out 0).trans rfl; have hcz12_1 : w11.cell? ⟨gb302, 1, none⟩ = some (.slice A0_1 l0_1.length c0_1) := (blk_cell Za.out 1).trans rfl; have hfz12_0 := blk_frozen Za.out 0; have hfz12_1 := blk_frozen Za.out 1) | (go_at_call 90; (with_reducible refine (impl_Guest_names.calls k _ _ l0_0 _ _ l0_1 t304 _ ?side1 ?side2 ?side3 ?side4 A5.out).mono ?_); (case side1 => exact zC (Kd.C_below Zd.out HB.out)); (case side2 => exact Ze.out); (case side3 => exact zC (Kd.C_below Zf.out HB.out)); (case side4 => exact Zg.out); rintro e w13 ⟨v305, rfl, ho0, hb⟩; have n0_ := zm (Kd.R_lower ho0 (below_size (zg_2 HB.out Zb.out))); have n1_ := zm (blk_below (g := gb302) (o := .cells #[.slice A0_0 l0_0.length c0_0, .slice A0_1 l0_1.length c0_1] 55 (0, 0)) (zg_1 Za.out) hb); have n2_ := zm (below_step (zg_2 HB.out Zb.out) hb); clear Za; clear HB; have Zc := n0_; have Za := n1_; have HB := n2_; clear n0_ n1_ n2_; (try clear hb); (try clear hb2); (try clear hk); (try clear hi); (try clear ho0); obtain ⟨Ao14, co14, eo14⟩ := Kd.R_slice Zc.out; subst eo14) | (go_at_call 89; (with_reducible refine (impl_areNames.calls k _ _ t304 true _ ?side1 ?side2 A6.out).mono ?_); (case side1 => exact zC ((Kd.R_reads' Zc.out).2.2)); (case side2 => exact (Kd.R_reads' Zc.out).2.1); rintro e w15 ⟨rfl, hb⟩; have n0_ := zm (Kd.R_below (zg_3 Zc.out) hb); have n1_ := zm (blk_below (g := gb302) (o := .cells #[.slice A0_0 l0_0.length c0_0, .slice A0_1 l0_1.length c0_1] 55 (0, 0)) (zg_1 Za.out) hb); have n2_ := zm (below_step (zg_2 HB.out Zb.out) hb); clear Zc; clear Za; clear HB; have Zc := n0_; have Za := n1_; have HB := n2_; clear n0_ n1_ n2_; (try clear hb); (try clear hb2); (try clear hk); (try clear hi); have hcz16_0 : w15.cell? ⟨gb302, 0, none⟩ = some (.slice A0_0 l0_0.length c0_0) := (blk_cell Za.out 0).trans rfl; have hcz16_1 : w15.cell? ⟨gb302, 1, none⟩ = some (.slice A0_1 l0_1.length c0_1) := (blk_cell Za.out 1).trans rfl; have hfz16_0 := blk_frozen Za.out 0; have hfz16_1 := blk_frozen Za.out 1) | (go_at_call 91; (with_reducible refine (all91_impl_GuestOK_1.calls _ _ l0_1 () t308 _ ?side1 ?side2 A8.out).mono ?_); (case side1 => exact zC (Kd.C_below Zf.out HB.out)); (case side2 => exact Zg.out); rintro e w17 ⟨rfl, hb⟩; have n0_ := zm (Kd.R_below (zg_3 Zc.out) hb); have n1_ := zm (blk_below (g := gb302) (o := .cells #[.slice A0_0 l0_0.length c0_0, .slice A0_1 l0_1.length c0_1] 55 (0, 0)) (zg_1 Za.out) hb); have n2_ := zm (below_step (zg_2 HB.out Zb.out) hb); clear Zc; clear Za; clear HB; have Zc := n0_; have Za := n1_; have HB := n2_; clear n0_ n1_ n2_; (try clear hb); (try clear hb2); (try clear hk); (try clear hi)))
    go_ret
    exact ⟨by first | rfl | (simp [errW_none, errW_some] <;> rfl) | (simp [*, errW_none, errW_some] <;> rfl), zg_2 HB.out Zb.out⟩
   ·replace c7 := Bool.eq_false_iff.mpr c7
    subst c7
    have H1 : (some false) = some r := by rw [if_neg (show ¬ (false = true) by decide)] at H; exact H
    clear H
    have H := H1
    clear H1
    obtain rfl := Option.some.inj H
    go_enter Tryd.func58, Tryd.ntmps58
    go_wp2_with (first | ((with_reducible refine gate_dst (N := 1) rfl ?_); (try (refine gate_guard (by rfl) ?_; dsimp only)); refine box_event ?hg (N := 1) ?hd (cs := #[.slice A0_0 l0_0.length c0_0, .slice A0_1 l0_1.length c0_1]) (t := 55) ?hr ?_; (case hd => rfl); (case hg => rfl); (case hr => first | (go_simp; done) | (go_simp; rfl)); intro gb302 hg w18 hbox hb; have n0_ := zm (below_step (zg_0 HB.out) hb); have n1_ := zm (hbox); have n2_ := zm ((by rw [hg]; exact (below_size (zg_0 HB.out)) : w.heap.size ≤ gb302)); have n3_ := zm ((by rw [hg]; exact (below_size (zg_0 HB.out)) : w.heap.size ≤ gb302)); clear HB; have HB := n0_; have Za := n1_; have Zh := n2_; have Zb := n3_; clear n0_ n1_ n2_ n3_; clear hb hbox hg; have hcz19_0 : w18.cell? ⟨gb302, 0, none⟩ = some (.slice A0_0 l0_0.length c0_0) := (blk_cell Za.out 0).trans rfl; have hcz19_1 : w18.cell? ⟨gb302, 1, none⟩ = some (.slice A0_1 l0_1.length c0_1) := (blk_cell Za.out 1).trans rfl; have hfz19_0 := blk_frozen Za.out 0; have hfz19_1 := blk_frozen Za.out 1) | ((with_reducible refine gate_callee (f := 88) rfl ?_); refine goesL_ (some 5) rfl rfl Tryd.func88 (by kernel_rfl) rfl #[.slice A0_0 l0_0.length c0_0] rfl zq ?_; (with_reducible refine (impl_areValues.calls _ _ l0_0 true _ ?side1 ?side2 A2.out).mono ?_); (case side1 => exact zC (Kd.C_below Zd.out HB.out)); (case side2 => exact Ze.out); rintro e w20 ⟨rfl, hb⟩; refine ⟨_, rfl, ?_⟩; have n0_ := zm (blk_below (g := gb302) (o := .cells #[.slice A0_0 l0_0.length c0_0, .slice A0_1 l0_1.length c0_1] 55 (0, 0)) (zg_1 Za.out) hb); have n1_ := zm (below_step (zg_2 HB.out Zb.out) hb); clear Za; clear HB; have Za := n0_; have HB := n1_; clear n0_ n1_; (try clear hb); (try clear hb2); (try clear hk); (try clear hi); have hcz21_0 : w20.cell? ⟨gb302, 0, none⟩ = some (.slice A0_0 l0_0.length c0_0) := (blk_cell Za.out 0).trans rfl; have hcz21_1 : w20.cell? ⟨gb302, 1, none⟩ = some (.slice A0_1 l0_1.length c0_1) := (blk_cell Za.out 1).trans rfl; have hfz21_0 := blk_frozen Za.out 0; have hfz21_1 := blk_frozen Za.out 1) | (go_at_call 90; (with_reducible refine (impl_Guest_names.calls k _ _ l0_0 _ _ l0_1 t304 _ ?side1 ?side2 ?side3 ?side4 A5.out).mono ?_); (case side1 => exact zC (Kd.C_below Zd.out HB.out)); (case side2 => exact Ze.out); (case side3 => exact zC (Kd.C_below Zf.out HB.out)); (case side4 => exact Zg.out); rintro e w22 ⟨v305, rfl, ho0, hb⟩; have n0_ := zm (Kd.R_lower ho0 (below_size (zg_2 HB.out Zb.out))); have n1_ := zm (blk_below (g := gb302) (o := .cells #[.slice A0_0 l0_0.length c0_0, .slice A0_1 l0_1.length c0_1] 55 (0, 0)) (zg_1 Za.out) hb); have n2_ := zm (below_step (zg_2 HB.out Zb.out) hb); clear Za; clear HB; have Zc := n0_; have Za := n1_; have HB := n2_; clear n0_ n1_ n2_; (try clear hb); (try clear hb2); (try clear hk); (try clear hi); (try clear ho0); obtain ⟨Ao23, co23, eo23⟩ := Kd.R_slice Zc.out; subst eo23) | (go_at_call 89; (with_reducible refine (impl_areNames.calls k _ _ t304 false _ ?side1 ?side2 A6.out).mono ?_); (case side1 => exact zC ((Kd.R_reads' Zc.out).2.2)); (case side2 => exact (Kd.R_reads' Zc.out).2.1); rintro e w24 ⟨rfl, hb⟩; have n0_ := zm (Kd.R_below (zg_3 Zc.out) hb); have n1_ := zm (blk_below (g := gb302) (o := .cells #[.slice A0_0 l0_0.length c0_0, .slice A0_1 l0_1.length c0_1] 55 (0, 0)) (zg_1 Za.out) hb); have n2_ := zm (below_step (zg_2 HB.out Zb.out) hb); clear Zc; clear Za; clear HB; have Zc := n0_; have Za := n1_; have HB := n2_; clear n0_ n1_ n2_; (try clear hb); (try clear hb2); (try clear hk); (try clear hi)))
    go_ret
    exact ⟨by first | rfl | (simp [errW_none, errW_some] <;> rfl) | (simp [*, errW_none, errW_some] <;> rfl), zg_2 HB.out Zb.out⟩
  ·rw [if_neg c4] at H
   have c4b0 : decide ((l0_1.length : Int) ≤ 3) = false := decide_eq_false c4
   have c4b1 : decide (l0_1.length ≤ 3) = false := decide_eq_false (by omega)
   clear c4
   obtain rfl := Option.some.inj H
   go_enter Tryd.func58, Tryd.ntmps58
   go_wp2_with (first | ((with_reducible refine gate_dst (N := 1) rfl ?_); (try (refine gate_guard (by rfl) ?_; dsimp only)); refine box_event ?hg (N := 1) ?hd (cs := #[.slice A0_0 l0_0.length c0_0, .slice A0_1 l0_1.length c0_1]) (t := 55) ?hr ?_; (case hd => rfl); (case hg => rfl); (case hr => first | (go_simp; done) | (go_simp; rfl)); intro gb302 hg w25 hbox hb; have n0_ := zm (below_step (zg_0 HB.out) hb); have n1_ := zm (hbox); have n2_ := zm ((by rw [hg]; exact (below_size (zg_0 HB.out)) : w.heap.size ≤ gb302)); have n3_ := zm ((by rw [hg]; exact (below_size (zg_0 HB.out)) : w.heap.size ≤ gb302)); clear HB; have HB := n0_; have Za := n1_; have Zh := n2_; have Zb := n3_; clear n0_ n1_ n2_ n3_; clear hb hbox hg; have hcz26_0 : w25.cell? ⟨gb302, 0, none⟩ = some (.slice A0_0 l0_0.length c0_0) := (blk_cell Za.out 0).trans rfl; have hcz26_1 : w25.cell? ⟨gb302, 1, none⟩ = some (.slice A0_1 l0_1.length c0_1) := (blk_cell Za.out 1).trans rfl; have hfz26_0 := blk_frozen Za.out 0; have hfz26_1 := blk_frozen Za.out 1) | ((with_reducible refine gate_callee (f := 88) rfl ?_); refine goesL_ (some 5) rfl rfl Tryd.func88 (by kernel_rfl) rfl #[.slice A0_0 l0_0.length c0_0] rfl zq ?_; (with_reducible refine (impl_areValues.calls _ _ l0_0 true _ ?side1 ?side2 A2.out).mono ?_); (case side1 => exact zC (Kd.C_below Zd.out HB.out)); (case side2 => exact Ze.out); rintro e w27 ⟨rfl, hb⟩; refine ⟨_, rfl, ?_⟩; have n0_ := zm (blk_below (g := gb302) (o := .cells #[.slice A0_0 l0_0.length c0_0, .slice A0_1 l0_1.length c0_1] 55 (0, 0)) (zg_1 Za.out) hb); have n1_ := zm (below_step (zg_2 HB.out Zb.out) hb); clear Za; clear HB; have Za := n0_; have HB := n1_; clear n0_ n1_; (try clear hb); (try clear hb2); (try clear hk); (try clear hi); have hcz28_0 : w27.cell? ⟨gb302, 0, none⟩ = some (.slice A0_0 l0_0.length c0_0) := (blk_cell Za.out 0).trans rfl; have hcz28_1 : w27.cell? ⟨gb302, 1, none⟩ = some (.slice A0_1 l0_1.length c0_1) := (blk_cell Za.out 1).trans rfl; have hfz28_0 := blk_frozen Za.out 0; have hfz28_1 := blk_frozen Za.out 1))
   go_ret
   exact ⟨by first | rfl | (simp [errW_none, errW_some] <;> rfl) | (simp [*, errW_none, errW_some] <;> rfl), zg_2 HB.out Zb.out⟩
 ·replace c3 := Bool.eq_false_iff.mpr c3
  subst c3
  have H1 : (some false) = some r := by rw [if_neg (show ¬ (false = true) by decide)] at H; exact H
  clear H
  have H := H1
  clear H1
  obtain rfl := Option.some.inj H
  go_enter Tryd.func58, Tryd.ntmps58
  go_wp2_with (first | ((with_reducible refine gate_dst (N := 1) rfl ?_); (try (refine gate_guard (by rfl) ?_; dsimp only)); refine box_event ?hg (N := 1) ?hd (cs := #[.slice A0_0 l0_0.length c0_0, .slice A0_1 l0_1.length c0_1]) (t := 55) ?hr ?_; (case hd => rfl); (case hg => rfl); (case hr => first | (go_simp; done) | (go_simp; rfl)); intro gb302 hg w29 hbox hb; have n0_ := zm (below_step (zg_0 HB.out) hb); have n1_ := zm (hbox); have n2_ := zm ((by rw [hg]; exact (below_size (zg_0 HB.out)) : w.heap.size ≤ gb302)); have n3_ := zm ((by rw [hg]; exact (below_size (zg_0 HB.out)) : w.heap.size ≤ gb302)); clear HB; have HB := n0_; have Za := n1_; have Zh := n2_; have Zb := n3_; clear n0_ n1_ n2_ n3_; clear hb hbox hg; have hcz30_0 : w29.cell? ⟨gb302, 0, none⟩ = some (.slice A0_0 l0_0.length c0_0) := (blk_cell Za.out 0).trans rfl; have hcz30_1 : w29.cell? ⟨gb302, 1, none⟩ = some (.slice A0_1 l0_1.length c0_1) := (blk_cell Za.out 1).trans rfl; have hfz30_0 := blk_frozen Za.out 0; have hfz30_1 := blk_frozen Za.out 1) | ((with_reducible refine gate_callee (f := 88) rfl ?_); refine goesL_ (some 5) rfl rfl Tryd.func88 (by kernel_rfl) rfl #[.slice A0_0 l0_0.length c0_0] rfl zq ?_; (with_reducible refine (impl_areValues.calls _ _ l0_0 false _ ?side1 ?side2 A2.out).mono ?_); (case side1 => exact zC (Kd.C_below Zd.out HB.out)); (case side2 => exact Ze.out); rintro e w31 ⟨rfl, hb⟩; refine ⟨_, rfl, ?_⟩; have n0_ := zm (blk_below (g := gb302) (o := .cells #[.slice A0_0 l0_0.length c0_0, .slice A0_1 l0_1.length c0_1] 55 (0, 0)) (zg_1 Za.out) hb); have n1_ := zm (below_step (zg_2 HB.out Zb.out) hb); clear Za; clear HB; have Za := n0_; have HB := n1_; clear n0_ n1_; (try clear hb); (try clear hb2); (try clear hk); (try clear hi)))
  go_ret
  exact ⟨by first | rfl | (simp [errW_none, errW_some] <;> rfl) | (simp [*, errW_none, errW_some] <;> rfl), zg_2 HB.out Zb.out⟩
/-! ### strings_Join: function 96 -/
theorem Tryd_extra : Builder.Extra Tryd.prog Tryd.laysJoin_ren where
  sizeBuilder := by kernel_rfl
  liesBuilder := by kernel_rfl
  t5 := Tryd.underlying5
  a5 := Tryd.isAgg5
  z5 := Tryd.sizeOf5
  v5 := Tryd.zeroValue5
  infoByte := by kernel_rfl
  cellsByte := by kernel_rfl
  sizeByte := by kernel_rfl
  neB5 := by decide
def strings_Join.f (l0 : List ByteArray) (a1 : ByteArray) : Option ByteArray := if l0.length ≤ 140737488355328 then (if (Lib.join (l0.map (·.data.toList)) a1.data.toList).length ≤ 140737488355328 then some (⟨(Lib.join (l0.map (·.data.toList)) a1.data.toList).toArray⟩ : ByteArray) else none) else none
theorem strings_Join.calls (A0 : Option Addr) (c0 : Nat) (l0 : List ByteArray) (a1 : ByteArray) (r : ByteArray) (w : World) (hr0 : Kd.C Kd.string w A0 l0.length l0) (hc0 : l0.length ≤ c0) (h : strings_Join.f l0 a1 = some r) :
    Calls Tryd.prog 96 #[.slice A0 l0.length c0, .string a1] w fun e w' => e = .returned (.string r) ∧ Below w.heap.size w w' := by
  unfold strings_Join.f at h
  by_cases h0 : l0.length ≤ 140737488355328
  · rw [if_pos h0] at h
    by_cases h1 : (Lib.join (l0.map (·.data.toList)) a1.data.toList).length ≤ 140737488355328
    · rw [if_pos h1] at h
      obtain rfl := Option.some.inj h
      by_cases hn : 0 < l0.length
      · obtain ⟨ad, ha, hx⟩ := hr0.2.2 hn
        subst ha
        have hcell : ∀ (j : Nat) x, l0[j]? = some x → w.cell? (ad.add j) = some (.string x) := by
          intro j x hj
          obtain ⟨c, hc, hK, hcc⟩ := hx j x hj
          have hK' : c = [.string x] := hK
          subst hK'
          have h2 := hcc 0 _ rfl
          have e : j * Kd.string.sz + 0 = j := by show j * 1 + 0 = j; omega
          rw [e] at h2
          exact h2
        have h00 := hcell 0 l0[0] (List.getElem?_eq_getElem hn)
        obtain ⟨bk, o, sp⟩ := ad
        have h01 : w.cell? ⟨bk, o, sp⟩ = some (.string l0[0]) := h00
        have hsp : sp = none := by
          cases sp with
          | none => rfl
          | some q =>
            exfalso
            unfold World.cell? at h01
            split at h01
            · simp at h01
            · cases h01
        subst hsp
        have hadd : ∀ j : Nat, Addr.add ⟨bk, o, none⟩ j = ⟨bk, o + j, none⟩ := by
          intro j
          unfold Addr.add
          split
          · rename_i e; subst e; rfl
          · rfl
        refine (Any.strings_Join Tryd.laysJoin Tryd_extra bk o c0 l0 a1 w (fun j x hj => ?_) (World.block_lt_of_cell? w _ h01) h0 hc0 h1)
        have h3 := hcell j x hj
        rw [hadd j] at h3
        exact h3
      · have e : l0 = [] := List.eq_nil_of_length_eq_zero (by omega)
        subst e
        refine (Any.strings_Join_none Tryd.laysJoin Tryd_extra A0 c0 a1 w).mono ?_
        rintro e w' ⟨rfl, rfl⟩
        exact ⟨rfl, Below.refl _ _⟩
    · rw [if_neg h1] at h; cases h
  · rw [if_neg h0] at h; cases h
/-! ### impl_said: function 70 -/
def impl_said.ints : List ByteArray → List Int → Option (List ByteArray)
  | out, [] => some out
  | out, n :: r => (strconv_Itoa_95.f n).bind fun t => if out.length < 8796093022208 then impl_said.ints (out ++ [t]) r else none
def impl_said.go : List ByteArray → List Any → Option (List ByteArray)
  | out, [] => some out
  | out, .n n :: r => (strconv_Itoa_95.f n).bind fun t => if out.length < 8796093022208 then impl_said.go (out ++ [t]) r else none
  | out, .s t :: r => if out.length < 8796093022208 then impl_said.go (out ++ [t]) r else none
  | out, .ss _ l :: r => if out.length + l.length < 8796093022208 then impl_said.go (out ++ l) r else none
  | out, .ns _ l :: r => (impl_said.ints out l).bind fun o => impl_said.go o r
  | _, .b _ :: _ => none
def impl_said.f (l0 : List Any) : Option ByteArray := (impl_said.go [] l0).bind fun o => strings_Join.f o (⟨#[32]⟩ : ByteArray)
set_option maxHeartbeats 8000000 in
set_option maxRecDepth 100000 in
theorem impl_said.calls (A0 : Option Addr) (c0 : Nat) (l0 : List Any) (r : ByteArray) (w : World) (hr0 : Kd.C kAny w A0 l0.length l0) (hc0 : l0.length ≤ c0) (h : impl_said.f l0 = some r) (HS_ : Sims w l0 := by first | exact HS_ | exact ⟨trivial, trivial⟩ | exact ⟨trivial, trivial, trivial⟩ | exact ⟨trivial, trivial, trivial, trivial⟩ | (simp only [Sims, Sim1]; done) | (subst_vars; simp [Sims, Sim1])) (HTB_ : TrydTab w := by first | exact HTB_ | exact TrydTab.to HTB_ HB.out | exact TrydTab.to HTB_ (by repeat (first | exact HB.out | apply below_alloc | apply pw_below_drewN | apply below_drew1 | refine below_set ?_ (Aside0.out (by assumption))))) :
    Calls Tryd.prog 70 #[.slice A0 l0.length c0] w fun e w' => e = .returned (.string r) ∧ Below w.heap.size w w' := by
 have HR0 := zm hr0
 have HC0 := zm hc0
 have HSI := zm HS_
 clear hr0 hc0 HS_
 have HB := zm (Below.refl w.heap.size w)
 unfold impl_said.f at h
 obtain ⟨oF, hgo, hjoin⟩ := Option.bind_eq_some_iff.mp h
 clear h
 have HJ := zm hjoin
 have HG := zm hgo
 clear hjoin hgo
 have htn : ∀ (v : Int) (W : World), (Instr.typeAssert (.iface 3 (.int .i64 v)) 20 3 true).run Tryd.prog W = .ok (.tuple #[.int .i64 v, .bool true]) W := fun v W => by rfl
 have hts : ∀ (v : ByteArray) (W : World), (Instr.typeAssert (.iface 9 (.string v)) 20 3 true).run Tryd.prog W = .ok (.tuple #[.int .i64 0, .bool false]) W := fun v W => by rfl
 have htt : ∀ (v : ByteArray) (W : World), (Instr.typeAssert (.iface 9 (.string v)) 20 9 true).run Tryd.prog W = .ok (.tuple #[.string v, .bool true]) W := fun v W => by rfl
 have hl1 : ∀ (A : Option Addr) (n c : Nat) (W : World), (Instr.typeAssert (.iface 37 (.slice A n c)) 20 3 true).run Tryd.prog W = .ok (.tuple #[.int .i64 0, .bool false]) W := fun A n c W => by rfl
 have hl2 : ∀ (A : Option Addr) (n c : Nat) (W : World), (Instr.typeAssert (.iface 37 (.slice A n c)) 20 9 true).run Tryd.prog W = .ok (.tuple #[.string ⟨#[]⟩, .bool false]) W := fun A n c W => by rfl
 have hl3 : ∀ (A : Option Addr) (n c : Nat) (W : World), (Instr.typeAssert (.iface 37 (.slice A n c)) 20 37 true).run Tryd.prog W = .ok (.tuple #[.slice A n c, .bool true]) W := fun A n c W => by rfl
 have hi1 : ∀ (A : Option Addr) (n c : Nat) (W : World), (Instr.typeAssert (.iface 46 (.slice A n c)) 20 3 true).run Tryd.prog W = .ok (.tuple #[.int .i64 0, .bool false]) W := fun A n c W => by rfl
 have hi2 : ∀ (A : Option Addr) (n c : Nat) (W : World), (Instr.typeAssert (.iface 46 (.slice A n c)) 20 9 true).run Tryd.prog W = .ok (.tuple #[.string ⟨#[]⟩, .bool false]) W := fun A n c W => by rfl
 have hi3 : ∀ (A : Option Addr) (n c : Nat) (W : World), (Instr.typeAssert (.iface 46 (.slice A n c)) 20 37 true).run Tryd.prog W = .ok (.tuple #[.slice none 0 0, .bool false]) W := fun A n c W => by rfl
 have hi4 : ∀ (A : Option Addr) (n c : Nat) (W : World), (Instr.typeAssert (.iface 46 (.slice A n c)) 20 46 true).run Tryd.prog W = .ok (.tuple #[.slice A n c, .bool true]) W := fun A n c W => by rfl
 have HLN := zm (show l0.length ≤ 9223372036854775807 from HR0.out.2.1)
 go_enter Tryd.func70, Tryd.ntmps70
 go_wp2_with (first
  | ((with_reducible refine gate_dst (N := 12) rfl ?_); refine Kd.R_lit Kd.string _ 9 ?hg (N := 12) ?hd (xs := ([] : List ByteArray)) (inner := []) (ok := fun _ => True) (okp := fun _ => True) ?hr ?hp (fun _ hk => hk) trivial (Below.refl _ _) (Nat.le_refl _) (by simp) ?_; (case hd => rfl); (case hg => rfl); (case hr => first | (go_simp; done) | (go_simp; rfl)); (case hp => exact (Reps.none _ _)); intro v159 w2 ho3 hb hg_ hnew_; clear hg_ hnew_; have n0_ := zm (Kd.R_lower ho3 (below_size ((by repeat (with_reducible first | exact HB.out | apply below_alloc | apply pw_below_drewN | apply below_drew1))))); have n1_ := zm (below_step ((by repeat (with_reducible first | exact HB.out | apply below_alloc | apply pw_below_drewN | apply below_drew1))) hb); clear HB; have Zb := n0_; have HB := n1_; clear n0_ n1_; clear hb ho3))
 go_loopg [3, 15] l0.length (fun kq v3 v15 w' => ∃ (xs : List ByteArray) (j : Int), v15 = .int .i64 j ∧ Aside0 (0 ≤ j ∧ j.toNat ≤ l0.length ∧ l0.length - j.toNat ≤ kq) ∧ Aside0 (impl_said.go xs (l0.drop j.toNat) = some oF) ∧ Aside0 (Kd.R Kd.string 9 w' w.heap.size (fun _ => True) v3 xs) ∧ Aside0 (Below w.heap.size w w'))
 case atStart => exact ⟨[], 0, zr, ⟨by simp⟩, ⟨by simpa using HG.out⟩, ⟨by (with_reducible repeat (first | apply Kd.R_alloc | apply Kd.R_drewN | apply Kd.R_drew)); exact Zb.out⟩, ⟨(by repeat (with_reducible first | exact HB.out | apply below_alloc | apply pw_below_drewN | apply below_drew1))⟩⟩
 case round =>
  clear HG
  try clear p2
  obtain ⟨xs, j, rfl, HM, HG, Za, HB⟩ := hrel
  by_cases c4 : j < (l0.length : Int)
  ·have c4b0 : decide (j < (l0.length : Int)) = true := decide_eq_true c4
   have h0j : 0 ≤ j := HM.out.1
   have hjl : j.toNat < l0.length := by omega
   have WJ : Aside0 (wrap64 (j + 1) = j + 1) := ⟨by unfold wrap64; have := HLN.out; omega⟩
   have HK := zm (show (j + 1).toNat ≤ l0.length ∧ 0 ≤ j + 1 ∧ (j + 1).toNat = j.toNat + 1 from ⟨by omega, by omega, by omega⟩)
   have hg := HG.out
   rw [List.drop_eq_getElem_cons hjl] at hg
   obtain ⟨ad162, e162, hx162_0⟩ := any_at HR0.out j.toNat hjl l0[j.toNat] (List.getElem?_eq_getElem hjl)
   have hsim := HSI.out.at _ (List.getElem_mem hjl)
   cases e162
   replace hx162_0 := (HB.out.cell (World.block_lt_of_cell? w _ hx162_0)).trans hx162_0
   generalize hx : l0[j.toNat] = x at hg hx162_0 hsim
   clear hx
   have p162 := eq_true h0j
   have q162 := eq_true c4
   have HJ4 := zm c4
   clear h0j c4 hjl HG
   cases x with
   | n v =>
    simp only [impl_said.go] at hg
    have hg2 := Option.bind_eq_some_iff.mp hg
    clear hg
    obtain ⟨t163, hit, hg⟩ := hg2
    have A8 := zm hit
    clear hit hsim
    replace hx162_0 : wr.cell? (ad162.add j.toNat) = some (.iface 3 (.int .i64 v)) := hx162_0
    by_cases c9 : xs.length < 8796093022208
    ·rw [if_pos c9] at hg
     have LMc9 := zm c9
     have HG := zm hg
     clear hg c9
     go_wp2_with (first
      | ((with_reducible refine gate_callee (f := 95) rfl ?_); refine goesL_ (some 25) rfl rfl Tryd.func95 (by kernel_rfl) rfl #[.int .i64 v] rfl (by (try simp only [List.map_toArray, List.map_cons, List.map_nil]); first | done | rfl) ?_; (with_reducible refine (strconv_Itoa_95.calls v t163 _ A8.out).mono ?_); rintro e w10 ⟨rfl, hb⟩; refine ⟨_, rfl, ?_⟩; have n0_ := zm (Kd.R_below ((zg_3 Za.out)) hb); have n1_ := zm (below_step ((by repeat (with_reducible first | exact HB.out | apply below_alloc | apply pw_below_drewN | apply below_drew1))) hb); clear Za HB; have Za := n0_; have HB := n1_; clear n0_ n1_ hb)
      | ((with_reducible refine gate_builtin (b := .append) (xs := #[.tmp 23, .tmp 26]) rfl ?_); at_builtin; refine Kd.R_append Kd.string (w0 := w) w.heap.size rfl (.tmp 23) (.tmp 26) 37 9 (.string ⟨#[]⟩) 16 rfl Tryd.underlying37 info9 rfl (by decide) (by omega) u3 xs t163 [.string t163] (fun _ => True) (fun _ => False) rfl rfl ?aP (fun _ hk => hk.elim) ?aF ?aO ?aB ?aS ?aL ?_; (case aP => exact rfl); (case aB => exact ((by repeat (with_reducible first | exact HB.out | apply below_alloc | apply pw_below_drewN | apply below_drew1)))); (case aF => exact (fun _ _ => trivial)); (case aO => exact ((zg_3 Za.out))); (case aS => exact (below_size ((by repeat (with_reducible first | exact HB.out | apply below_alloc | apply pw_below_drewN | apply below_drew1))))); (case aL => have := LMc9.out; omega); intro v165 w11 ho hb hg_ hat; have n0_ := zm (hb); have n1_ := zm (ho); clear HB Za; have HB := n0_; have Zc := n1_; clear n0_ n1_ ho hb hg_ hat))
     go_roundg (l0.length - (j + 1).toNat)
     case measure => have := HM.out; have := HK.out; have := HJ4.out; omega
     case rel => exact ⟨xs ++ [t163], j + 1, by rw [WJ.out], ⟨by have := HK.out; omega⟩, ⟨by rw [HK.out.2.2]; exact HG.out⟩, ⟨by (with_reducible repeat (first | apply Kd.R_alloc | apply Kd.R_drewN | apply Kd.R_drew)); exact Zc.out⟩, ⟨(by repeat (with_reducible first | exact HB.out | apply below_alloc | apply pw_below_drewN | apply below_drew1))⟩⟩
    ·rw [if_neg c9] at hg
     exact absurd hg (by simp)
   | s t =>
    simp only [impl_said.go] at hg
    clear hsim
    replace hx162_0 : wr.cell? (ad162.add j.toNat) = some (.iface 9 (.string t)) := hx162_0
    by_cases c9 : xs.length < 8796093022208
    ·rw [if_pos c9] at hg
     have LMc9 := zm c9
     have HG := zm hg
     clear hg c9
     go_wp2_with (first
      | ((with_reducible refine gate_builtin (b := .append) (xs := #[.tmp 31, .tmp 33]) rfl ?_); at_builtin; refine Kd.R_append Kd.string (w0 := w) w.heap.size rfl (.tmp 31) (.tmp 33) 37 9 (.string ⟨#[]⟩) 16 rfl Tryd.underlying37 info9 rfl (by decide) (by omega) u3 xs t [.string t] (fun _ => True) (fun _ => False) rfl rfl ?aP (fun _ hk => hk.elim) ?aF ?aO ?aB ?aS ?aL ?_; (case aP => exact rfl); (case aB => exact ((by repeat (with_reducible first | exact HB.out | apply below_alloc | apply pw_below_drewN | apply below_drew1)))); (case aF => exact (fun _ _ => trivial)); (case aO => exact ((zg_3 Za.out))); (case aS => exact (below_size ((by repeat (with_reducible first | exact HB.out | apply below_alloc | apply pw_below_drewN | apply below_drew1))))); (case aL => have := LMc9.out; omega); intro v165 w11 ho hb hg_ hat; have n0_ := zm (hb); have n1_ := zm (ho); clear HB Za; have HB := n0_; have Zc := n1_; clear n0_ n1_ ho hb hg_ hat))
     go_roundg (l0.length - (j + 1).toNat)
     case measure => have := HM.out; have := HK.out; have := HJ4.out; omega
     case rel => exact ⟨xs ++ [t], j + 1, by rw [WJ.out], ⟨by have := HK.out; omega⟩, ⟨by rw [HK.out.2.2]; exact HG.out⟩, ⟨by (with_reducible repeat (first | apply Kd.R_alloc | apply Kd.R_drewN | apply Kd.R_drew)); exact Zc.out⟩, ⟨(by repeat (with_reducible first | exact HB.out | apply below_alloc | apply pw_below_drewN | apply below_drew1))⟩⟩
    ·rw [if_neg c9] at hg
     exact absurd hg (by simp)
   | ss v l =>
    simp only [impl_said.go] at hg
    obtain ⟨A1, c1, rfl, hc1, hr1⟩ := hsim
    have HC1 := zm hc1
    have HR1 := zm hr1
    clear hc1 hr1
    replace hx162_0 : wr.cell? (ad162.add j.toNat) = some (.iface 37 (.slice A1 l.length c1)) := hx162_0
    by_cases c9 : xs.length + l.length < 8796093022208
    ·rw [if_pos c9] at hg
     have LMc9 := zm c9
     have HG := zm hg
     clear hg c9
     go_wp2_with (first
      | ((with_reducible refine gate_builtin (b := .append) (xs := #[.tmp 38, .tmp 39]) rfl ?_); at_builtin; refine Kd.R_append_rows Kd.string (w0 := w) w.heap.size rfl (.tmp 38) (.tmp 39) 37 9 (.string ⟨#[]⟩) 16 rfl Tryd.underlying37 info9 rfl (by decide) (by omega) u3 xs l _ _ _ (fun _ => True) (fun _ => False) rfl rfl ?aO ?aR (fun _ _ h => h) (fun _ h => h.elim) ?aF ?aB ?aS ?aL ?_; (case aR => exact Kd.C_below HR1.out ((by repeat (with_reducible first | exact HB.out | apply below_alloc | apply pw_below_drewN | apply below_drew1)))); (case aB => exact ((by repeat (with_reducible first | exact HB.out | apply below_alloc | apply pw_below_drewN | apply below_drew1)))); (case aF => exact (fun _ _ => trivial)); (case aO => exact ((zg_3 Za.out))); (case aS => exact (below_size ((by repeat (with_reducible first | exact HB.out | apply below_alloc | apply pw_below_drewN | apply below_drew1))))); (case aL => have := LMc9.out; omega); intro v165 w11 ho hb hg_ hat; have n0_ := zm (hb); have n1_ := zm (ho); clear HB Za; have HB := n0_; have Zc := n1_; clear n0_ n1_ ho hb hg_ hat))
     go_roundg (l0.length - (j + 1).toNat)
     case measure => have := HM.out; have := HK.out; have := HJ4.out; omega
     case rel => exact ⟨xs ++ l, j + 1, by rw [WJ.out], ⟨by have := HK.out; omega⟩, ⟨by rw [HK.out.2.2]; exact HG.out⟩, ⟨by (with_reducible repeat (first | apply Kd.R_alloc | apply Kd.R_drewN | apply Kd.R_drew)); exact Zc.out⟩, ⟨(by repeat (with_reducible first | exact HB.out | apply below_alloc | apply pw_below_drewN | apply below_drew1))⟩⟩
    ·rw [if_neg c9] at hg
     exact absurd hg (by simp)
   | ns v l =>
    simp only [impl_said.go] at hg
    obtain ⟨A1, c1, rfl, hc1, hr1⟩ := hsim
    have HC1 := zm hc1
    have HR1 := zm hr1
    have HL1 := zm (show l.length ≤ 9223372036854775807 from hr1.2.1)
    clear hc1 hr1
    replace hx162_0 : wr.cell? (ad162.add j.toNat) = some (.iface 46 (.slice A1 l.length c1)) := hx162_0
    have hg2 := Option.bind_eq_some_iff.mp hg
    clear hg
    obtain ⟨o1, hin, hg⟩ := hg2
    have HG := zm hg
    have HI := zm hin
    clear hg hin
    go_wp2
    go_loopg [3, 46] l.length (fun kq v3 v46 w' => ∃ (ys : List ByteArray) (q : Int), v46 = .int .i64 q ∧ Aside0 (0 ≤ q ∧ q.toNat ≤ l.length ∧ l.length - q.toNat ≤ kq) ∧ Aside0 (impl_said.ints ys (l.drop q.toNat) = some o1) ∧ Aside0 (Kd.R Kd.string 9 w' w.heap.size (fun _ => True) v3 ys) ∧ Aside0 (Below w.heap.size w w'))
    case atStart => exact ⟨xs, 0, zr, ⟨by simp⟩, ⟨by simpa using HI.out⟩, ⟨by (with_reducible repeat (first | apply Kd.R_alloc | apply Kd.R_drewN | apply Kd.R_drew)); exact Za.out⟩, ⟨(by repeat (with_reducible first | exact HB.out | apply below_alloc | apply pw_below_drewN | apply below_drew1))⟩⟩
    case round =>
     clear HI
     try clear c1
     try clear p2
     try clear c4b0
     try clear hx162_0
     try clear p162
     try clear q162
     clear Za HB
     obtain ⟨ys, q, rfl, HQ, HI, Za, HB⟩ := hrel
     by_cases c6 : q < (l.length : Int)
     ·have c6b0 : decide (q < (l.length : Int)) = true := decide_eq_true c6
      have h0q : 0 ≤ q := HQ.out.1
      have hql : q.toNat < l.length := by omega
      have WQ : Aside0 (wrap64 (q + 1) = q + 1) := ⟨by unfold wrap64; have := HL1.out; omega⟩
      have HQ2 := zm (show (q + 1).toNat ≤ l.length ∧ 0 ≤ q + 1 ∧ (q + 1).toNat = q.toNat + 1 from ⟨by omega, by omega, by omega⟩)
      have hg := HI.out
      rw [List.drop_eq_getElem_cons hql] at hg
      simp only [impl_said.ints] at hg
      have hg2 := Option.bind_eq_some_iff.mp hg
      clear hg
      obtain ⟨t163, hit, hg⟩ := hg2
      have hrd : rd l q = l[q.toNat] := by simp [rd, hql]
      rw [← hrd] at hit
      have A8 := zm hit
      clear hit hrd HI
      by_cases c9 : ys.length < 8796093022208
      ·rw [if_pos c9] at hg
       have LMc9 := zm c9
       have HI := zm hg
       have HQ6 := zm c6
       clear hg c9
       obtain ⟨ad172, e172, hx172_0⟩ := Kd.at_int HR1.out q h0q c6
       cases e172
       replace hx172_0 := (HB.out.cell (World.block_lt_of_cell? w _ hx172_0)).trans hx172_0
       have p172 := eq_true h0q
       have q172 := eq_true c6
       clear h0q c6 hql
       go_wp2_with (first
        | ((with_reducible refine gate_callee (f := 95) rfl ?_); refine goesL_ (some 52) rfl rfl Tryd.func95 (by kernel_rfl) rfl #[.int .i64 (rd l q)] rfl (by (try simp only [List.map_toArray, List.map_cons, List.map_nil]); first | done | rfl) ?_; (with_reducible refine (strconv_Itoa_95.calls (rd l q) t163 _ A8.out).mono ?_); rintro e w10 ⟨rfl, hb⟩; refine ⟨_, rfl, ?_⟩; have n0_ := zm (Kd.R_below ((zg_3 Za.out)) hb); have n1_ := zm (below_step ((by repeat (with_reducible first | exact HB.out | apply below_alloc | apply pw_below_drewN | apply below_drew1))) hb); clear Za HB; have Za := n0_; have HB := n1_; clear n0_ n1_ hb)
        | ((with_reducible refine gate_builtin (b := .append) (xs := #[.tmp 50, .tmp 53]) rfl ?_); at_builtin; refine Kd.R_append Kd.string (w0 := w) w.heap.size rfl (.tmp 50) (.tmp 53) 37 9 (.string ⟨#[]⟩) 16 rfl Tryd.underlying37 info9 rfl (by decide) (by omega) u3 ys t163 [.string t163] (fun _ => True) (fun _ => False) rfl rfl ?aP (fun _ hk => hk.elim) ?aF ?aO ?aB ?aS ?aL ?_; (case aP => exact rfl); (case aB => exact ((by repeat (with_reducible first | exact HB.out | apply below_alloc | apply pw_below_drewN | apply below_drew1)))); (case aF => exact (fun _ _ => trivial)); (case aO => exact ((zg_3 Za.out))); (case aS => exact (below_size ((by repeat (with_reducible first | exact HB.out | apply below_alloc | apply pw_below_drewN | apply below_drew1))))); (case aL => have := LMc9.out; omega); intro v165 w11 ho hb hg_ hat; have n0_ := zm (hb); have n1_ := zm (ho); clear HB Za; have HB := n0_; have Zc := n1_; clear n0_ n1_ ho hb hg_ hat))
       go_roundg (l.length - (q + 1).toNat)
       case measure => have := HQ.out; have := HQ2.out; have := HQ6.out; omega
       case rel => exact ⟨ys ++ [t163], q + 1, by rw [WQ.out], ⟨by have := HQ2.out; omega⟩, ⟨by rw [HQ2.out.2.2]; exact HI.out⟩, ⟨by (with_reducible repeat (first | apply Kd.R_alloc | apply Kd.R_drewN | apply Kd.R_drew)); exact Zc.out⟩, ⟨(by repeat (with_reducible first | exact HB.out | apply below_alloc | apply pw_below_drewN | apply below_drew1))⟩⟩
      ·rw [if_neg c9] at hg
       exact absurd hg (by simp)
     ·have c6b0 : decide (q < (l.length : Int)) = false := decide_eq_false c6
      have eq_ : ys = o1 := by
       have hg := HI.out
       rw [List.drop_of_length_le (by omega)] at hg
       simpa [impl_said.ints] using hg
      subst eq_
      clear c6 HI
      go_wp2
      go_roundg (l0.length - (j + 1).toNat)
      case measure => have := HM.out; have := HK.out; have := HJ4.out; omega
      case rel => exact ⟨ys, j + 1, by rw [WJ.out], ⟨by have := HK.out; omega⟩, ⟨by rw [HK.out.2.2]; exact HG.out⟩, ⟨by (with_reducible repeat (first | apply Kd.R_alloc | apply Kd.R_drewN | apply Kd.R_drew)); exact Za.out⟩, ⟨(by repeat (with_reducible first | exact HB.out | apply below_alloc | apply pw_below_drewN | apply below_drew1))⟩⟩
   | b v => simp [impl_said.go] at hg
  ·have c4b0 : decide (j < (l0.length : Int)) = false := decide_eq_false c4
   have ex : xs = oF := by
    have hg := HG.out
    rw [List.drop_of_length_le (by omega)] at hg
    simpa [impl_said.go] using hg
   subst ex
   clear c4 HG
   obtain ⟨Ao16, co16, eo16⟩ := Kd.R_slice Za.out
   subst eo16
   go_wp2_with (first
    | ((with_reducible refine gate_callee (f := 96) rfl ?_); refine goesL_ (some 58) rfl rfl Tryd.func96 (by kernel_rfl) rfl #[.slice Ao16 xs.length co16, .string (⟨#[32]⟩ : ByteArray)] rfl (by (try simp only [List.map_toArray, List.map_cons, List.map_nil]); first | done | rfl) ?_; (with_reducible refine (strings_Join.calls _ _ xs (⟨#[32]⟩ : ByteArray) r _ ?side1 ?side2 HJ.out).mono ?_); (case side1 => exact zC ((Kd.R_reads' Za.out).2.2)); (case side2 => exact (Kd.R_reads' Za.out).2.1); rintro e w17 ⟨rfl, hb⟩; refine ⟨_, rfl, ?_⟩; have n1_ := zm (below_step ((by repeat (with_reducible first | exact HB.out | apply below_alloc | apply pw_below_drewN | apply below_drew1))) hb); clear HB; have HB := n1_; clear n1_ hb))
   go_ret
   exact ⟨rfl, (by repeat (with_reducible first | exact HB.out | apply below_alloc | apply pw_below_drewN | apply below_drew1))⟩
/-! ### impl_Guest_lines: function 59 -/
def impl_Guest_lines.l0 : Nat → List ByteArray → List (S102) → Int → Int → Option (List ByteArray)
  | 0, _, _, _, _ => none
  | k + 1, x3, x14, x15, x16 => if x16 < x15 then (if 0 ≤ x16 then (if x16 < (x14.length : Int) then (if ((rd_T102 x14 x16).f0).size + 1 ≤ 9223372036854775807 then ((impl_said.f (([Any.s (((rd_T102 x14 x16).f0) ++ (⟨#[58]⟩ : ByteArray)), Any.ns (.bool false) ((rd_T102 x14 x16).f1)] : List Any))).bind fun t322 => (if x3.length < 8796093022208 then (impl_Guest_lines.l0 k (x3 ++ [t322]) x14 x15 (wrap64 (x16 + 1))) else (none))) else (none)) else (none)) else (none)) else (some x3)
def impl_Guest_lines.f (k : Nat) (l0_0 : List Int) (l0_1 : List (S102)) : Option (List ByteArray) := (impl_said.f (([Any.s (⟨#[110, 111, 119, 58]⟩ : ByteArray), Any.ns (.bool false) l0_0] : List Any))).bind fun t313 => (impl_Guest_lines.l0 k (([t313] : List ByteArray)) l0_1 (l0_1.length : Int) 0)
theorem impl_Guest_lines.mono_l : ∀ k, (∀ y0 y1 y2 y3, LeO (impl_Guest_lines.l0 k y0 y1 y2 y3) (impl_Guest_lines.l0 (k + 1) y0 y1 y2 y3))
  | 0 => fun _ _ _ _ r h => by simp [impl_Guest_lines.l0] at h
  | k + 1 => by
    have ih0 := impl_Guest_lines.mono_l k
    · intro y0 y1 y2 y3
      unfold impl_Guest_lines.l0
      repeat' first
      | (with_reducible exact ih0 _ _ _ _)
      | (with_reducible exact LeO.refl _)
      | (with_reducible exact LeO.none _)
      | (with_reducible refine LeO.ite ?_ ?_)
      | (with_reducible refine LeO.bind ?_ (fun _ => ?_))
      | exact ih0 _ _ _ _
      | exact LeO.none _
      | refine LeO.ite ?_ ?_
      | refine LeO.bind ?_ (fun _ => ?_)
theorem impl_Guest_lines.mono : ∀ a0 a1 k, LeO (impl_Guest_lines.f k a0 a1) (impl_Guest_lines.f (k + 1) a0 a1) := by
  intro a0 a1 k
  have ih0 := impl_Guest_lines.mono_l k
  unfold impl_Guest_lines.f
  repeat' first
      | (with_reducible exact ih0 _ _ _ _)
      | (with_reducible exact LeO.refl _)
      | (with_reducible exact LeO.none _)
      | (with_reducible refine LeO.ite ?_ ?_)
      | (with_reducible refine LeO.bind ?_ (fun _ => ?_))
      | exact ih0 _ _ _ _
      | exact LeO.none _
      | refine LeO.ite ?_ ?_
      | refine LeO.bind ?_ (fun _ => ?_)
set_option maxHeartbeats 8000000 in
set_option maxRecDepth 100000 in
theorem impl_Guest_lines.calls (k : Nat) (A0_0 : Option Addr) (c0_0 : Nat) (l0_0 : List Int) (A0_1 : Option Addr) (c0_1 : Nat) (l0_1 : List (S102)) (r : List ByteArray) (w : World) (hr0_0 : Kd.C (Kd.int .i64) w A0_0 l0_0.length l0_0) (hc0_0 : l0_0.length ≤ c0_0) (hr0_1 : Kd.C k102 w A0_1 l0_1.length l0_1) (hc0_1 : l0_1.length ≤ c0_1) (h : impl_Guest_lines.f k l0_0 l0_1 = some r) (HTB_ : TrydTab w := by first | exact HTB_ | exact TrydTab.to HTB_ HB.out | exact TrydTab.to HTB_ (by repeat (first | exact HB.out | apply below_alloc | apply pw_below_drewN | apply below_drew1 | refine below_set ?_ (Aside0.out (by assumption))))) :
    Calls Tryd.prog 59 #[.agg #[.slice A0_0 l0_0.length c0_0, .slice A0_1 l0_1.length c0_1]] w fun e w' => ∃ v0_ : Value, e = .returned (v0_) ∧ Kd.R Kd.string 9 w' w.heap.size (fun _ => True) v0_ r ∧ Below w.heap.size w w' := by
 have hu55 := Tryd.underlying55
 have hu102 := Tryd.underlying102
 have Zo := zm hr0_0
 have Zp := zm hc0_0
 clear hr0_0 hc0_0
 have Zj := zm hr0_1
 have Zq := zm hc0_1
 clear hr0_1 hc0_1
 have HB := zm (Below.refl w.heap.size w)
 have H : ((impl_said.f (([Any.s (⟨#[110, 111, 119, 58]⟩ : ByteArray), Any.ns (.bool false) l0_0] : List Any))).bind fun t313 => (impl_Guest_lines.l0 k (([t313] : List ByteArray)) l0_1 (l0_1.length : Int) 0)) = some r := h
 clear h
 obtain ⟨y310, hy310⟩ : ∃ y_ : List Any, y_ = (([Any.s (⟨#[110, 111, 119, 58]⟩ : ByteArray), Any.ns (.bool false) l0_0] : List Any)) := ⟨_, rfl⟩
 replace H : ((impl_said.f y310).bind fun t313 => (impl_Guest_lines.l0 k (([t313] : List ByteArray)) l0_1 (l0_1.length : Int) 0)) = some r := by first | (rw [hy310]; with_reducible exact H) | (have H2_ := (Option.bind_some _ _).symm.trans H; rw [hy310]; with_reducible exact H2_) | (have H2_ := (Option.bind_some _ _).symm.trans H; with_reducible exact H2_) | with_reducible exact H | (rw [hy310]; exact H) | exact H
 have Ny310 := zm hy310
 clear hy310
 replace H := Option.bind_eq_some_iff.mp H
 obtain ⟨t313, A20, H⟩ := H
 replace H : (impl_Guest_lines.l0 k (([t313] : List ByteArray)) l0_1 (l0_1.length : Int) 0) = some r := H
 have A2 := zm A20
 clear A20
 obtain ⟨y314, hy314⟩ : ∃ y_ : List ByteArray, y_ = (([t313] : List ByteArray)) := ⟨_, rfl⟩
 replace H : (impl_Guest_lines.l0 k y314 l0_1 (l0_1.length : Int) 0) = some r := by first | (rw [hy314]; with_reducible exact H) | (have H2_ := (Option.bind_some _ _).symm.trans H; rw [hy314]; with_reducible exact H2_) | (have H2_ := (Option.bind_some _ _).symm.trans H; with_reducible exact H2_) | with_reducible exact H | (rw [hy314]; exact H) | exact H
 have Ny314 := zm hy314
 clear hy314
 have H' := zm H
 clear H
 go_enter Tryd.func59, Tryd.ntmps59
 obtain ⟨z310, hz310⟩ : ∃ y_ : List Any, y_ = (([Any.s (⟨#[110, 111, 119, 58]⟩ : ByteArray), Any.ns (.slice A0_0 l0_0.length c0_0) l0_0] : List Any)) := ⟨_, rfl⟩
 have A2z := zm (show impl_said.f z310 = some t313 from by rw [hz310]; have h_ := A2.out; rw [Ny310.out] at h_; exact h_)
 have Nz310 := zm hz310
 clear hz310
 go_wp2_with (first | ((with_reducible refine gate_dst (N := 1) rfl ?_); refine box_event ?hg (N := 1) ?hd (cs := #[.slice A0_0 l0_0.length c0_0, .slice A0_1 l0_1.length c0_1]) (t := 55) ?hr ?_; (case hd => rfl); (case hg => rfl); (case hr => first | (go_simp; done) | (go_simp; rfl)); intro gb309 hg w3 hbox hb; have n0_ := zm (below_step (zg_0 HB.out) hb); have n1_ := zm (hbox); have n2_ := zm ((by rw [hg]; exact (below_size (zg_0 HB.out)) : w.heap.size ≤ gb309)); have n3_ := zm ((by rw [hg]; exact (below_size (zg_0 HB.out)) : w.heap.size ≤ gb309)); clear HB; have HB := n0_; have Za := n1_; have Zr := n2_; have Zb := n3_; clear n0_ n1_ n2_ n3_; clear hb hbox hg; have hcz4_0 : w3.cell? ⟨gb309, 0, none⟩ = some (.slice A0_0 l0_0.length c0_0) := (blk_cell Za.out 0).trans rfl; have hcz4_1 : w3.cell? ⟨gb309, 1, none⟩ = some (.slice A0_1 l0_1.length c0_1) := (blk_cell Za.out 1).trans rfl; have hfz4_0 := blk_frozen Za.out 0; have hfz4_1 := blk_frozen Za.out 1) | ((with_reducible refine gate_dst (N := 10) rfl ?_); refine Kd.R_lit kAny _ 20 ?hg (N := 10) ?hd (xs := ([Any.s (⟨#[110, 111, 119, 58]⟩ : ByteArray), Any.ns (.slice A0_0 l0_0.length c0_0) l0_0] : List Any)) (inner := [.iface 9 (.string (⟨#[110, 111, 119, 58]⟩ : ByteArray)), .iface 46 (.slice A0_0 l0_0.length c0_0)]) (ok := fun _ => True) (okp := fun _ => True) ?hr ?hp (fun _ hk => hk) trivial (Below.refl _ _) (Nat.le_refl _) (by simp) ?_; (case hd => rfl); (case hg => rfl); (case hr => first | (go_simp; done) | (go_simp; rfl)); (case hp => exact (Reps.one (show Kd.M kAny _ _ _ (Any.s (⟨#[110, 111, 119, 58]⟩ : ByteArray)) [.iface 9 (.string (⟨#[110, 111, 119, 58]⟩ : ByteArray))] from rfl) (Reps.one (show Kd.M kAny _ _ _ (Any.ns (.slice A0_0 l0_0.length c0_0) l0_0) [.iface 46 (.slice A0_0 l0_0.length c0_0)] from rfl) (Reps.none _ _)))); intro v311 w5 ho6 hb hg_ hnew_; clear hg_ hnew_; (first | rw [← Nz310.out] at ho6 | (simp only [Int.reduceToNat] at ho6; rw [← Nz310.out] at ho6)); have n0_ := zm (Kd.R_lower ho6 (below_size (zg_2 HB.out Zb.out))); have n1_ := zm (blk_below (g := gb309) (o := .cells #[.slice A0_0 l0_0.length c0_0, .slice A0_1 l0_1.length c0_1] 55 (0, 0)) (zg_1 Za.out) hb); have n2_ := zm (below_step (zg_2 HB.out Zb.out) hb); clear Za; clear HB; have Ze := n0_; have Za := n1_; have HB := n2_; clear n0_ n1_ n2_; clear hb ho6; obtain ⟨Ao7, co7, eo7⟩ := Kd.R_slice Ze.out; subst eo7) | ((with_reducible refine gate_callee (f := 70) rfl ?_); refine goesL_ (some 11) rfl rfl Tryd.func70 (by kernel_rfl) rfl #[.slice Ao7 z310.length co7] rfl zq ?_; (with_reducible refine (impl_said.calls _ _ z310 t313 _ ?side1 ?side2 A2z.out (HS_ := ?sideS)).mono ?_); (case sideS => rw [Nz310.out]; exact ⟨trivial, ⟨_, _, rfl, (by first | exact Aside0.out (by assumption) | assumption | omega), (by first | exact Kd.C_below (w := w) (Aside0.out (by assumption)) (by repeat (with_reducible first | exact HB.out | apply below_alloc | apply pw_below_drewN | apply below_drew1)) | exact Kd.C_below (w := w) (by assumption) (by repeat (with_reducible first | exact HB.out | apply below_alloc | apply pw_below_drewN | apply below_drew1)) | exact Aside0.out (by assumption))⟩, trivial⟩); (case side1 => exact zC ((Kd.R_reads' Ze.out).2.2)); (case side2 => exact (Kd.R_reads' Ze.out).2.1); rintro e w8 ⟨rfl, hb⟩; refine ⟨_, rfl, ?_⟩; have n0_ := zm (Kd.R_below (zg_3 Ze.out) hb); have n1_ := zm (blk_below (g := gb309) (o := .cells #[.slice A0_0 l0_0.length c0_0, .slice A0_1 l0_1.length c0_1] 55 (0, 0)) (zg_1 Za.out) hb); have n2_ := zm (below_step (zg_2 HB.out Zb.out) hb); clear Ze; clear Za; clear HB; have Ze := n0_; have Za := n1_; have HB := n2_; clear n0_ n1_ n2_; (try clear hb); (try clear hb2); (try clear hk); (try clear hi)) | ((with_reducible refine gate_dst (N := 12) rfl ?_); refine Kd.R_lit Kd.string _ 9 ?hg (N := 12) ?hd (xs := ([t313] : List ByteArray)) (inner := [.string t313]) (ok := fun _ => True) (okp := fun _ => True) ?hr ?hp (fun _ hk => hk) trivial (Below.refl _ _) (Nat.le_refl _) (by simp) ?_; (case hd => rfl); (case hg => rfl); (case hr => first | (go_simp; done) | (go_simp; rfl)); (case hp => exact (Reps.one (show Kd.M Kd.string _ _ _ t313 [.string t313] from rfl) (Reps.none _ _))); intro v315 w9 ho10 hb hg_ hnew_; clear hg_ hnew_; (first | rw [← Ny314.out] at ho10 | (simp only [Int.reduceToNat] at ho10; rw [← Ny314.out] at ho10)); have n0_ := zm (Kd.R_below (zg_3 Ze.out) hb); have n1_ := zm (Kd.R_lower ho10 (below_size (zg_2 HB.out Zb.out))); have n2_ := zm (blk_below (g := gb309) (o := .cells #[.slice A0_0 l0_0.length c0_0, .slice A0_1 l0_1.length c0_1] 55 (0, 0)) (zg_1 Za.out) hb); have n3_ := zm (below_step (zg_2 HB.out Zb.out) hb); clear Ze; clear Za; clear HB; have Ze := n0_; have Zk := n1_; have Za := n2_; have HB := n3_; clear n0_ n1_ n2_ n3_; clear hb ho10; have hcz11_0 : w9.cell? ⟨gb309, 0, none⟩ = some (.slice A0_0 l0_0.length c0_0) := (blk_cell Za.out 0).trans rfl; have hcz11_1 : w9.cell? ⟨gb309, 1, none⟩ = some (.slice A0_1 l0_1.length c0_1) := (blk_cell Za.out 1).trans rfl; have hfz11_0 := blk_frozen Za.out 0; have hfz11_1 := blk_frozen Za.out 1))
 go_loopg [3, 16] k (fun kq v3 v16 w' => ∃ (x3_1 : List ByteArray) (x16_1 : Int), v16 = .int .i64 x16_1 ∧ Aside0 (impl_Guest_lines.l0 kq x3_1 l0_1 (l0_1.length : Int) x16_1 = some r) ∧ Aside0 (kq ≤ k) ∧ Aside0 (Kd.R Kd.string 9 w' w.heap.size (fun _ => True) v3 x3_1) ∧ Aside0 (w'.heap[gb309]? = some (.cells #[(.slice A0_0 l0_0.length c0_0), (.slice A0_1 l0_1.length c0_1)] 55 (0, 0))) ∧ Aside0 (Below w.heap.size w w'))
 case atStart => exact ⟨(y314), (0), zr, H', ⟨Nat.le_refl _⟩, ⟨by (with_reducible repeat (first | apply Kd.R_alloc | apply Kd.R_drewN | apply Kd.R_drew)); exact Zk.out⟩, ⟨by (with_reducible repeat (first | refine blk_drewN ?_ _ | refine blk_drew ?_ | refine blk_alloc ?_ _)); exact Za.out⟩, ⟨zg_2 HB.out Zb.out⟩⟩
 case round =>
  clear H'
  try clear p2
  try clear c5
  try clear c7
  try clear hcz11_0
  try clear hcz11_1
  try clear hcz4_0
  try clear hcz4_1
  try clear hfz11_0
  try clear hfz11_1
  try clear hfz4_0
  try clear hfz4_1
  obtain ⟨x3_1, x16_1, rfl, HA, HK1, Zd, Za, HB⟩ := hrel
  cases gk with
  | zero => exact absurd HA.out (by simp [impl_Guest_lines.l0])
  | succ k1 =>
   have H := HA.out
   clear HA
   simp only [impl_Guest_lines.l0] at H
   by_cases c12 : x16_1 < (l0_1.length : Int)
   ·rw [if_pos c12] at H
    have c12b0 : decide (x16_1 < (l0_1.length : Int)) = true := decide_eq_true c12
    clear c12
    by_cases c13 : 0 ≤ x16_1
    ·rw [if_pos c13] at H
     have c13b0 : decide (0 ≤ x16_1) = true := decide_eq_true c13
     clear c13
     by_cases c14 : x16_1 < (l0_1.length : Int)
     ·rw [if_pos c14] at H
      have c14b0 : decide (x16_1 < (l0_1.length : Int)) = true := decide_eq_true c14
      clear c14
      by_cases c15 : ((rd_T102 l0_1 x16_1).f0).size + 1 ≤ 9223372036854775807
      ·rw [if_pos c15] at H
       have c15b0 := eq_true c15
       have c15b1 : decide (((rd_T102 l0_1 x16_1).f0).size + 1 ≤ 9223372036854775807) = true := decide_eq_true c15
       try have c15b2 : (9223372036854775807 < ((rd_T102 l0_1 x16_1).f0).size + 1) = False := eq_false (Nat.not_lt.2 c15)
       obtain ⟨y319, hy319⟩ : ∃ y_ : List Any, y_ = (([Any.s (((rd_T102 l0_1 x16_1).f0) ++ (⟨#[58]⟩ : ByteArray)), Any.ns (.bool false) ((rd_T102 l0_1 x16_1).f1)] : List Any)) := ⟨_, rfl⟩
       replace H : ((impl_said.f y319).bind fun t322 => (if x3_1.length < 8796093022208 then (impl_Guest_lines.l0 k1 (x3_1 ++ [t322]) l0_1 (l0_1.length : Int) (wrap64 (x16_1 + 1))) else (none))) = some r := by first | (rw [hy319]; with_reducible exact H) | (have H2_ := (Option.bind_some _ _).symm.trans H; rw [hy319]; with_reducible exact H2_) | (have H2_ := (Option.bind_some _ _).symm.trans H; with_reducible exact H2_) | with_reducible exact H | (rw [hy319]; exact H) | exact H
       have Ny319 := zm hy319
       clear hy319
       replace H := Option.bind_eq_some_iff.mp H
       obtain ⟨t322, A160, H⟩ := H
       replace H : (if x3_1.length < 8796093022208 then (impl_Guest_lines.l0 k1 (x3_1 ++ [t322]) l0_1 (l0_1.length : Int) (wrap64 (x16_1 + 1))) else (none)) = some r := H
       have A16 := zm A160
       clear A160
       by_cases c17 : x3_1.length < 8796093022208
       ·rw [if_pos c17] at H
        have LMc17 := zm c17
        clear c17
        obtain ⟨y323, hy323⟩ : ∃ y_ : List ByteArray, y_ = (x3_1 ++ [t322]) := ⟨_, rfl⟩
        replace H : (impl_Guest_lines.l0 k1 y323 l0_1 (l0_1.length : Int) (wrap64 (x16_1 + 1))) = some r := by first | (rw [hy323]; with_reducible exact H) | (have H2_ := (Option.bind_some _ _).symm.trans H; rw [hy323]; with_reducible exact H2_) | (have H2_ := (Option.bind_some _ _).symm.trans H; with_reducible exact H2_) | with_reducible exact H | (rw [hy323]; exact H) | exact H
        have Ny323 := zm hy323
        clear hy323
        have H' := zm H
        clear H
        have p317 : 0 ≤ (x16_1 : Int) := zd
        have q317 : x16_1 < (l0_1.length : Int) := zd
        obtain ⟨ad317, A317_1, c317_1, e317, hx317_0, hx317_1, hl317_1, hi317_1⟩ := at_T102 Zj.out x16_1 p317 q317
        cases e317
        replace hx317_0 := (HB.out.cell (World.block_lt_of_cell? w _ hx317_0)).trans hx317_0
        replace hx317_1 := (HB.out.cell (World.block_lt_of_cell? w _ hx317_1)).trans hx317_1
        have Zm := zm hi317_1
        have Zn := zm hl317_1
        clear hi317_1 hl317_1
        replace p317 := eq_true p317
        replace q317 := eq_true q317
        obtain ⟨z319, hz319⟩ : ∃ y_ : List Any, y_ = (([Any.s (((rd_T102 l0_1 x16_1).f0) ++ (⟨#[58]⟩ : ByteArray)), Any.ns (.slice A317_1 ((rd_T102 l0_1 x16_1).f1).length c317_1) ((rd_T102 l0_1 x16_1).f1)] : List Any)) := ⟨_, rfl⟩
        have A16z := zm (show impl_said.f z319 = some t322 from by rw [hz319]; have h_ := A16.out; rw [Ny319.out] at h_; exact h_)
        have Nz319 := zm hz319
        clear hz319
        go_wp2_with (first | ((with_reducible refine gate_dst (N := 5) rfl ?_); refine box_event ?hg (N := 5) ?hd (cs := #[.string (⟨#[]⟩ : ByteArray), .slice none 0 0]) (t := 102) ?hr ?_; (case hd => rfl); (case hg => rfl); (case hr => first | (go_simp; done) | (go_simp; rfl)); intro gb318 hg w18 hbox hb; have n0_ := zm (Kd.R_below (zg_3 Zd.out) hb); have n1_ := zm (blk_below (g := gb309) (o := .cells #[.slice A0_0 l0_0.length c0_0, .slice (some ad317) l0_1.length c0_1] 55 (0, 0)) (zg_1 Za.out) hb); have n2_ := zm (below_step (zg_2 HB.out Zb.out) hb); have n3_ := zm (hbox); have n4_ := zm ((by rw [hg]; exact (below_size (zg_2 HB.out Zb.out)) : w.heap.size ≤ gb318)); have n5_ := zm ((by rw [hg]; exact (below_size (zg_2 HB.out Zb.out)) : w.heap.size ≤ gb318)); have n6_ := zm ((by rw [hg]; exact Nat.ne_of_lt (blk_lt (g := gb309) (o := .cells #[.slice A0_0 l0_0.length c0_0, .slice (some ad317) l0_1.length c0_1] 55 (0, 0)) (zg_1 Za.out)) : gb309 ≠ gb318)); have n7_ := zm ((by rw [hg]; exact Nat.ne_of_gt (blk_lt (g := gb309) (o := .cells #[.slice A0_0 l0_0.length c0_0, .slice (some ad317) l0_1.length c0_1] 55 (0, 0)) (zg_1 Za.out)) : gb318 ≠ gb309)); clear Zd; clear Za; clear HB; have Zd := n0_; have Za := n1_; have HB := n2_; have Zc := n3_; have Zs := n4_; have Zh := n5_; have Zg := n6_; have Zi := n7_; clear n0_ n1_ n2_ n3_ n4_ n5_ n6_ n7_; clear hb hbox hg; have hnb19 := Zi.out; have hnc19 := Zg.out; have hcz20_0 : w18.cell? ⟨gb318, 0, none⟩ = some (.string (⟨#[]⟩ : ByteArray)) := (blk_cell Zc.out 0).trans rfl; have hcz20_1 : w18.cell? ⟨gb318, 1, none⟩ = some (.slice none 0 0) := (blk_cell Zc.out 1).trans rfl; have hfz20_0 := blk_frozen Zc.out 0; have hfz20_1 := blk_frozen Zc.out 1) | ((with_reducible refine gate_dst (N := 28) rfl ?_); refine Kd.R_lit kAny _ 20 ?hg (N := 28) ?hd (xs := ([Any.s (((rd_T102 l0_1 x16_1).f0) ++ (⟨#[58]⟩ : ByteArray)), Any.ns (.slice A317_1 ((rd_T102 l0_1 x16_1).f1).length c317_1) ((rd_T102 l0_1 x16_1).f1)] : List Any)) (inner := [.iface 9 (.string (((rd_T102 l0_1 x16_1).f0) ++ (⟨#[58]⟩ : ByteArray))), .iface 46 (.slice A317_1 ((rd_T102 l0_1 x16_1).f1).length c317_1)]) (ok := fun _ => True) (okp := fun _ => True) ?hr ?hp (fun _ hk => hk) trivial (Below.refl _ _) (Nat.le_refl _) (by simp) ?_; (case hd => rfl); (case hg => rfl); (case hr => first | (go_simp; done) | (go_simp; rfl)); (case hp => exact (Reps.one (show Kd.M kAny _ _ _ (Any.s (((rd_T102 l0_1 x16_1).f0) ++ (⟨#[58]⟩ : ByteArray))) [.iface 9 (.string (((rd_T102 l0_1 x16_1).f0) ++ (⟨#[58]⟩ : ByteArray)))] from rfl) (Reps.one (show Kd.M kAny _ _ _ (Any.ns (.slice A317_1 ((rd_T102 l0_1 x16_1).f1).length c317_1) ((rd_T102 l0_1 x16_1).f1)) [.iface 46 (.slice A317_1 ((rd_T102 l0_1 x16_1).f1).length c317_1)] from rfl) (Reps.none _ _)))); intro v320 w21 ho22 hb hg_ hnew_; clear hg_ hnew_; (first | rw [← Nz319.out] at ho22 | (simp only [Int.reduceToNat] at ho22; rw [← Nz319.out] at ho22)); have n0_ := zm (Kd.R_below (by (with_reducible repeat (first | apply Kd.R_alloc | apply Kd.R_drewN | apply Kd.R_drew)); exact (Kd.R_mono (Kd.R_far (p := ⟨gb318, 1, none⟩) (Kd.R_far (p := ⟨gb318, 0, none⟩) (Kd.R_types Zd.out Zc.out (by decide)) (fun _ hk => hk.2) (.string ((rd_T102 l0_1 x16_1).f0))) (fun _ hk => hk.2) (.slice A317_1 ((rd_T102 l0_1 x16_1).f1).length c317_1)) (fun _ h_ => h_.1))) hb); have n1_ := zm (Kd.R_lower ho22 (below_size (zg_4 HB.out Zb.out Zh.out))); have n2_ := zm (blk_below (g := gb309) (o := .cells #[.slice A0_0 l0_0.length c0_0, .slice (some ad317) l0_1.length c0_1] 55 (0, 0)) (by (with_reducible repeat (first | refine blk_drewN ?_ _ | refine blk_drew ?_ | refine blk_alloc ?_ _)); refine blk_far ?_ Zg.out _; (with_reducible repeat (first | refine blk_drewN ?_ _ | refine blk_drew ?_ | refine blk_alloc ?_ _)); refine blk_far ?_ Zg.out _; (with_reducible repeat (first | refine blk_drewN ?_ _ | refine blk_drew ?_ | refine blk_alloc ?_ _)); exact Za.out) hb); have n3_ := zm (blk_below (g := gb318) (o := .cells #[.string ((rd_T102 l0_1 x16_1).f0), .slice A317_1 ((rd_T102 l0_1 x16_1).f1).length c317_1] 102 (0, 0)) (by (with_reducible repeat (first | refine blk_drewN ?_ _ | refine blk_drew ?_ | refine blk_alloc ?_ _)); refine blk_put (cs := #[.string ((rd_T102 l0_1 x16_1).f0), .slice none 0 0]) ?_ 1 _ rfl; (with_reducible repeat (first | refine blk_drewN ?_ _ | refine blk_drew ?_ | refine blk_alloc ?_ _)); refine blk_put (cs := #[.string (⟨#[]⟩ : ByteArray), .slice none 0 0]) ?_ 0 _ rfl; (with_reducible repeat (first | refine blk_drewN ?_ _ | refine blk_drew ?_ | refine blk_alloc ?_ _)); exact Zc.out) hb); have n4_ := zm (below_step (zg_4 HB.out Zb.out Zh.out) hb); clear Zd; clear Za; clear Zc; clear HB; have Zd := n0_; have Zf := n1_; have Za := n2_; have Zc := n3_; have HB := n4_; clear n0_ n1_ n2_ n3_ n4_; clear hb ho22; obtain ⟨Ao23, co23, eo23⟩ := Kd.R_slice Zf.out; subst eo23) | ((with_reducible refine gate_callee (f := 70) rfl ?_); refine goesL_ (some 29) rfl rfl Tryd.func70 (by kernel_rfl) rfl #[.slice Ao23 z319.length co23] rfl zq ?_; (with_reducible refine (impl_said.calls _ _ z319 t322 _ ?side1 ?side2 A16z.out (HS_ := ?sideS)).mono ?_); (case sideS => rw [Nz319.out]; exact ⟨trivial, ⟨_, _, rfl, (by first | exact Aside0.out (by assumption) | assumption | omega), (by first | exact Kd.C_below (w := w) (Aside0.out (by assumption)) (by repeat (with_reducible first | exact HB.out | apply below_alloc | apply pw_below_drewN | apply below_drew1)) | exact Kd.C_below (w := w) (by assumption) (by repeat (with_reducible first | exact HB.out | apply below_alloc | apply pw_below_drewN | apply below_drew1)) | exact Aside0.out (by assumption))⟩, trivial⟩); (case side1 => exact zC ((Kd.R_reads' Zf.out).2.2)); (case side2 => exact (Kd.R_reads' Zf.out).2.1); rintro e w24 ⟨rfl, hb⟩; refine ⟨_, rfl, ?_⟩; have n0_ := zm (Kd.R_below (zg_3 Zd.out) hb); have n1_ := zm (Kd.R_below (zg_3 Zf.out) hb); have n2_ := zm (blk_below (g := gb309) (o := .cells #[.slice A0_0 l0_0.length c0_0, .slice (some ad317) l0_1.length c0_1] 55 (0, 0)) (zg_1 Za.out) hb); have n3_ := zm (blk_below (g := gb318) (o := .cells #[.string ((rd_T102 l0_1 x16_1).f0), .slice A317_1 ((rd_T102 l0_1 x16_1).f1).length c317_1] 102 (0, 0)) (zg_1 Zc.out) hb); have n4_ := zm (below_step (zg_4 HB.out Zb.out Zh.out) hb); clear Zd; clear Zf; clear Za; clear Zc; clear HB; have Zd := n0_; have Zf := n1_; have Za := n2_; have Zc := n3_; have HB := n4_; clear n0_ n1_ n2_ n3_ n4_; (try clear hb); (try clear hb2); (try clear hk); (try clear hi)) | ((with_reducible refine gate_builtin (b := .append) (xs := #[.tmp 20, .tmp 30]) rfl ?_); at_builtin; refine Kd.R_append Kd.string (w0 := w) w.heap.size rfl (.tmp 20) (.tmp 30) 37 9 (.string ⟨#[]⟩) 16 rfl Tryd.underlying37 info9 rfl (by decide) (by omega) u3 x3_1 t322 [.string t322] (fun _ => True) (fun _ => False) rfl rfl ?aP (fun _ hk => hk.elim) ?aF ?aO ?aB ?aS ?aL ?_; (case aP => exact rfl); (case aB => exact (zg_4 HB.out Zb.out Zh.out)); (case aF => exact (fun _ _ => trivial)); (case aO => exact (zg_3 Zd.out)); (case aS => exact (below_size (zg_4 HB.out Zb.out Zh.out))); (case aL => have := LMc17.out; omega); intro v324 w25 ho hb hg hat; rw [← Ny323.out] at ho; have n0_ := zm (blk_grown (g := gb309) (o := .cells #[.slice A0_0 l0_0.length c0_0, .slice (some ad317) l0_1.length c0_1] 55 (0, 0)) (zg_1 Za.out) hg (Kd.R_ne Zd.out Za.out (by decide))); have n1_ := zm (blk_grown (g := gb318) (o := .cells #[.string ((rd_T102 l0_1 x16_1).f0), .slice A317_1 ((rd_T102 l0_1 x16_1).f1).length c317_1] 102 (0, 0)) (zg_1 Zc.out) hg (Kd.R_ne Zd.out Zc.out (by decide))); have n2_ := zm (Kd.R_over' (zg_3 Zf.out) (Kd.R_typed (zg_3 Zd.out)) (by decide) hg); have n3_ := zm (hb); have n4_ := zm (ho); clear Za; clear Zc; clear Zf; clear HB; clear Zd; have Za := n0_; have Zc := n1_; have Zf := n2_; have HB := n3_; have Zl := n4_; clear n0_ n1_ n2_ n3_ n4_; clear ho hb hg hat))
        go_roundg k1
        case measure => have := HK1.out; omega
        case rel => exact ⟨(y323), (wrap64 (x16_1 + 1)), zr, H', ⟨by have := HK1.out; omega⟩, ⟨by (with_reducible repeat (first | apply Kd.R_alloc | apply Kd.R_drewN | apply Kd.R_drew)); exact Zl.out⟩, ⟨by (with_reducible repeat (first | refine blk_drewN ?_ _ | refine blk_drew ?_ | refine blk_alloc ?_ _)); exact Za.out⟩, ⟨zg_4 HB.out Zb.out Zh.out⟩⟩
       ·rw [if_neg c17] at H
        exact absurd H (by simp)
      ·rw [if_neg c15] at H
       exact absurd H (by simp)
     ·rw [if_neg c14] at H
      exact absurd H (by simp)
    ·rw [if_neg c13] at H
     exact absurd H (by simp)
   ·rw [if_neg c12] at H
    have c12b0 : decide (x16_1 < (l0_1.length : Int)) = false := decide_eq_false c12
    clear c12
    obtain rfl := Option.some.inj H
    go_wp2
    go_ret
    exact ⟨_, by first | rfl | (simp [errW_none, errW_some] <;> rfl) | (simp [*, errW_none, errW_some] <;> rfl), by (with_reducible repeat (first | apply Kd.R_alloc | apply Kd.R_drewN | apply Kd.R_drew)); exact Zd.out, zg_2 HB.out Zb.out⟩
/-! ### impl_GuestText: function 24 -/
def impl_GuestText.f (k : Nat) (l0_0 : List Int) (l0_1 : List (S102)) : Option (List ByteArray × Int) := (impl_GuestOK.f k l0_0 l0_1).bind fun t327 => (if t327 = true then ((impl_Guest_lines.f k l0_0 l0_1).bind fun t328 => (some (t328, 0))) else (some (([] : List ByteArray), 1)))
theorem impl_GuestText.mono : ∀ a0 a1 k, LeO (impl_GuestText.f k a0 a1) (impl_GuestText.f (k + 1) a0 a1) := by
  intro a0 a1 k
  unfold impl_GuestText.f
  repeat' first
      | (with_reducible exact impl_GuestOK.mono _ _ _)
      | (with_reducible exact impl_Guest_lines.mono _ _ _)
      | (with_reducible exact LeO.refl _)
      | (with_reducible exact LeO.none _)
      | (with_reducible refine LeO.ite ?_ ?_)
      | (with_reducible refine LeO.bind ?_ (fun _ => ?_))
      | exact impl_GuestOK.mono _ _ _
      | exact impl_Guest_lines.mono _ _ _
      | exact LeO.none _
      | refine LeO.ite ?_ ?_
      | refine LeO.bind ?_ (fun _ => ?_)
set_option maxHeartbeats 8000000 in
set_option maxRecDepth 100000 in
theorem impl_GuestText.calls (k : Nat) (A0_0 : Option Addr) (c0_0 : Nat) (l0_0 : List Int) (A0_1 : Option Addr) (c0_1 : Nat) (l0_1 : List (S102)) (r1 : List ByteArray) (r2 : Int) (w : World) (hr0_0 : Kd.C (Kd.int .i64) w A0_0 l0_0.length l0_0) (hc0_0 : l0_0.length ≤ c0_0) (hr0_1 : Kd.C k102 w A0_1 l0_1.length l0_1) (hc0_1 : l0_1.length ≤ c0_1) (h : impl_GuestText.f k l0_0 l0_1 = some (r1, r2)) (HTB_ : TrydTab w := by first | exact HTB_ | exact TrydTab.to HTB_ HB.out | exact TrydTab.to HTB_ (by repeat (first | exact HB.out | apply below_alloc | apply pw_below_drewN | apply below_drew1 | refine below_set ?_ (Aside0.out (by assumption))))) :
    Calls Tryd.prog 24 #[.agg #[.slice A0_0 l0_0.length c0_0, .slice A0_1 l0_1.length c0_1]] w fun e w' => ∃ v0_ : Value, e = .returned (.tuple #[v0_, .int .i64 r2]) ∧ Kd.R Kd.string 9 w' w.heap.size (fun _ => True) v0_ r1 ∧ Below w.heap.size w w' := by
 have hu55 := Tryd.underlying55
 have Zc := zm hr0_0
 have Zd := zm hc0_0
 clear hr0_0 hc0_0
 have Ze := zm hr0_1
 have Zf := zm hc0_1
 clear hr0_1 hc0_1
 have HB := zm (Below.refl w.heap.size w)
 have H : ((impl_GuestOK.f k l0_0 l0_1).bind fun t327 => (if t327 = true then ((impl_Guest_lines.f k l0_0 l0_1).bind fun t328 => (some (t328, 0))) else (some (([] : List ByteArray), 1)))) = some (r1, r2) := h
 clear h
 replace H := Option.bind_eq_some_iff.mp H
 obtain ⟨t327, A20, H⟩ := H
 replace H : (if t327 = true then ((impl_Guest_lines.f k l0_0 l0_1).bind fun t328 => (some (t328, 0))) else (some (([] : List ByteArray), 1))) = some (r1, r2) := H
 have A2 := zm A20
 clear A20
 by_cases c3 : t327 = true
 ·subst c3
  have H1 : ((impl_Guest_lines.f k l0_0 l0_1).bind fun t328 => (some (t328, 0))) = some (r1, r2) := by rw [if_pos rfl] at H; exact H
  clear H
  have H := H1
  clear H1
  replace H := Option.bind_eq_some_iff.mp H
  obtain ⟨t328, A40, H⟩ := H
  replace H : (some (t328, 0)) = some (r1, r2) := H
  have A4 := zm A40
  clear A40
  simp only [Option.some.injEq, Prod.mk.injEq] at H
  obtain ⟨rfl, rfl⟩ := H
  go_enter Tryd.func24, Tryd.ntmps24
  go_wp2_with (first | ((with_reducible refine gate_dst (N := 1) rfl ?_); refine box_event ?hg (N := 1) ?hd (cs := #[.slice A0_0 l0_0.length c0_0, .slice A0_1 l0_1.length c0_1]) (t := 55) ?hr ?_; (case hd => rfl); (case hg => rfl); (case hr => first | (go_simp; done) | (go_simp; rfl)); intro gb326 hg w5 hbox hb; have n0_ := zm (below_step (zg_0 HB.out) hb); have n1_ := zm (hbox); have n2_ := zm ((by rw [hg]; exact (below_size (zg_0 HB.out)) : w.heap.size ≤ gb326)); have n3_ := zm ((by rw [hg]; exact (below_size (zg_0 HB.out)) : w.heap.size ≤ gb326)); clear HB; have HB := n0_; have Za := n1_; have Zg := n2_; have Zb := n3_; clear n0_ n1_ n2_ n3_; clear hb hbox hg; have hcz6_0 : w5.cell? ⟨gb326, 0, none⟩ = some (.slice A0_0 l0_0.length c0_0) := (blk_cell Za.out 0).trans rfl; have hcz6_1 : w5.cell? ⟨gb326, 1, none⟩ = some (.slice A0_1 l0_1.length c0_1) := (blk_cell Za.out 1).trans rfl; have hfz6_0 := blk_frozen Za.out 0; have hfz6_1 := blk_frozen Za.out 1) | ((with_reducible refine gate_callee (f := 58) rfl ?_); refine goesL_ (some 5) rfl rfl Tryd.func58 (by kernel_rfl) rfl #[.agg #[.slice A0_0 l0_0.length c0_0, .slice A0_1 l0_1.length c0_1]] rfl zq ?_; (with_reducible refine (impl_GuestOK.calls k _ _ l0_0 _ _ l0_1 true _ ?side1 ?side2 ?side3 ?side4 A2.out).mono ?_); (case side1 => exact zC (Kd.C_below Zc.out HB.out)); (case side2 => exact Zd.out); (case side3 => exact zC (Kd.C_below Ze.out HB.out)); (case side4 => exact Zf.out); rintro e w7 ⟨rfl, hb⟩; refine ⟨_, rfl, ?_⟩; have n0_ := zm (blk_below (g := gb326) (o := .cells #[.slice A0_0 l0_0.length c0_0, .slice A0_1 l0_1.length c0_1] 55 (0, 0)) (zg_1 Za.out) hb); have n1_ := zm (below_step (zg_2 HB.out Zb.out) hb); clear Za; clear HB; have Za := n0_; have HB := n1_; clear n0_ n1_; (try clear hb); (try clear hb2); (try clear hk); (try clear hi); have hcz8_0 : w7.cell? ⟨gb326, 0, none⟩ = some (.slice A0_0 l0_0.length c0_0) := (blk_cell Za.out 0).trans rfl; have hcz8_1 : w7.cell? ⟨gb326, 1, none⟩ = some (.slice A0_1 l0_1.length c0_1) := (blk_cell Za.out 1).trans rfl; have hfz8_0 := blk_frozen Za.out 0; have hfz8_1 := blk_frozen Za.out 1) | ((with_reducible refine gate_callee (f := 59) rfl ?_); refine goesL_ (some 8) rfl rfl Tryd.func59 (by kernel_rfl) rfl #[.agg #[.slice A0_0 l0_0.length c0_0, .slice A0_1 l0_1.length c0_1]] rfl zq ?_; (with_reducible refine (impl_Guest_lines.calls k _ _ l0_0 _ _ l0_1 t328 _ ?side1 ?side2 ?side3 ?side4 A4.out).mono ?_); (case side1 => exact zC (Kd.C_below Zc.out HB.out)); (case side2 => exact Zd.out); (case side3 => exact zC (Kd.C_below Ze.out HB.out)); (case side4 => exact Zf.out); rintro e w9 ⟨v329, rfl, ho0, hb⟩; refine ⟨_, rfl, ?_⟩; have n0_ := zm (Kd.R_lower ho0 (below_size (zg_2 HB.out Zb.out))); have n1_ := zm (blk_below (g := gb326) (o := .cells #[.slice A0_0 l0_0.length c0_0, .slice A0_1 l0_1.length c0_1] 55 (0, 0)) (zg_1 Za.out) hb); have n2_ := zm (below_step (zg_2 HB.out Zb.out) hb); clear Za; clear HB; have Zh := n0_; have Za := n1_; have HB := n2_; clear n0_ n1_ n2_; (try clear hb); (try clear hb2); (try clear hk); (try clear hi); (try clear ho0)))
  go_ret2
  exact ⟨_, by first | rfl | (simp [errW_none, errW_some] <;> rfl) | (simp [*, errW_none, errW_some] <;> rfl), by (with_reducible repeat (first | apply Kd.R_alloc | apply Kd.R_drewN | apply Kd.R_drew)); exact Zh.out, zg_2 HB.out Zb.out⟩
 ·replace c3 := Bool.eq_false_iff.mpr c3
  subst c3
  have H1 : (some (([] : List ByteArray), 1)) = some (r1, r2) := by rw [if_neg (show ¬ (false = true) by decide)] at H; exact H
  clear H
  have H := H1
  clear H1
  simp only [Option.some.injEq, Prod.mk.injEq] at H
  obtain ⟨rfl, rfl⟩ := H
  go_enter Tryd.func24, Tryd.ntmps24
  go_wp2_with (first | ((with_reducible refine gate_dst (N := 1) rfl ?_); refine box_event ?hg (N := 1) ?hd (cs := #[.slice A0_0 l0_0.length c0_0, .slice A0_1 l0_1.length c0_1]) (t := 55) ?hr ?_; (case hd => rfl); (case hg => rfl); (case hr => first | (go_simp; done) | (go_simp; rfl)); intro gb326 hg w10 hbox hb; have n0_ := zm (below_step (zg_0 HB.out) hb); have n1_ := zm (hbox); have n2_ := zm ((by rw [hg]; exact (below_size (zg_0 HB.out)) : w.heap.size ≤ gb326)); have n3_ := zm ((by rw [hg]; exact (below_size (zg_0 HB.out)) : w.heap.size ≤ gb326)); clear HB; have HB := n0_; have Za := n1_; have Zg := n2_; have Zb := n3_; clear n0_ n1_ n2_ n3_; clear hb hbox hg; have hcz11_0 : w10.cell? ⟨gb326, 0, none⟩ = some (.slice A0_0 l0_0.length c0_0) := (blk_cell Za.out 0).trans rfl; have hcz11_1 : w10.cell? ⟨gb326, 1, none⟩ = some (.slice A0_1 l0_1.length c0_1) := (blk_cell Za.out 1).trans rfl; have hfz11_0 := blk_frozen Za.out 0; have hfz11_1 := blk_frozen Za.out 1) | ((with_reducible refine gate_callee (f := 58) rfl ?_); refine goesL_ (some 5) rfl rfl Tryd.func58 (by kernel_rfl) rfl #[.agg #[.slice A0_0 l0_0.length c0_0, .slice A0_1 l0_1.length c0_1]] rfl zq ?_; (with_reducible refine (impl_GuestOK.calls k _ _ l0_0 _ _ l0_1 false _ ?side1 ?side2 ?side3 ?side4 A2.out).mono ?_); (case side1 => exact zC (Kd.C_below Zc.out HB.out)); (case side2 => exact Zd.out); (case side3 => exact zC (Kd.C_below Ze.out HB.out)); (case side4 => exact Zf.out); rintro e w12 ⟨rfl, hb⟩; refine ⟨_, rfl, ?_⟩; have n0_ := zm (blk_below (g := gb326) (o := .cells #[.slice A0_0 l0_0.length c0_0, .slice A0_1 l0_1.length c0_1] 55 (0, 0)) (zg_1 Za.out) hb); have n1_ := zm (below_step (zg_2 HB.out Zb.out) hb); clear Za; clear HB; have Za := n0_; have HB := n1_; clear n0_ n1_; (try clear hb); (try clear hb2); (try clear hk); (try clear hi)))
  go_ret2
  exact ⟨_, by first | rfl | (simp [errW_none, errW_some] <;> rfl) | (simp [*, errW_none, errW_some] <;> rfl), by first | exact Kd.R_nil _ _ _ _ _ | exact Kd.N_nil _ _ _ _ _ | exact Kd.V_nil _ _ _ _ _ | exact Kd.Q_nil _ _ _ _ _ | exact Kd.S_nil _ _ _ _ _, zg_2 HB.out Zb.out⟩
end Go.Proofs.YtniceoohmhjjlaaDoor.Q
