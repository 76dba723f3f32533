/- What laws.FnReplay reaches, part 7: the functions as Lean functions, the proofs that the program's functions answer so, and plain laws about them. -/
import Derived.Test.YtfmfbmcdikkijaaKFnReplay1
import Derived.Test.YtfmfbmcdikkijaaKFnReplay2
import Derived.Test.YtfmfbmcdikkijaaKFnReplay3
import Derived.Test.YtfmfbmcdikkijaaKFnReplay5
import Derived.Test.YtfmfbmcdikkijaaKFnReplay6
namespace Go.Proofs.Ytfmfbmcdikkijaa.Q
open Go.RowKit Go.Proofs.Ytfmfbmcdikkijaa.Ext Go.Proofs.YtfmfbmcdikkijaaW.PrintWords Go.Proofs.YtfmfbmcdikkijaaW.PrintLast Go.Proofs.YtfmfbmcdikkijaaW.PrintMore
attribute [local go_sem] max2_int min2_int max_two min_two max_three min_three max_four min_four   -- for this text's walks alone
set_option linter.unusedVariables false
set_option linter.unusedSimpArgs false

set_option linter.unusedVariables false
set_option linter.unusedSimpArgs false
open Bool renaming true → tt, false → ff
def laws_FnReplay.f (k : Nat) (l0 : List Int) (l1 : List Int) : Option (Bool) := if (l0.length : Int) > 1048576 then (some true) else (if (l1.length : Int) > 1048576 then (some true) else ((spec_UpdatesOf.f k l0).bind fun t411 => ((laws_at.f l1 0 4).bind fun t414 => ((impl_JournalPlan.f k t414 5 t411).bind fun bt415 => (if 64 ≤ 17592186044416 then ((laws_at.f l1 1 (wrap64 ((bt415.1.length : Int) + 1))).bind fun t422 => (if 0 ≤ t422 then (if t422 ≤ (bt415.1.length : Int) then ((impl_MovesDo.f k (List.replicate 64 (⟨#[]⟩ : ByteArray)) ([] : List (S75)) t414 (bt415.1.take (t422 : Int).toNat)).bind fun bt427 => ((laws_at.f l1 2 6).bind fun t435 => ((impl_LoseHost.f bt427.1 bt427.2.1 t414 t435).bind fun bt436 => ((impl_ReplayPlan.f k bt436.1 bt436.2.1 (Int.tmod (wrap64 (t414 + 1)) 4) t414).bind fun bt444 => ((impl_MovesDo.f k bt436.1 bt436.2.1 (Int.tmod (wrap64 (t414 + 1)) 4) bt444.1).bind fun bt448 => ((laws_at.f l1 3 (wrap64 ((bt444.1.length : Int) + 1))).bind fun t456 => (if 0 ≤ t456 then (if t456 ≤ (bt444.1.length : Int) then ((impl_MovesDo.f k bt436.1 bt436.2.1 (Int.tmod (wrap64 (t414 + 1)) 4) (bt444.1.take (t456 : Int).toNat)).bind fun bt461 => ((laws_at.f l1 4 4).bind fun t469 => ((impl_LoseHost.f bt461.1 bt461.2.1 (Int.tmod (wrap64 (t414 + 1)) 4) t469).bind fun bt470 => ((impl_ReplayPlan.f k bt470.1 bt470.2.1 (Int.tmod (wrap64 (t414 + 2)) 4) t414).bind fun bt478 => ((impl_MovesDo.f k bt470.1 bt470.2.1 (Int.tmod (wrap64 (t414 + 2)) 4) bt478.1).bind fun bt482 => (if bt415.2 = 0 then (if bt427.2.2 = 0 then (if bt436.2.2 = 0 then (if bt444.2 = 0 then (if bt448.2.2 = 0 then (if bt461.2.2 = 0 then (if bt470.2.2 = 0 then (if bt478.2 = 0 then (if bt482.2.2 = 0 then (if (bt448.1.length : Int) = 64 then (if (bt482.1.length : Int) = 64 then (if 9 ≤ 39 then (if 39 ≤ (bt482.1.length : Int) then (if 39 ≤ (bt448.1.length : Int) then ((laws_sameTexts.f k ((bt482.1.take 39).drop 9) ((bt448.1.take 39).drop 9)).bind fun t498 => (some t498)) else (none)) else (none)) else (none)) else (some false)) else (some false)) else (some false)) else (some false)) else (some false)) else (some false)) else (some false)) else (some false)) else (some false)) else (some false)) else (some false))))))) else (none)) else (none)))))))) else (none)) else (none))) else (none))))))
theorem laws_FnReplay.mono : ∀ a0 a1 k, LeO (laws_FnReplay.f k a0 a1) (laws_FnReplay.f (k + 1) a0 a1) := by
 intro a0 a1 k
 unfold laws_FnReplay.f
 repeat' first| (with_reducible first | exact impl_JournalPlan.mono _ _ _ _ | exact impl_MovesDo.mono _ _ _ _ _ | exact impl_ReplayPlan.mono _ _ _ _ _ | exact laws_sameTexts.mono _ _ _ | exact spec_UpdatesOf.mono _ _ | exact LeO.refl _ | exact LeO.none _ | refine LeO.ite ?_ ?_ | refine LeO.bind ?_ (fun _ => ?_)) | exact impl_JournalPlan.mono _ _ _ _ | exact impl_MovesDo.mono _ _ _ _ _ | exact impl_ReplayPlan.mono _ _ _ _ _ | exact laws_sameTexts.mono _ _ _ | exact spec_UpdatesOf.mono _ _ | exact LeO.none _ | refine LeO.ite ?_ ?_ | refine LeO.bind ?_ (fun _ => ?_)
def laws_FnReplay.T8 : Bool × List (List Nat × List Nat) := (true, [([], []), ([0], [0]), ([], []), ([], []), ([], []), ([], []), ([5], [5]), ([6], [6]), ([4, 7], [4, 7]), ([3, 8], [3, 8]), ([1, 2, 9, 8], [1, 2, 9]), ([10], [10]), ([11], [11]), ([11], [11]), ([], []), ([14, 12, 10, 0, 1, 2, 3, 4, 5, 6, 7, 8, 9, 10, 11, 12, 14], [12, 14]), ([13, 15, 0, 1, 2, 3, 4, 5, 6, 7, 8, 9, 10, 11, 12, 13, 14, 15], [13])])
def laws_FnReplay.B8 : List Nat := [0, 1, 0, 0, 0, 0, 32, 96, 240, 504, 1023, 2047, 4095, 4095, 0, 24575, 65535]
theorem laws_FnReplay.tab8 : rtab .any (opsOf Try.f3 8) = laws_FnReplay.T8 := by kernel_rfl
theorem laws_FnReplay.bits8 : waitsOk laws_FnReplay.T8.2 laws_FnReplay.B8 = true := by kernel_rfl
def laws_FnReplay.T9 : Bool × List (List Nat × List Nat) := (true, [([], []), ([], []), ([], []), ([2], [2]), ([0, 1, 3, 3], [0, 1, 3]), ([4], [4]), ([5], [5]), ([5], [5]), ([], []), ([8, 6, 4, 0, 1, 2, 3, 4, 5, 6, 8], [6, 8]), ([7, 9, 0, 1, 2, 3, 4, 5, 6, 7, 8, 9], [7])])
def laws_FnReplay.B9 : List Nat := [0, 0, 0, 4, 15, 31, 63, 63, 0, 383, 1023]
theorem laws_FnReplay.tab9 : rtab .any (opsOf Try.f3 9) = laws_FnReplay.T9 := by kernel_rfl
theorem laws_FnReplay.bits9 : waitsOk laws_FnReplay.T9.2 laws_FnReplay.B9 = true := by kernel_rfl
def laws_FnReplay.T12 : Bool × List (List Nat × List Nat) := (true, [([], []), ([], []), ([], []), ([], []), ([], []), ([4], [4]), ([5], [5]), ([3, 6], [3, 6]), ([2, 7], [2, 7]), ([0, 1, 8, 7], [0, 1, 8]), ([9], [9]), ([10], [10]), ([10], [10]), ([], []), ([13, 11, 9, 0, 1, 2, 3, 4, 5, 6, 7, 8, 9, 10, 11, 13], [11, 13]), ([12, 14, 0, 1, 2, 3, 4, 5, 6, 7, 8, 9, 10, 11, 12, 13, 14], [12])])
def laws_FnReplay.B12 : List Nat := [0, 0, 0, 0, 0, 16, 48, 120, 252, 511, 1023, 2047, 2047, 0, 12287, 32767]
theorem laws_FnReplay.tab12 : rtab .any (opsOf Try.f3 12) = laws_FnReplay.T12 := by kernel_rfl
theorem laws_FnReplay.bits12 : waitsOk laws_FnReplay.T12.2 laws_FnReplay.B12 = true := by kernel_rfl
def laws_FnReplay.T13 : Bool × List (List Nat × List Nat) := (true, [([], []), ([], []), ([], []), ([2], [2]), ([0, 1, 3, 3], [0, 1, 3]), ([4], [4]), ([5], [5]), ([5], [5]), ([], []), ([8, 6, 4, 0, 1, 2, 3, 4, 5, 6, 8], [6, 8]), ([7, 9, 0, 1, 2, 3, 4, 5, 6, 7, 8, 9], [7])])
def laws_FnReplay.B13 : List Nat := [0, 0, 0, 4, 15, 31, 63, 63, 0, 383, 1023]
theorem laws_FnReplay.tab13 : rtab .any (opsOf Try.f3 13) = laws_FnReplay.T13 := by kernel_rfl
theorem laws_FnReplay.bits13 : waitsOk laws_FnReplay.T13.2 laws_FnReplay.B13 = true := by kernel_rfl
def laws_FnReplay.T16 : Bool × List (List Nat × List Nat) := (true, [([], []), ([0], [0]), ([1], [1]), ([2], [2]), ([3, 2], [2, 3]), ([2, 4], [2, 4]), ([5, 2], [5]), ([6], [6]), ([7, 6], [6, 7]), ([6, 8], [6, 8]), ([9, 6], [9]), ([10], [10]), ([11, 10], [10, 11]), ([10, 12], [10, 12]), ([13, 10], [13]), ([14], [14]), ([15, 14], [14, 15]), ([14, 16], [14, 16]), ([17, 14], [17]), ([18], [18]), ([19, 18], [18, 19]), ([18, 20], [18, 20]), ([21, 18], [21]), ([22], [22]), ([23, 22], [22, 23]), ([22, 24], [22, 24]), ([25, 22], [25]), ([26], [26]), ([27, 26], [26, 27]), ([26, 28], [26, 28]), ([29, 26], [29]), ([30], [30]), ([31, 30], [30, 31]), ([30, 32], [30, 32]), ([33, 30], [33]), ([34], [34]), ([35, 34], [34, 35]), ([36, 34], [34, 36]), ([37, 34], [34, 37]), ([34, 38], [34, 38]), ([39, 34], [39]), ([40], [40]), ([41, 40], [40, 41]), ([42, 40], [40, 42]), ([43, 40], [40, 43]), ([40, 44], [40, 44]), ([45, 40], [45]), ([46], [46]), ([47, 46], [46, 47]), ([48, 46], [46, 48]), ([46], [46]), ([50, 46], [46, 50]), ([51, 46], [46, 51]), ([49, 52, 46, 46], [46, 49, 52]), ([46, 53], [46, 53]), ([54, 53, 0, 1, 2, 3, 4, 5, 6, 7, 8, 9, 10, 11, 12, 13, 14, 15, 16, 17, 18, 19, 20, 21, 22, 23, 24, 25, 26, 27, 28, 29, 30, 31, 32, 33, 34, 35, 36, 37, 38, 39, 40, 41, 42, 43, 44, 45, 46, 47, 48, 49, 50, 51, 52, 53, 54], [54])])
def laws_FnReplay.B16 : List Nat := [0, 1, 3, 7, 15, 31, 63, 127, 255, 511, 1023, 2047, 4095, 8191, 16383, 32767, 65535, 131071, 262143, 524287, 1048575, 2097151, 4194303, 8388607, 16777215, 33554431, 67108863, 134217727, 268435455, 536870911, 1073741823, 2147483647, 4294967295, 8589934591, 17179869183, 34359738367, 68719476735, 137438953471, 274877906943, 549755813887, 1099511627775, 2199023255551, 4398046511103, 8796093022207, 17592186044415, 35184372088831, 70368744177663, 140737488355327, 281474976710655, 562949953421311, 140737488355327, 1266637395197951, 3518437208883199, 9007199254740991, 18014398509481983, 36028797018963967]
theorem laws_FnReplay.tab16 : rtab .any (opsOf Try.f3 16) = laws_FnReplay.T16 := by kernel_rfl
theorem laws_FnReplay.bits16 : waitsOk laws_FnReplay.T16.2 laws_FnReplay.B16 = true := by kernel_rfl
theorem z3_0 {P Q  : Prop} (h_ : P)  (q : P → Q := by intro h_ ; repeat (first | (with_reducible first | exact h_ | apply below_alloc | apply pw_below_drewN | apply below_drew1) | exact h_)) : Q := q h_ 
theorem z3_1 {P Q : Prop} (h_ : P) (q : P → Q := by intro h_; (with_reducible repeat (first | apply Kd.R_alloc | apply Kd.R_drewN | apply Kd.R_drew)); exact h_) : Q := q h_
theorem z3_2 {P Q : Prop} (h_ : P) (q : P → Q := by intro h_; (with_reducible repeat (first | refine blk_drewN ?_ _ | refine blk_drew ?_ | refine blk_alloc ?_ _)); exact h_) : Q := q h_
theorem z3_3 {P Q A0 : Prop} (h_ : P) (a0_ : A0) (q : P → A0 → Q := by intro h_ a0_; repeat (first | (with_reducible first | exact h_ | apply below_alloc | apply pw_below_drewN | apply below_drew1 | refine below_set ?_ a0_) | exact h_)) : Q := q h_ a0_
theorem z3_4 {P Q A0 A1 : Prop} (h_ : P) (a0_ : A0) (a1_ : A1) (q : P → A0 → A1 → Q := by intro h_ a0_ a1_; repeat (first | (with_reducible first | exact h_ | apply below_alloc | apply pw_below_drewN | apply below_drew1 | refine below_set ?_ a0_ | refine below_set ?_ a1_) | exact h_)) : Q := q h_ a0_ a1_
theorem z3_5 {P Q A0 A1 A2 : Prop} (h_ : P) (a0_ : A0) (a1_ : A1) (a2_ : A2) (q : P → A0 → A1 → A2 → Q := by intro h_ a0_ a1_ a2_; repeat (first | (with_reducible first | exact h_ | apply below_alloc | apply pw_below_drewN | apply below_drew1 | refine below_set ?_ a0_ | refine below_set ?_ a1_ | refine below_set ?_ a2_) | exact h_)) : Q := q h_ a0_ a1_ a2_
theorem z3_6 {P Q A0 A1 A2 A3 : Prop} (h_ : P) (a0_ : A0) (a1_ : A1) (a2_ : A2) (a3_ : A3) (q : P → A0 → A1 → A2 → A3 → Q := by intro h_ a0_ a1_ a2_ a3_; repeat (first | (with_reducible first | exact h_ | apply below_alloc | apply pw_below_drewN | apply below_drew1 | refine below_set ?_ a0_ | refine below_set ?_ a1_ | refine below_set ?_ a2_ | refine below_set ?_ a3_) | exact h_)) : Q := q h_ a0_ a1_ a2_ a3_
theorem z3_7 {P Q A0 A1 A2 A3 A4 : Prop} (h_ : P) (a0_ : A0) (a1_ : A1) (a2_ : A2) (a3_ : A3) (a4_ : A4) (q : P → A0 → A1 → A2 → A3 → A4 → Q := by intro h_ a0_ a1_ a2_ a3_ a4_; repeat (first | (with_reducible first | exact h_ | apply below_alloc | apply pw_below_drewN | apply below_drew1 | refine below_set ?_ a0_ | refine below_set ?_ a1_ | refine below_set ?_ a2_ | refine below_set ?_ a3_ | refine below_set ?_ a4_) | exact h_)) : Q := q h_ a0_ a1_ a2_ a3_ a4_
theorem z3_8 {P Q A0 A1 A2 A3 A4 A5 : Prop} (h_ : P) (a0_ : A0) (a1_ : A1) (a2_ : A2) (a3_ : A3) (a4_ : A4) (a5_ : A5) (q : P → A0 → A1 → A2 → A3 → A4 → A5 → Q := by intro h_ a0_ a1_ a2_ a3_ a4_ a5_; repeat (first | (with_reducible first | exact h_ | apply below_alloc | apply pw_below_drewN | apply below_drew1 | refine below_set ?_ a0_ | refine below_set ?_ a1_ | refine below_set ?_ a2_ | refine below_set ?_ a3_ | refine below_set ?_ a4_ | refine below_set ?_ a5_) | exact h_)) : Q := q h_ a0_ a1_ a2_ a3_ a4_ a5_
theorem zm3 {p : Prop} (h : p) : Aside0 p := ⟨h⟩
theorem zs3 {α : Type} {l : List α} {i : Nat} {a : α} : l.toArray.setIfInBounds i a = (l.set i a).toArray := zs ..
theorem zz3 {α : Type} {a b : α} {l : List α} : (a :: l).set 0 b = b :: l := rfl
theorem zt3 {α : Type} {a b : α} {l : List α} {i : Nat} : (a :: l).set (i + 1) b = a :: l.set i b := rfl
set_option maxHeartbeats 8000000 in
set_option maxRecDepth 100000 in
theorem laws_FnReplay.calls (k : Nat) (A0 : Option Addr) (c0 : Nat) (l0 : List Int) (A1 : Option Addr) (c1 : Nat) (l1 : List Int) (r : Bool) (w : World) (hr0 : Kd.C (Kd.int .u8) w A0 l0.length l0) (hc0 : l0.length ≤ c0) (hr1 : Kd.C (Kd.int .u8) w A1 l1.length l1) (hc1 : l1.length ≤ c1) (h : laws_FnReplay.f k l0 l1 = some r) (hr_ : Aside0 (r = true)) :
    Calls Try.prog 3 #[.slice A0 l0.length c0, .slice A1 l1.length c1] w fun e w' => e = .returned (.bool r) ∧ Below w.heap.size w w' := by
 have hu32 := Try.underlying32; have HR0 := zm3 hr0; have HC0 := zm3 hc0; clear hr0 hc0; have HR1 := zm3 hr1; have HC1 := zm3 hc1; clear hr1 hc1; have HB := zm3 (Below.refl w.heap.size w); have H := h
 unfold laws_FnReplay.f at H
 clear h
 by_cases c3 : (l0.length : Int) > 1048576
 ·rw [if_pos c3] at H
  have c3b0 := decide_eq_true c3
  have c3b1 : decide (1048576 < l0.length) = true := decide_eq_true (by omega)
  clear c3; obtain rfl := Option.some.inj H
  go_enter Try.func3, Try.ntmps3
  go_wp2
  go_ret
  exact ⟨ze, z3_0 HB.out⟩
 ·rw [if_neg c3] at H
  have c3b0 := decide_eq_false c3
  have c3b1 : decide (1048576 < l0.length) = false := decide_eq_false (by omega)
  clear c3
  by_cases c4 : (l1.length : Int) > 1048576
  ·rw [if_pos c4] at H
   have c4b0 := decide_eq_true c4
   have c4b1 : decide (1048576 < l1.length) = true := decide_eq_true (by omega)
   clear c4; obtain rfl := Option.some.inj H
   go_enter Try.func3, Try.ntmps3
   go_wp2
   go_ret
   exact ⟨ze, z3_0 HB.out⟩
  ·rw [if_neg c4] at H
   have c4b0 := decide_eq_false c4
   have c4b1 : decide (1048576 < l1.length) = false := decide_eq_false (by omega)
   clear c4; replace H := Option.bind_eq_some_iff.mp H
   obtain ⟨t411, A50, H⟩ := H
   try dsimp only at H
   have A5 := zm3 A50; clear A50; replace H := Option.bind_eq_some_iff.mp H
   obtain ⟨t414, A60, H⟩ := H
   try dsimp only at H
   have A6 := zm3 A60; clear A60; replace H := Option.bind_eq_some_iff.mp H
   obtain ⟨⟨t415, t416⟩, A70, H⟩ := H
   try dsimp only at H
   have A7 := zm3 A70; clear A70
   by_cases c8 : 64 ≤ 17592186044416
   ·rw [if_pos c8] at H
    have c8b0 := eq_true c8; have c8b1 := decide_eq_true c8; clear c8
    obtain ⟨y419, hy419⟩ : ∃ y_ : List ByteArray, y_ = (List.replicate 64 (⟨#[]⟩ : ByteArray)) := ⟨_, rfl⟩
    replace H : ((laws_at.f l1 1 (wrap64 ((t415.length : Int) + 1))).bind fun t422 => (if 0 ≤ t422 then (if t422 ≤ (t415.length : Int) then ((impl_MovesDo.f k y419 ([] : List (S75)) t414 (t415.take (t422 : Int).toNat)).bind fun bt427 => ((laws_at.f l1 2 6).bind fun t435 => ((impl_LoseHost.f bt427.1 bt427.2.1 t414 t435).bind fun bt436 => ((impl_ReplayPlan.f k bt436.1 bt436.2.1 (Int.tmod (wrap64 (t414 + 1)) 4) t414).bind fun bt444 => ((impl_MovesDo.f k bt436.1 bt436.2.1 (Int.tmod (wrap64 (t414 + 1)) 4) bt444.1).bind fun bt448 => ((laws_at.f l1 3 (wrap64 ((bt444.1.length : Int) + 1))).bind fun t456 => (if 0 ≤ t456 then (if t456 ≤ (bt444.1.length : Int) then ((impl_MovesDo.f k bt436.1 bt436.2.1 (Int.tmod (wrap64 (t414 + 1)) 4) (bt444.1.take (t456 : Int).toNat)).bind fun bt461 => ((laws_at.f l1 4 4).bind fun t469 => ((impl_LoseHost.f bt461.1 bt461.2.1 (Int.tmod (wrap64 (t414 + 1)) 4) t469).bind fun bt470 => ((impl_ReplayPlan.f k bt470.1 bt470.2.1 (Int.tmod (wrap64 (t414 + 2)) 4) t414).bind fun bt478 => ((impl_MovesDo.f k bt470.1 bt470.2.1 (Int.tmod (wrap64 (t414 + 2)) 4) bt478.1).bind fun bt482 => (if t416 = 0 then (if bt427.2.2 = 0 then (if bt436.2.2 = 0 then (if bt444.2 = 0 then (if bt448.2.2 = 0 then (if bt461.2.2 = 0 then (if bt470.2.2 = 0 then (if bt478.2 = 0 then (if bt482.2.2 = 0 then (if (bt448.1.length : Int) = 64 then (if (bt482.1.length : Int) = 64 then (if 9 ≤ 39 then (if 39 ≤ (bt482.1.length : Int) then (if 39 ≤ (bt448.1.length : Int) then ((laws_sameTexts.f k ((bt482.1.take 39).drop 9) ((bt448.1.take 39).drop 9)).bind fun t498 => (some t498)) else (none)) else (none)) else (none)) else (some false)) else (some false)) else (some false)) else (some false)) else (some false)) else (some false)) else (some false)) else (some false)) else (some false)) else (some false)) else (some false))))))) else (none)) else (none)))))))) else (none)) else (none))) = some r := by first | (rw [hy419]; with_reducible exact H) | (have H2_ := (Option.bind_some _ _).symm.trans H; rw [hy419]; with_reducible exact H2_) | (have H2_ := (Option.bind_some _ _).symm.trans H; with_reducible exact H2_) | with_reducible exact H | (rw [hy419]; exact H) | exact H
    have Ny419 := zm3 hy419; clear hy419; replace H := Option.bind_eq_some_iff.mp H
    obtain ⟨t422, A90, H⟩ := H
    try dsimp only at H
    have A9 := zm3 A90; clear A90
    by_cases c10 : 0 ≤ t422
    ·rw [if_pos c10] at H
     have c10b0 := eq_true c10; have c10b1 := decide_eq_true c10; clear c10
     by_cases c11 : t422 ≤ (t415.length : Int)
     ·rw [if_pos c11] at H
      have c11b0 := eq_true c11; have c11b1 := decide_eq_true c11; clear c11
      obtain ⟨y423, hy423⟩ : ∃ y_ : List (S52), y_ = (t415.take (t422 : Int).toNat) := ⟨_, rfl⟩
      replace H : ((impl_MovesDo.f k y419 ([] : List (S75)) t414 y423).bind fun bt427 => ((laws_at.f l1 2 6).bind fun t435 => ((impl_LoseHost.f bt427.1 bt427.2.1 t414 t435).bind fun bt436 => ((impl_ReplayPlan.f k bt436.1 bt436.2.1 (Int.tmod (wrap64 (t414 + 1)) 4) t414).bind fun bt444 => ((impl_MovesDo.f k bt436.1 bt436.2.1 (Int.tmod (wrap64 (t414 + 1)) 4) bt444.1).bind fun bt448 => ((laws_at.f l1 3 (wrap64 ((bt444.1.length : Int) + 1))).bind fun t456 => (if 0 ≤ t456 then (if t456 ≤ (bt444.1.length : Int) then ((impl_MovesDo.f k bt436.1 bt436.2.1 (Int.tmod (wrap64 (t414 + 1)) 4) (bt444.1.take (t456 : Int).toNat)).bind fun bt461 => ((laws_at.f l1 4 4).bind fun t469 => ((impl_LoseHost.f bt461.1 bt461.2.1 (Int.tmod (wrap64 (t414 + 1)) 4) t469).bind fun bt470 => ((impl_ReplayPlan.f k bt470.1 bt470.2.1 (Int.tmod (wrap64 (t414 + 2)) 4) t414).bind fun bt478 => ((impl_MovesDo.f k bt470.1 bt470.2.1 (Int.tmod (wrap64 (t414 + 2)) 4) bt478.1).bind fun bt482 => (if t416 = 0 then (if bt427.2.2 = 0 then (if bt436.2.2 = 0 then (if bt444.2 = 0 then (if bt448.2.2 = 0 then (if bt461.2.2 = 0 then (if bt470.2.2 = 0 then (if bt478.2 = 0 then (if bt482.2.2 = 0 then (if (bt448.1.length : Int) = 64 then (if (bt482.1.length : Int) = 64 then (if 9 ≤ 39 then (if 39 ≤ (bt482.1.length : Int) then (if 39 ≤ (bt448.1.length : Int) then ((laws_sameTexts.f k ((bt482.1.take 39).drop 9) ((bt448.1.take 39).drop 9)).bind fun t498 => (some t498)) else (none)) else (none)) else (none)) else (some false)) else (some false)) else (some false)) else (some false)) else (some false)) else (some false)) else (some false)) else (some false)) else (some false)) else (some false)) else (some false))))))) else (none)) else (none)))))))) = some r := by first | (rw [hy423]; with_reducible exact H) | (have H2_ := (Option.bind_some _ _).symm.trans H; rw [hy423]; with_reducible exact H2_) | (have H2_ := (Option.bind_some _ _).symm.trans H; with_reducible exact H2_) | with_reducible exact H | (rw [hy423]; exact H) | exact H
      have Ny423 := zm3 hy423; clear hy423; replace H := Option.bind_eq_some_iff.mp H
      obtain ⟨⟨t427, t430, t433⟩, A120, H⟩ := H
      try dsimp only at H
      have A12 := zm3 A120; clear A120; replace H := Option.bind_eq_some_iff.mp H
      obtain ⟨t435, A130, H⟩ := H
      try dsimp only at H
      have A13 := zm3 A130; clear A130; replace H := Option.bind_eq_some_iff.mp H
      obtain ⟨⟨t436, t439, t442⟩, A140, H⟩ := H
      try dsimp only at H
      have A14 := zm3 A140; clear A140; replace H := Option.bind_eq_some_iff.mp H
      obtain ⟨⟨t444, t447⟩, A150, H⟩ := H
      try dsimp only at H
      have A15 := zm3 A150; clear A150; replace H := Option.bind_eq_some_iff.mp H
      obtain ⟨⟨t448, t451, t454⟩, A160, H⟩ := H
      try dsimp only at H
      have A16 := zm3 A160; clear A160; replace H := Option.bind_eq_some_iff.mp H
      obtain ⟨t456, A170, H⟩ := H
      try dsimp only at H
      have A17 := zm3 A170; clear A170
      by_cases c18 : 0 ≤ t456
      ·rw [if_pos c18] at H
       have c18b0 := eq_true c18; have c18b1 := decide_eq_true c18; clear c18
       by_cases c19 : t456 ≤ (t444.length : Int)
       ·rw [if_pos c19] at H
        have c19b0 := eq_true c19; have c19b1 := decide_eq_true c19; clear c19
        obtain ⟨y457, hy457⟩ : ∃ y_ : List (S52), y_ = (t444.take (t456 : Int).toNat) := ⟨_, rfl⟩
        replace H : ((impl_MovesDo.f k t436 t439 (Int.tmod (wrap64 (t414 + 1)) 4) y457).bind fun bt461 => ((laws_at.f l1 4 4).bind fun t469 => ((impl_LoseHost.f bt461.1 bt461.2.1 (Int.tmod (wrap64 (t414 + 1)) 4) t469).bind fun bt470 => ((impl_ReplayPlan.f k bt470.1 bt470.2.1 (Int.tmod (wrap64 (t414 + 2)) 4) t414).bind fun bt478 => ((impl_MovesDo.f k bt470.1 bt470.2.1 (Int.tmod (wrap64 (t414 + 2)) 4) bt478.1).bind fun bt482 => (if t416 = 0 then (if t433 = 0 then (if t442 = 0 then (if t447 = 0 then (if t454 = 0 then (if bt461.2.2 = 0 then (if bt470.2.2 = 0 then (if bt478.2 = 0 then (if bt482.2.2 = 0 then (if (t448.length : Int) = 64 then (if (bt482.1.length : Int) = 64 then (if 9 ≤ 39 then (if 39 ≤ (bt482.1.length : Int) then (if 39 ≤ (t448.length : Int) then ((laws_sameTexts.f k ((bt482.1.take 39).drop 9) ((t448.take 39).drop 9)).bind fun t498 => (some t498)) else (none)) else (none)) else (none)) else (some false)) else (some false)) else (some false)) else (some false)) else (some false)) else (some false)) else (some false)) else (some false)) else (some false)) else (some false)) else (some false))))))) = some r := by first | (rw [hy457]; with_reducible exact H) | (have H2_ := (Option.bind_some _ _).symm.trans H; rw [hy457]; with_reducible exact H2_) | (have H2_ := (Option.bind_some _ _).symm.trans H; with_reducible exact H2_) | with_reducible exact H | (rw [hy457]; exact H) | exact H
        have Ny457 := zm3 hy457; clear hy457; replace H := Option.bind_eq_some_iff.mp H
        obtain ⟨⟨t461, t464, t467⟩, A200, H⟩ := H
        try dsimp only at H
        have A20 := zm3 A200; clear A200; replace H := Option.bind_eq_some_iff.mp H
        obtain ⟨t469, A210, H⟩ := H
        try dsimp only at H
        have A21 := zm3 A210; clear A210; replace H := Option.bind_eq_some_iff.mp H
        obtain ⟨⟨t470, t473, t476⟩, A220, H⟩ := H
        try dsimp only at H
        have A22 := zm3 A220; clear A220; replace H := Option.bind_eq_some_iff.mp H
        obtain ⟨⟨t478, t481⟩, A230, H⟩ := H
        try dsimp only at H
        have A23 := zm3 A230; clear A230; replace H := Option.bind_eq_some_iff.mp H
        obtain ⟨⟨t482, t485, t488⟩, A240, H⟩ := H
        try dsimp only at H
        have A24 := zm3 A240; clear A240
        by_cases c25 : t416 = 0
        ·rw [if_pos c25] at H
         have c25b0 : (t416 == 0) = true := beq_iff_eq.mpr c25
         have c25b1 : (t416 != 0) = false := bne_eq_false_iff_eq.mpr c25
         clear c25
         by_cases c26 : t433 = 0
         ·rw [if_pos c26] at H
          have c26b0 : (t433 == 0) = true := beq_iff_eq.mpr c26
          have c26b1 : (t433 != 0) = false := bne_eq_false_iff_eq.mpr c26
          clear c26
          by_cases c27 : t442 = 0
          ·rw [if_pos c27] at H
           have c27b0 : (t442 == 0) = true := beq_iff_eq.mpr c27
           have c27b1 : (t442 != 0) = false := bne_eq_false_iff_eq.mpr c27
           clear c27
           by_cases c28 : t447 = 0
           ·rw [if_pos c28] at H
            have c28b0 : (t447 == 0) = true := beq_iff_eq.mpr c28
            have c28b1 : (t447 != 0) = false := bne_eq_false_iff_eq.mpr c28
            clear c28
            by_cases c29 : t454 = 0
            ·rw [if_pos c29] at H
             have c29b0 : (t454 == 0) = true := beq_iff_eq.mpr c29
             have c29b1 : (t454 != 0) = false := bne_eq_false_iff_eq.mpr c29
             clear c29
             by_cases c30 : t467 = 0
             ·rw [if_pos c30] at H
              have c30b0 : (t467 == 0) = true := beq_iff_eq.mpr c30
              have c30b1 : (t467 != 0) = false := bne_eq_false_iff_eq.mpr c30
              clear c30
              by_cases c31 : t476 = 0
              ·rw [if_pos c31] at H
               have c31b0 : (t476 == 0) = true := beq_iff_eq.mpr c31
               have c31b1 : (t476 != 0) = false := bne_eq_false_iff_eq.mpr c31
               clear c31
               by_cases c32 : t481 = 0
               ·rw [if_pos c32] at H
                have c32b0 : (t481 == 0) = true := beq_iff_eq.mpr c32
                have c32b1 : (t481 != 0) = false := bne_eq_false_iff_eq.mpr c32
                clear c32
                by_cases c33 : t488 = 0
                ·rw [if_pos c33] at H
                 have c33b0 : (t488 == 0) = true := beq_iff_eq.mpr c33
                 have c33b1 : (t488 != 0) = false := bne_eq_false_iff_eq.mpr c33
                 clear c33
                 by_cases c34 : (t448.length : Int) = 64
                 ·rw [if_pos c34] at H
                  have c34b0 : ((t448.length : Int) == 64) = true := beq_iff_eq.mpr c34
                  have c34b1 : ((t448.length : Int) != 64) = false := bne_eq_false_iff_eq.mpr c34
                  clear c34
                  by_cases c35 : (t482.length : Int) = 64
                  ·rw [if_pos c35] at H
                   have c35b0 : ((t482.length : Int) == 64) = true := beq_iff_eq.mpr c35
                   have c35b1 : ((t482.length : Int) != 64) = false := bne_eq_false_iff_eq.mpr c35
                   clear c35
                   by_cases c36 : 9 ≤ 39
                   ·rw [if_pos c36] at H
                    have c36b0 := eq_true c36; have c36b1 := decide_eq_true c36; clear c36
                    by_cases c37 : 39 ≤ (t482.length : Int)
                    ·rw [if_pos c37] at H
                     have c37b0 := eq_true c37; have c37b1 := decide_eq_true c37; clear c37
                     obtain ⟨y490, hy490⟩ : ∃ y_ : List ByteArray, y_ = ((t482.take 39).drop 9) := ⟨_, rfl⟩
                     replace H : (if 39 ≤ (t448.length : Int) then ((laws_sameTexts.f k y490 ((t448.take 39).drop 9)).bind fun t498 => (some t498)) else (none)) = some r := by first | (rw [hy490]; with_reducible exact H) | (have H2_ := (Option.bind_some _ _).symm.trans H; rw [hy490]; with_reducible exact H2_) | (have H2_ := (Option.bind_some _ _).symm.trans H; with_reducible exact H2_) | with_reducible exact H | (rw [hy490]; exact H) | exact H
                     have Ny490 := zm3 hy490; clear hy490; have c38b0 := eq_true (zd : 9 ≤ 39)
                     by_cases c39 : 39 ≤ (t448.length : Int)
                     ·rw [if_pos c39] at H
                      have c39b0 := eq_true c39; have c39b1 := decide_eq_true c39; clear c39
                      obtain ⟨y494, hy494⟩ : ∃ y_ : List ByteArray, y_ = ((t448.take 39).drop 9) := ⟨_, rfl⟩
                      replace H : ((laws_sameTexts.f k y490 y494).bind fun t498 => (some t498)) = some r := by first | (rw [hy494]; with_reducible exact H) | (have H2_ := (Option.bind_some _ _).symm.trans H; rw [hy494]; with_reducible exact H2_) | (have H2_ := (Option.bind_some _ _).symm.trans H; with_reducible exact H2_) | with_reducible exact H | (rw [hy494]; exact H) | exact H
                      have Ny494 := zm3 hy494; clear hy494; replace H := Option.bind_eq_some_iff.mp H
                      obtain ⟨t498, A400, H⟩ := H
                      replace H : (some t498) = some r := H
                      have A40 := zm3 A400; clear A400; obtain rfl := Option.some.inj H
                      go_enter Try.func3, Try.ntmps3
                      try go_wp2_with (first | ((with_reducible refine gate_callee (f := 4) rfl ?_); refine goesL_ (some 36) rfl rfl Try.func4 (by kernel_rfl) rfl #[.slice A0 l0.length c0] rfl zq ?_; (with_reducible refine (spec_UpdatesOf.calls k _ _ l0 t411 _ ?side1 ?side2 A5.out).mono ?_); (case side1 => exact zC HR0.out); (case side2 => exact HC0.out); rintro e w41 ⟨v412, rfl, ho0, hb⟩; refine ⟨_, rfl, ?_⟩; have n0_ := zm3 (Kd.R_lower ho0 (below_size (z3_0 HB.out))); have n1_ := zm3 (below_step (z3_0 HB.out) hb); have Zaa := n0_; replace HB := n1_; clear n0_ n1_; (try clear hb); (try clear hb2); (try clear hk); (try clear hi); (try clear ho0)) | ((with_reducible refine gate_callee (f := 5) rfl ?_); refine goesL_ (some 38) rfl rfl Try.func5 (by kernel_rfl) rfl #[.slice A1 l1.length c1, .int .i64 0, .int .i64 4] rfl zq ?_; (with_reducible refine (laws_at.calls _ _ l1 0 4 t414 _ ?side1 ?side2 A6.out).mono ?_); (case side1 => exact zC (Kd.C_below HR1.out HB.out)); (case side2 => exact HC1.out); rintro e w' ⟨rfl, ⟨nd, rfl⟩⟩; refine ⟨_, rfl, ?_⟩; (try (rw [drewN_self w41]; generalize hq_ : World.drewN w41 _ = w41; have n0_ : Aside0 (Kd.R k45 45 w41 w.heap.size (fun _ => True) v412 t411) := ⟨by rw [← hq_]; exact (z3_1 Zaa.out)⟩; have n1_ : Aside0 (Below w.heap.size w w41) := ⟨by rw [← hq_]; exact (z3_0 HB.out)⟩; clear Zaa HB hq_; have Zaa := n0_; have HB := n1_; clear n0_ n1_)); obtain ⟨Ao42, co42, eo42⟩ := Kd.R_slice Zaa.out; subst eo42) | ((with_reducible refine gate_callee (f := 6) rfl ?_); refine goesL_ (some 48) rfl rfl Try.func6 (by kernel_rfl) rfl #[.int .i64 t414, .int .i64 5, .slice Ao42 t411.length co42] rfl zq ?_; (with_reducible refine (impl_JournalPlan.calls k t414 5 _ _ t411 t415 t416 _ ?side1 ?side2 A7.out).mono ?_); (case side1 => exact zC ((Kd.R_reads' Zaa.out).2.2)); (case side2 => exact (Kd.R_reads' Zaa.out).2.1); rintro e w43 ⟨v417, rfl, ho0, hb⟩; refine ⟨_, rfl, ?_⟩; have n0_ := zm3 (Kd.R_lower ho0 (below_size (z3_0 HB.out))); have n1_ := zm3 (below_step (z3_0 HB.out) hb); have Zd := n0_; replace HB := n1_; clear n0_ n1_; (try clear hb); (try clear hb2); (try clear hk); (try clear hi); (try clear ho0); (try clear Zaa); obtain ⟨Ao45, co45, eo45⟩ := Kd.R_slice Zd.out; subst eo45; have q44 : (t422 : Int) ≤ ((t415.length : Int) : Int) := zd; obtain ⟨i044, hi044, _, hsz44, _⟩ := info_parts info52; have hroom44 : t415.length ≤ co45 := (Kd.R_reads' Zd.out).2.1; have hC44 : Kd.C k52 _ Ao45 t415.length t415 := (Kd.R_reads' Zd.out).2.2; have hcut44 := cut_to (P := Try.prog) 26 52 .i64 Try.underlying26 hi044 Ao45 t415.length co45 t422 (zd) q44 hroom44; have hr44 := Kd.C_take (m := (t422 : Int).toNat) hC44 (by omega); have hy44 : y423.length = (t422 : Int).toNat := (by rw [Ny423.out, List.length_take]; omega); rw [← Ny423.out] at hr44; rw [← hy44] at hcut44; have ZJ := zm3 hr44; have Zap := zm3 (show y423.length ≤ co45 from by omega); clear hr44 hC44 hroom44 hi044 hsz44; have KY44 := zm3 hy44; clear hy44; have KL44 := zm3 (show (t422 : Int).toNat ≤ t415.length from by omega); replace q44 := eq_true q44))
                      have n0_ := zm3 (Kd.R_drew Zd.out); have n1_ := zm3 (Kd.C_drew ZJ.out); have n2_ := zm3 (below_drew1 HB.out); clear Zd; clear ZJ; clear HB; have Zd := n0_; have ZJ := n1_; have HB := n2_; clear n0_ n1_ n2_
                      refine start_ (n := 17) (S := fun w' => True) (ds := []) #[false, false, false, false, false, false, false, false, false, false, false, false, false, false, false, false, false] (by kernel_rfl) rfl rfl trivial (fun hHeld => ?_); refine with_tabW laws_FnReplay.tab8 laws_FnReplay.bits8 (fun HT_ HW_ => ?_)
                      generalize w43.drew = w46 at Zd ZJ HB hHeld ⊢
                      refine pure_ (i := 2) (N := some 54) (v := ?_) (a' := ?_) #[ff, ff, tt, ff, ff, ff, ff, ff, ff, ff, ff, ff, ff, ff, ff, ff, ff] rfl rfl (any_of HT_.out (by kernel_rfl)) (fun _ _ _ h => h) (Or.inl ⟨by rfl, ?_⟩) ?_ ?_
                      rotate_left; (intro w'; go_simp; with_reducible rfl); rotate_left; (simp only [Act.put, zs3, zz3, zt3, i64_w, i32_w]; rfl)
                      refine pure_ (i := 3) (N := some 55) (v := ?_) (a' := ?_) #[ff, ff, tt, tt, ff, ff, ff, ff, ff, ff, ff, ff, ff, ff, ff, ff, ff] rfl rfl (any_of HT_.out (by kernel_rfl)) (fun _ _ _ h => h) (Or.inl ⟨by rfl, ?_⟩) ?_ ?_
                      rotate_left; (intro w'; go_simp; with_reducible rfl); rotate_left; (simp only [Act.put, zs3, zz3, zt3, i64_w, i32_w]; rfl)
                      refine pure_ (i := 4) (N := some 56) (v := ?_) (a' := ?_) #[ff, ff, tt, tt, tt, ff, ff, ff, ff, ff, ff, ff, ff, ff, ff, ff, ff] rfl rfl (any_of HT_.out (by kernel_rfl)) (fun _ _ _ h => h) (Or.inl ⟨by rfl, ?_⟩) ?_ ?_
                      rotate_left; (intro w'; go_simp; with_reducible rfl); rotate_left; (simp only [Act.put, zs3, zz3, zt3, i64_w, i32_w]; rfl)
                      refine pure_ (i := 5) (N := some 57) (v := ?_) (a' := ?_) #[ff, ff, tt, tt, tt, tt, ff, ff, ff, ff, ff, ff, ff, ff, ff, ff, ff] rfl rfl (any_of HT_.out (by kernel_rfl)) (fun _ _ _ h => h) (Or.inl ⟨by rfl, ?_⟩) ?_ ?_
                      rotate_left; (intro w'; go_simp; with_reducible rfl); rotate_left; (simp only [Act.put, zs3, zz3, zt3, i64_w, i32_w]; rfl)
                      refine pure_ (i := 6) (N := some 58) (v := ?_) (a' := ?_) #[ff, ff, tt, tt, tt, tt, tt, ff, ff, ff, ff, ff, ff, ff, ff, ff, ff] rfl rfl (any_of HT_.out (by kernel_rfl)) (fun _ _ _ h => h) (Or.inl ⟨by rfl, ?_⟩) ?_ ?_
                      rotate_left; (intro w'; go_simp; with_reducible rfl); rotate_left; (simp only [Act.put, zs3, zz3, zt3, i64_w, i32_w]; rfl)
                      refine pure_ (i := 7) (N := some 59) (v := ?_) (a' := ?_) #[ff, ff, tt, tt, tt, tt, tt, tt, ff, ff, ff, ff, ff, ff, ff, ff, ff] rfl rfl (any_of HT_.out (by kernel_rfl)) (fun _ _ _ h => h) (Or.inl ⟨by rfl, ?_⟩) ?_ ?_
                      rotate_left; (intro w'; go_simp; with_reducible rfl); rotate_left; (simp only [Act.put, zs3, zz3, zt3, i64_w, i32_w]; rfl)
                      refine join_ (σ := Value × Value × Value × Nat) 2 #[tt, tt, tt, tt, tt, tt, tt, tt, tt, tt, tt, tt, tt, tt, tt, ff, ff] (fun s_ => [(52, s_.1), (60, .int .i64 t422), (62, .tuple #[.agg #[s_.2.1, s_.2.2.1], .int .i64 t433]), (11, .pointer (some ⟨s_.2.2.2, 0, none⟩)), (53, .agg #[s_.1, .slice none 0 0]), (61, .slice Ao45 y423.length co45), (51, .tuple #[.agg #[s_.2.1, s_.2.2.1], .int .i64 t433]), (63, .agg #[s_.2.1, s_.2.2.1]), (64, .int .i64 t433)]) (fun s_ w' => (Kd.R k52 52 w' w.heap.size (fun _ => True) (.slice Ao45 t415.length co45) t415) ∧ (Kd.R Kd.string 9 w' w.heap.size (fun k_ => some k_ ≠ (s_.2.1 : Value).ownBlock) s_.1 y419) ∧ (Kd.R Kd.string 9 w' w.heap.size (fun k_ => some k_ ≠ (s_.1 : Value).ownBlock) s_.2.1 t427) ∧ (Kd.R k75 75 w' w.heap.size (fun _ => True) s_.2.2.1 t430) ∧ (w'.heap[s_.2.2.2]? = some (.cells #[.slice none 0 0, .slice none 0 0] 32 (0, 0))) ∧ (w.heap.size ≤ s_.2.2.2) ∧ (w.heap.size ≤ s_.2.2.2) ∧ (Below w.heap.size w w')) ?_ ?_
                      rotate_left
                      ·intro hJ0_8_10_14
                       refine join_ (σ := Value × Value × Value) 3 #[tt, tt, tt, tt, tt, tt, tt, tt, tt, tt, tt, tt, tt, tt, ff, ff, ff] (fun s_ => [(52, s_.1), (60, .int .i64 t422), (62, .tuple #[.agg #[s_.2.1, s_.2.2], .int .i64 t433]), (53, .agg #[s_.1, .slice none 0 0]), (61, .slice Ao45 y423.length co45), (51, .tuple #[.agg #[s_.2.1, s_.2.2], .int .i64 t433]), (63, .agg #[s_.2.1, s_.2.2]), (64, .int .i64 t433)]) (fun s_ w' => (Kd.R k52 52 w' w.heap.size (fun _ => True) (.slice Ao45 t415.length co45) t415) ∧ (Kd.R Kd.string 9 w' w.heap.size (fun k_ => some k_ ≠ (s_.2.1 : Value).ownBlock) s_.1 y419) ∧ (Kd.R Kd.string 9 w' w.heap.size (fun k_ => some k_ ≠ (s_.1 : Value).ownBlock) s_.2.1 t427) ∧ (Kd.R k75 75 w' w.heap.size (fun _ => True) s_.2.2 t430) ∧ (Below w.heap.size w w')) ?_ ?_
                       rotate_left
                       ·intro hJ0_8_10
                        refine join_ (σ := Value × Nat) 6 #[tt, tt, tt, tt, tt, tt, tt, tt, tt, tt, ff, ff, ff, ff, tt, ff, ff] (fun s_ => [(52, s_.1), (60, .int .i64 t422), (11, .pointer (some ⟨s_.2, 0, none⟩)), (53, .agg #[s_.1, .slice none 0 0]), (61, .slice Ao45 y423.length co45)]) (fun s_ w' => (Kd.R k52 52 w' w.heap.size (fun _ => True) (.slice Ao45 t415.length co45) t415) ∧ (Kd.R Kd.string 9 w' w.heap.size (fun _ => True) s_.1 y419) ∧ (w'.heap[s_.2]? = some (.cells #[.slice none 0 0, .slice none 0 0] 32 (0, 0))) ∧ (w.heap.size ≤ s_.2) ∧ (w.heap.size ≤ s_.2) ∧ (Below w.heap.size w w')) ?_ ?_
                        rotate_left
                        ·intro hJ0_8_14
                         refine join_ (σ := Value) 7 #[tt, tt, tt, tt, tt, tt, tt, tt, tt, tt, ff, ff, ff, ff, ff, ff, ff] (fun s_ => [(52, s_), (60, .int .i64 t422), (53, .agg #[s_, .slice none 0 0]), (61, .slice Ao45 y423.length co45)]) (fun s_ w' => (Kd.R k52 52 w' w.heap.size (fun _ => True) (.slice Ao45 t415.length co45) t415) ∧ (Kd.R Kd.string 9 w' w.heap.size (fun _ => True) s_ y419) ∧ (Below w.heap.size w w')) ?_ ?_
                         rotate_left
                         ·intro hJ0_8
                          refine join_ (σ := Value × Nat) 8 #[tt, tt, tt, tt, tt, tt, tt, tt, ff, ff, ff, ff, ff, ff, tt, ff, ff] (fun s_ => [(52, s_.1), (11, .pointer (some ⟨s_.2, 0, none⟩)), (53, .agg #[s_.1, .slice none 0 0])]) (fun s_ w' => (Kd.R k52 52 w' w.heap.size (fun _ => True) (.slice Ao45 t415.length co45) t415) ∧ (Kd.R Kd.string 9 w' w.heap.size (fun _ => True) s_.1 y419) ∧ (w'.heap[s_.2]? = some (.cells #[.slice none 0 0, .slice none 0 0] 32 (0, 0))) ∧ (w.heap.size ≤ s_.2) ∧ (w.heap.size ≤ s_.2) ∧ (Below w.heap.size w w')) ?_ ?_
                          rotate_left
                          ·intro hJ0_14
                           refine join_ (σ := Nat) 8 #[ff, ff, tt, tt, tt, tt, tt, tt, tt, tt, ff, ff, ff, ff, tt, ff, ff] (fun s_ => [(60, .int .i64 t422), (11, .pointer (some ⟨s_, 0, none⟩)), (61, .slice Ao45 y423.length co45)]) (fun s_ w' => (Kd.R k52 52 w' w.heap.size (fun _ => True) (.slice Ao45 t415.length co45) t415) ∧ (w'.heap[s_]? = some (.cells #[.slice none 0 0, .slice none 0 0] 32 (0, 0))) ∧ (w.heap.size ≤ s_) ∧ (w.heap.size ≤ s_) ∧ (Below w.heap.size w w')) ?_ ?_
                           rotate_left
                           ·intro hJ8_14
                            refine join_ (σ := Value) 9 #[tt, tt, tt, tt, tt, tt, tt, tt, ff, ff, ff, ff, ff, ff, ff, ff, ff] (fun s_ => [(52, s_), (53, .agg #[s_, .slice none 0 0])]) (fun s_ w' => (Kd.R k52 52 w' w.heap.size (fun _ => True) (.slice Ao45 t415.length co45) t415) ∧ (Kd.R Kd.string 9 w' w.heap.size (fun _ => True) s_ y419) ∧ (Below w.heap.size w w')) ?_ ?_
                            rotate_left
                            ·intro hJ0
                             refine join_ (σ := Unit) 9 #[ff, ff, tt, tt, tt, tt, tt, tt, tt, tt, ff, ff, ff, ff, ff, ff, ff] (fun s_ => [(60, .int .i64 t422), (61, .slice Ao45 y423.length co45)]) (fun s_ w' => (Kd.R k52 52 w' w.heap.size (fun _ => True) (.slice Ao45 t415.length co45) t415) ∧ (Below w.heap.size w w')) ?_ ?_
                             rotate_left
                             ·intro hJ8
                              refine join_ (σ := Nat) 10 #[ff, ff, tt, tt, tt, tt, tt, tt, ff, ff, ff, ff, ff, ff, tt, ff, ff] (fun s_ => [(11, .pointer (some ⟨s_, 0, none⟩))]) (fun s_ w' => (Kd.R k52 52 w' w.heap.size (fun _ => True) (.slice Ao45 t415.length co45) t415) ∧ (w'.heap[s_]? = some (.cells #[.slice none 0 0, .slice none 0 0] 32 (0, 0))) ∧ (w.heap.size ≤ s_) ∧ (w.heap.size ≤ s_) ∧ (Below w.heap.size w w')) ?_ ?_
                              rotate_left
                              ·intro hJ14
                               refine three_ (i := 0) (j := 8) (k := 14) (Ni := some 52) (Nj := some 60) (Nk := some 11) #[tt, ff, tt, tt, tt, tt, tt, tt, ff, ff, ff, ff, ff, ff, ff, ff, ff] #[ff, ff, tt, tt, tt, tt, tt, tt, tt, ff, ff, ff, ff, ff, ff, ff, ff] #[ff, ff, tt, tt, tt, tt, tt, tt, ff, ff, ff, ff, ff, ff, tt, ff, ff] rfl rfl rfl rfl rfl rfl (three_of HT_.out (by kernel_rfl)) (by decide) (by decide) (by decide) (fun K hK => ?_) (fun K hK => ?_) (fun K hK => ?_)
                               ·skip
                                refine Kd.R_make_step Kd.string _ 9 (by rfl) (N := 52) rfl 29 _ _ rfl 64 rfl rfl Try.underlying29 (.string ⟨#[]⟩) 16 info9 rfl (by decide) (by omega) (⟨#[]⟩ : ByteArray) (ok := fun _ => True) (okp := fun _ => True) rfl (fun _ hk => hk) trivial (by omega) (by omega) (Below.refl _ _) (Nat.le_refl _) ?_
                                intro v420 w47 ho48 hb hg_ hnew_
                                clear hg_ hnew_
                                (first | rw [← Ny419.out] at ho48 | (simp only [Int.reduceToNat] at ho48; rw [← Ny419.out] at ho48))
                                have n0_ := zm3 (Kd.R_below (z3_1 Zd.out) hb); have n1_ := zm3 (Kd.R_lower ho48 (below_size (z3_0 HB.out))); have n2_ := zm3 (Kd.C_below (by repeat (first | (with_reducible exact ZJ.out) | (with_reducible refine Kd.C_alloc ?_ _) | (with_reducible refine Kd.C_drewN ?_ _) | (with_reducible refine Kd.C_drew ?_) | exact ZJ.out)) hb); have n3_ := zm3 (below_step (z3_0 HB.out) hb); clear Zd; clear ZJ; clear HB; have Zd := n0_; have Zj := n1_; have ZJ := n2_; have HB := n3_; clear n0_ n1_ n2_ n3_; clear hb ho48
                                obtain ⟨Ao49, co49, eo49⟩ := Kd.R_slice Zj.out
                                (first | subst eo49 | (injection eo49 with f1_ f2_ f3_; have f4_ := f1_.symm; have f5_ := f3_.symm; clear f1_ f2_ f3_; subst f4_; subst f5_))
                                refine hK.out _ _ trivial (fun hHeld => ?_)
                                clear hK K
                                refine norm_ (a' := ?_) ?_ ?_
                                rotate_left
                                ·show Act.put _ (some 52) _ = _
                                 simp only [Act.put, zs3, zz3, zt3, i64_w, i32_w]
                                 rfl
                                refine pure_ (i := 1) (N := some 53) (v := ?_) (a' := ?_) #[tt, tt, tt, tt, tt, tt, tt, tt, ff, ff, ff, ff, ff, ff, ff, ff, ff] rfl rfl (any_of HT_.out (by kernel_rfl)) (fun _ _ _ h => h) (Or.inl ⟨by rfl, ?_⟩) ?_ ?_
                                rotate_left; (intro w'; go_simp; with_reducible rfl); rotate_left; (simp only [Act.put, zs3, zz3, zt3, i64_w, i32_w]; rfl)
                                exact norm_ (by first | (simp only [putAll, Act.put, zs3, zz3, zt3]; done) | (simp only [putAll, Act.put, zs3, zz3, zt3]; rfl)) (hJ0 (.slice Ao49 y419.length co49) _ ⟨(z3_1 Zd.out), (z3_1 Zj.out), (z3_0 HB.out)⟩)
                               ·skip
                                refine goes_ Try.func5 (by kernel_rfl) rfl #[.slice A1 l1.length c1, .int .i64 1, .int .i64 (wrap64 ((t415.length : Int) + 1))] (by rfl) rfl rfl zq ?_
                                with_reducible refine (laws_at.calls _ _ l1 1 (wrap64 ((t415.length : Int) + 1)) t422 _ ?side1 ?side2 A9.out).mono ?_
                                (case side1 => exact zC (Kd.C_below HR1.out HB.out))
                                (case side2 => exact HC1.out)
                                rintro e w' ⟨rfl, ⟨nd, rfl⟩⟩
                                refine ⟨_, rfl, ?_⟩
                                refine hK.out _ _ trivial (fun hHeld => ?_)
                                clear hK K
                                refine norm_ (a' := ?_) ?_ ?_
                                rotate_left
                                ·show Act.put _ (some 60) _ = _
                                 simp only [Act.put, zs3, zz3, zt3, i64_w, i32_w]
                                 rfl
                                refine pure_ (i := 9) (N := some 61) (v := ?_) (a' := ?_) #[ff, ff, tt, tt, tt, tt, tt, tt, tt, tt, ff, ff, ff, ff, ff, ff, ff] rfl rfl (any_of HT_.out (by kernel_rfl)) (fun _ _ _ h => h) (Or.inl ⟨by rfl, ?_⟩) ?_ ?_
                                rotate_left; (intro w'; go_simp; with_reducible rfl); rotate_left; (simp only [Act.put, zs3, zz3, zt3, i64_w, i32_w]; rfl)
                                exact norm_ (by first | (simp only [putAll, Act.put, zs3, zz3, zt3]; done) | (simp only [putAll, Act.put, zs3, zz3, zt3]; rfl)) (hJ8 () _ ⟨(z3_1 Zd.out), (z3_0 HB.out)⟩)
                               ·skip
                                refine box_step ?hg (N := 11) ?hd (cs := #[.slice none 0 0, .slice none 0 0]) (t := 32) ?hr ?_; (case hd => rfl); (case hg => rfl); (case hr => first | (go_simp; done) | (go_simp; rfl))
                                intro gb434 hg w47 hbox hb
                                have n0_ := zm3 (Kd.R_below (z3_1 Zd.out) hb); have n1_ := zm3 (Kd.C_below (by repeat (first | (with_reducible exact ZJ.out) | (with_reducible refine Kd.C_alloc ?_ _) | (with_reducible refine Kd.C_drewN ?_ _) | (with_reducible refine Kd.C_drew ?_) | exact ZJ.out)) hb); have n2_ := zm3 (below_step (z3_0 HB.out) hb); have n3_ := zm3 (hbox); have n4_ := zm3 ((by rw [hg]; exact (below_size (z3_0 HB.out)) : w.heap.size ≤ gb434)); have n5_ := zm3 ((by rw [hg]; exact (below_size (z3_0 HB.out)) : w.heap.size ≤ gb434)); clear Zd; clear ZJ; clear HB; have Zd := n0_; have ZJ := n1_; have HB := n2_; have Za := n3_; have ZN := n4_; have Zc := n5_; clear n0_ n1_ n2_ n3_ n4_ n5_; clear hb hbox hg
                                refine hK.out _ _ trivial (fun hHeld => ?_)
                                clear hK K
                                refine norm_ (a' := ?_) ?_ ?_
                                rotate_left
                                ·show Act.put _ (some 11) _ = _
                                 simp only [Act.put, zs3, zz3, zt3, i64_w, i32_w]
                                 rfl
                                exact norm_ (by first | (simp only [putAll, Act.put, zs3, zz3, zt3]; done) | (simp only [putAll, Act.put, zs3, zz3, zt3]; rfl)) (hJ14 (gb434) _ ⟨(z3_1 Zd.out), (z3_2 Za.out), ZN.out, Zc.out, (z3_3 HB.out Zc.out)⟩)
                              ·skip
                               rintro gb434 w48 ⟨h0_, h1_, h2_, h3_, h4_⟩
                               have n0_ : Aside0 (Kd.R k52 52 w48 w.heap.size (fun _ => True) (.slice Ao45 t415.length co45) t415) := ⟨h0_⟩
                               have n1_ : Aside0 (w48.heap[gb434]? = some (.cells #[.slice none 0 0, .slice none 0 0] 32 (0, 0))) := ⟨h1_⟩
                               have n2_ : Aside0 (w.heap.size ≤ gb434) := ⟨h2_⟩
                               have n3_ : Aside0 (w.heap.size ≤ gb434) := ⟨h3_⟩
                               have n4_ : Aside0 (Below w.heap.size w w48) := ⟨h4_⟩
                               clear Zd; clear ZJ; clear HB; clear h0_ h1_ h2_ h3_ h4_; have Zd := n0_; have Za := n1_; have ZN := n2_; have Zc := n3_; have HB := n4_; clear n0_ n1_ n2_ n3_ n4_; have hHeld := trivial
                               refine norm_ (a' := ?_) ?_ ?_
                               rotate_left
                               ·simp only [putAll, Act.put, zs3, zz3, zt3]
                                rfl
                               refine two_ (i := 0) (j := 8) (Ni := some 52) (Nj := some 60) #[tt, ff, tt, tt, tt, tt, tt, tt, ff, ff, ff, ff, ff, ff, tt, ff, ff] #[ff, ff, tt, tt, tt, tt, tt, tt, tt, ff, ff, ff, ff, ff, tt, ff, ff] rfl rfl rfl rfl (two_of HT_.out (by kernel_rfl)) (by decide) (by decide) (fun K hK => ?_) (fun K hK => ?_)
                               ·skip
                                refine Kd.R_make_step Kd.string _ 9 (by rfl) (N := 52) rfl 29 _ _ rfl 64 rfl rfl Try.underlying29 (.string ⟨#[]⟩) 16 info9 rfl (by decide) (by omega) (⟨#[]⟩ : ByteArray) (ok := fun _ => True) (okp := fun _ => True) rfl (fun _ hk => hk) trivial (by omega) (by omega) (Below.refl _ _) (Nat.le_refl _) ?_
                                intro v420 w49 ho50 hb hg_ hnew_
                                clear hg_ hnew_
                                (first | rw [← Ny419.out] at ho50 | (simp only [Int.reduceToNat] at ho50; rw [← Ny419.out] at ho50))
                                have n0_ := zm3 (Kd.R_below (z3_1 Zd.out) hb); have n1_ := zm3 (Kd.R_lower ho50 (below_size (z3_3 HB.out Zc.out))); have n2_ := zm3 (blk_below (g := gb434) (o := .cells #[.slice none 0 0, .slice none 0 0] 32 (0, 0)) (z3_2 Za.out) hb); have n3_ := zm3 (below_step (z3_3 HB.out Zc.out) hb); clear Zd; clear Za; clear HB; have Zd := n0_; have Zj := n1_; have Za := n2_; have HB := n3_; clear n0_ n1_ n2_ n3_; clear hb ho50
                                obtain ⟨Ao51, co51, eo51⟩ := Kd.R_slice Zj.out
                                (first | subst eo51 | (injection eo51 with f1_ f2_ f3_; have f4_ := f1_.symm; have f5_ := f3_.symm; clear f1_ f2_ f3_; subst f4_; subst f5_))
                                refine hK.out _ _ trivial (fun hHeld => ?_)
                                clear hK K
                                refine norm_ (a' := ?_) ?_ ?_
                                rotate_left
                                ·show Act.put _ (some 52) _ = _
                                 simp only [Act.put, zs3, zz3, zt3, i64_w, i32_w]
                                 rfl
                                refine pure_ (i := 1) (N := some 53) (v := ?_) (a' := ?_) #[tt, tt, tt, tt, tt, tt, tt, tt, ff, ff, ff, ff, ff, ff, tt, ff, ff] rfl rfl (any_of HT_.out (by kernel_rfl)) (fun _ _ _ h => h) (Or.inl ⟨by rfl, ?_⟩) ?_ ?_
                                rotate_left; (intro w'; go_simp; with_reducible rfl); rotate_left; (simp only [Act.put, zs3, zz3, zt3, i64_w, i32_w]; rfl)
                                exact norm_ (by first | (simp only [putAll, Act.put, zs3, zz3, zt3]; done) | (simp only [putAll, Act.put, zs3, zz3, zt3]; rfl)) (hJ0_14 (.slice Ao51 y419.length co51, gb434) _ ⟨(z3_1 Zd.out), (z3_1 Zj.out), (z3_2 Za.out), ZN.out, Zc.out, (z3_3 HB.out Zc.out)⟩)
                               ·skip
                                refine goes_ Try.func5 (by kernel_rfl) rfl #[.slice A1 l1.length c1, .int .i64 1, .int .i64 (wrap64 ((t415.length : Int) + 1))] (by rfl) rfl rfl zq ?_
                                with_reducible refine (laws_at.calls _ _ l1 1 (wrap64 ((t415.length : Int) + 1)) t422 _ ?side1 ?side2 A9.out).mono ?_
                                (case side1 => exact zC (Kd.C_below HR1.out HB.out))
                                (case side2 => exact HC1.out)
                                rintro e w' ⟨rfl, ⟨nd, rfl⟩⟩
                                refine ⟨_, rfl, ?_⟩
                                refine hK.out _ _ trivial (fun hHeld => ?_)
                                clear hK K
                                refine norm_ (a' := ?_) ?_ ?_
                                rotate_left
                                ·show Act.put _ (some 60) _ = _
                                 simp only [Act.put, zs3, zz3, zt3, i64_w, i32_w]
                                 rfl
                                refine pure_ (i := 9) (N := some 61) (v := ?_) (a' := ?_) #[ff, ff, tt, tt, tt, tt, tt, tt, tt, tt, ff, ff, ff, ff, tt, ff, ff] rfl rfl (any_of HT_.out (by kernel_rfl)) (fun _ _ _ h => h) (Or.inl ⟨by rfl, ?_⟩) ?_ ?_
                                rotate_left; (intro w'; go_simp; with_reducible rfl); rotate_left; (simp only [Act.put, zs3, zz3, zt3, i64_w, i32_w]; rfl)
                                exact norm_ (by first | (simp only [putAll, Act.put, zs3, zz3, zt3]; done) | (simp only [putAll, Act.put, zs3, zz3, zt3]; rfl)) (hJ8_14 (gb434) _ ⟨(z3_1 Zd.out), (z3_2 Za.out), ZN.out, Zc.out, (z3_3 HB.out Zc.out)⟩)
                             ·skip
                              rintro _ w47 ⟨h0_, h1_⟩
                              have n0_ : Aside0 (Kd.R k52 52 w47 w.heap.size (fun _ => True) (.slice Ao45 t415.length co45) t415) := ⟨h0_⟩
                              have n1_ : Aside0 (Below w.heap.size w w47) := ⟨h1_⟩
                              clear Zd; clear ZJ; clear HB; clear h0_ h1_; have Zd := n0_; have HB := n1_; clear n0_ n1_; have hHeld := trivial
                              refine norm_ (a' := ?_) ?_ ?_
                              rotate_left
                              ·simp only [putAll, Act.put, zs3, zz3, zt3]
                               rfl
                              refine two_ (i := 0) (j := 14) (Ni := some 52) (Nj := some 11) #[tt, ff, tt, tt, tt, tt, tt, tt, tt, tt, ff, ff, ff, ff, ff, ff, ff] #[ff, ff, tt, tt, tt, tt, tt, tt, tt, tt, ff, ff, ff, ff, tt, ff, ff] rfl rfl rfl rfl (two_of HT_.out (by kernel_rfl)) (by decide) (by decide) (fun K hK => ?_) (fun K hK => ?_)
                              ·skip
                               refine Kd.R_make_step Kd.string _ 9 (by rfl) (N := 52) rfl 29 _ _ rfl 64 rfl rfl Try.underlying29 (.string ⟨#[]⟩) 16 info9 rfl (by decide) (by omega) (⟨#[]⟩ : ByteArray) (ok := fun _ => True) (okp := fun _ => True) rfl (fun _ hk => hk) trivial (by omega) (by omega) (Below.refl _ _) (Nat.le_refl _) ?_
                               intro v420 w48 ho49 hb hg_ hnew_
                               clear hg_ hnew_
                               (first | rw [← Ny419.out] at ho49 | (simp only [Int.reduceToNat] at ho49; rw [← Ny419.out] at ho49))
                               have n0_ := zm3 (Kd.R_below (z3_1 Zd.out) hb); have n1_ := zm3 (Kd.R_lower ho49 (below_size (z3_0 HB.out))); have n2_ := zm3 (below_step (z3_0 HB.out) hb); clear Zd; clear HB; have Zd := n0_; have Zj := n1_; have HB := n2_; clear n0_ n1_ n2_; clear hb ho49
                               obtain ⟨Ao50, co50, eo50⟩ := Kd.R_slice Zj.out
                               (first | subst eo50 | (injection eo50 with f1_ f2_ f3_; have f4_ := f1_.symm; have f5_ := f3_.symm; clear f1_ f2_ f3_; subst f4_; subst f5_))
                               refine hK.out _ _ trivial (fun hHeld => ?_)
                               clear hK K
                               refine norm_ (a' := ?_) ?_ ?_
                               rotate_left
                               ·show Act.put _ (some 52) _ = _
                                simp only [Act.put, zs3, zz3, zt3, i64_w, i32_w]
                                rfl
                               refine pure_ (i := 1) (N := some 53) (v := ?_) (a' := ?_) #[tt, tt, tt, tt, tt, tt, tt, tt, tt, tt, ff, ff, ff, ff, ff, ff, ff] rfl rfl (any_of HT_.out (by kernel_rfl)) (fun _ _ _ h => h) (Or.inl ⟨by rfl, ?_⟩) ?_ ?_
                               rotate_left; (intro w'; go_simp; with_reducible rfl); rotate_left; (simp only [Act.put, zs3, zz3, zt3, i64_w, i32_w]; rfl)
                               exact norm_ (by first | (simp only [putAll, Act.put, zs3, zz3, zt3]; done) | (simp only [putAll, Act.put, zs3, zz3, zt3]; rfl)) (hJ0_8 (.slice Ao50 y419.length co50) _ ⟨(z3_1 Zd.out), (z3_1 Zj.out), (z3_0 HB.out)⟩)
                              ·skip
                               refine box_step ?hg (N := 11) ?hd (cs := #[.slice none 0 0, .slice none 0 0]) (t := 32) ?hr ?_; (case hd => rfl); (case hg => rfl); (case hr => first | (go_simp; done) | (go_simp; rfl))
                               intro gb434 hg w48 hbox hb
                               have n0_ := zm3 (Kd.R_below (z3_1 Zd.out) hb); have n1_ := zm3 (below_step (z3_0 HB.out) hb); have n2_ := zm3 (hbox); have n3_ := zm3 ((by rw [hg]; exact (below_size (z3_0 HB.out)) : w.heap.size ≤ gb434)); have n4_ := zm3 ((by rw [hg]; exact (below_size (z3_0 HB.out)) : w.heap.size ≤ gb434)); clear Zd; clear HB; have Zd := n0_; have HB := n1_; have Za := n2_; have ZN := n3_; have Zc := n4_; clear n0_ n1_ n2_ n3_ n4_; clear hb hbox hg
                               refine hK.out _ _ trivial (fun hHeld => ?_)
                               clear hK K
                               refine norm_ (a' := ?_) ?_ ?_
                               rotate_left
                               ·show Act.put _ (some 11) _ = _
                                simp only [Act.put, zs3, zz3, zt3, i64_w, i32_w]
                                rfl
                               exact norm_ (by first | (simp only [putAll, Act.put, zs3, zz3, zt3]; done) | (simp only [putAll, Act.put, zs3, zz3, zt3]; rfl)) (hJ8_14 (gb434) _ ⟨(z3_1 Zd.out), (z3_2 Za.out), ZN.out, Zc.out, (z3_3 HB.out Zc.out)⟩)
                            ·skip
                             rintro v420 w50 ⟨h0_, h1_, h2_⟩
                             have n0_ : Aside0 (Kd.R k52 52 w50 w.heap.size (fun _ => True) (.slice Ao45 t415.length co45) t415) := ⟨h0_⟩
                             have n1_ : Aside0 (Kd.R Kd.string 9 w50 w.heap.size (fun _ => True) v420 y419) := ⟨h1_⟩
                             have n2_ : Aside0 (Below w.heap.size w w50) := ⟨h2_⟩
                             clear Zd; clear ZJ; clear HB; clear h0_ h1_ h2_; have Zd := n0_; have Zj := n1_; have HB := n2_; clear n0_ n1_ n2_; have hHeld := trivial
                             obtain ⟨Ao51, co51, eo51⟩ := Kd.R_slice Zj.out
                             (first | subst eo51 | (injection eo51 with f1_ f2_ f3_; have f4_ := f1_.symm; have f5_ := f3_.symm; clear f1_ f2_ f3_; subst f4_; subst f5_))
                             refine norm_ (a' := ?_) ?_ ?_
                             rotate_left
                             ·simp only [putAll, Act.put, zs3, zz3, zt3]
                              rfl
                             refine two_ (i := 8) (j := 14) (Ni := some 60) (Nj := some 11) #[tt, tt, tt, tt, tt, tt, tt, tt, tt, ff, ff, ff, ff, ff, ff, ff, ff] #[tt, tt, tt, tt, tt, tt, tt, tt, ff, ff, ff, ff, ff, ff, tt, ff, ff] rfl rfl rfl rfl (two_of HT_.out (by kernel_rfl)) (by decide) (by decide) (fun K hK => ?_) (fun K hK => ?_)
                             ·skip
                              refine goes_ Try.func5 (by kernel_rfl) rfl #[.slice A1 l1.length c1, .int .i64 1, .int .i64 (wrap64 ((t415.length : Int) + 1))] (by rfl) rfl rfl zq ?_
                              with_reducible refine (laws_at.calls _ _ l1 1 (wrap64 ((t415.length : Int) + 1)) t422 _ ?side1 ?side2 A9.out).mono ?_
                              (case side1 => exact zC (Kd.C_below HR1.out HB.out))
                              (case side2 => exact HC1.out)
                              rintro e w' ⟨rfl, ⟨nd, rfl⟩⟩
                              refine ⟨_, rfl, ?_⟩
                              refine hK.out _ _ trivial (fun hHeld => ?_)
                              clear hK K
                              refine norm_ (a' := ?_) ?_ ?_
                              rotate_left
                              ·show Act.put _ (some 60) _ = _
                               simp only [Act.put, zs3, zz3, zt3, i64_w, i32_w]
                               rfl
                              refine pure_ (i := 9) (N := some 61) (v := ?_) (a' := ?_) #[tt, tt, tt, tt, tt, tt, tt, tt, tt, tt, ff, ff, ff, ff, ff, ff, ff] rfl rfl (any_of HT_.out (by kernel_rfl)) (fun _ _ _ h => h) (Or.inl ⟨by rfl, ?_⟩) ?_ ?_
                              rotate_left; (intro w'; go_simp; with_reducible rfl); rotate_left; (simp only [Act.put, zs3, zz3, zt3, i64_w, i32_w]; rfl)
                              exact norm_ (by first | (simp only [putAll, Act.put, zs3, zz3, zt3]; done) | (simp only [putAll, Act.put, zs3, zz3, zt3]; rfl)) (hJ0_8 (.slice Ao51 y419.length co51) _ ⟨(z3_1 Zd.out), (z3_1 Zj.out), (z3_0 HB.out)⟩)
                             ·skip
                              refine box_step ?hg (N := 11) ?hd (cs := #[.slice none 0 0, .slice none 0 0]) (t := 32) ?hr ?_; (case hd => rfl); (case hg => rfl); (case hr => first | (go_simp; done) | (go_simp; rfl))
                              intro gb434 hg w52 hbox hb
                              have n0_ := zm3 (Kd.R_below (z3_1 Zd.out) hb); have n1_ := zm3 (Kd.R_below (z3_1 Zj.out) hb); have n2_ := zm3 (below_step (z3_0 HB.out) hb); have n3_ := zm3 (hbox); have n4_ := zm3 ((by rw [hg]; exact (below_size (z3_0 HB.out)) : w.heap.size ≤ gb434)); have n5_ := zm3 ((by rw [hg]; exact (below_size (z3_0 HB.out)) : w.heap.size ≤ gb434)); clear Zd; clear Zj; clear HB; have Zd := n0_; have Zj := n1_; have HB := n2_; have Za := n3_; have ZN := n4_; have Zc := n5_; clear n0_ n1_ n2_ n3_ n4_ n5_; clear hb hbox hg
                              refine hK.out _ _ trivial (fun hHeld => ?_)
                              clear hK K
                              refine norm_ (a' := ?_) ?_ ?_
                              rotate_left
                              ·show Act.put _ (some 11) _ = _
                               simp only [Act.put, zs3, zz3, zt3, i64_w, i32_w]
                               rfl
                              exact norm_ (by first | (simp only [putAll, Act.put, zs3, zz3, zt3]; done) | (simp only [putAll, Act.put, zs3, zz3, zt3]; rfl)) (hJ0_14 (.slice Ao51 y419.length co51, gb434) _ ⟨(z3_1 Zd.out), (z3_1 Zj.out), (z3_2 Za.out), ZN.out, Zc.out, (z3_3 HB.out Zc.out)⟩)
                           ·skip
                            rintro gb434 w48 ⟨h0_, h1_, h2_, h3_, h4_⟩
                            have n0_ : Aside0 (Kd.R k52 52 w48 w.heap.size (fun _ => True) (.slice Ao45 t415.length co45) t415) := ⟨h0_⟩
                            have n1_ : Aside0 (w48.heap[gb434]? = some (.cells #[.slice none 0 0, .slice none 0 0] 32 (0, 0))) := ⟨h1_⟩
                            have n2_ : Aside0 (w.heap.size ≤ gb434) := ⟨h2_⟩
                            have n3_ : Aside0 (w.heap.size ≤ gb434) := ⟨h3_⟩
                            have n4_ : Aside0 (Below w.heap.size w w48) := ⟨h4_⟩
                            clear Zd; clear ZJ; clear HB; clear h0_ h1_ h2_ h3_ h4_; have Zd := n0_; have Za := n1_; have ZN := n2_; have Zc := n3_; have HB := n4_; clear n0_ n1_ n2_ n3_ n4_; have hHeld := trivial
                            refine norm_ (a' := ?_) ?_ ?_
                            rotate_left
                            ·simp only [putAll, Act.put, zs3, zz3, zt3]
                             rfl
                            refine one_ (i := 0) (N := some 52) #[tt, ff, tt, tt, tt, tt, tt, tt, tt, tt, ff, ff, ff, ff, tt, ff, ff] rfl rfl (one_of HT_.out (by kernel_rfl)) (by decide) (fun K hK => ?_)
                            refine Kd.R_make_step Kd.string _ 9 (by rfl) (N := 52) rfl 29 _ _ rfl 64 rfl rfl Try.underlying29 (.string ⟨#[]⟩) 16 info9 rfl (by decide) (by omega) (⟨#[]⟩ : ByteArray) (ok := fun _ => True) (okp := fun _ => True) rfl (fun _ hk => hk) trivial (by omega) (by omega) (Below.refl _ _) (Nat.le_refl _) ?_
                            intro v420 w49 ho50 hb hg_ hnew_
                            clear hg_ hnew_
                            (first | rw [← Ny419.out] at ho50 | (simp only [Int.reduceToNat] at ho50; rw [← Ny419.out] at ho50))
                            have n0_ := zm3 (Kd.R_below (z3_1 Zd.out) hb); have n1_ := zm3 (Kd.R_lower ho50 (below_size (z3_3 HB.out Zc.out))); have n2_ := zm3 (blk_below (g := gb434) (o := .cells #[.slice none 0 0, .slice none 0 0] 32 (0, 0)) (z3_2 Za.out) hb); have n3_ := zm3 (below_step (z3_3 HB.out Zc.out) hb); clear Zd; clear Za; clear HB; have Zd := n0_; have Zj := n1_; have Za := n2_; have HB := n3_; clear n0_ n1_ n2_ n3_; clear hb ho50
                            obtain ⟨Ao51, co51, eo51⟩ := Kd.R_slice Zj.out
                            (first | subst eo51 | (injection eo51 with f1_ f2_ f3_; have f4_ := f1_.symm; have f5_ := f3_.symm; clear f1_ f2_ f3_; subst f4_; subst f5_))
                            refine hK.out _ _ trivial (fun hHeld => ?_)
                            clear hK K
                            refine norm_ (a' := ?_) ?_ ?_
                            rotate_left
                            ·show Act.put _ (some 52) _ = _
                             simp only [Act.put, zs3, zz3, zt3, i64_w, i32_w]
                             rfl
                            refine pure_ (i := 1) (N := some 53) (v := ?_) (a' := ?_) #[tt, tt, tt, tt, tt, tt, tt, tt, tt, tt, ff, ff, ff, ff, tt, ff, ff] rfl rfl (any_of HT_.out (by kernel_rfl)) (fun _ _ _ h => h) (Or.inl ⟨by rfl, ?_⟩) ?_ ?_
                            rotate_left; (intro w'; go_simp; with_reducible rfl); rotate_left; (simp only [Act.put, zs3, zz3, zt3, i64_w, i32_w]; rfl)
                            exact norm_ (by first | (simp only [putAll, Act.put, zs3, zz3, zt3]; done) | (simp only [putAll, Act.put, zs3, zz3, zt3]; rfl)) (hJ0_8_14 (.slice Ao51 y419.length co51, gb434) _ ⟨(z3_1 Zd.out), (z3_1 Zj.out), (z3_2 Za.out), ZN.out, Zc.out, (z3_3 HB.out Zc.out)⟩)
                          ·skip
                           rintro ⟨v420, gb434⟩ w51 ⟨h0_, h1_, h2_, h3_, h4_, h5_⟩
                           have n0_ : Aside0 (Kd.R k52 52 w51 w.heap.size (fun _ => True) (.slice Ao45 t415.length co45) t415) := ⟨h0_⟩
                           have n1_ : Aside0 (Kd.R Kd.string 9 w51 w.heap.size (fun _ => True) v420 y419) := ⟨h1_⟩
                           have n2_ : Aside0 (w51.heap[gb434]? = some (.cells #[.slice none 0 0, .slice none 0 0] 32 (0, 0))) := ⟨h2_⟩
                           have n3_ : Aside0 (w.heap.size ≤ gb434) := ⟨h3_⟩
                           have n4_ : Aside0 (w.heap.size ≤ gb434) := ⟨h4_⟩
                           have n5_ : Aside0 (Below w.heap.size w w51) := ⟨h5_⟩
                           clear Zd; clear ZJ; clear HB; clear h0_ h1_ h2_ h3_ h4_ h5_; have Zd := n0_; have Zj := n1_; have Za := n2_; have ZN := n3_; have Zc := n4_; have HB := n5_; clear n0_ n1_ n2_ n3_ n4_ n5_; have hHeld := trivial
                           obtain ⟨Ao52, co52, eo52⟩ := Kd.R_slice Zj.out
                           (first | subst eo52 | (injection eo52 with f1_ f2_ f3_; have f4_ := f1_.symm; have f5_ := f3_.symm; clear f1_ f2_ f3_; subst f4_; subst f5_))
                           refine norm_ (a' := ?_) ?_ ?_
                           rotate_left
                           ·simp only [putAll, Act.put, zs3, zz3, zt3]
                            rfl
                           refine one_ (i := 8) (N := some 60) #[tt, tt, tt, tt, tt, tt, tt, tt, tt, ff, ff, ff, ff, ff, tt, ff, ff] rfl rfl (one_of HT_.out (by kernel_rfl)) (by decide) (fun K hK => ?_)
                           refine goes_ Try.func5 (by kernel_rfl) rfl #[.slice A1 l1.length c1, .int .i64 1, .int .i64 (wrap64 ((t415.length : Int) + 1))] (by rfl) rfl rfl zq ?_
                           with_reducible refine (laws_at.calls _ _ l1 1 (wrap64 ((t415.length : Int) + 1)) t422 _ ?side1 ?side2 A9.out).mono ?_
                           (case side1 => exact zC (Kd.C_below HR1.out HB.out))
                           (case side2 => exact HC1.out)
                           rintro e w' ⟨rfl, ⟨nd, rfl⟩⟩
                           refine ⟨_, rfl, ?_⟩
                           refine hK.out _ _ trivial (fun hHeld => ?_)
                           clear hK K
                           refine norm_ (a' := ?_) ?_ ?_
                           rotate_left
                           ·show Act.put _ (some 60) _ = _
                            simp only [Act.put, zs3, zz3, zt3, i64_w, i32_w]
                            rfl
                           refine pure_ (i := 9) (N := some 61) (v := ?_) (a' := ?_) #[tt, tt, tt, tt, tt, tt, tt, tt, tt, tt, ff, ff, ff, ff, tt, ff, ff] rfl rfl (any_of HT_.out (by kernel_rfl)) (fun _ _ _ h => h) (Or.inl ⟨by rfl, ?_⟩) ?_ ?_
                           rotate_left; (intro w'; go_simp; with_reducible rfl); rotate_left; (simp only [Act.put, zs3, zz3, zt3, i64_w, i32_w]; rfl)
                           exact norm_ (by first | (simp only [putAll, Act.put, zs3, zz3, zt3]; done) | (simp only [putAll, Act.put, zs3, zz3, zt3]; rfl)) (hJ0_8_14 (.slice Ao52 y419.length co52, gb434) _ ⟨(z3_1 Zd.out), (z3_1 Zj.out), (z3_2 Za.out), ZN.out, Zc.out, (z3_3 HB.out Zc.out)⟩)
                         ·skip
                          rintro v420 w50 ⟨h0_, h1_, h2_⟩
                          have n0_ : Aside0 (Kd.R k52 52 w50 w.heap.size (fun _ => True) (.slice Ao45 t415.length co45) t415) := ⟨h0_⟩
                          have n1_ : Aside0 (Kd.R Kd.string 9 w50 w.heap.size (fun _ => True) v420 y419) := ⟨h1_⟩
                          have n2_ : Aside0 (Below w.heap.size w w50) := ⟨h2_⟩
                          clear Zd; clear ZJ; clear HB; clear h0_ h1_ h2_; have Zd := n0_; have Zj := n1_; have HB := n2_; clear n0_ n1_ n2_; have hHeld := trivial
                          obtain ⟨Ao51, co51, eo51⟩ := Kd.R_slice Zj.out
                          (first | subst eo51 | (injection eo51 with f1_ f2_ f3_; have f4_ := f1_.symm; have f5_ := f3_.symm; clear f1_ f2_ f3_; subst f4_; subst f5_))
                          refine norm_ (a' := ?_) ?_ ?_
                          rotate_left
                          ·simp only [putAll, Act.put, zs3, zz3, zt3]
                           rfl
                          refine two_ (i := 10) (j := 14) (Ni := some 62) (Nj := some 11) #[tt, tt, tt, tt, tt, tt, tt, tt, tt, tt, tt, ff, ff, ff, ff, ff, ff] #[tt, tt, tt, tt, tt, tt, tt, tt, tt, tt, ff, ff, ff, ff, tt, ff, ff] rfl rfl rfl rfl (two_of HT_.out (by kernel_rfl)) (by decide) (by decide) (fun K hK => ?_) (fun K hK => ?_)
                          ·skip
                           refine goes_ Try.func7 (by kernel_rfl) rfl #[.agg #[.slice Ao51 y419.length co51, .slice none 0 0], .int .i64 t414, .slice Ao45 y423.length co45] (by rfl) rfl rfl zq ?_
                           refine (impl_MovesDo.calls k _ _ y419 _ _ ([] : List (S75)) t414 _ _ y423 t427 t430 t433 _ ?side1 ?side2 ?side3 ?side4 ?side5 ?side6 A12.out).mono ?_
                           (case side1 => exact zC ((Kd.R_reads' Zj.out).2.2))
                           (case side2 => exact (Kd.R_reads' Zj.out).2.1)
                           (case side3 => exact Kd.C_nil _ _)
                           (case side4 => exact Nat.le_refl _)
                           (case side5 => exact (show Kd.C k52 _ Ao45 y423.length y423 from by rw [Ny423.out]; exact Kd.C_take (m := (t422 : Int).toNat) ((Kd.R_reads' (z3_1 Zd.out)).2.2) KL44.out))
                           (case side6 => exact Zap.out)
                           rintro e w52 ⟨v428, v431, rfl, ho0, ho1, hb⟩
                           refine ⟨_, rfl, ?_⟩
                           have n0_ := zm3 (Kd.R_below (z3_1 Zd.out) hb); have n1_ := zm3 (Kd.R_elder' (z3_1 Zj.out) (Kd.R_base ho0) hb); have n2_ := zm3 (Kd.R_lower (Kd.R_new' ho0 (Kd.R_lt (z3_1 Zj.out))) (below_size (z3_0 HB.out))); have n3_ := zm3 (Kd.R_lower ho1 (below_size (z3_0 HB.out))); have n4_ := zm3 (below_step (z3_0 HB.out) hb); clear Zd; clear Zj; clear HB; have Zd := n0_; have Zj := n1_; have Zo := n2_; have Zp := n3_; have HB := n4_; clear n0_ n1_ n2_ n3_ n4_
                           (try clear hb)
                           (try clear hb2)
                           (try clear hk)
                           (try clear hi)
                           (try clear ho0)
                           (try clear ho1)
                           refine hK.out _ _ trivial (fun hHeld => ?_)
                           clear hK K
                           refine norm_ (a' := ?_) ?_ ?_
                           rotate_left
                           ·show Act.put _ (some 62) _ = _
                            simp only [Act.put, zs3, zz3, zt3, i64_w, i32_w]
                            rfl
                           refine pure_ (i := 11) (N := some 51) (v := ?_) (a' := ?_) #[tt, tt, tt, tt, tt, tt, tt, tt, tt, tt, tt, tt, ff, ff, ff, ff, ff] rfl rfl (any_of HT_.out (by kernel_rfl)) (fun _ _ _ h => h) (Or.inl ⟨by rfl, ?_⟩) ?_ ?_
                           rotate_left; (intro w'; go_simp; with_reducible rfl); rotate_left; (simp only [Act.put, zs3, zz3, zt3, i64_w, i32_w]; rfl)
                           refine pure_ (i := 12) (N := some 63) (v := ?_) (a' := ?_) #[tt, tt, tt, tt, tt, tt, tt, tt, tt, tt, tt, tt, tt, ff, ff, ff, ff] rfl rfl (any_of HT_.out (by kernel_rfl)) (fun _ _ _ h => h) (Or.inl ⟨by rfl, ?_⟩) ?_ ?_
                           rotate_left; (intro w'; go_simp; with_reducible rfl); rotate_left; (simp only [Act.put, zs3, zz3, zt3, i64_w, i32_w]; rfl)
                           refine pure_ (i := 13) (N := some 64) (v := ?_) (a' := ?_) #[tt, tt, tt, tt, tt, tt, tt, tt, tt, tt, tt, tt, tt, tt, ff, ff, ff] rfl rfl (any_of HT_.out (by kernel_rfl)) (fun _ _ _ h => h) (Or.inl ⟨by rfl, ?_⟩) ?_ ?_
                           rotate_left; (intro w'; go_simp; with_reducible rfl); rotate_left; (simp only [Act.put, zs3, zz3, zt3, i64_w, i32_w]; rfl)
                           exact norm_ (by first | (simp only [putAll, Act.put, zs3, zz3, zt3]; done) | (simp only [putAll, Act.put, zs3, zz3, zt3]; rfl)) (hJ0_8_10 (.slice Ao51 y419.length co51, v428, v431) _ ⟨(z3_1 Zd.out), (by (with_reducible repeat (first | apply Kd.R_alloc | apply Kd.R_drewN | apply Kd.R_drew)); exact Kd.R_mono Zj.out (fun _ hk => hk.2)), (by (with_reducible repeat (first | apply Kd.R_alloc | apply Kd.R_drewN | apply Kd.R_drew)); exact Kd.R_mono Zo.out (fun _ hk => hk.2)), (z3_1 Zp.out), (z3_0 HB.out)⟩)
                          ·skip
                           refine box_step ?hg (N := 11) ?hd (cs := #[.slice none 0 0, .slice none 0 0]) (t := 32) ?hr ?_; (case hd => rfl); (case hg => rfl); (case hr => first | (go_simp; done) | (go_simp; rfl))
                           intro gb434 hg w52 hbox hb
                           have n0_ := zm3 (Kd.R_below (z3_1 Zd.out) hb); have n1_ := zm3 (Kd.R_below (z3_1 Zj.out) hb); have n2_ := zm3 (below_step (z3_0 HB.out) hb); have n3_ := zm3 (hbox); have n4_ := zm3 ((by rw [hg]; exact (below_size (z3_0 HB.out)) : w.heap.size ≤ gb434)); have n5_ := zm3 ((by rw [hg]; exact (below_size (z3_0 HB.out)) : w.heap.size ≤ gb434)); clear Zd; clear Zj; clear HB; have Zd := n0_; have Zj := n1_; have HB := n2_; have Za := n3_; have ZN := n4_; have Zc := n5_; clear n0_ n1_ n2_ n3_ n4_ n5_; clear hb hbox hg
                           refine hK.out _ _ trivial (fun hHeld => ?_)
                           clear hK K
                           refine norm_ (a' := ?_) ?_ ?_
                           rotate_left
                           ·show Act.put _ (some 11) _ = _
                            simp only [Act.put, zs3, zz3, zt3, i64_w, i32_w]
                            rfl
                           exact norm_ (by first | (simp only [putAll, Act.put, zs3, zz3, zt3]; done) | (simp only [putAll, Act.put, zs3, zz3, zt3]; rfl)) (hJ0_8_14 (.slice Ao51 y419.length co51, gb434) _ ⟨(z3_1 Zd.out), (z3_1 Zj.out), (z3_2 Za.out), ZN.out, Zc.out, (z3_3 HB.out Zc.out)⟩)
                        ·skip
                         rintro ⟨v420, gb434⟩ w51 ⟨h0_, h1_, h2_, h3_, h4_, h5_⟩
                         have n0_ : Aside0 (Kd.R k52 52 w51 w.heap.size (fun _ => True) (.slice Ao45 t415.length co45) t415) := ⟨h0_⟩
                         have n1_ : Aside0 (Kd.R Kd.string 9 w51 w.heap.size (fun _ => True) v420 y419) := ⟨h1_⟩
                         have n2_ : Aside0 (w51.heap[gb434]? = some (.cells #[.slice none 0 0, .slice none 0 0] 32 (0, 0))) := ⟨h2_⟩
                         have n3_ : Aside0 (w.heap.size ≤ gb434) := ⟨h3_⟩
                         have n4_ : Aside0 (w.heap.size ≤ gb434) := ⟨h4_⟩
                         have n5_ : Aside0 (Below w.heap.size w w51) := ⟨h5_⟩
                         clear Zd; clear ZJ; clear HB; clear h0_ h1_ h2_ h3_ h4_ h5_; have Zd := n0_; have Zj := n1_; have Za := n2_; have ZN := n3_; have Zc := n4_; have HB := n5_; clear n0_ n1_ n2_ n3_ n4_ n5_; have hHeld := trivial
                         obtain ⟨Ao52, co52, eo52⟩ := Kd.R_slice Zj.out
                         (first | subst eo52 | (injection eo52 with f1_ f2_ f3_; have f4_ := f1_.symm; have f5_ := f3_.symm; clear f1_ f2_ f3_; subst f4_; subst f5_))
                         refine norm_ (a' := ?_) ?_ ?_
                         rotate_left
                         ·simp only [putAll, Act.put, zs3, zz3, zt3]
                          rfl
                         refine one_ (i := 10) (N := some 62) #[tt, tt, tt, tt, tt, tt, tt, tt, tt, tt, tt, ff, ff, ff, tt, ff, ff] rfl rfl (one_of HT_.out (by kernel_rfl)) (by decide) (fun K hK => ?_)
                         refine goes_ Try.func7 (by kernel_rfl) rfl #[.agg #[.slice Ao52 y419.length co52, .slice none 0 0], .int .i64 t414, .slice Ao45 y423.length co45] (by rfl) rfl rfl zq ?_
                         refine (impl_MovesDo.calls k _ _ y419 _ _ ([] : List (S75)) t414 _ _ y423 t427 t430 t433 _ ?side1 ?side2 ?side3 ?side4 ?side5 ?side6 A12.out).mono ?_
                         (case side1 => exact zC ((Kd.R_reads' Zj.out).2.2))
                         (case side2 => exact (Kd.R_reads' Zj.out).2.1)
                         (case side3 => exact Kd.C_nil _ _)
                         (case side4 => exact Nat.le_refl _)
                         (case side5 => exact (show Kd.C k52 _ Ao45 y423.length y423 from by rw [Ny423.out]; exact Kd.C_take (m := (t422 : Int).toNat) ((Kd.R_reads' (z3_1 Zd.out)).2.2) KL44.out))
                         (case side6 => exact Zap.out)
                         rintro e w53 ⟨v428, v431, rfl, ho0, ho1, hb⟩
                         refine ⟨_, rfl, ?_⟩
                         have n0_ := zm3 (Kd.R_below (z3_1 Zd.out) hb); have n1_ := zm3 (Kd.R_elder' (z3_1 Zj.out) (Kd.R_base ho0) hb); have n2_ := zm3 (Kd.R_lower (Kd.R_new' ho0 (Kd.R_lt (z3_1 Zj.out))) (below_size (z3_3 HB.out Zc.out))); have n3_ := zm3 (Kd.R_lower ho1 (below_size (z3_3 HB.out Zc.out))); have n4_ := zm3 (blk_below (g := gb434) (o := .cells #[.slice none 0 0, .slice none 0 0] 32 (0, 0)) (z3_2 Za.out) hb); have n5_ := zm3 (below_step (z3_3 HB.out Zc.out) hb); clear Zd; clear Zj; clear Za; clear HB; have Zd := n0_; have Zj := n1_; have Zo := n2_; have Zp := n3_; have Za := n4_; have HB := n5_; clear n0_ n1_ n2_ n3_ n4_ n5_
                         (try clear hb)
                         (try clear hb2)
                         (try clear hk)
                         (try clear hi)
                         (try clear ho0)
                         (try clear ho1)
                         refine hK.out _ _ trivial (fun hHeld => ?_)
                         clear hK K
                         refine norm_ (a' := ?_) ?_ ?_
                         rotate_left
                         ·show Act.put _ (some 62) _ = _
                          simp only [Act.put, zs3, zz3, zt3, i64_w, i32_w]
                          rfl
                         refine pure_ (i := 11) (N := some 51) (v := ?_) (a' := ?_) #[tt, tt, tt, tt, tt, tt, tt, tt, tt, tt, tt, tt, ff, ff, tt, ff, ff] rfl rfl (any_of HT_.out (by kernel_rfl)) (fun _ _ _ h => h) (Or.inl ⟨by rfl, ?_⟩) ?_ ?_
                         rotate_left; (intro w'; go_simp; with_reducible rfl); rotate_left; (simp only [Act.put, zs3, zz3, zt3, i64_w, i32_w]; rfl)
                         refine pure_ (i := 12) (N := some 63) (v := ?_) (a' := ?_) #[tt, tt, tt, tt, tt, tt, tt, tt, tt, tt, tt, tt, tt, ff, tt, ff, ff] rfl rfl (any_of HT_.out (by kernel_rfl)) (fun _ _ _ h => h) (Or.inl ⟨by rfl, ?_⟩) ?_ ?_
                         rotate_left; (intro w'; go_simp; with_reducible rfl); rotate_left; (simp only [Act.put, zs3, zz3, zt3, i64_w, i32_w]; rfl)
                         refine pure_ (i := 13) (N := some 64) (v := ?_) (a' := ?_) #[tt, tt, tt, tt, tt, tt, tt, tt, tt, tt, tt, tt, tt, tt, tt, ff, ff] rfl rfl (any_of HT_.out (by kernel_rfl)) (fun _ _ _ h => h) (Or.inl ⟨by rfl, ?_⟩) ?_ ?_
                         rotate_left; (intro w'; go_simp; with_reducible rfl); rotate_left; (simp only [Act.put, zs3, zz3, zt3, i64_w, i32_w]; rfl)
                         exact norm_ (by first | (simp only [putAll, Act.put, zs3, zz3, zt3]; done) | (simp only [putAll, Act.put, zs3, zz3, zt3]; rfl)) (hJ0_8_10_14 (.slice Ao52 y419.length co52, v428, v431, gb434) _ ⟨(z3_1 Zd.out), (by (with_reducible repeat (first | apply Kd.R_alloc | apply Kd.R_drewN | apply Kd.R_drew)); exact Kd.R_mono Zj.out (fun _ hk => hk.2)), (by (with_reducible repeat (first | apply Kd.R_alloc | apply Kd.R_drewN | apply Kd.R_drew)); exact Kd.R_mono Zo.out (fun _ hk => hk.2)), (z3_1 Zp.out), (z3_2 Za.out), ZN.out, Zc.out, (z3_3 HB.out Zc.out)⟩)
                       ·skip
                        rintro ⟨v420, v428, v431⟩ w51 ⟨h0_, h1_, h2_, h3_, h4_⟩
                        have n0_ : Aside0 (Kd.R k52 52 w51 w.heap.size (fun _ => True) (.slice Ao45 t415.length co45) t415) := ⟨h0_⟩
                        have n1_ : Aside0 (Kd.R Kd.string 9 w51 w.heap.size (fun k_ => some k_ ≠ (v428 : Value).ownBlock) v420 y419) := ⟨h1_⟩
                        have n2_ : Aside0 (Kd.R Kd.string 9 w51 w.heap.size (fun k_ => some k_ ≠ (v420 : Value).ownBlock) v428 t427) := ⟨h2_⟩
                        have n3_ : Aside0 (Kd.R k75 75 w51 w.heap.size (fun _ => True) v431 t430) := ⟨h3_⟩
                        have n4_ : Aside0 (Below w.heap.size w w51) := ⟨h4_⟩
                        clear Zd; clear ZJ; clear HB; clear h0_ h1_ h2_ h3_ h4_; have Zd := n0_; have Zj := n1_; have Zo := n2_; have Zp := n3_; have HB := n4_; clear n0_ n1_ n2_ n3_ n4_; have hHeld := trivial
                        obtain ⟨Ao52, co52, eo52⟩ := Kd.R_slice Zj.out
                        (first | subst eo52 | (injection eo52 with f1_ f2_ f3_; have f4_ := f1_.symm; have f5_ := f3_.symm; clear f1_ f2_ f3_; subst f4_; subst f5_))
                        refine norm_ (a' := ?_) ?_ ?_
                        rotate_left
                        ·simp only [putAll, Act.put, zs3, zz3, zt3]
                         rfl
                        refine one_ (i := 14) (N := some 11) #[tt, tt, tt, tt, tt, tt, tt, tt, tt, tt, tt, tt, tt, tt, tt, ff, ff] rfl rfl (one_of HT_.out (by kernel_rfl)) (by decide) (fun K hK => ?_)
                        refine box_step ?hg (N := 11) ?hd (cs := #[.slice none 0 0, .slice none 0 0]) (t := 32) ?hr ?_; (case hd => rfl); (case hg => rfl); (case hr => first | (go_simp; done) | (go_simp; rfl))
                        intro gb434 hg w53 hbox hb
                        have n0_ := zm3 (Kd.R_below (z3_1 Zd.out) hb); have n1_ := zm3 (Kd.R_below (z3_1 Zj.out) hb); have n2_ := zm3 (Kd.R_below (z3_1 Zo.out) hb); have n3_ := zm3 (Kd.R_below (z3_1 Zp.out) hb); have n4_ := zm3 (below_step (z3_0 HB.out) hb); have n5_ := zm3 (hbox); have n6_ := zm3 ((by rw [hg]; exact (below_size (z3_0 HB.out)) : w.heap.size ≤ gb434)); have n7_ := zm3 ((by rw [hg]; exact (below_size (z3_0 HB.out)) : w.heap.size ≤ gb434)); clear Zd; clear Zj; clear Zo; clear Zp; clear HB; have Zd := n0_; have Zj := n1_; have Zo := n2_; have Zp := n3_; have HB := n4_; have Za := n5_; have ZN := n6_; have Zc := n7_; clear n0_ n1_ n2_ n3_ n4_ n5_ n6_ n7_; clear hb hbox hg
                        refine hK.out _ _ trivial (fun hHeld => ?_)
                        clear hK K
                        refine norm_ (a' := ?_) ?_ ?_
                        rotate_left
                        ·show Act.put _ (some 11) _ = _
                         simp only [Act.put, zs3, zz3, zt3, i64_w, i32_w]
                         rfl
                        exact norm_ (by first | (simp only [putAll, Act.put, zs3, zz3, zt3]; done) | (simp only [putAll, Act.put, zs3, zz3, zt3]; rfl)) (hJ0_8_10_14 (.slice Ao52 y419.length co52, v428, v431, gb434) _ ⟨(z3_1 Zd.out), (z3_1 Zj.out), (z3_1 Zo.out), (z3_1 Zp.out), (z3_2 Za.out), ZN.out, Zc.out, (z3_3 HB.out Zc.out)⟩)
                      rintro ⟨v420, v428, v431, gb434⟩ w52 ⟨h0_, h1_, h2_, h3_, h4_, h5_, h6_, h7_⟩
                      have n0_ : Aside0 (Kd.R k52 52 w52 w.heap.size (fun _ => True) (.slice Ao45 t415.length co45) t415) := ⟨h0_⟩
                      have n1_ : Aside0 (Kd.R Kd.string 9 w52 w.heap.size (fun k_ => some k_ ≠ (v428 : Value).ownBlock) v420 y419) := ⟨h1_⟩
                      have n2_ : Aside0 (Kd.R Kd.string 9 w52 w.heap.size (fun k_ => some k_ ≠ (v420 : Value).ownBlock) v428 t427) := ⟨h2_⟩
                      have n3_ : Aside0 (Kd.R k75 75 w52 w.heap.size (fun _ => True) v431 t430) := ⟨h3_⟩
                      have n4_ : Aside0 (w52.heap[gb434]? = some (.cells #[.slice none 0 0, .slice none 0 0] 32 (0, 0))) := ⟨h4_⟩
                      have n5_ : Aside0 (w.heap.size ≤ gb434) := ⟨h5_⟩
                      have n6_ : Aside0 (w.heap.size ≤ gb434) := ⟨h6_⟩
                      have n7_ : Aside0 (Below w.heap.size w w52) := ⟨h7_⟩
                      clear Zd; clear ZJ; clear HB; clear h0_ h1_ h2_ h3_ h4_ h5_ h6_ h7_; have Zd := n0_; have Zj := n1_; have Zo := n2_; have Zp := n3_; have Za := n4_; have ZN := n5_; have Zc := n6_; have HB := n7_; clear n0_ n1_ n2_ n3_ n4_ n5_ n6_ n7_; have hHeld := trivial
                      obtain ⟨Ao53, co53, eo53⟩ := Kd.R_slice Zj.out
                      (first | subst eo53 | (injection eo53 with f1_ f2_ f3_; have f4_ := f1_.symm; have f5_ := f3_.symm; clear f1_ f2_ f3_; subst f4_; subst f5_))
                      obtain ⟨Ao54, co54, eo54⟩ := Kd.R_slice Zo.out
                      (first | subst eo54 | (injection eo54 with f1_ f2_ f3_; have f4_ := f1_.symm; have f5_ := f3_.symm; clear f1_ f2_ f3_; subst f4_; subst f5_))
                      obtain ⟨Ao56, co56, eo56⟩ := Kd.R_slice Zp.out
                      (first | subst eo56 | (injection eo56 with f1_ f2_ f3_; have f4_ := f1_.symm; have f5_ := f3_.symm; clear f1_ f2_ f3_; subst f4_; subst f5_))
                      refine norm_ (a' := ?_) ?_ ?_
                      rotate_left
                      ·simp only [putAll, Act.put, zs3, zz3, zt3]
                       rfl
                      refine one_ (i := 15) (N := none) #[tt, tt, tt, tt, tt, tt, tt, tt, tt, tt, tt, tt, tt, tt, tt, tt, ff] rfl rfl (one_of HT_.out (by kernel_rfl)) (by decide) (fun K hK => ?_)
                      have hs55 : w52.cell? ⟨gb434, 0, none⟩ = some (.slice none 0 0) := (blk_cell Za.out 0).trans rfl
                      have hfs55 := blk_frozen Za.out 0
                      have hs57 : w52.cell? ⟨gb434, 1, none⟩ = some (.slice none 0 0) := (blk_cell Za.out 1).trans rfl
                      have hfs57 := blk_frozen Za.out 1
                      refine skip_ (w1 := ?_) (by rfl) rfl ?_ ?_
                      rotate_left
                      ·go_simp
                       rfl
                      refine hK.out _ _ trivial (fun hHeld => ?_)
                      clear hK K
                      refine pure_ (i := 16) (N := some 12) (v := ?_) (a' := ?_) #[tt, tt, tt, tt, tt, tt, tt, tt, tt, tt, tt, tt, tt, tt, tt, tt, tt] rfl rfl (any_of HT_.out (by kernel_rfl)) (fun _ _ _ h => h) (Or.inl ⟨by rfl, ?_⟩) ?_ ?_
                      rotate_left; (intro w'; go_simp; with_reducible rfl); rotate_left; (simp only [Act.put, zs3, zz3, zt3, i64_w, i32_w]; rfl)
                      refine done_ (done_of HT_.out (by kernel_rfl)) ?_
                      try go_wp2
                      have n0_ : Aside0 (Kd.R k52 52 ((w52.setCell ⟨gb434, 0, none⟩ (.slice Ao54 t427.length co54)).setCell ⟨gb434, 1, none⟩ (.slice Ao56 t430.length co56)) w.heap.size (fun _ => True) (.slice Ao45 t415.length co45) t415) := ⟨by (with_reducible repeat (first | apply Kd.R_alloc | apply Kd.R_drewN | apply Kd.R_drew)); exact Kd.R_mono (Kd.R_far (Kd.R_far (Kd.R_types Zd.out Za.out (by decide)) (fun _ hk => hk.2) _) (fun _ hk => hk.2) _) (fun _ hk => trivial)⟩
                      have n1_ : Aside0 (Kd.R Kd.string 9 ((w52.setCell ⟨gb434, 0, none⟩ (.slice Ao54 t427.length co54)).setCell ⟨gb434, 1, none⟩ (.slice Ao56 t430.length co56)) w.heap.size (fun k_ => some k_ ≠ (.slice Ao54 t427.length co54 : Value).ownBlock) (.slice Ao53 y419.length co53) y419) := ⟨by (with_reducible repeat (first | apply Kd.R_alloc | apply Kd.R_drewN | apply Kd.R_drew)); exact Kd.R_mono (Kd.R_far (Kd.R_far (Kd.R_types Zj.out Za.out (by decide)) (fun _ hk => hk.2) _) (fun _ hk => hk.2) _) (fun _ hk => hk.1)⟩
                      have n2_ : Aside0 (Kd.R Kd.string 9 ((w52.setCell ⟨gb434, 0, none⟩ (.slice Ao54 t427.length co54)).setCell ⟨gb434, 1, none⟩ (.slice Ao56 t430.length co56)) w.heap.size (fun k_ => some k_ ≠ (.slice Ao53 y419.length co53 : Value).ownBlock) (.slice Ao54 t427.length co54) t427) := ⟨by (with_reducible repeat (first | apply Kd.R_alloc | apply Kd.R_drewN | apply Kd.R_drew)); exact Kd.R_mono (Kd.R_far (Kd.R_far (Kd.R_types Zo.out Za.out (by decide)) (fun _ hk => hk.2) _) (fun _ hk => hk.2) _) (fun _ hk => hk.1)⟩
                      have n3_ : Aside0 (Kd.R k75 75 ((w52.setCell ⟨gb434, 0, none⟩ (.slice Ao54 t427.length co54)).setCell ⟨gb434, 1, none⟩ (.slice Ao56 t430.length co56)) w.heap.size (fun _ => True) (.slice Ao56 t430.length co56) t430) := ⟨by (with_reducible repeat (first | apply Kd.R_alloc | apply Kd.R_drewN | apply Kd.R_drew)); exact Kd.R_mono (Kd.R_far (Kd.R_far (Kd.R_types Zp.out Za.out (by decide)) (fun _ hk => hk.2) _) (fun _ hk => hk.2) _) (fun _ hk => trivial)⟩
                      have n4_ : Aside0 (((w52.setCell ⟨gb434, 0, none⟩ (.slice Ao54 t427.length co54)).setCell ⟨gb434, 1, none⟩ (.slice Ao56 t430.length co56)).heap[gb434]? = some (.cells #[.slice Ao54 t427.length co54, .slice Ao56 t430.length co56] 32 (0, 0))) := ⟨by (with_reducible repeat (first | refine blk_drewN ?_ _ | refine blk_drew ?_ | refine blk_alloc ?_ _)); refine blk_put (cs := #[.slice Ao54 t427.length co54, .slice none 0 0]) ?_ 1 _ rfl; (with_reducible repeat (first | refine blk_drewN ?_ _ | refine blk_drew ?_ | refine blk_alloc ?_ _)); refine blk_put (cs := #[.slice none 0 0, .slice none 0 0]) ?_ 0 _ rfl; (with_reducible repeat (first | refine blk_drewN ?_ _ | refine blk_drew ?_ | refine blk_alloc ?_ _)); exact Za.out⟩
                      have n5_ : Aside0 (Below w.heap.size w ((w52.setCell ⟨gb434, 0, none⟩ (.slice Ao54 t427.length co54)).setCell ⟨gb434, 1, none⟩ (.slice Ao56 t430.length co56))) := ⟨z3_3 HB.out Zc.out⟩
                      (try clear Zd)
                      (try clear Zj)
                      (try clear Zo)
                      (try clear Zp)
                      (try clear Za)
                      (try clear HB)
                      generalize ((w52.setCell ⟨gb434, 0, none⟩ (.slice Ao54 t427.length co54)).setCell ⟨gb434, 1, none⟩ (.slice Ao56 t430.length co56)) = w58 at n0_ n1_ n2_ n3_ n4_ n5_ ⊢
                      have Zd := n0_; have Zj := n1_; have Zo := n2_; have Zp := n3_; have Za := n4_; have HB := n5_; clear n0_ n1_ n2_ n3_ n4_ n5_; have n0_ := zm3 (Kd.R_drew Zd.out); have n1_ := zm3 (Kd.R_drew Zj.out); have n2_ := zm3 (Kd.R_drew Zo.out); have n3_ := zm3 (Kd.R_drew Zp.out); have n4_ := zm3 (blk_drew Za.out); have n5_ := zm3 (below_drew1 HB.out); clear Zd; clear Zj; clear Zo; clear Zp; clear Za; clear HB; have Zd := n0_; have Zj := n1_; have Zo := n2_; have Zp := n3_; have Za := n4_; have HB := n5_; clear n0_ n1_ n2_ n3_ n4_ n5_
                      refine start_ (n := 11) (S := fun w' => w'.cell? ⟨gb434, 0, none⟩ = some (.slice Ao54 t427.length co54) ∧ w'.cell? ⟨gb434, 1, none⟩ = some (.slice Ao56 t430.length co56)) (ds := []) #[false, false, false, false, false, false, false, false, false, false, false] (by kernel_rfl) rfl rfl ⟨(blk_cell Za.out 0).trans rfl, (blk_cell Za.out 1).trans rfl⟩ (fun hHeld => ?_); refine with_tabW laws_FnReplay.tab9 laws_FnReplay.bits9 (fun HT_ HW_ => ?_)
                      generalize w58.drew = w59 at Zd Zj Zo Zp Za HB hHeld ⊢
                      refine pure_ (i := 1) (N := some 67) (v := ?_) (a' := ?_) #[ff, tt, ff, ff, ff, ff, ff, ff, ff, ff, ff] rfl rfl (any_of HT_.out (by kernel_rfl)) (fun _ _ _ h => h) (Or.inl ⟨by rfl, ?_⟩) ?_ ?_
                      rotate_left; (intro w'; go_simp; with_reducible rfl); rotate_left; (simp only [Act.put, zs3, zz3, zt3, i64_w, i32_w]; rfl)
                      refine pure_ (i := 2) (N := some 68) (v := ?_) (a' := ?_) #[ff, tt, tt, ff, ff, ff, ff, ff, ff, ff, ff] rfl rfl (any_of HT_.out (by kernel_rfl)) (fun _ _ _ h => h) (Or.inl ⟨by rfl, ?_⟩) ?_ ?_
                      rotate_left; (intro w'; go_simp; with_reducible rfl); rotate_left; (simp only [Act.put, zs3, zz3, zt3, i64_w, i32_w]; rfl)
                      refine take_ (i := 0) (N := some 66) (v := ?_) (a' := ?_) #[tt, tt, tt, ff, ff, ff, ff, ff, ff, ff, ff] rfl rfl (take_ofW HT_.out HW_.out (by kernel_rfl)) (fun _ _ _ h => h) (Or.inl ⟨by rfl, ?_⟩) hHeld ?_ ?_
                      rotate_left
                      ·rintro w' ⟨s0, s1⟩
                       go_simp
                       with_reducible rfl
                      rotate_left
                      ·simp only [Act.put, zs3, zz3, zt3, i64_w, i32_w]
                       rfl
                      refine join_ (σ := Value × Value × Nat) 2 #[tt, tt, tt, tt, tt, tt, tt, tt, tt, ff, ff] (fun s_ => [(69, .int .i64 t435), (70, .tuple #[.agg #[s_.1, s_.2.1], .int .i64 t442]), (13, .pointer (some ⟨s_.2.2, 0, none⟩)), (65, .tuple #[.agg #[s_.1, s_.2.1], .int .i64 t442]), (71, .agg #[s_.1, s_.2.1]), (72, .int .i64 t442)]) (fun s_ w' => (w'.cell? ⟨gb434, 0, none⟩ = some (.slice Ao54 t427.length co54) ∧ w'.cell? ⟨gb434, 1, none⟩ = some (.slice Ao56 t430.length co56)) ∧ (Kd.R k52 52 w' w.heap.size (fun _ => True) (.slice Ao45 t415.length co45) t415) ∧ (Kd.R Kd.string 9 w' w.heap.size (fun k_ => some k_ ≠ (.slice Ao54 t427.length co54 : Value).ownBlock ∧ some k_ ≠ (s_.1 : Value).ownBlock) (.slice Ao53 y419.length co53) y419) ∧ (Kd.R Kd.string 9 w' w.heap.size (fun k_ => some k_ ≠ (.slice Ao53 y419.length co53 : Value).ownBlock ∧ some k_ ≠ (s_.1 : Value).ownBlock) (.slice Ao54 t427.length co54) t427) ∧ (Kd.R k75 75 w' w.heap.size (fun k_ => some k_ ≠ (s_.2.1 : Value).ownBlock) (.slice Ao56 t430.length co56) t430) ∧ (Kd.R Kd.string 9 w' w.heap.size (fun k_ => some k_ ≠ (.slice Ao53 y419.length co53 : Value).ownBlock ∧ some k_ ≠ (.slice Ao54 t427.length co54 : Value).ownBlock) s_.1 t436) ∧ (Kd.R k75 75 w' w.heap.size (fun k_ => some k_ ≠ (.slice Ao56 t430.length co56 : Value).ownBlock) s_.2.1 t439) ∧ (w'.heap[gb434]? = some (.cells #[.slice Ao54 t427.length co54, .slice Ao56 t430.length co56] 32 (0, 0))) ∧ (w'.heap[s_.2.2]? = some (.cells #[.slice none 0 0, .slice none 0 0] 32 (0, 0))) ∧ (w.heap.size ≤ s_.2.2) ∧ (w.heap.size ≤ s_.2.2) ∧ (gb434 ≠ s_.2.2) ∧ (s_.2.2 ≠ gb434) ∧ (Below w.heap.size w w')) ?_ ?_
                      rotate_left
                      ·intro hCont
                       refine two_ (i := 3) (j := 8) (Ni := some 69) (Nj := some 13) #[tt, tt, tt, tt, ff, ff, ff, ff, ff, ff, ff] #[tt, tt, tt, ff, ff, ff, ff, ff, tt, ff, ff] rfl rfl rfl rfl (two_of HT_.out (by kernel_rfl)) (by decide) (by decide) (fun K hK => ?_) (fun K hK => ?_)
                       ·skip
                        refine goes_ Try.func5 (by kernel_rfl) rfl #[.slice A1 l1.length c1, .int .i64 2, .int .i64 6] (by rfl) rfl rfl zq ?_
                        with_reducible refine (laws_at.calls _ _ l1 2 6 t435 _ ?side1 ?side2 A13.out).mono ?_
                        (case side1 => exact zC (Kd.C_below HR1.out HB.out))
                        (case side2 => exact HC1.out)
                        rintro e w' ⟨rfl, ⟨nd, rfl⟩⟩
                        refine ⟨_, rfl, ?_⟩
                        refine hK.out _ _ ⟨(blk_cell Za.out 0).trans rfl, (blk_cell Za.out 1).trans rfl⟩ (fun hHeld => ?_)
                        clear hK K
                        refine norm_ (a' := ?_) ?_ ?_
                        rotate_left
                        ·show Act.put _ (some 69) _ = _
                         simp only [Act.put, zs3, zz3, zt3, i64_w, i32_w]
                         rfl
                        refine two_ (i := 4) (j := 8) (Ni := some 70) (Nj := some 13) #[tt, tt, tt, tt, tt, ff, ff, ff, ff, ff, ff] #[tt, tt, tt, tt, ff, ff, ff, ff, tt, ff, ff] rfl rfl rfl rfl (two_of HT_.out (by kernel_rfl)) (by decide) (by decide) (fun K hK => ?_) (fun K hK => ?_)
                        ·skip
                         refine goes_ Try.func8 (by kernel_rfl) rfl #[.agg #[.slice Ao54 t427.length co54, .slice Ao56 t430.length co56], .int .i64 t414, .int .i64 t435] (by rfl) rfl rfl zq ?_
                         with_reducible refine (impl_LoseHost.calls _ _ t427 _ _ t430 t414 t435 t436 t439 t442 _ ?side1 ?side2 ?side3 ?side4 A14.out).mono ?_
                         (case side1 => exact zC ((Kd.R_reads' Zo.out).2.2))
                         (case side2 => exact (Kd.R_reads' Zo.out).2.1)
                         (case side3 => exact zC ((Kd.R_reads' Zp.out).2.2))
                         (case side4 => exact (Kd.R_reads' Zp.out).2.1)
                         rintro e w60 ⟨v437, v440, rfl, ho0, ho1, hb⟩
                         refine ⟨_, rfl, ?_⟩
                         have n0_ := zm3 (Kd.R_below (z3_1 Zd.out) hb); have n1_ := zm3 (Kd.R_elder' (z3_1 Zj.out) (Kd.R_base ho0) hb); have n2_ := zm3 (Kd.R_elder' (z3_1 Zo.out) (Kd.R_base ho0) hb); have n3_ := zm3 (Kd.R_elder' (z3_1 Zp.out) (Kd.R_base ho1) hb); have n4_ := zm3 (Kd.R_lower (Kd.R_new' (Kd.R_new' ho0 (Kd.R_lt (z3_1 Zj.out))) (Kd.R_lt (z3_1 Zo.out))) (below_size (z3_3 HB.out Zc.out))); have n5_ := zm3 (Kd.R_lower (Kd.R_new' ho1 (Kd.R_lt (z3_1 Zp.out))) (below_size (z3_3 HB.out Zc.out))); have n6_ := zm3 (blk_below (g := gb434) (o := .cells #[.slice Ao54 t427.length co54, .slice Ao56 t430.length co56] 32 (0, 0)) (z3_2 Za.out) hb); have n7_ := zm3 (below_step (z3_3 HB.out Zc.out) hb); clear Zd; clear Zj; clear Zo; clear Zp; clear Za; clear HB; have Zd := n0_; have Zj := n1_; have Zo := n2_; have Zp := n3_; have Zf := n4_; have Zg := n5_; have Za := n6_; have HB := n7_; clear n0_ n1_ n2_ n3_ n4_ n5_ n6_ n7_
                         (try clear hb)
                         (try clear hb2)
                         (try clear hk)
                         (try clear hi)
                         (try clear ho0)
                         (try clear ho1)
                         refine hK.out _ _ ⟨(blk_cell Za.out 0).trans rfl, (blk_cell Za.out 1).trans rfl⟩ (fun hHeld => ?_)
                         clear hK K
                         refine norm_ (a' := ?_) ?_ ?_
                         rotate_left
                         ·show Act.put _ (some 70) _ = _
                          simp only [Act.put, zs3, zz3, zt3, i64_w, i32_w]
                          rfl
                         refine pure_ (i := 5) (N := some 65) (v := ?_) (a' := ?_) #[tt, tt, tt, tt, tt, tt, ff, ff, ff, ff, ff] rfl rfl (any_of HT_.out (by kernel_rfl)) (fun _ _ _ h => h) (Or.inl ⟨by rfl, ?_⟩) ?_ ?_
                         rotate_left; (intro w'; go_simp; with_reducible rfl); rotate_left; (simp only [Act.put, zs3, zz3, zt3, i64_w, i32_w]; rfl)
                         refine pure_ (i := 6) (N := some 71) (v := ?_) (a' := ?_) #[tt, tt, tt, tt, tt, tt, tt, ff, ff, ff, ff] rfl rfl (any_of HT_.out (by kernel_rfl)) (fun _ _ _ h => h) (Or.inl ⟨by rfl, ?_⟩) ?_ ?_
                         rotate_left; (intro w'; go_simp; with_reducible rfl); rotate_left; (simp only [Act.put, zs3, zz3, zt3, i64_w, i32_w]; rfl)
                         refine pure_ (i := 7) (N := some 72) (v := ?_) (a' := ?_) #[tt, tt, tt, tt, tt, tt, tt, tt, ff, ff, ff] rfl rfl (any_of HT_.out (by kernel_rfl)) (fun _ _ _ h => h) (Or.inl ⟨by rfl, ?_⟩) ?_ ?_
                         rotate_left; (intro w'; go_simp; with_reducible rfl); rotate_left; (simp only [Act.put, zs3, zz3, zt3, i64_w, i32_w]; rfl)
                         refine one_ (i := 8) (N := some 13) #[tt, tt, tt, tt, tt, tt, tt, tt, tt, ff, ff] rfl rfl (one_of HT_.out (by kernel_rfl)) (by decide) (fun K hK => ?_)
                         refine box_step ?hg (N := 13) ?hd (cs := #[.slice none 0 0, .slice none 0 0]) (t := 32) ?hr ?_; (case hd => rfl); (case hg => rfl); (case hr => first | (go_simp; done) | (go_simp; rfl))
                         intro gb443 hg w61 hbox hb
                         have n0_ := zm3 (Kd.R_below (z3_1 Zd.out) hb); have n1_ := zm3 (Kd.R_below (z3_1 Zj.out) hb); have n2_ := zm3 (Kd.R_below (z3_1 Zo.out) hb); have n3_ := zm3 (Kd.R_below (z3_1 Zp.out) hb); have n4_ := zm3 (Kd.R_below (z3_1 Zf.out) hb); have n5_ := zm3 (Kd.R_below (z3_1 Zg.out) hb); have n6_ := zm3 (blk_below (g := gb434) (o := .cells #[.slice Ao54 t427.length co54, .slice Ao56 t430.length co56] 32 (0, 0)) (z3_2 Za.out) hb); have n7_ := zm3 (below_step (z3_3 HB.out Zc.out) hb); have n8_ := zm3 (hbox); have n9_ := zm3 ((by rw [hg]; exact (below_size (z3_3 HB.out Zc.out)) : w.heap.size ≤ gb443)); have n10_ := zm3 ((by rw [hg]; exact (below_size (z3_3 HB.out Zc.out)) : w.heap.size ≤ gb443)); have n11_ := zm3 ((by rw [hg]; exact Nat.ne_of_lt (blk_lt (g := gb434) (o := .cells #[.slice Ao54 t427.length co54, .slice Ao56 t430.length co56] 32 (0, 0)) (z3_2 Za.out)) : gb434 ≠ gb443)); have n12_ := zm3 ((by rw [hg]; exact Nat.ne_of_gt (blk_lt (g := gb434) (o := .cells #[.slice Ao54 t427.length co54, .slice Ao56 t430.length co56] 32 (0, 0)) (z3_2 Za.out)) : gb443 ≠ gb434)); clear Zd; clear Zj; clear Zo; clear Zp; clear Zf; clear Zg; clear Za; clear HB; have Zd := n0_; have Zj := n1_; have Zo := n2_; have Zp := n3_; have Zf := n4_; have Zg := n5_; have Za := n6_; have HB := n7_; have Zb := n8_; have Zab := n9_; have Zk := n10_; have Zu := n11_; have ZE := n12_; clear n0_ n1_ n2_ n3_ n4_ n5_ n6_ n7_ n8_ n9_ n10_ n11_ n12_; clear hb hbox hg
                         refine hK.out _ _ ⟨(blk_cell Za.out 0).trans rfl, (blk_cell Za.out 1).trans rfl⟩ (fun hHeld => ?_)
                         clear hK K
                         refine norm_ (a' := ?_) ?_ ?_
                         rotate_left
                         ·show Act.put _ (some 13) _ = _
                          simp only [Act.put, zs3, zz3, zt3, i64_w, i32_w]
                          rfl
                         exact norm_ (by simp only [putAll, Act.put, zs3, zz3, zt3]) (hCont (v437, v440, gb443) _ ⟨hHeld, (z3_1 Zd.out), (z3_1 Zj.out), (z3_1 Zo.out), (by (with_reducible repeat (first | apply Kd.R_alloc | apply Kd.R_drewN | apply Kd.R_drew)); exact Kd.R_mono Zp.out (fun _ hk => hk.2)), (by (with_reducible repeat (first | apply Kd.R_alloc | apply Kd.R_drewN | apply Kd.R_drew)); exact Kd.R_mono Zf.out (fun _ hk => ⟨hk.1.2, hk.2⟩)), (by (with_reducible repeat (first | apply Kd.R_alloc | apply Kd.R_drewN | apply Kd.R_drew)); exact Kd.R_mono Zg.out (fun _ hk => hk.2)), (z3_2 Za.out), (z3_2 Zb.out), Zab.out, Zk.out, Zu.out, ZE.out, (z3_4 HB.out Zc.out Zk.out)⟩)
                        ·skip
                         refine box_step ?hg (N := 13) ?hd (cs := #[.slice none 0 0, .slice none 0 0]) (t := 32) ?hr ?_; (case hd => rfl); (case hg => rfl); (case hr => first | (go_simp; done) | (go_simp; rfl))
                         intro gb443 hg w60 hbox hb
                         have n0_ := zm3 (Kd.R_below (z3_1 Zd.out) hb); have n1_ := zm3 (Kd.R_below (z3_1 Zj.out) hb); have n2_ := zm3 (Kd.R_below (z3_1 Zo.out) hb); have n3_ := zm3 (Kd.R_below (z3_1 Zp.out) hb); have n4_ := zm3 (blk_below (g := gb434) (o := .cells #[.slice Ao54 t427.length co54, .slice Ao56 t430.length co56] 32 (0, 0)) (z3_2 Za.out) hb); have n5_ := zm3 (below_step (z3_3 HB.out Zc.out) hb); have n6_ := zm3 (hbox); have n7_ := zm3 ((by rw [hg]; exact (below_size (z3_3 HB.out Zc.out)) : w.heap.size ≤ gb443)); have n8_ := zm3 ((by rw [hg]; exact (below_size (z3_3 HB.out Zc.out)) : w.heap.size ≤ gb443)); have n9_ := zm3 ((by rw [hg]; exact Nat.ne_of_lt (blk_lt (g := gb434) (o := .cells #[.slice Ao54 t427.length co54, .slice Ao56 t430.length co56] 32 (0, 0)) (z3_2 Za.out)) : gb434 ≠ gb443)); have n10_ := zm3 ((by rw [hg]; exact Nat.ne_of_gt (blk_lt (g := gb434) (o := .cells #[.slice Ao54 t427.length co54, .slice Ao56 t430.length co56] 32 (0, 0)) (z3_2 Za.out)) : gb443 ≠ gb434)); clear Zd; clear Zj; clear Zo; clear Zp; clear Za; clear HB; have Zd := n0_; have Zj := n1_; have Zo := n2_; have Zp := n3_; have Za := n4_; have HB := n5_; have Zb := n6_; have Zab := n7_; have Zk := n8_; have Zu := n9_; have ZE := n10_; clear n0_ n1_ n2_ n3_ n4_ n5_ n6_ n7_ n8_ n9_ n10_; clear hb hbox hg
                         refine hK.out _ _ ⟨(blk_cell Za.out 0).trans rfl, (blk_cell Za.out 1).trans rfl⟩ (fun hHeld => ?_)
                         clear hK K
                         refine norm_ (a' := ?_) ?_ ?_
                         rotate_left
                         ·show Act.put _ (some 13) _ = _
                          simp only [Act.put, zs3, zz3, zt3, i64_w, i32_w]
                          rfl
                         refine one_ (i := 4) (N := some 70) #[tt, tt, tt, tt, tt, ff, ff, ff, tt, ff, ff] rfl rfl (one_of HT_.out (by kernel_rfl)) (by decide) (fun K hK => ?_)
                         refine goes_ Try.func8 (by kernel_rfl) rfl #[.agg #[.slice Ao54 t427.length co54, .slice Ao56 t430.length co56], .int .i64 t414, .int .i64 t435] (by rfl) rfl rfl zq ?_
                         with_reducible refine (impl_LoseHost.calls _ _ t427 _ _ t430 t414 t435 t436 t439 t442 _ ?side1 ?side2 ?side3 ?side4 A14.out).mono ?_
                         (case side1 => exact zC ((Kd.R_reads' Zo.out).2.2))
                         (case side2 => exact (Kd.R_reads' Zo.out).2.1)
                         (case side3 => exact zC ((Kd.R_reads' Zp.out).2.2))
                         (case side4 => exact (Kd.R_reads' Zp.out).2.1)
                         rintro e w61 ⟨v437, v440, rfl, ho0, ho1, hb⟩
                         refine ⟨_, rfl, ?_⟩
                         have n0_ := zm3 (Kd.R_below (z3_1 Zd.out) hb); have n1_ := zm3 (Kd.R_elder' (z3_1 Zj.out) (Kd.R_base ho0) hb); have n2_ := zm3 (Kd.R_elder' (z3_1 Zo.out) (Kd.R_base ho0) hb); have n3_ := zm3 (Kd.R_elder' (z3_1 Zp.out) (Kd.R_base ho1) hb); have n4_ := zm3 (Kd.R_lower (Kd.R_new' (Kd.R_new' ho0 (Kd.R_lt (z3_1 Zj.out))) (Kd.R_lt (z3_1 Zo.out))) (below_size (z3_4 HB.out Zc.out Zk.out))); have n5_ := zm3 (Kd.R_lower (Kd.R_new' ho1 (Kd.R_lt (z3_1 Zp.out))) (below_size (z3_4 HB.out Zc.out Zk.out))); have n6_ := zm3 (blk_below (g := gb434) (o := .cells #[.slice Ao54 t427.length co54, .slice Ao56 t430.length co56] 32 (0, 0)) (z3_2 Za.out) hb); have n7_ := zm3 (blk_below (g := gb443) (o := .cells #[.slice none 0 0, .slice none 0 0] 32 (0, 0)) (z3_2 Zb.out) hb); have n8_ := zm3 (below_step (z3_4 HB.out Zc.out Zk.out) hb); clear Zd; clear Zj; clear Zo; clear Zp; clear Za; clear Zb; clear HB; have Zd := n0_; have Zj := n1_; have Zo := n2_; have Zp := n3_; have Zf := n4_; have Zg := n5_; have Za := n6_; have Zb := n7_; have HB := n8_; clear n0_ n1_ n2_ n3_ n4_ n5_ n6_ n7_ n8_
                         (try clear hb)
                         (try clear hb2)
                         (try clear hk)
                         (try clear hi)
                         (try clear ho0)
                         (try clear ho1)
                         refine hK.out _ _ ⟨(blk_cell Za.out 0).trans rfl, (blk_cell Za.out 1).trans rfl⟩ (fun hHeld => ?_)
                         clear hK K
                         refine norm_ (a' := ?_) ?_ ?_
                         rotate_left
                         ·show Act.put _ (some 70) _ = _
                          simp only [Act.put, zs3, zz3, zt3, i64_w, i32_w]
                          rfl
                         refine pure_ (i := 5) (N := some 65) (v := ?_) (a' := ?_) #[tt, tt, tt, tt, tt, tt, ff, ff, tt, ff, ff] rfl rfl (any_of HT_.out (by kernel_rfl)) (fun _ _ _ h => h) (Or.inl ⟨by rfl, ?_⟩) ?_ ?_
                         rotate_left; (intro w'; go_simp; with_reducible rfl); rotate_left; (simp only [Act.put, zs3, zz3, zt3, i64_w, i32_w]; rfl)
                         refine pure_ (i := 6) (N := some 71) (v := ?_) (a' := ?_) #[tt, tt, tt, tt, tt, tt, tt, ff, tt, ff, ff] rfl rfl (any_of HT_.out (by kernel_rfl)) (fun _ _ _ h => h) (Or.inl ⟨by rfl, ?_⟩) ?_ ?_
                         rotate_left; (intro w'; go_simp; with_reducible rfl); rotate_left; (simp only [Act.put, zs3, zz3, zt3, i64_w, i32_w]; rfl)
                         refine pure_ (i := 7) (N := some 72) (v := ?_) (a' := ?_) #[tt, tt, tt, tt, tt, tt, tt, tt, tt, ff, ff] rfl rfl (any_of HT_.out (by kernel_rfl)) (fun _ _ _ h => h) (Or.inl ⟨by rfl, ?_⟩) ?_ ?_
                         rotate_left; (intro w'; go_simp; with_reducible rfl); rotate_left; (simp only [Act.put, zs3, zz3, zt3, i64_w, i32_w]; rfl)
                         exact norm_ (by simp only [putAll, Act.put, zs3, zz3, zt3]) (hCont (v437, v440, gb443) _ ⟨hHeld, (z3_1 Zd.out), (z3_1 Zj.out), (z3_1 Zo.out), (by (with_reducible repeat (first | apply Kd.R_alloc | apply Kd.R_drewN | apply Kd.R_drew)); exact Kd.R_mono Zp.out (fun _ hk => hk.2)), (by (with_reducible repeat (first | apply Kd.R_alloc | apply Kd.R_drewN | apply Kd.R_drew)); exact Kd.R_mono Zf.out (fun _ hk => ⟨hk.1.2, hk.2⟩)), (by (with_reducible repeat (first | apply Kd.R_alloc | apply Kd.R_drewN | apply Kd.R_drew)); exact Kd.R_mono Zg.out (fun _ hk => hk.2)), (z3_2 Za.out), (z3_2 Zb.out), Zab.out, Zk.out, Zu.out, ZE.out, (z3_4 HB.out Zc.out Zk.out)⟩)
                       ·skip
                        refine box_step ?hg (N := 13) ?hd (cs := #[.slice none 0 0, .slice none 0 0]) (t := 32) ?hr ?_; (case hd => rfl); (case hg => rfl); (case hr => first | (go_simp; done) | (go_simp; rfl))
                        intro gb443 hg w60 hbox hb
                        have n0_ := zm3 (Kd.R_below (z3_1 Zd.out) hb); have n1_ := zm3 (Kd.R_below (z3_1 Zj.out) hb); have n2_ := zm3 (Kd.R_below (z3_1 Zo.out) hb); have n3_ := zm3 (Kd.R_below (z3_1 Zp.out) hb); have n4_ := zm3 (blk_below (g := gb434) (o := .cells #[.slice Ao54 t427.length co54, .slice Ao56 t430.length co56] 32 (0, 0)) (z3_2 Za.out) hb); have n5_ := zm3 (below_step (z3_3 HB.out Zc.out) hb); have n6_ := zm3 (hbox); have n7_ := zm3 ((by rw [hg]; exact (below_size (z3_3 HB.out Zc.out)) : w.heap.size ≤ gb443)); have n8_ := zm3 ((by rw [hg]; exact (below_size (z3_3 HB.out Zc.out)) : w.heap.size ≤ gb443)); have n9_ := zm3 ((by rw [hg]; exact Nat.ne_of_lt (blk_lt (g := gb434) (o := .cells #[.slice Ao54 t427.length co54, .slice Ao56 t430.length co56] 32 (0, 0)) (z3_2 Za.out)) : gb434 ≠ gb443)); have n10_ := zm3 ((by rw [hg]; exact Nat.ne_of_gt (blk_lt (g := gb434) (o := .cells #[.slice Ao54 t427.length co54, .slice Ao56 t430.length co56] 32 (0, 0)) (z3_2 Za.out)) : gb443 ≠ gb434)); clear Zd; clear Zj; clear Zo; clear Zp; clear Za; clear HB; have Zd := n0_; have Zj := n1_; have Zo := n2_; have Zp := n3_; have Za := n4_; have HB := n5_; have Zb := n6_; have Zab := n7_; have Zk := n8_; have Zu := n9_; have ZE := n10_; clear n0_ n1_ n2_ n3_ n4_ n5_ n6_ n7_ n8_ n9_ n10_; clear hb hbox hg
                        refine hK.out _ _ ⟨(blk_cell Za.out 0).trans rfl, (blk_cell Za.out 1).trans rfl⟩ (fun hHeld => ?_)
                        clear hK K
                        refine norm_ (a' := ?_) ?_ ?_
                        rotate_left
                        ·show Act.put _ (some 13) _ = _
                         simp only [Act.put, zs3, zz3, zt3, i64_w, i32_w]
                         rfl
                        refine one_ (i := 3) (N := some 69) #[tt, tt, tt, tt, ff, ff, ff, ff, tt, ff, ff] rfl rfl (one_of HT_.out (by kernel_rfl)) (by decide) (fun K hK => ?_)
                        refine goes_ Try.func5 (by kernel_rfl) rfl #[.slice A1 l1.length c1, .int .i64 2, .int .i64 6] (by rfl) rfl rfl zq ?_
                        with_reducible refine (laws_at.calls _ _ l1 2 6 t435 _ ?side1 ?side2 A13.out).mono ?_
                        (case side1 => exact zC (Kd.C_below HR1.out HB.out))
                        (case side2 => exact HC1.out)
                        rintro e w' ⟨rfl, ⟨nd, rfl⟩⟩
                        refine ⟨_, rfl, ?_⟩
                        refine hK.out _ _ ⟨(blk_cell Za.out 0).trans rfl, (blk_cell Za.out 1).trans rfl⟩ (fun hHeld => ?_)
                        clear hK K
                        refine norm_ (a' := ?_) ?_ ?_
                        rotate_left
                        ·show Act.put _ (some 69) _ = _
                         simp only [Act.put, zs3, zz3, zt3, i64_w, i32_w]
                         rfl
                        refine one_ (i := 4) (N := some 70) #[tt, tt, tt, tt, tt, ff, ff, ff, tt, ff, ff] rfl rfl (one_of HT_.out (by kernel_rfl)) (by decide) (fun K hK => ?_)
                        refine goes_ Try.func8 (by kernel_rfl) rfl #[.agg #[.slice Ao54 t427.length co54, .slice Ao56 t430.length co56], .int .i64 t414, .int .i64 t435] (by rfl) rfl rfl zq ?_
                        with_reducible refine (impl_LoseHost.calls _ _ t427 _ _ t430 t414 t435 t436 t439 t442 _ ?side1 ?side2 ?side3 ?side4 A14.out).mono ?_
                        (case side1 => exact zC ((Kd.R_reads' Zo.out).2.2))
                        (case side2 => exact (Kd.R_reads' Zo.out).2.1)
                        (case side3 => exact zC ((Kd.R_reads' Zp.out).2.2))
                        (case side4 => exact (Kd.R_reads' Zp.out).2.1)
                        rintro e w61 ⟨v437, v440, rfl, ho0, ho1, hb⟩
                        refine ⟨_, rfl, ?_⟩
                        have n0_ := zm3 (Kd.R_below (z3_1 Zd.out) hb); have n1_ := zm3 (Kd.R_elder' (z3_1 Zj.out) (Kd.R_base ho0) hb); have n2_ := zm3 (Kd.R_elder' (z3_1 Zo.out) (Kd.R_base ho0) hb); have n3_ := zm3 (Kd.R_elder' (z3_1 Zp.out) (Kd.R_base ho1) hb); have n4_ := zm3 (Kd.R_lower (Kd.R_new' (Kd.R_new' ho0 (Kd.R_lt (z3_1 Zj.out))) (Kd.R_lt (z3_1 Zo.out))) (below_size (z3_4 HB.out Zc.out Zk.out))); have n5_ := zm3 (Kd.R_lower (Kd.R_new' ho1 (Kd.R_lt (z3_1 Zp.out))) (below_size (z3_4 HB.out Zc.out Zk.out))); have n6_ := zm3 (blk_below (g := gb434) (o := .cells #[.slice Ao54 t427.length co54, .slice Ao56 t430.length co56] 32 (0, 0)) (z3_2 Za.out) hb); have n7_ := zm3 (blk_below (g := gb443) (o := .cells #[.slice none 0 0, .slice none 0 0] 32 (0, 0)) (z3_2 Zb.out) hb); have n8_ := zm3 (below_step (z3_4 HB.out Zc.out Zk.out) hb); clear Zd; clear Zj; clear Zo; clear Zp; clear Za; clear Zb; clear HB; have Zd := n0_; have Zj := n1_; have Zo := n2_; have Zp := n3_; have Zf := n4_; have Zg := n5_; have Za := n6_; have Zb := n7_; have HB := n8_; clear n0_ n1_ n2_ n3_ n4_ n5_ n6_ n7_ n8_
                        (try clear hb)
                        (try clear hb2)
                        (try clear hk)
                        (try clear hi)
                        (try clear ho0)
                        (try clear ho1)
                        refine hK.out _ _ ⟨(blk_cell Za.out 0).trans rfl, (blk_cell Za.out 1).trans rfl⟩ (fun hHeld => ?_)
                        clear hK K
                        refine norm_ (a' := ?_) ?_ ?_
                        rotate_left
                        ·show Act.put _ (some 70) _ = _
                         simp only [Act.put, zs3, zz3, zt3, i64_w, i32_w]
                         rfl
                        refine pure_ (i := 5) (N := some 65) (v := ?_) (a' := ?_) #[tt, tt, tt, tt, tt, tt, ff, ff, tt, ff, ff] rfl rfl (any_of HT_.out (by kernel_rfl)) (fun _ _ _ h => h) (Or.inl ⟨by rfl, ?_⟩) ?_ ?_
                        rotate_left; (intro w'; go_simp; with_reducible rfl); rotate_left; (simp only [Act.put, zs3, zz3, zt3, i64_w, i32_w]; rfl)
                        refine pure_ (i := 6) (N := some 71) (v := ?_) (a' := ?_) #[tt, tt, tt, tt, tt, tt, tt, ff, tt, ff, ff] rfl rfl (any_of HT_.out (by kernel_rfl)) (fun _ _ _ h => h) (Or.inl ⟨by rfl, ?_⟩) ?_ ?_
                        rotate_left; (intro w'; go_simp; with_reducible rfl); rotate_left; (simp only [Act.put, zs3, zz3, zt3, i64_w, i32_w]; rfl)
                        refine pure_ (i := 7) (N := some 72) (v := ?_) (a' := ?_) #[tt, tt, tt, tt, tt, tt, tt, tt, tt, ff, ff] rfl rfl (any_of HT_.out (by kernel_rfl)) (fun _ _ _ h => h) (Or.inl ⟨by rfl, ?_⟩) ?_ ?_
                        rotate_left; (intro w'; go_simp; with_reducible rfl); rotate_left; (simp only [Act.put, zs3, zz3, zt3, i64_w, i32_w]; rfl)
                        exact norm_ (by simp only [putAll, Act.put, zs3, zz3, zt3]) (hCont (v437, v440, gb443) _ ⟨hHeld, (z3_1 Zd.out), (z3_1 Zj.out), (z3_1 Zo.out), (by (with_reducible repeat (first | apply Kd.R_alloc | apply Kd.R_drewN | apply Kd.R_drew)); exact Kd.R_mono Zp.out (fun _ hk => hk.2)), (by (with_reducible repeat (first | apply Kd.R_alloc | apply Kd.R_drewN | apply Kd.R_drew)); exact Kd.R_mono Zf.out (fun _ hk => ⟨hk.1.2, hk.2⟩)), (by (with_reducible repeat (first | apply Kd.R_alloc | apply Kd.R_drewN | apply Kd.R_drew)); exact Kd.R_mono Zg.out (fun _ hk => hk.2)), (z3_2 Za.out), (z3_2 Zb.out), Zab.out, Zk.out, Zu.out, ZE.out, (z3_4 HB.out Zc.out Zk.out)⟩)
                      rintro ⟨v437, v440, gb443⟩ w62 ⟨hS_, h0_, h1_, h2_, h3_, h4_, h5_, h6_, h7_, h8_, h9_, h10_, h11_, h12_⟩
                      have n0_ : Aside0 (Kd.R k52 52 w62 w.heap.size (fun _ => True) (.slice Ao45 t415.length co45) t415) := ⟨h0_⟩
                      have n1_ : Aside0 (Kd.R Kd.string 9 w62 w.heap.size (fun k_ => some k_ ≠ (.slice Ao54 t427.length co54 : Value).ownBlock ∧ some k_ ≠ (v437 : Value).ownBlock) (.slice Ao53 y419.length co53) y419) := ⟨h1_⟩
                      have n2_ : Aside0 (Kd.R Kd.string 9 w62 w.heap.size (fun k_ => some k_ ≠ (.slice Ao53 y419.length co53 : Value).ownBlock ∧ some k_ ≠ (v437 : Value).ownBlock) (.slice Ao54 t427.length co54) t427) := ⟨h2_⟩
                      have n3_ : Aside0 (Kd.R k75 75 w62 w.heap.size (fun k_ => some k_ ≠ (v440 : Value).ownBlock) (.slice Ao56 t430.length co56) t430) := ⟨h3_⟩
                      have n4_ : Aside0 (Kd.R Kd.string 9 w62 w.heap.size (fun k_ => some k_ ≠ (.slice Ao53 y419.length co53 : Value).ownBlock ∧ some k_ ≠ (.slice Ao54 t427.length co54 : Value).ownBlock) v437 t436) := ⟨h4_⟩
                      have n5_ : Aside0 (Kd.R k75 75 w62 w.heap.size (fun k_ => some k_ ≠ (.slice Ao56 t430.length co56 : Value).ownBlock) v440 t439) := ⟨h5_⟩
                      have n6_ : Aside0 (w62.heap[gb434]? = some (.cells #[.slice Ao54 t427.length co54, .slice Ao56 t430.length co56] 32 (0, 0))) := ⟨h6_⟩
                      have n7_ : Aside0 (w62.heap[gb443]? = some (.cells #[.slice none 0 0, .slice none 0 0] 32 (0, 0))) := ⟨h7_⟩
                      have n8_ : Aside0 (w.heap.size ≤ gb443) := ⟨h8_⟩
                      have n9_ : Aside0 (w.heap.size ≤ gb443) := ⟨h9_⟩
                      have n10_ : Aside0 (gb434 ≠ gb443) := ⟨h10_⟩
                      have n11_ : Aside0 (gb443 ≠ gb434) := ⟨h11_⟩
                      have n12_ : Aside0 (Below w.heap.size w w62) := ⟨h12_⟩
                      clear Zd; clear Zj; clear Zo; clear Zp; clear Za; clear HB; clear h0_ h1_ h2_ h3_ h4_ h5_ h6_ h7_ h8_ h9_ h10_ h11_ h12_; have Zd := n0_; have Zj := n1_; have Zo := n2_; have Zp := n3_; have Zf := n4_; have Zg := n5_; have Za := n6_; have Zb := n7_; have Zab := n8_; have Zk := n9_; have Zu := n10_; have ZE := n11_; have HB := n12_; clear n0_ n1_ n2_ n3_ n4_ n5_ n6_ n7_ n8_ n9_ n10_ n11_ n12_
                      have hHeld : w62.cell? ⟨gb434, 0, none⟩ = some (.slice Ao54 t427.length co54) ∧ w62.cell? ⟨gb434, 1, none⟩ = some (.slice Ao56 t430.length co56) := hS_
                      obtain ⟨Ao63, co63, eo63⟩ := Kd.R_slice Zf.out
                      (first | subst eo63 | (injection eo63 with f1_ f2_ f3_; have f4_ := f1_.symm; have f5_ := f3_.symm; clear f1_ f2_ f3_; subst f4_; subst f5_))
                      obtain ⟨Ao65, co65, eo65⟩ := Kd.R_slice Zg.out
                      (first | subst eo65 | (injection eo65 with f1_ f2_ f3_; have f4_ := f1_.symm; have f5_ := f3_.symm; clear f1_ f2_ f3_; subst f4_; subst f5_))
                      refine norm_ (a' := ?_) ?_ ?_
                      rotate_left
                      ·simp only [putAll, Act.put, zs3, zz3, zt3]
                       rfl
                      refine one_ (i := 9) (N := none) #[tt, tt, tt, tt, tt, tt, tt, tt, tt, tt, ff] rfl rfl (one_of HT_.out (by kernel_rfl)) (by decide) (fun K hK => ?_)
                      have hs64 : w62.cell? ⟨gb443, 0, none⟩ = some (.slice none 0 0) := (blk_cell Zb.out 0).trans rfl
                      have hfs64 := blk_frozen Zb.out 0; have hns64_0 := Zu.out; have hms64_0 := ZE.out
                      have hs66 : w62.cell? ⟨gb443, 1, none⟩ = some (.slice none 0 0) := (blk_cell Zb.out 1).trans rfl
                      have hfs66 := blk_frozen Zb.out 1; have hns66_0 := Zu.out; have hms66_0 := ZE.out
                      refine skip_ (w1 := ?_) (by rfl) rfl ?_ ?_
                      rotate_left
                      ·go_simp
                       rfl
                      refine hK.out _ _ ⟨((cell_far (p := ⟨gb443, _, none⟩) Zu.out _).trans (((cell_far (p := ⟨gb443, _, none⟩) Zu.out _).trans (hHeld.1)))), ((cell_far (p := ⟨gb443, _, none⟩) Zu.out _).trans (((cell_far (p := ⟨gb443, _, none⟩) Zu.out _).trans (hHeld.2))))⟩ (fun hHeld => ?_)
                      clear hK K
                      refine pure_ (i := 10) (N := some 14) (v := ?_) (a' := ?_) #[tt, tt, tt, tt, tt, tt, tt, tt, tt, tt, tt] rfl rfl (any_of HT_.out (by kernel_rfl)) (fun _ _ _ h => h) (Or.inl ⟨by rfl, ?_⟩) ?_ ?_
                      rotate_left; (intro w'; go_simp; with_reducible rfl); rotate_left; (simp only [Act.put, zs3, zz3, zt3, i64_w, i32_w]; rfl)
                      refine done_ (done_of HT_.out (by kernel_rfl)) ?_
                      have hnb67 := ZE.out; have hnc67 := Zu.out
                      obtain ⟨hcz68_0, hcz68_1, hfz68_0, hfz68_1⟩ := zb2 Zb.out
                      try go_wp2_with (first | ((with_reducible refine gate_callee (f := 9) rfl ?_); refine goesL_ (some 77) rfl rfl Try.func9 (by kernel_rfl) rfl #[.agg #[.slice Ao63 t436.length co63, .slice Ao65 t439.length co65], .int .i64 (Int.tmod (wrap64 (t414 + 1)) 4), .int .i64 t414] rfl zq ?_; (with_reducible refine (impl_ReplayPlan.calls k _ _ t436 _ _ t439 (Int.tmod (wrap64 (t414 + 1)) 4) t414 t444 t447 _ ?side1 ?side2 ?side3 ?side4 A15.out).mono ?_); (case side1 => refine (Kd.R_reads' (e := 9) (base := w.heap.size) (ok := fun k_ => (some k_ ≠ (.slice Ao53 y419.length co53 : Value).ownBlock ∧ some k_ ≠ (.slice Ao54 t427.length co54 : Value).ownBlock)) (n := t436.length) (c := co63) ?_).2.2; exact (by (with_reducible repeat (first | apply Kd.R_alloc | apply Kd.R_drewN | apply Kd.R_drew)); exact (Kd.R_mono (Kd.R_far (Kd.R_far (Kd.R_types Zf.out Zb.out (by decide)) (fun _ hk => hk.2) _) (fun _ hk => hk.2) _) (fun _ h_ => h_.1)))); (case side2 => exact (Kd.R_reads' Zf.out).2.1); (case side3 => refine (Kd.R_reads' (e := 75) (base := w.heap.size) (ok := fun k_ => some k_ ≠ (.slice Ao56 t430.length co56 : Value).ownBlock) (n := t439.length) (c := co65) ?_).2.2; exact (by (with_reducible repeat (first | apply Kd.R_alloc | apply Kd.R_drewN | apply Kd.R_drew)); exact (Kd.R_mono (Kd.R_far (Kd.R_far (Kd.R_types Zg.out Zb.out (by decide)) (fun _ hk => hk.2) _) (fun _ hk => hk.2) _) (fun _ h_ => h_.1)))); (case side4 => exact (Kd.R_reads' Zg.out).2.1); rintro e w69 ⟨v445, rfl, ho0, hb⟩; refine ⟨_, rfl, ?_⟩; have n0_ := zm3 (Kd.R_mono (ok := fun k_ => (some k_ ≠ (.slice Ao53 y419.length co53 : Value).ownBlock ∧ some k_ ≠ (.slice Ao54 t427.length co54 : Value).ownBlock)) (ok' := fun k_ => True) (Kd.R_below (by (with_reducible repeat (first | apply Kd.R_alloc | apply Kd.R_drewN | apply Kd.R_drew)); exact (Kd.R_mono (Kd.R_far (Kd.R_far (Kd.R_types Zf.out Zb.out (by decide)) (fun _ hk => hk.2) _) (fun _ hk => hk.2) _) (fun _ h_ => h_.1))) hb) (fun k_ hk => trivial)); have n1_ := zm3 (Kd.R_mono (ok := fun k_ => some k_ ≠ (.slice Ao56 t430.length co56 : Value).ownBlock) (ok' := fun k_ => True) (Kd.R_below (by (with_reducible repeat (first | apply Kd.R_alloc | apply Kd.R_drewN | apply Kd.R_drew)); exact (Kd.R_mono (Kd.R_far (Kd.R_far (Kd.R_types Zg.out Zb.out (by decide)) (fun _ hk => hk.2) _) (fun _ hk => hk.2) _) (fun _ h_ => h_.1))) hb) (fun k_ hk => trivial)); have n2_ := zm3 (Kd.R_mono (ok := fun k_ => (True ∧ some k_ ≠ (.slice Ao45 t415.length co45 : Value).ownBlock)) (ok' := fun k_ => True) (Kd.R_lower (Kd.R_new' ho0 (Kd.R_lt (by (with_reducible repeat (first | apply Kd.R_alloc | apply Kd.R_drewN | apply Kd.R_drew)); exact (Kd.R_mono (Kd.R_far (Kd.R_far (Kd.R_types Zd.out Zb.out (by decide)) (fun _ hk => hk.2) _) (fun _ hk => hk.2) _) (fun _ h_ => h_.1))))) (below_size (z3_4 HB.out Zc.out Zk.out))) (fun k_ hk => trivial)); have n3_ := zm3 (blk_below (g := gb434) (o := .cells #[.slice Ao54 t427.length co54, .slice Ao56 t430.length co56] 32 (0, 0)) (by (with_reducible repeat (first | refine blk_drewN ?_ _ | refine blk_drew ?_ | refine blk_alloc ?_ _)); refine blk_far ?_ Zu.out _; (with_reducible repeat (first | refine blk_drewN ?_ _ | refine blk_drew ?_ | refine blk_alloc ?_ _)); refine blk_far ?_ Zu.out _; (with_reducible repeat (first | refine blk_drewN ?_ _ | refine blk_drew ?_ | refine blk_alloc ?_ _)); exact Za.out) hb); have n4_ := zm3 (blk_below (g := gb443) (o := .cells #[.slice Ao63 t436.length co63, .slice Ao65 t439.length co65] 32 (0, 0)) (by (with_reducible repeat (first | refine blk_drewN ?_ _ | refine blk_drew ?_ | refine blk_alloc ?_ _)); refine blk_put (cs := #[.slice Ao63 t436.length co63, .slice none 0 0]) ?_ 1 _ rfl; (with_reducible repeat (first | refine blk_drewN ?_ _ | refine blk_drew ?_ | refine blk_alloc ?_ _)); refine blk_put (cs := #[.slice none 0 0, .slice none 0 0]) ?_ 0 _ rfl; (with_reducible repeat (first | refine blk_drewN ?_ _ | refine blk_drew ?_ | refine blk_alloc ?_ _)); exact Zb.out) hb); have n5_ := zm3 (below_step (z3_4 HB.out Zc.out Zk.out) hb); replace Zf := n0_; replace Zg := n1_; have Zl := n2_; replace Za := n3_; replace Zb := n4_; replace HB := n5_; clear n0_ n1_ n2_ n3_ n4_ n5_; (try clear hb); (try clear hb2); (try clear hk); (try clear hi); (try clear ho0); (try clear Zd); (try clear Zj); (try clear Zo); (try clear Zp); obtain ⟨hcz70_0, hcz70_1, hfz70_0, hfz70_1⟩ := zb2 Zb.out; obtain ⟨Ao71, co71, eo71⟩ := Kd.R_slice Zl.out; subst eo71) | ((with_reducible refine gate_callee (f := 7) rfl ?_); refine goesL_ (some 84) rfl rfl Try.func7 (by kernel_rfl) rfl #[.agg #[.slice Ao63 t436.length co63, .slice Ao65 t439.length co65], .int .i64 (Int.tmod (wrap64 (t414 + 1)) 4), .slice Ao71 t444.length co71] rfl zq ?_; (with_reducible refine (impl_MovesDo.calls k _ _ t436 _ _ t439 (Int.tmod (wrap64 (t414 + 1)) 4) _ _ t444 t448 t451 t454 _ ?side1 ?side2 ?side3 ?side4 ?side5 ?side6 A16.out).mono ?_); (case side1 => exact zC ((Kd.R_reads' Zf.out).2.2)); (case side2 => exact (Kd.R_reads' Zf.out).2.1); (case side3 => exact zC ((Kd.R_reads' Zg.out).2.2)); (case side4 => exact (Kd.R_reads' Zg.out).2.1); (case side5 => exact zC ((Kd.R_reads' Zl.out).2.2)); (case side6 => exact (Kd.R_reads' Zl.out).2.1); rintro e w72 ⟨v449, v452, rfl, ho0, ho1, hb⟩; refine ⟨_, rfl, ?_⟩; have n0_ := zm3 (Kd.R_elder' (z3_1 Zf.out) (Kd.R_base ho0) hb); have n1_ := zm3 (Kd.R_elder' (z3_1 Zg.out) (Kd.R_base ho1) hb); have n2_ := zm3 (Kd.R_below (z3_1 Zl.out) hb); have n3_ := zm3 (Kd.R_lower (Kd.R_new' ho0 (Kd.R_lt (z3_1 Zf.out))) (below_size (z3_4 HB.out Zc.out Zk.out))); have n4_ := zm3 (Kd.R_lower (Kd.R_new' ho1 (Kd.R_lt (z3_1 Zg.out))) (below_size (z3_4 HB.out Zc.out Zk.out))); have n5_ := zm3 (blk_below (g := gb434) (o := .cells #[.slice Ao54 t427.length co54, .slice Ao56 t430.length co56] 32 (0, 0)) (z3_2 Za.out) hb); have n6_ := zm3 (blk_below (g := gb443) (o := .cells #[.slice Ao63 t436.length co63, .slice Ao65 t439.length co65] 32 (0, 0)) (z3_2 Zb.out) hb); have n7_ := zm3 (below_step (z3_4 HB.out Zc.out Zk.out) hb); replace Zf := n0_; replace Zg := n1_; replace Zl := n2_; have Zi := n3_; have Zm := n4_; replace Za := n5_; replace Zb := n6_; replace HB := n7_; clear n0_ n1_ n2_ n3_ n4_ n5_ n6_ n7_; (try clear hb); (try clear hb2); (try clear hk); (try clear hi); (try clear ho0); (try clear ho1)) | ((with_reducible refine gate_dst (N := 17) rfl ?_); (try (refine gate_guard (by rfl) ?_; dsimp only)); refine box_event ?hg (N := 17) ?hd (cs := #[.slice none 0 0, .slice none 0 0]) (t := 32) ?hr ?_; (case hd => rfl); (case hg => rfl); (case hr => first | (go_simp; done) | (go_simp; rfl)); intro gb455 hg w73 hbox hb; have n0_ := zm3 (Kd.R_below (z3_1 Zf.out) hb); have n1_ := zm3 (Kd.R_below (z3_1 Zg.out) hb); have n2_ := zm3 (Kd.R_below (z3_1 Zl.out) hb); have n3_ := zm3 (Kd.R_below (z3_1 Zi.out) hb); have n4_ := zm3 (Kd.R_below (z3_1 Zm.out) hb); have n5_ := zm3 (blk_below (g := gb434) (o := .cells #[.slice Ao54 t427.length co54, .slice Ao56 t430.length co56] 32 (0, 0)) (z3_2 Za.out) hb); have n6_ := zm3 (blk_below (g := gb443) (o := .cells #[.slice Ao63 t436.length co63, .slice Ao65 t439.length co65] 32 (0, 0)) (z3_2 Zb.out) hb); have n7_ := zm3 (below_step (z3_4 HB.out Zc.out Zk.out) hb); have n8_ := zm3 (hbox); have n9_ := zm3 ((by rw [hg]; exact (below_size (z3_4 HB.out Zc.out Zk.out)) : w.heap.size ≤ gb455)); have n10_ := zm3 ((by rw [hg]; exact (below_size (z3_4 HB.out Zc.out Zk.out)) : w.heap.size ≤ gb455)); have n11_ := zm3 ((by rw [hg]; exact Nat.ne_of_lt (blk_lt (g := gb434) (o := .cells #[.slice Ao54 t427.length co54, .slice Ao56 t430.length co56] 32 (0, 0)) (z3_2 Za.out)) : gb434 ≠ gb455)); have n12_ := zm3 ((by rw [hg]; exact Nat.ne_of_gt (blk_lt (g := gb434) (o := .cells #[.slice Ao54 t427.length co54, .slice Ao56 t430.length co56] 32 (0, 0)) (z3_2 Za.out)) : gb455 ≠ gb434)); have n13_ := zm3 ((by rw [hg]; exact Nat.ne_of_lt (blk_lt (g := gb443) (o := .cells #[.slice Ao63 t436.length co63, .slice Ao65 t439.length co65] 32 (0, 0)) (z3_2 Zb.out)) : gb443 ≠ gb455)); have n14_ := zm3 ((by rw [hg]; exact Nat.ne_of_gt (blk_lt (g := gb443) (o := .cells #[.slice Ao63 t436.length co63, .slice Ao65 t439.length co65] 32 (0, 0)) (z3_2 Zb.out)) : gb455 ≠ gb443)); replace Zf := n0_; replace Zg := n1_; replace Zl := n2_; replace Zi := n3_; replace Zm := n4_; replace Za := n5_; replace Zb := n6_; replace HB := n7_; have Ze := n8_; have Zat := n9_; have Zn := n10_; have ZT := n11_; have Zah := n12_; have ZU := n13_; have Zai := n14_; clear n0_ n1_ n2_ n3_ n4_ n5_ n6_ n7_ n8_ n9_ n10_ n11_ n12_ n13_ n14_; clear hb hbox hg; obtain ⟨Ao74, co74, eo74⟩ := Kd.R_slice Zi.out; subst eo74; have hnb75 := Zah.out; have hnc75 := ZT.out; have hnb76 := Zai.out; have hnc76 := ZU.out; obtain ⟨hcz77_0, hcz77_1, hfz77_0, hfz77_1⟩ := zb2 Ze.out; obtain ⟨Ao78, co78, eo78⟩ := Kd.R_slice Zm.out; subst eo78) | ((with_reducible refine gate_store (t := 32) (p := 17) rfl ?_); refine store_event (t := 32) (p := 17) (v := ?vo_w79) (w1 := ((w73.setCell ⟨gb455, 0, none⟩ (.slice Ao74 t448.length co74)).setCell ⟨gb455, 1, none⟩ (.slice Ao78 t451.length co78))) ?hg ?ho ?hn ?hr ?_; (case ho => rfl); (case hg => rfl); (case hn => rfl); (case hr => first | (go_simp; done) | (go_simp; rfl)); intro w79 hw; have n0_ : Aside0 (Kd.R Kd.string 9 w79 w.heap.size (fun k_ => some k_ ≠ (.slice Ao74 t448.length co74 : Value).ownBlock) (.slice Ao63 t436.length co63) t436) := ⟨(by rw [hw]; exact (by (with_reducible repeat (first | apply Kd.R_alloc | apply Kd.R_drewN | apply Kd.R_drew)); exact Kd.R_mono (Kd.R_far (Kd.R_far (Kd.R_types Zf.out Ze.out (by decide)) (fun _ hk => hk.2) _) (fun _ hk => hk.2) _) (fun _ hk => hk.1.2)))⟩; have n1_ : Aside0 (Kd.R k75 75 w79 w.heap.size (fun k_ => some k_ ≠ (.slice Ao78 t451.length co78 : Value).ownBlock) (.slice Ao65 t439.length co65) t439) := ⟨(by rw [hw]; exact (by (with_reducible repeat (first | apply Kd.R_alloc | apply Kd.R_drewN | apply Kd.R_drew)); exact Kd.R_mono (Kd.R_far (Kd.R_far (Kd.R_types Zg.out Ze.out (by decide)) (fun _ hk => hk.2) _) (fun _ hk => hk.2) _) (fun _ hk => hk.1.2)))⟩; have n2_ : Aside0 (Kd.R k52 52 w79 w.heap.size (fun _ => True) (.slice Ao71 t444.length co71) t444) := ⟨(by rw [hw]; exact (by (with_reducible repeat (first | apply Kd.R_alloc | apply Kd.R_drewN | apply Kd.R_drew)); exact Kd.R_mono (Kd.R_far (Kd.R_far (Kd.R_types Zl.out Ze.out (by decide)) (fun _ hk => hk.2) _) (fun _ hk => hk.2) _) (fun _ hk => trivial)))⟩; have n3_ : Aside0 (Kd.R Kd.string 9 w79 w.heap.size (fun k_ => some k_ ≠ (.slice Ao63 t436.length co63 : Value).ownBlock) (.slice Ao74 t448.length co74) t448) := ⟨(by rw [hw]; exact (by (with_reducible repeat (first | apply Kd.R_alloc | apply Kd.R_drewN | apply Kd.R_drew)); exact Kd.R_mono (Kd.R_far (Kd.R_far (Kd.R_types Zi.out Ze.out (by decide)) (fun _ hk => hk.2) _) (fun _ hk => hk.2) _) (fun _ hk => hk.1.2)))⟩; have n4_ : Aside0 (Kd.R k75 75 w79 w.heap.size (fun k_ => some k_ ≠ (.slice Ao65 t439.length co65 : Value).ownBlock) (.slice Ao78 t451.length co78) t451) := ⟨(by rw [hw]; exact (by (with_reducible repeat (first | apply Kd.R_alloc | apply Kd.R_drewN | apply Kd.R_drew)); exact Kd.R_mono (Kd.R_far (Kd.R_far (Kd.R_types Zm.out Ze.out (by decide)) (fun _ hk => hk.2) _) (fun _ hk => hk.2) _) (fun _ hk => hk.1.2)))⟩; have n5_ : Aside0 (w79.heap[gb434]? = some (.cells #[.slice Ao54 t427.length co54, .slice Ao56 t430.length co56] 32 (0, 0))) := ⟨(by rw [hw]; exact (by (with_reducible repeat (first | refine blk_drewN ?_ _ | refine blk_drew ?_ | refine blk_alloc ?_ _)); refine blk_far ?_ ZT.out _; (with_reducible repeat (first | refine blk_drewN ?_ _ | refine blk_drew ?_ | refine blk_alloc ?_ _)); refine blk_far ?_ ZT.out _; (with_reducible repeat (first | refine blk_drewN ?_ _ | refine blk_drew ?_ | refine blk_alloc ?_ _)); exact Za.out))⟩; have n6_ : Aside0 (w79.heap[gb443]? = some (.cells #[.slice Ao63 t436.length co63, .slice Ao65 t439.length co65] 32 (0, 0))) := ⟨(by rw [hw]; exact (by (with_reducible repeat (first | refine blk_drewN ?_ _ | refine blk_drew ?_ | refine blk_alloc ?_ _)); refine blk_far ?_ ZU.out _; (with_reducible repeat (first | refine blk_drewN ?_ _ | refine blk_drew ?_ | refine blk_alloc ?_ _)); refine blk_far ?_ ZU.out _; (with_reducible repeat (first | refine blk_drewN ?_ _ | refine blk_drew ?_ | refine blk_alloc ?_ _)); exact Zb.out))⟩; have n7_ : Aside0 (w79.heap[gb455]? = some (.cells #[.slice Ao74 t448.length co74, .slice Ao78 t451.length co78] 32 (0, 0))) := ⟨(by rw [hw]; exact (by (with_reducible repeat (first | refine blk_drewN ?_ _ | refine blk_drew ?_ | refine blk_alloc ?_ _)); refine blk_put (cs := #[.slice Ao74 t448.length co74, .slice none 0 0]) ?_ 1 _ rfl; (with_reducible repeat (first | refine blk_drewN ?_ _ | refine blk_drew ?_ | refine blk_alloc ?_ _)); refine blk_put (cs := #[.slice none 0 0, .slice none 0 0]) ?_ 0 _ rfl; (with_reducible repeat (first | refine blk_drewN ?_ _ | refine blk_drew ?_ | refine blk_alloc ?_ _)); exact Ze.out))⟩; have n8_ : Aside0 (Below w.heap.size w w79) := ⟨(by rw [hw]; exact (z3_5 HB.out Zc.out Zk.out Zn.out))⟩; clear hw; replace Zf := n0_; replace Zg := n1_; replace Zl := n2_; replace Zi := n3_; replace Zm := n4_; replace Za := n5_; replace Zb := n6_; replace Ze := n7_; replace HB := n8_; clear n0_ n1_ n2_ n3_ n4_ n5_ n6_ n7_ n8_; have q80 : (t456 : Int) ≤ ((t444.length : Int) : Int) := zd; obtain ⟨i080, hi080, _, hsz80, _⟩ := info_parts info52; have hroom80 : t444.length ≤ co71 := (Kd.R_reads' Zl.out).2.1; have hC80 : Kd.C k52 _ Ao71 t444.length t444 := (Kd.R_reads' Zl.out).2.2; have hcut80 := cut_to (P := Try.prog) 26 52 .i64 Try.underlying26 hi080 Ao71 t444.length co71 t456 (zd) q80 hroom80; have hr80 := Kd.C_take (m := (t456 : Int).toNat) hC80 (by omega); have hy80 : y457.length = (t456 : Int).toNat := (by rw [Ny457.out, List.length_take]; omega); rw [← Ny457.out] at hr80; rw [← hy80] at hcut80; have Zw := zm3 hr80; have Zao := zm3 (show y457.length ≤ co71 from by omega); clear hr80 hC80 hroom80 hi080 hsz80; have KY80 := zm3 hy80; clear hy80; have KL80 := zm3 (show (t456 : Int).toNat ≤ t444.length from by omega); replace q80 := eq_true q80))
                      have n0_ := zm3 (Kd.R_drew Zf.out); have n1_ := zm3 (Kd.R_drew Zg.out); have n2_ := zm3 (Kd.R_drew Zl.out); have n3_ := zm3 (Kd.R_drew Zi.out); have n4_ := zm3 (Kd.R_drew Zm.out); have n5_ := zm3 (blk_drew Za.out); have n6_ := zm3 (blk_drew Zb.out); have n7_ := zm3 (blk_drew Ze.out); have n8_ := zm3 (Kd.C_drew Zw.out); have n9_ := zm3 (below_drew1 HB.out); clear Zf; clear Zg; clear Zl; clear Zi; clear Zm; clear Za; clear Zb; clear Ze; clear Zw; clear HB; have Zf := n0_; have Zg := n1_; have Zl := n2_; have Zi := n3_; have Zm := n4_; have Za := n5_; have Zb := n6_; have Ze := n7_; have Zw := n8_; have HB := n9_; clear n0_ n1_ n2_ n3_ n4_ n5_ n6_ n7_ n8_ n9_
                      refine start_ (n := 16) (S := fun w' => w'.cell? ⟨gb443, 0, none⟩ = some (.slice Ao63 t436.length co63) ∧ w'.cell? ⟨gb443, 1, none⟩ = some (.slice Ao65 t439.length co65)) (ds := []) #[false, false, false, false, false, false, false, false, false, false, false, false, false, false, false, false] (by kernel_rfl) rfl rfl ⟨(blk_cell Zb.out 0).trans rfl, (blk_cell Zb.out 1).trans rfl⟩ (fun hHeld => ?_); refine with_tabW laws_FnReplay.tab12 laws_FnReplay.bits12 (fun HT_ HW_ => ?_)
                      generalize w79.drew = w81 at Zf Zg Zl Zi Zm Za Zb Ze Zw HB hHeld ⊢
                      refine pure_ (i := 1) (N := some 89) (v := ?_) (a' := ?_) #[ff, tt, ff, ff, ff, ff, ff, ff, ff, ff, ff, ff, ff, ff, ff, ff] rfl rfl (any_of HT_.out (by kernel_rfl)) (fun _ _ _ h => h) (Or.inl ⟨by rfl, ?_⟩) ?_ ?_
                      rotate_left; (intro w'; go_simp; with_reducible rfl); rotate_left; (simp only [Act.put, zs3, zz3, zt3, i64_w, i32_w]; rfl)
                      refine pure_ (i := 2) (N := some 90) (v := ?_) (a' := ?_) #[ff, tt, tt, ff, ff, ff, ff, ff, ff, ff, ff, ff, ff, ff, ff, ff] rfl rfl (any_of HT_.out (by kernel_rfl)) (fun _ _ _ h => h) (Or.inl ⟨by rfl, ?_⟩) ?_ ?_
                      rotate_left; (intro w'; go_simp; with_reducible rfl); rotate_left; (simp only [Act.put, zs3, zz3, zt3, i64_w, i32_w]; rfl)
                      refine pure_ (i := 3) (N := some 91) (v := ?_) (a' := ?_) #[ff, tt, tt, tt, ff, ff, ff, ff, ff, ff, ff, ff, ff, ff, ff, ff] rfl rfl (any_of HT_.out (by kernel_rfl)) (fun _ _ _ h => h) (Or.inl ⟨by rfl, ?_⟩) ?_ ?_
                      rotate_left; (intro w'; go_simp; with_reducible rfl); rotate_left; (simp only [Act.put, zs3, zz3, zt3, i64_w, i32_w]; rfl)
                      refine pure_ (i := 4) (N := some 92) (v := ?_) (a' := ?_) #[ff, tt, tt, tt, tt, ff, ff, ff, ff, ff, ff, ff, ff, ff, ff, ff] rfl rfl (any_of HT_.out (by kernel_rfl)) (fun _ _ _ h => h) (Or.inl ⟨by rfl, ?_⟩) ?_ ?_
                      rotate_left; (intro w'; go_simp; with_reducible rfl); rotate_left; (simp only [Act.put, zs3, zz3, zt3, i64_w, i32_w]; rfl)
                      refine pure_ (i := 5) (N := some 93) (v := ?_) (a' := ?_) #[ff, tt, tt, tt, tt, tt, ff, ff, ff, ff, ff, ff, ff, ff, ff, ff] rfl rfl (any_of HT_.out (by kernel_rfl)) (fun _ _ _ h => h) (Or.inl ⟨by rfl, ?_⟩) ?_ ?_
                      rotate_left; (intro w'; go_simp; with_reducible rfl); rotate_left; (simp only [Act.put, zs3, zz3, zt3, i64_w, i32_w]; rfl)
                      refine pure_ (i := 6) (N := some 94) (v := ?_) (a' := ?_) #[ff, tt, tt, tt, tt, tt, tt, ff, ff, ff, ff, ff, ff, ff, ff, ff] rfl rfl (any_of HT_.out (by kernel_rfl)) (fun _ _ _ h => h) (Or.inl ⟨by rfl, ?_⟩) ?_ ?_
                      rotate_left; (intro w'; go_simp; with_reducible rfl); rotate_left; (simp only [Act.put, zs3, zz3, zt3, i64_w, i32_w]; rfl)
                      refine take_ (i := 0) (N := some 88) (v := ?_) (a' := ?_) #[tt, tt, tt, tt, tt, tt, tt, ff, ff, ff, ff, ff, ff, ff, ff, ff] rfl rfl (take_ofW HT_.out HW_.out (by kernel_rfl)) (fun _ _ _ h => h) (Or.inl ⟨by rfl, ?_⟩) hHeld ?_ ?_
                      rotate_left
                      ·rintro w' ⟨s0, s1⟩
                       go_simp
                       with_reducible rfl
                      rotate_left
                      ·simp only [Act.put, zs3, zz3, zt3, i64_w, i32_w]
                       rfl
                      refine join_ (σ := Value × Value × Nat) 2 #[tt, tt, tt, tt, tt, tt, tt, tt, tt, tt, tt, tt, tt, tt, ff, ff] (fun s_ => [(95, .int .i64 t456), (97, .tuple #[.agg #[s_.1, s_.2.1], .int .i64 t467]), (19, .pointer (some ⟨s_.2.2, 0, none⟩)), (96, .slice Ao71 y457.length co71), (87, .tuple #[.agg #[s_.1, s_.2.1], .int .i64 t467]), (98, .agg #[s_.1, s_.2.1]), (99, .int .i64 t467)]) (fun s_ w' => (w'.cell? ⟨gb443, 0, none⟩ = some (.slice Ao63 t436.length co63) ∧ w'.cell? ⟨gb443, 1, none⟩ = some (.slice Ao65 t439.length co65)) ∧ (Kd.R Kd.string 9 w' w.heap.size (fun k_ => some k_ ≠ (.slice Ao74 t448.length co74 : Value).ownBlock ∧ some k_ ≠ (s_.1 : Value).ownBlock) (.slice Ao63 t436.length co63) t436) ∧ (Kd.R k75 75 w' w.heap.size (fun k_ => some k_ ≠ (.slice Ao78 t451.length co78 : Value).ownBlock ∧ some k_ ≠ (s_.2.1 : Value).ownBlock) (.slice Ao65 t439.length co65) t439) ∧ (Kd.R k52 52 w' w.heap.size (fun _ => True) (.slice Ao71 t444.length co71) t444) ∧ (Kd.R Kd.string 9 w' w.heap.size (fun k_ => some k_ ≠ (.slice Ao63 t436.length co63 : Value).ownBlock ∧ some k_ ≠ (s_.1 : Value).ownBlock) (.slice Ao74 t448.length co74) t448) ∧ (Kd.R k75 75 w' w.heap.size (fun k_ => some k_ ≠ (.slice Ao65 t439.length co65 : Value).ownBlock ∧ some k_ ≠ (s_.2.1 : Value).ownBlock) (.slice Ao78 t451.length co78) t451) ∧ (Kd.R Kd.string 9 w' w.heap.size (fun k_ => some k_ ≠ (.slice Ao63 t436.length co63 : Value).ownBlock ∧ some k_ ≠ (.slice Ao74 t448.length co74 : Value).ownBlock) s_.1 t461) ∧ (Kd.R k75 75 w' w.heap.size (fun k_ => some k_ ≠ (.slice Ao65 t439.length co65 : Value).ownBlock ∧ some k_ ≠ (.slice Ao78 t451.length co78 : Value).ownBlock) s_.2.1 t464) ∧ (w'.heap[gb434]? = some (.cells #[.slice Ao54 t427.length co54, .slice Ao56 t430.length co56] 32 (0, 0))) ∧ (w'.heap[gb443]? = some (.cells #[.slice Ao63 t436.length co63, .slice Ao65 t439.length co65] 32 (0, 0))) ∧ (w'.heap[gb455]? = some (.cells #[.slice Ao74 t448.length co74, .slice Ao78 t451.length co78] 32 (0, 0))) ∧ (w'.heap[s_.2.2]? = some (.cells #[.slice none 0 0, .slice none 0 0] 32 (0, 0))) ∧ (w.heap.size ≤ s_.2.2) ∧ (w.heap.size ≤ s_.2.2) ∧ (gb434 ≠ s_.2.2) ∧ (s_.2.2 ≠ gb434) ∧ (gb443 ≠ s_.2.2) ∧ (s_.2.2 ≠ gb443) ∧ (gb455 ≠ s_.2.2) ∧ (s_.2.2 ≠ gb455) ∧ (Below w.heap.size w w')) ?_ ?_
                      rotate_left
                      ·intro hCont
                       refine two_ (i := 7) (j := 13) (Ni := some 95) (Nj := some 19) #[tt, tt, tt, tt, tt, tt, tt, tt, ff, ff, ff, ff, ff, ff, ff, ff] #[tt, tt, tt, tt, tt, tt, tt, ff, ff, ff, ff, ff, ff, tt, ff, ff] rfl rfl rfl rfl (two_of HT_.out (by kernel_rfl)) (by decide) (by decide) (fun K hK => ?_) (fun K hK => ?_)
                       ·skip
                        refine goes_ Try.func5 (by kernel_rfl) rfl #[.slice A1 l1.length c1, .int .i64 3, .int .i64 (wrap64 ((t444.length : Int) + 1))] (by rfl) rfl rfl zq ?_
                        with_reducible refine (laws_at.calls _ _ l1 3 (wrap64 ((t444.length : Int) + 1)) t456 _ ?side1 ?side2 A17.out).mono ?_
                        (case side1 => exact zC (Kd.C_below HR1.out HB.out))
                        (case side2 => exact HC1.out)
                        rintro e w' ⟨rfl, ⟨nd, rfl⟩⟩
                        refine ⟨_, rfl, ?_⟩
                        refine hK.out _ _ ⟨(blk_cell Zb.out 0).trans rfl, (blk_cell Zb.out 1).trans rfl⟩ (fun hHeld => ?_)
                        clear hK K
                        refine norm_ (a' := ?_) ?_ ?_
                        rotate_left
                        ·show Act.put _ (some 95) _ = _
                         simp only [Act.put, zs3, zz3, zt3, i64_w, i32_w]
                         rfl
                        refine pure_ (i := 8) (N := some 96) (v := ?_) (a' := ?_) #[tt, tt, tt, tt, tt, tt, tt, tt, tt, ff, ff, ff, ff, ff, ff, ff] rfl rfl (any_of HT_.out (by kernel_rfl)) (fun _ _ _ h => h) (Or.inl ⟨by rfl, ?_⟩) ?_ ?_
                        rotate_left; (intro w'; go_simp; with_reducible rfl); rotate_left; (simp only [Act.put, zs3, zz3, zt3, i64_w, i32_w]; rfl)
                        refine two_ (i := 9) (j := 13) (Ni := some 97) (Nj := some 19) #[tt, tt, tt, tt, tt, tt, tt, tt, tt, tt, ff, ff, ff, ff, ff, ff] #[tt, tt, tt, tt, tt, tt, tt, tt, tt, ff, ff, ff, ff, tt, ff, ff] rfl rfl rfl rfl (two_of HT_.out (by kernel_rfl)) (by decide) (by decide) (fun K hK => ?_) (fun K hK => ?_)
                        ·skip
                         refine goes_ Try.func7 (by kernel_rfl) rfl #[.agg #[.slice Ao63 t436.length co63, .slice Ao65 t439.length co65], .int .i64 (Int.tmod (wrap64 (t414 + 1)) 4), .slice Ao71 y457.length co71] (by rfl) rfl rfl zq ?_
                         with_reducible refine (impl_MovesDo.calls k _ _ t436 _ _ t439 (Int.tmod (wrap64 (t414 + 1)) 4) _ _ y457 t461 t464 t467 _ ?side1 ?side2 ?side3 ?side4 ?side5 ?side6 A20.out).mono ?_
                         (case side1 => exact zC ((Kd.R_reads' Zf.out).2.2))
                         (case side2 => exact (Kd.R_reads' Zf.out).2.1)
                         (case side3 => exact zC ((Kd.R_reads' Zg.out).2.2))
                         (case side4 => exact (Kd.R_reads' Zg.out).2.1)
                         (case side5 => repeat (first | exact (by repeat (first | (with_reducible exact Zw.out) | (with_reducible refine Kd.C_alloc ?_ _) | (with_reducible refine Kd.C_drewN ?_ _) | (with_reducible refine Kd.C_drew ?_) | exact Zw.out)) | (with_reducible refine Kd.C_alloc ?_ _) | (with_reducible refine Kd.C_drewN ?_ _) | (with_reducible refine Kd.C_drew ?_)))
                         (case side6 => exact Zao.out)
                         rintro e w82 ⟨v462, v465, rfl, ho0, ho1, hb⟩
                         refine ⟨_, rfl, ?_⟩
                         have n0_ := zm3 (Kd.R_elder' (z3_1 Zf.out) (Kd.R_base ho0) hb); have n1_ := zm3 (Kd.R_elder' (z3_1 Zg.out) (Kd.R_base ho1) hb); have n2_ := zm3 (Kd.R_below (z3_1 Zl.out) hb); have n3_ := zm3 (Kd.R_elder' (z3_1 Zi.out) (Kd.R_base ho0) hb); have n4_ := zm3 (Kd.R_elder' (z3_1 Zm.out) (Kd.R_base ho1) hb); have n5_ := zm3 (Kd.R_lower (Kd.R_new' (Kd.R_new' ho0 (Kd.R_lt (z3_1 Zf.out))) (Kd.R_lt (z3_1 Zi.out))) (below_size (z3_5 HB.out Zc.out Zk.out Zn.out))); have n6_ := zm3 (Kd.R_lower (Kd.R_new' (Kd.R_new' ho1 (Kd.R_lt (z3_1 Zg.out))) (Kd.R_lt (z3_1 Zm.out))) (below_size (z3_5 HB.out Zc.out Zk.out Zn.out))); have n7_ := zm3 (blk_below (g := gb434) (o := .cells #[.slice Ao54 t427.length co54, .slice Ao56 t430.length co56] 32 (0, 0)) (z3_2 Za.out) hb); have n8_ := zm3 (blk_below (g := gb443) (o := .cells #[.slice Ao63 t436.length co63, .slice Ao65 t439.length co65] 32 (0, 0)) (z3_2 Zb.out) hb); have n9_ := zm3 (blk_below (g := gb455) (o := .cells #[.slice Ao74 t448.length co74, .slice Ao78 t451.length co78] 32 (0, 0)) (z3_2 Ze.out) hb); have n10_ := zm3 (Kd.C_below (by repeat (first | (with_reducible exact Zw.out) | (with_reducible refine Kd.C_alloc ?_ _) | (with_reducible refine Kd.C_drewN ?_ _) | (with_reducible refine Kd.C_drew ?_) | exact Zw.out)) hb); have n11_ := zm3 (below_step (z3_5 HB.out Zc.out Zk.out Zn.out) hb); clear Zf; clear Zg; clear Zl; clear Zi; clear Zm; clear Za; clear Zb; clear Ze; clear Zw; clear HB; have Zf := n0_; have Zg := n1_; have Zl := n2_; have Zi := n3_; have Zm := n4_; have Zq := n5_; have Zr := n6_; have Za := n7_; have Zb := n8_; have Ze := n9_; have Zw := n10_; have HB := n11_; clear n0_ n1_ n2_ n3_ n4_ n5_ n6_ n7_ n8_ n9_ n10_ n11_
                         (try clear hb)
                         (try clear hb2)
                         (try clear hk)
                         (try clear hi)
                         (try clear ho0)
                         (try clear ho1)
                         refine hK.out _ _ ⟨(blk_cell Zb.out 0).trans rfl, (blk_cell Zb.out 1).trans rfl⟩ (fun hHeld => ?_)
                         clear hK K
                         refine norm_ (a' := ?_) ?_ ?_
                         rotate_left
                         ·show Act.put _ (some 97) _ = _
                          simp only [Act.put, zs3, zz3, zt3, i64_w, i32_w]
                          rfl
                         refine pure_ (i := 10) (N := some 87) (v := ?_) (a' := ?_) #[tt, tt, tt, tt, tt, tt, tt, tt, tt, tt, tt, ff, ff, ff, ff, ff] rfl rfl (any_of HT_.out (by kernel_rfl)) (fun _ _ _ h => h) (Or.inl ⟨by rfl, ?_⟩) ?_ ?_
                         rotate_left; (intro w'; go_simp; with_reducible rfl); rotate_left; (simp only [Act.put, zs3, zz3, zt3, i64_w, i32_w]; rfl)
                         refine pure_ (i := 11) (N := some 98) (v := ?_) (a' := ?_) #[tt, tt, tt, tt, tt, tt, tt, tt, tt, tt, tt, tt, ff, ff, ff, ff] rfl rfl (any_of HT_.out (by kernel_rfl)) (fun _ _ _ h => h) (Or.inl ⟨by rfl, ?_⟩) ?_ ?_
                         rotate_left; (intro w'; go_simp; with_reducible rfl); rotate_left; (simp only [Act.put, zs3, zz3, zt3, i64_w, i32_w]; rfl)
                         refine pure_ (i := 12) (N := some 99) (v := ?_) (a' := ?_) #[tt, tt, tt, tt, tt, tt, tt, tt, tt, tt, tt, tt, tt, ff, ff, ff] rfl rfl (any_of HT_.out (by kernel_rfl)) (fun _ _ _ h => h) (Or.inl ⟨by rfl, ?_⟩) ?_ ?_
                         rotate_left; (intro w'; go_simp; with_reducible rfl); rotate_left; (simp only [Act.put, zs3, zz3, zt3, i64_w, i32_w]; rfl)
                         refine one_ (i := 13) (N := some 19) #[tt, tt, tt, tt, tt, tt, tt, tt, tt, tt, tt, tt, tt, tt, ff, ff] rfl rfl (one_of HT_.out (by kernel_rfl)) (by decide) (fun K hK => ?_)
                         refine box_step ?hg (N := 19) ?hd (cs := #[.slice none 0 0, .slice none 0 0]) (t := 32) ?hr ?_; (case hd => rfl); (case hg => rfl); (case hr => first | (go_simp; done) | (go_simp; rfl))
                         intro gb468 hg w83 hbox hb
                         have n0_ := zm3 (Kd.R_below (z3_1 Zf.out) hb); have n1_ := zm3 (Kd.R_below (z3_1 Zg.out) hb); have n2_ := zm3 (Kd.R_below (z3_1 Zl.out) hb); have n3_ := zm3 (Kd.R_below (z3_1 Zi.out) hb); have n4_ := zm3 (Kd.R_below (z3_1 Zm.out) hb); have n5_ := zm3 (Kd.R_below (z3_1 Zq.out) hb); have n6_ := zm3 (Kd.R_below (z3_1 Zr.out) hb); have n7_ := zm3 (blk_below (g := gb434) (o := .cells #[.slice Ao54 t427.length co54, .slice Ao56 t430.length co56] 32 (0, 0)) (z3_2 Za.out) hb); have n8_ := zm3 (blk_below (g := gb443) (o := .cells #[.slice Ao63 t436.length co63, .slice Ao65 t439.length co65] 32 (0, 0)) (z3_2 Zb.out) hb); have n9_ := zm3 (blk_below (g := gb455) (o := .cells #[.slice Ao74 t448.length co74, .slice Ao78 t451.length co78] 32 (0, 0)) (z3_2 Ze.out) hb); have n10_ := zm3 (Kd.C_below (by repeat (first | (with_reducible exact Zw.out) | (with_reducible refine Kd.C_alloc ?_ _) | (with_reducible refine Kd.C_drewN ?_ _) | (with_reducible refine Kd.C_drew ?_) | exact Zw.out)) hb); have n11_ := zm3 (below_step (z3_5 HB.out Zc.out Zk.out Zn.out) hb); have n12_ := zm3 (hbox); have n13_ := zm3 ((by rw [hg]; exact (below_size (z3_5 HB.out Zc.out Zk.out Zn.out)) : w.heap.size ≤ gb468)); have n14_ := zm3 ((by rw [hg]; exact (below_size (z3_5 HB.out Zc.out Zk.out Zn.out)) : w.heap.size ≤ gb468)); have n15_ := zm3 ((by rw [hg]; exact Nat.ne_of_lt (blk_lt (g := gb434) (o := .cells #[.slice Ao54 t427.length co54, .slice Ao56 t430.length co56] 32 (0, 0)) (z3_2 Za.out)) : gb434 ≠ gb468)); have n16_ := zm3 ((by rw [hg]; exact Nat.ne_of_gt (blk_lt (g := gb434) (o := .cells #[.slice Ao54 t427.length co54, .slice Ao56 t430.length co56] 32 (0, 0)) (z3_2 Za.out)) : gb468 ≠ gb434)); have n17_ := zm3 ((by rw [hg]; exact Nat.ne_of_lt (blk_lt (g := gb443) (o := .cells #[.slice Ao63 t436.length co63, .slice Ao65 t439.length co65] 32 (0, 0)) (z3_2 Zb.out)) : gb443 ≠ gb468)); have n18_ := zm3 ((by rw [hg]; exact Nat.ne_of_gt (blk_lt (g := gb443) (o := .cells #[.slice Ao63 t436.length co63, .slice Ao65 t439.length co65] 32 (0, 0)) (z3_2 Zb.out)) : gb468 ≠ gb443)); have n19_ := zm3 ((by rw [hg]; exact Nat.ne_of_lt (blk_lt (g := gb455) (o := .cells #[.slice Ao74 t448.length co74, .slice Ao78 t451.length co78] 32 (0, 0)) (z3_2 Ze.out)) : gb455 ≠ gb468)); have n20_ := zm3 ((by rw [hg]; exact Nat.ne_of_gt (blk_lt (g := gb455) (o := .cells #[.slice Ao74 t448.length co74, .slice Ao78 t451.length co78] 32 (0, 0)) (z3_2 Ze.out)) : gb468 ≠ gb455)); clear Zf; clear Zg; clear Zl; clear Zi; clear Zm; clear Zq; clear Zr; clear Za; clear Zb; clear Ze; clear Zw; clear HB; have Zf := n0_; have Zg := n1_; have Zl := n2_; have Zi := n3_; have Zm := n4_; have Zq := n5_; have Zr := n6_; have Za := n7_; have Zb := n8_; have Ze := n9_; have Zw := n10_; have HB := n11_; have Zh := n12_; have Zac := n13_; have Zt := n14_; have ZC := n15_; have ZK := n16_; have Zx := n17_; have ZL := n18_; have ZD := n19_; have ZM := n20_; clear n0_ n1_ n2_ n3_ n4_ n5_ n6_ n7_ n8_ n9_ n10_ n11_ n12_ n13_ n14_ n15_ n16_ n17_ n18_ n19_ n20_; clear hb hbox hg
                         refine hK.out _ _ ⟨(blk_cell Zb.out 0).trans rfl, (blk_cell Zb.out 1).trans rfl⟩ (fun hHeld => ?_)
                         clear hK K
                         refine norm_ (a' := ?_) ?_ ?_
                         rotate_left
                         ·show Act.put _ (some 19) _ = _
                          simp only [Act.put, zs3, zz3, zt3, i64_w, i32_w]
                          rfl
                         exact norm_ (by simp only [putAll, Act.put, zs3, zz3, zt3]) (hCont (v462, v465, gb468) _ ⟨hHeld, (z3_1 Zf.out), (z3_1 Zg.out), (z3_1 Zl.out), (z3_1 Zi.out), (z3_1 Zm.out), (by (with_reducible repeat (first | apply Kd.R_alloc | apply Kd.R_drewN | apply Kd.R_drew)); exact Kd.R_mono Zq.out (fun _ hk => ⟨hk.1.2, hk.2⟩)), (by (with_reducible repeat (first | apply Kd.R_alloc | apply Kd.R_drewN | apply Kd.R_drew)); exact Kd.R_mono Zr.out (fun _ hk => ⟨hk.1.2, hk.2⟩)), (z3_2 Za.out), (z3_2 Zb.out), (z3_2 Ze.out), (z3_2 Zh.out), Zac.out, Zt.out, ZC.out, ZK.out, Zx.out, ZL.out, ZD.out, ZM.out, (z3_6 HB.out Zc.out Zk.out Zn.out Zt.out)⟩)
                        ·skip
                         refine box_step ?hg (N := 19) ?hd (cs := #[.slice none 0 0, .slice none 0 0]) (t := 32) ?hr ?_; (case hd => rfl); (case hg => rfl); (case hr => first | (go_simp; done) | (go_simp; rfl))
                         intro gb468 hg w82 hbox hb
                         have n0_ := zm3 (Kd.R_below (z3_1 Zf.out) hb); have n1_ := zm3 (Kd.R_below (z3_1 Zg.out) hb); have n2_ := zm3 (Kd.R_below (z3_1 Zl.out) hb); have n3_ := zm3 (Kd.R_below (z3_1 Zi.out) hb); have n4_ := zm3 (Kd.R_below (z3_1 Zm.out) hb); have n5_ := zm3 (blk_below (g := gb434) (o := .cells #[.slice Ao54 t427.length co54, .slice Ao56 t430.length co56] 32 (0, 0)) (z3_2 Za.out) hb); have n6_ := zm3 (blk_below (g := gb443) (o := .cells #[.slice Ao63 t436.length co63, .slice Ao65 t439.length co65] 32 (0, 0)) (z3_2 Zb.out) hb); have n7_ := zm3 (blk_below (g := gb455) (o := .cells #[.slice Ao74 t448.length co74, .slice Ao78 t451.length co78] 32 (0, 0)) (z3_2 Ze.out) hb); have n8_ := zm3 (Kd.C_below (by repeat (first | (with_reducible exact Zw.out) | (with_reducible refine Kd.C_alloc ?_ _) | (with_reducible refine Kd.C_drewN ?_ _) | (with_reducible refine Kd.C_drew ?_) | exact Zw.out)) hb); have n9_ := zm3 (below_step (z3_5 HB.out Zc.out Zk.out Zn.out) hb); have n10_ := zm3 (hbox); have n11_ := zm3 ((by rw [hg]; exact (below_size (z3_5 HB.out Zc.out Zk.out Zn.out)) : w.heap.size ≤ gb468)); have n12_ := zm3 ((by rw [hg]; exact (below_size (z3_5 HB.out Zc.out Zk.out Zn.out)) : w.heap.size ≤ gb468)); have n13_ := zm3 ((by rw [hg]; exact Nat.ne_of_lt (blk_lt (g := gb434) (o := .cells #[.slice Ao54 t427.length co54, .slice Ao56 t430.length co56] 32 (0, 0)) (z3_2 Za.out)) : gb434 ≠ gb468)); have n14_ := zm3 ((by rw [hg]; exact Nat.ne_of_gt (blk_lt (g := gb434) (o := .cells #[.slice Ao54 t427.length co54, .slice Ao56 t430.length co56] 32 (0, 0)) (z3_2 Za.out)) : gb468 ≠ gb434)); have n15_ := zm3 ((by rw [hg]; exact Nat.ne_of_lt (blk_lt (g := gb443) (o := .cells #[.slice Ao63 t436.length co63, .slice Ao65 t439.length co65] 32 (0, 0)) (z3_2 Zb.out)) : gb443 ≠ gb468)); have n16_ := zm3 ((by rw [hg]; exact Nat.ne_of_gt (blk_lt (g := gb443) (o := .cells #[.slice Ao63 t436.length co63, .slice Ao65 t439.length co65] 32 (0, 0)) (z3_2 Zb.out)) : gb468 ≠ gb443)); have n17_ := zm3 ((by rw [hg]; exact Nat.ne_of_lt (blk_lt (g := gb455) (o := .cells #[.slice Ao74 t448.length co74, .slice Ao78 t451.length co78] 32 (0, 0)) (z3_2 Ze.out)) : gb455 ≠ gb468)); have n18_ := zm3 ((by rw [hg]; exact Nat.ne_of_gt (blk_lt (g := gb455) (o := .cells #[.slice Ao74 t448.length co74, .slice Ao78 t451.length co78] 32 (0, 0)) (z3_2 Ze.out)) : gb468 ≠ gb455)); clear Zf; clear Zg; clear Zl; clear Zi; clear Zm; clear Za; clear Zb; clear Ze; clear Zw; clear HB; have Zf := n0_; have Zg := n1_; have Zl := n2_; have Zi := n3_; have Zm := n4_; have Za := n5_; have Zb := n6_; have Ze := n7_; have Zw := n8_; have HB := n9_; have Zh := n10_; have Zac := n11_; have Zt := n12_; have ZC := n13_; have ZK := n14_; have Zx := n15_; have ZL := n16_; have ZD := n17_; have ZM := n18_; clear n0_ n1_ n2_ n3_ n4_ n5_ n6_ n7_ n8_ n9_ n10_ n11_ n12_ n13_ n14_ n15_ n16_ n17_ n18_; clear hb hbox hg
                         refine hK.out _ _ ⟨(blk_cell Zb.out 0).trans rfl, (blk_cell Zb.out 1).trans rfl⟩ (fun hHeld => ?_)
                         clear hK K
                         refine norm_ (a' := ?_) ?_ ?_
                         rotate_left
                         ·show Act.put _ (some 19) _ = _
                          simp only [Act.put, zs3, zz3, zt3, i64_w, i32_w]
                          rfl
                         refine one_ (i := 9) (N := some 97) #[tt, tt, tt, tt, tt, tt, tt, tt, tt, tt, ff, ff, ff, tt, ff, ff] rfl rfl (one_of HT_.out (by kernel_rfl)) (by decide) (fun K hK => ?_)
                         refine goes_ Try.func7 (by kernel_rfl) rfl #[.agg #[.slice Ao63 t436.length co63, .slice Ao65 t439.length co65], .int .i64 (Int.tmod (wrap64 (t414 + 1)) 4), .slice Ao71 y457.length co71] (by rfl) rfl rfl zq ?_
                         with_reducible refine (impl_MovesDo.calls k _ _ t436 _ _ t439 (Int.tmod (wrap64 (t414 + 1)) 4) _ _ y457 t461 t464 t467 _ ?side1 ?side2 ?side3 ?side4 ?side5 ?side6 A20.out).mono ?_
                         (case side1 => exact zC ((Kd.R_reads' Zf.out).2.2))
                         (case side2 => exact (Kd.R_reads' Zf.out).2.1)
                         (case side3 => exact zC ((Kd.R_reads' Zg.out).2.2))
                         (case side4 => exact (Kd.R_reads' Zg.out).2.1)
                         (case side5 => repeat (first | exact (by repeat (first | (with_reducible exact Zw.out) | (with_reducible refine Kd.C_alloc ?_ _) | (with_reducible refine Kd.C_drewN ?_ _) | (with_reducible refine Kd.C_drew ?_) | exact Zw.out)) | (with_reducible refine Kd.C_alloc ?_ _) | (with_reducible refine Kd.C_drewN ?_ _) | (with_reducible refine Kd.C_drew ?_)))
                         (case side6 => exact Zao.out)
                         rintro e w83 ⟨v462, v465, rfl, ho0, ho1, hb⟩
                         refine ⟨_, rfl, ?_⟩
                         have n0_ := zm3 (Kd.R_elder' (z3_1 Zf.out) (Kd.R_base ho0) hb); have n1_ := zm3 (Kd.R_elder' (z3_1 Zg.out) (Kd.R_base ho1) hb); have n2_ := zm3 (Kd.R_below (z3_1 Zl.out) hb); have n3_ := zm3 (Kd.R_elder' (z3_1 Zi.out) (Kd.R_base ho0) hb); have n4_ := zm3 (Kd.R_elder' (z3_1 Zm.out) (Kd.R_base ho1) hb); have n5_ := zm3 (Kd.R_lower (Kd.R_new' (Kd.R_new' ho0 (Kd.R_lt (z3_1 Zf.out))) (Kd.R_lt (z3_1 Zi.out))) (below_size (z3_6 HB.out Zc.out Zk.out Zn.out Zt.out))); have n6_ := zm3 (Kd.R_lower (Kd.R_new' (Kd.R_new' ho1 (Kd.R_lt (z3_1 Zg.out))) (Kd.R_lt (z3_1 Zm.out))) (below_size (z3_6 HB.out Zc.out Zk.out Zn.out Zt.out))); have n7_ := zm3 (blk_below (g := gb434) (o := .cells #[.slice Ao54 t427.length co54, .slice Ao56 t430.length co56] 32 (0, 0)) (z3_2 Za.out) hb); have n8_ := zm3 (blk_below (g := gb443) (o := .cells #[.slice Ao63 t436.length co63, .slice Ao65 t439.length co65] 32 (0, 0)) (z3_2 Zb.out) hb); have n9_ := zm3 (blk_below (g := gb455) (o := .cells #[.slice Ao74 t448.length co74, .slice Ao78 t451.length co78] 32 (0, 0)) (z3_2 Ze.out) hb); have n10_ := zm3 (Kd.C_below (by repeat (first | (with_reducible exact Zw.out) | (with_reducible refine Kd.C_alloc ?_ _) | (with_reducible refine Kd.C_drewN ?_ _) | (with_reducible refine Kd.C_drew ?_) | exact Zw.out)) hb); have n11_ := zm3 (blk_below (g := gb468) (o := .cells #[.slice none 0 0, .slice none 0 0] 32 (0, 0)) (z3_2 Zh.out) hb); have n12_ := zm3 (below_step (z3_6 HB.out Zc.out Zk.out Zn.out Zt.out) hb); clear Zf; clear Zg; clear Zl; clear Zi; clear Zm; clear Za; clear Zb; clear Ze; clear Zw; clear Zh; clear HB; have Zf := n0_; have Zg := n1_; have Zl := n2_; have Zi := n3_; have Zm := n4_; have Zq := n5_; have Zr := n6_; have Za := n7_; have Zb := n8_; have Ze := n9_; have Zw := n10_; have Zh := n11_; have HB := n12_; clear n0_ n1_ n2_ n3_ n4_ n5_ n6_ n7_ n8_ n9_ n10_ n11_ n12_
                         (try clear hb)
                         (try clear hb2)
                         (try clear hk)
                         (try clear hi)
                         (try clear ho0)
                         (try clear ho1)
                         refine hK.out _ _ ⟨(blk_cell Zb.out 0).trans rfl, (blk_cell Zb.out 1).trans rfl⟩ (fun hHeld => ?_)
                         clear hK K
                         refine norm_ (a' := ?_) ?_ ?_
                         rotate_left
                         ·show Act.put _ (some 97) _ = _
                          simp only [Act.put, zs3, zz3, zt3, i64_w, i32_w]
                          rfl
                         refine pure_ (i := 10) (N := some 87) (v := ?_) (a' := ?_) #[tt, tt, tt, tt, tt, tt, tt, tt, tt, tt, tt, ff, ff, tt, ff, ff] rfl rfl (any_of HT_.out (by kernel_rfl)) (fun _ _ _ h => h) (Or.inl ⟨by rfl, ?_⟩) ?_ ?_
                         rotate_left; (intro w'; go_simp; with_reducible rfl); rotate_left; (simp only [Act.put, zs3, zz3, zt3, i64_w, i32_w]; rfl)
                         refine pure_ (i := 11) (N := some 98) (v := ?_) (a' := ?_) #[tt, tt, tt, tt, tt, tt, tt, tt, tt, tt, tt, tt, ff, tt, ff, ff] rfl rfl (any_of HT_.out (by kernel_rfl)) (fun _ _ _ h => h) (Or.inl ⟨by rfl, ?_⟩) ?_ ?_
                         rotate_left; (intro w'; go_simp; with_reducible rfl); rotate_left; (simp only [Act.put, zs3, zz3, zt3, i64_w, i32_w]; rfl)
                         refine pure_ (i := 12) (N := some 99) (v := ?_) (a' := ?_) #[tt, tt, tt, tt, tt, tt, tt, tt, tt, tt, tt, tt, tt, tt, ff, ff] rfl rfl (any_of HT_.out (by kernel_rfl)) (fun _ _ _ h => h) (Or.inl ⟨by rfl, ?_⟩) ?_ ?_
                         rotate_left; (intro w'; go_simp; with_reducible rfl); rotate_left; (simp only [Act.put, zs3, zz3, zt3, i64_w, i32_w]; rfl)
                         exact norm_ (by simp only [putAll, Act.put, zs3, zz3, zt3]) (hCont (v462, v465, gb468) _ ⟨hHeld, (z3_1 Zf.out), (z3_1 Zg.out), (z3_1 Zl.out), (z3_1 Zi.out), (z3_1 Zm.out), (by (with_reducible repeat (first | apply Kd.R_alloc | apply Kd.R_drewN | apply Kd.R_drew)); exact Kd.R_mono Zq.out (fun _ hk => ⟨hk.1.2, hk.2⟩)), (by (with_reducible repeat (first | apply Kd.R_alloc | apply Kd.R_drewN | apply Kd.R_drew)); exact Kd.R_mono Zr.out (fun _ hk => ⟨hk.1.2, hk.2⟩)), (z3_2 Za.out), (z3_2 Zb.out), (z3_2 Ze.out), (z3_2 Zh.out), Zac.out, Zt.out, ZC.out, ZK.out, Zx.out, ZL.out, ZD.out, ZM.out, (z3_6 HB.out Zc.out Zk.out Zn.out Zt.out)⟩)
                       ·skip
                        refine box_step ?hg (N := 19) ?hd (cs := #[.slice none 0 0, .slice none 0 0]) (t := 32) ?hr ?_; (case hd => rfl); (case hg => rfl); (case hr => first | (go_simp; done) | (go_simp; rfl))
                        intro gb468 hg w82 hbox hb
                        have n0_ := zm3 (Kd.R_below (z3_1 Zf.out) hb); have n1_ := zm3 (Kd.R_below (z3_1 Zg.out) hb); have n2_ := zm3 (Kd.R_below (z3_1 Zl.out) hb); have n3_ := zm3 (Kd.R_below (z3_1 Zi.out) hb); have n4_ := zm3 (Kd.R_below (z3_1 Zm.out) hb); have n5_ := zm3 (blk_below (g := gb434) (o := .cells #[.slice Ao54 t427.length co54, .slice Ao56 t430.length co56] 32 (0, 0)) (z3_2 Za.out) hb); have n6_ := zm3 (blk_below (g := gb443) (o := .cells #[.slice Ao63 t436.length co63, .slice Ao65 t439.length co65] 32 (0, 0)) (z3_2 Zb.out) hb); have n7_ := zm3 (blk_below (g := gb455) (o := .cells #[.slice Ao74 t448.length co74, .slice Ao78 t451.length co78] 32 (0, 0)) (z3_2 Ze.out) hb); have n8_ := zm3 (Kd.C_below (by repeat (first | (with_reducible exact Zw.out) | (with_reducible refine Kd.C_alloc ?_ _) | (with_reducible refine Kd.C_drewN ?_ _) | (with_reducible refine Kd.C_drew ?_) | exact Zw.out)) hb); have n9_ := zm3 (below_step (z3_5 HB.out Zc.out Zk.out Zn.out) hb); have n10_ := zm3 (hbox); have n11_ := zm3 ((by rw [hg]; exact (below_size (z3_5 HB.out Zc.out Zk.out Zn.out)) : w.heap.size ≤ gb468)); have n12_ := zm3 ((by rw [hg]; exact (below_size (z3_5 HB.out Zc.out Zk.out Zn.out)) : w.heap.size ≤ gb468)); have n13_ := zm3 ((by rw [hg]; exact Nat.ne_of_lt (blk_lt (g := gb434) (o := .cells #[.slice Ao54 t427.length co54, .slice Ao56 t430.length co56] 32 (0, 0)) (z3_2 Za.out)) : gb434 ≠ gb468)); have n14_ := zm3 ((by rw [hg]; exact Nat.ne_of_gt (blk_lt (g := gb434) (o := .cells #[.slice Ao54 t427.length co54, .slice Ao56 t430.length co56] 32 (0, 0)) (z3_2 Za.out)) : gb468 ≠ gb434)); have n15_ := zm3 ((by rw [hg]; exact Nat.ne_of_lt (blk_lt (g := gb443) (o := .cells #[.slice Ao63 t436.length co63, .slice Ao65 t439.length co65] 32 (0, 0)) (z3_2 Zb.out)) : gb443 ≠ gb468)); have n16_ := zm3 ((by rw [hg]; exact Nat.ne_of_gt (blk_lt (g := gb443) (o := .cells #[.slice Ao63 t436.length co63, .slice Ao65 t439.length co65] 32 (0, 0)) (z3_2 Zb.out)) : gb468 ≠ gb443)); have n17_ := zm3 ((by rw [hg]; exact Nat.ne_of_lt (blk_lt (g := gb455) (o := .cells #[.slice Ao74 t448.length co74, .slice Ao78 t451.length co78] 32 (0, 0)) (z3_2 Ze.out)) : gb455 ≠ gb468)); have n18_ := zm3 ((by rw [hg]; exact Nat.ne_of_gt (blk_lt (g := gb455) (o := .cells #[.slice Ao74 t448.length co74, .slice Ao78 t451.length co78] 32 (0, 0)) (z3_2 Ze.out)) : gb468 ≠ gb455)); clear Zf; clear Zg; clear Zl; clear Zi; clear Zm; clear Za; clear Zb; clear Ze; clear Zw; clear HB; have Zf := n0_; have Zg := n1_; have Zl := n2_; have Zi := n3_; have Zm := n4_; have Za := n5_; have Zb := n6_; have Ze := n7_; have Zw := n8_; have HB := n9_; have Zh := n10_; have Zac := n11_; have Zt := n12_; have ZC := n13_; have ZK := n14_; have Zx := n15_; have ZL := n16_; have ZD := n17_; have ZM := n18_; clear n0_ n1_ n2_ n3_ n4_ n5_ n6_ n7_ n8_ n9_ n10_ n11_ n12_ n13_ n14_ n15_ n16_ n17_ n18_; clear hb hbox hg
                        refine hK.out _ _ ⟨(blk_cell Zb.out 0).trans rfl, (blk_cell Zb.out 1).trans rfl⟩ (fun hHeld => ?_)
                        clear hK K
                        refine norm_ (a' := ?_) ?_ ?_
                        rotate_left
                        ·show Act.put _ (some 19) _ = _
                         simp only [Act.put, zs3, zz3, zt3, i64_w, i32_w]
                         rfl
                        refine one_ (i := 7) (N := some 95) #[tt, tt, tt, tt, tt, tt, tt, tt, ff, ff, ff, ff, ff, tt, ff, ff] rfl rfl (one_of HT_.out (by kernel_rfl)) (by decide) (fun K hK => ?_)
                        refine goes_ Try.func5 (by kernel_rfl) rfl #[.slice A1 l1.length c1, .int .i64 3, .int .i64 (wrap64 ((t444.length : Int) + 1))] (by rfl) rfl rfl zq ?_
                        with_reducible refine (laws_at.calls _ _ l1 3 (wrap64 ((t444.length : Int) + 1)) t456 _ ?side1 ?side2 A17.out).mono ?_
                        (case side1 => exact zC (Kd.C_below HR1.out HB.out))
                        (case side2 => exact HC1.out)
                        rintro e w' ⟨rfl, ⟨nd, rfl⟩⟩
                        refine ⟨_, rfl, ?_⟩
                        refine hK.out _ _ ⟨(blk_cell Zb.out 0).trans rfl, (blk_cell Zb.out 1).trans rfl⟩ (fun hHeld => ?_)
                        clear hK K
                        refine norm_ (a' := ?_) ?_ ?_
                        rotate_left
                        ·show Act.put _ (some 95) _ = _
                         simp only [Act.put, zs3, zz3, zt3, i64_w, i32_w]
                         rfl
                        refine pure_ (i := 8) (N := some 96) (v := ?_) (a' := ?_) #[tt, tt, tt, tt, tt, tt, tt, tt, tt, ff, ff, ff, ff, tt, ff, ff] rfl rfl (any_of HT_.out (by kernel_rfl)) (fun _ _ _ h => h) (Or.inl ⟨by rfl, ?_⟩) ?_ ?_
                        rotate_left; (intro w'; go_simp; with_reducible rfl); rotate_left; (simp only [Act.put, zs3, zz3, zt3, i64_w, i32_w]; rfl)
                        refine one_ (i := 9) (N := some 97) #[tt, tt, tt, tt, tt, tt, tt, tt, tt, tt, ff, ff, ff, tt, ff, ff] rfl rfl (one_of HT_.out (by kernel_rfl)) (by decide) (fun K hK => ?_)
                        refine goes_ Try.func7 (by kernel_rfl) rfl #[.agg #[.slice Ao63 t436.length co63, .slice Ao65 t439.length co65], .int .i64 (Int.tmod (wrap64 (t414 + 1)) 4), .slice Ao71 y457.length co71] (by rfl) rfl rfl zq ?_
                        with_reducible refine (impl_MovesDo.calls k _ _ t436 _ _ t439 (Int.tmod (wrap64 (t414 + 1)) 4) _ _ y457 t461 t464 t467 _ ?side1 ?side2 ?side3 ?side4 ?side5 ?side6 A20.out).mono ?_
                        (case side1 => exact zC ((Kd.R_reads' Zf.out).2.2))
                        (case side2 => exact (Kd.R_reads' Zf.out).2.1)
                        (case side3 => exact zC ((Kd.R_reads' Zg.out).2.2))
                        (case side4 => exact (Kd.R_reads' Zg.out).2.1)
                        (case side5 => repeat (first | exact (by repeat (first | (with_reducible exact Zw.out) | (with_reducible refine Kd.C_alloc ?_ _) | (with_reducible refine Kd.C_drewN ?_ _) | (with_reducible refine Kd.C_drew ?_) | exact Zw.out)) | (with_reducible refine Kd.C_alloc ?_ _) | (with_reducible refine Kd.C_drewN ?_ _) | (with_reducible refine Kd.C_drew ?_)))
                        (case side6 => exact Zao.out)
                        rintro e w83 ⟨v462, v465, rfl, ho0, ho1, hb⟩
                        refine ⟨_, rfl, ?_⟩
                        have n0_ := zm3 (Kd.R_elder' (z3_1 Zf.out) (Kd.R_base ho0) hb); have n1_ := zm3 (Kd.R_elder' (z3_1 Zg.out) (Kd.R_base ho1) hb); have n2_ := zm3 (Kd.R_below (z3_1 Zl.out) hb); have n3_ := zm3 (Kd.R_elder' (z3_1 Zi.out) (Kd.R_base ho0) hb); have n4_ := zm3 (Kd.R_elder' (z3_1 Zm.out) (Kd.R_base ho1) hb); have n5_ := zm3 (Kd.R_lower (Kd.R_new' (Kd.R_new' ho0 (Kd.R_lt (z3_1 Zf.out))) (Kd.R_lt (z3_1 Zi.out))) (below_size (z3_6 HB.out Zc.out Zk.out Zn.out Zt.out))); have n6_ := zm3 (Kd.R_lower (Kd.R_new' (Kd.R_new' ho1 (Kd.R_lt (z3_1 Zg.out))) (Kd.R_lt (z3_1 Zm.out))) (below_size (z3_6 HB.out Zc.out Zk.out Zn.out Zt.out))); have n7_ := zm3 (blk_below (g := gb434) (o := .cells #[.slice Ao54 t427.length co54, .slice Ao56 t430.length co56] 32 (0, 0)) (z3_2 Za.out) hb); have n8_ := zm3 (blk_below (g := gb443) (o := .cells #[.slice Ao63 t436.length co63, .slice Ao65 t439.length co65] 32 (0, 0)) (z3_2 Zb.out) hb); have n9_ := zm3 (blk_below (g := gb455) (o := .cells #[.slice Ao74 t448.length co74, .slice Ao78 t451.length co78] 32 (0, 0)) (z3_2 Ze.out) hb); have n10_ := zm3 (Kd.C_below (by repeat (first | (with_reducible exact Zw.out) | (with_reducible refine Kd.C_alloc ?_ _) | (with_reducible refine Kd.C_drewN ?_ _) | (with_reducible refine Kd.C_drew ?_) | exact Zw.out)) hb); have n11_ := zm3 (blk_below (g := gb468) (o := .cells #[.slice none 0 0, .slice none 0 0] 32 (0, 0)) (z3_2 Zh.out) hb); have n12_ := zm3 (below_step (z3_6 HB.out Zc.out Zk.out Zn.out Zt.out) hb); clear Zf; clear Zg; clear Zl; clear Zi; clear Zm; clear Za; clear Zb; clear Ze; clear Zw; clear Zh; clear HB; have Zf := n0_; have Zg := n1_; have Zl := n2_; have Zi := n3_; have Zm := n4_; have Zq := n5_; have Zr := n6_; have Za := n7_; have Zb := n8_; have Ze := n9_; have Zw := n10_; have Zh := n11_; have HB := n12_; clear n0_ n1_ n2_ n3_ n4_ n5_ n6_ n7_ n8_ n9_ n10_ n11_ n12_
                        (try clear hb)
                        (try clear hb2)
                        (try clear hk)
                        (try clear hi)
                        (try clear ho0)
                        (try clear ho1)
                        refine hK.out _ _ ⟨(blk_cell Zb.out 0).trans rfl, (blk_cell Zb.out 1).trans rfl⟩ (fun hHeld => ?_)
                        clear hK K
                        refine norm_ (a' := ?_) ?_ ?_
                        rotate_left
                        ·show Act.put _ (some 97) _ = _
                         simp only [Act.put, zs3, zz3, zt3, i64_w, i32_w]
                         rfl
                        refine pure_ (i := 10) (N := some 87) (v := ?_) (a' := ?_) #[tt, tt, tt, tt, tt, tt, tt, tt, tt, tt, tt, ff, ff, tt, ff, ff] rfl rfl (any_of HT_.out (by kernel_rfl)) (fun _ _ _ h => h) (Or.inl ⟨by rfl, ?_⟩) ?_ ?_
                        rotate_left; (intro w'; go_simp; with_reducible rfl); rotate_left; (simp only [Act.put, zs3, zz3, zt3, i64_w, i32_w]; rfl)
                        refine pure_ (i := 11) (N := some 98) (v := ?_) (a' := ?_) #[tt, tt, tt, tt, tt, tt, tt, tt, tt, tt, tt, tt, ff, tt, ff, ff] rfl rfl (any_of HT_.out (by kernel_rfl)) (fun _ _ _ h => h) (Or.inl ⟨by rfl, ?_⟩) ?_ ?_
                        rotate_left; (intro w'; go_simp; with_reducible rfl); rotate_left; (simp only [Act.put, zs3, zz3, zt3, i64_w, i32_w]; rfl)
                        refine pure_ (i := 12) (N := some 99) (v := ?_) (a' := ?_) #[tt, tt, tt, tt, tt, tt, tt, tt, tt, tt, tt, tt, tt, tt, ff, ff] rfl rfl (any_of HT_.out (by kernel_rfl)) (fun _ _ _ h => h) (Or.inl ⟨by rfl, ?_⟩) ?_ ?_
                        rotate_left; (intro w'; go_simp; with_reducible rfl); rotate_left; (simp only [Act.put, zs3, zz3, zt3, i64_w, i32_w]; rfl)
                        exact norm_ (by simp only [putAll, Act.put, zs3, zz3, zt3]) (hCont (v462, v465, gb468) _ ⟨hHeld, (z3_1 Zf.out), (z3_1 Zg.out), (z3_1 Zl.out), (z3_1 Zi.out), (z3_1 Zm.out), (by (with_reducible repeat (first | apply Kd.R_alloc | apply Kd.R_drewN | apply Kd.R_drew)); exact Kd.R_mono Zq.out (fun _ hk => ⟨hk.1.2, hk.2⟩)), (by (with_reducible repeat (first | apply Kd.R_alloc | apply Kd.R_drewN | apply Kd.R_drew)); exact Kd.R_mono Zr.out (fun _ hk => ⟨hk.1.2, hk.2⟩)), (z3_2 Za.out), (z3_2 Zb.out), (z3_2 Ze.out), (z3_2 Zh.out), Zac.out, Zt.out, ZC.out, ZK.out, Zx.out, ZL.out, ZD.out, ZM.out, (z3_6 HB.out Zc.out Zk.out Zn.out Zt.out)⟩)
                      rintro ⟨v462, v465, gb468⟩ w84 ⟨hS_, h0_, h1_, h2_, h3_, h4_, h5_, h6_, h7_, h8_, h9_, h10_, h11_, h12_, h13_, h14_, h15_, h16_, h17_, h18_, h19_⟩
                      have n0_ : Aside0 (Kd.R Kd.string 9 w84 w.heap.size (fun k_ => some k_ ≠ (.slice Ao74 t448.length co74 : Value).ownBlock ∧ some k_ ≠ (v462 : Value).ownBlock) (.slice Ao63 t436.length co63) t436) := ⟨h0_⟩
                      have n1_ : Aside0 (Kd.R k75 75 w84 w.heap.size (fun k_ => some k_ ≠ (.slice Ao78 t451.length co78 : Value).ownBlock ∧ some k_ ≠ (v465 : Value).ownBlock) (.slice Ao65 t439.length co65) t439) := ⟨h1_⟩
                      have n2_ : Aside0 (Kd.R k52 52 w84 w.heap.size (fun _ => True) (.slice Ao71 t444.length co71) t444) := ⟨h2_⟩
                      have n3_ : Aside0 (Kd.R Kd.string 9 w84 w.heap.size (fun k_ => some k_ ≠ (.slice Ao63 t436.length co63 : Value).ownBlock ∧ some k_ ≠ (v462 : Value).ownBlock) (.slice Ao74 t448.length co74) t448) := ⟨h3_⟩
                      have n4_ : Aside0 (Kd.R k75 75 w84 w.heap.size (fun k_ => some k_ ≠ (.slice Ao65 t439.length co65 : Value).ownBlock ∧ some k_ ≠ (v465 : Value).ownBlock) (.slice Ao78 t451.length co78) t451) := ⟨h4_⟩
                      have n5_ : Aside0 (Kd.R Kd.string 9 w84 w.heap.size (fun k_ => some k_ ≠ (.slice Ao63 t436.length co63 : Value).ownBlock ∧ some k_ ≠ (.slice Ao74 t448.length co74 : Value).ownBlock) v462 t461) := ⟨h5_⟩
                      have n6_ : Aside0 (Kd.R k75 75 w84 w.heap.size (fun k_ => some k_ ≠ (.slice Ao65 t439.length co65 : Value).ownBlock ∧ some k_ ≠ (.slice Ao78 t451.length co78 : Value).ownBlock) v465 t464) := ⟨h6_⟩
                      have n7_ : Aside0 (w84.heap[gb434]? = some (.cells #[.slice Ao54 t427.length co54, .slice Ao56 t430.length co56] 32 (0, 0))) := ⟨h7_⟩
                      have n8_ : Aside0 (w84.heap[gb443]? = some (.cells #[.slice Ao63 t436.length co63, .slice Ao65 t439.length co65] 32 (0, 0))) := ⟨h8_⟩
                      have n9_ : Aside0 (w84.heap[gb455]? = some (.cells #[.slice Ao74 t448.length co74, .slice Ao78 t451.length co78] 32 (0, 0))) := ⟨h9_⟩
                      have n10_ : Aside0 (w84.heap[gb468]? = some (.cells #[.slice none 0 0, .slice none 0 0] 32 (0, 0))) := ⟨h10_⟩
                      have n11_ : Aside0 (w.heap.size ≤ gb468) := ⟨h11_⟩
                      have n12_ : Aside0 (w.heap.size ≤ gb468) := ⟨h12_⟩
                      have n13_ : Aside0 (gb434 ≠ gb468) := ⟨h13_⟩
                      have n14_ : Aside0 (gb468 ≠ gb434) := ⟨h14_⟩
                      have n15_ : Aside0 (gb443 ≠ gb468) := ⟨h15_⟩
                      have n16_ : Aside0 (gb468 ≠ gb443) := ⟨h16_⟩
                      have n17_ : Aside0 (gb455 ≠ gb468) := ⟨h17_⟩
                      have n18_ : Aside0 (gb468 ≠ gb455) := ⟨h18_⟩
                      have n19_ : Aside0 (Below w.heap.size w w84) := ⟨h19_⟩
                      clear Zf; clear Zg; clear Zl; clear Zi; clear Zm; clear Za; clear Zb; clear Ze; clear Zw; clear HB; clear h0_ h1_ h2_ h3_ h4_ h5_ h6_ h7_ h8_ h9_ h10_ h11_ h12_ h13_ h14_ h15_ h16_ h17_ h18_ h19_; have Zf := n0_; have Zg := n1_; have Zl := n2_; have Zi := n3_; have Zm := n4_; have Zq := n5_; have Zr := n6_; have Za := n7_; have Zb := n8_; have Ze := n9_; have Zh := n10_; have Zac := n11_; have Zt := n12_; have ZC := n13_; have ZK := n14_; have Zx := n15_; have ZL := n16_; have ZD := n17_; have ZM := n18_; have HB := n19_; clear n0_ n1_ n2_ n3_ n4_ n5_ n6_ n7_ n8_ n9_ n10_ n11_ n12_ n13_ n14_ n15_ n16_ n17_ n18_ n19_
                      have hHeld : w84.cell? ⟨gb443, 0, none⟩ = some (.slice Ao63 t436.length co63) ∧ w84.cell? ⟨gb443, 1, none⟩ = some (.slice Ao65 t439.length co65) := hS_
                      obtain ⟨Ao85, co85, eo85⟩ := Kd.R_slice Zq.out
                      (first | subst eo85 | (injection eo85 with f1_ f2_ f3_; have f4_ := f1_.symm; have f5_ := f3_.symm; clear f1_ f2_ f3_; subst f4_; subst f5_))
                      obtain ⟨Ao87, co87, eo87⟩ := Kd.R_slice Zr.out
                      (first | subst eo87 | (injection eo87 with f1_ f2_ f3_; have f4_ := f1_.symm; have f5_ := f3_.symm; clear f1_ f2_ f3_; subst f4_; subst f5_))
                      refine norm_ (a' := ?_) ?_ ?_
                      rotate_left
                      ·simp only [putAll, Act.put, zs3, zz3, zt3]
                       rfl
                      refine one_ (i := 14) (N := none) #[tt, tt, tt, tt, tt, tt, tt, tt, tt, tt, tt, tt, tt, tt, tt, ff] rfl rfl (one_of HT_.out (by kernel_rfl)) (by decide) (fun K hK => ?_)
                      have hs86 : w84.cell? ⟨gb468, 0, none⟩ = some (.slice none 0 0) := (blk_cell Zh.out 0).trans rfl
                      have hfs86 := blk_frozen Zh.out 0; have hns86_0 := ZC.out; have hns86_1 := Zx.out; have hns86_2 := ZD.out; have hms86_0 := ZK.out; have hms86_1 := ZL.out; have hms86_2 := ZM.out
                      have hs88 : w84.cell? ⟨gb468, 1, none⟩ = some (.slice none 0 0) := (blk_cell Zh.out 1).trans rfl
                      have hfs88 := blk_frozen Zh.out 1; have hns88_0 := ZC.out; have hns88_1 := Zx.out; have hns88_2 := ZD.out; have hms88_0 := ZK.out; have hms88_1 := ZL.out; have hms88_2 := ZM.out
                      refine skip_ (w1 := ?_) (by rfl) rfl ?_ ?_
                      rotate_left
                      ·go_simp
                       rfl
                      refine hK.out _ _ ⟨((cell_far (p := ⟨gb468, _, none⟩) Zx.out _).trans (((cell_far (p := ⟨gb468, _, none⟩) Zx.out _).trans (hHeld.1)))), ((cell_far (p := ⟨gb468, _, none⟩) Zx.out _).trans (((cell_far (p := ⟨gb468, _, none⟩) Zx.out _).trans (hHeld.2))))⟩ (fun hHeld => ?_)
                      clear hK K
                      refine pure_ (i := 15) (N := some 20) (v := ?_) (a' := ?_) #[tt, tt, tt, tt, tt, tt, tt, tt, tt, tt, tt, tt, tt, tt, tt, tt] rfl rfl (any_of HT_.out (by kernel_rfl)) (fun _ _ _ h => h) (Or.inl ⟨by rfl, ?_⟩) ?_ ?_
                      rotate_left; (intro w'; go_simp; with_reducible rfl); rotate_left; (simp only [Act.put, zs3, zz3, zt3, i64_w, i32_w]; rfl)
                      refine done_ (done_of HT_.out (by kernel_rfl)) ?_
                      try go_wp2
                      have n0_ : Aside0 (Kd.R Kd.string 9 ((w84.setCell ⟨gb468, 0, none⟩ (.slice Ao85 t461.length co85)).setCell ⟨gb468, 1, none⟩ (.slice Ao87 t464.length co87)) w.heap.size (fun k_ => some k_ ≠ (.slice Ao74 t448.length co74 : Value).ownBlock ∧ some k_ ≠ (.slice Ao85 t461.length co85 : Value).ownBlock) (.slice Ao63 t436.length co63) t436) := ⟨by (with_reducible repeat (first | apply Kd.R_alloc | apply Kd.R_drewN | apply Kd.R_drew)); exact Kd.R_mono (Kd.R_far (Kd.R_far (Kd.R_types Zf.out Zh.out (by decide)) (fun _ hk => hk.2) _) (fun _ hk => hk.2) _) (fun _ hk => ⟨hk.1.1, hk.1.2⟩)⟩
                      have n1_ : Aside0 (Kd.R k75 75 ((w84.setCell ⟨gb468, 0, none⟩ (.slice Ao85 t461.length co85)).setCell ⟨gb468, 1, none⟩ (.slice Ao87 t464.length co87)) w.heap.size (fun k_ => some k_ ≠ (.slice Ao78 t451.length co78 : Value).ownBlock ∧ some k_ ≠ (.slice Ao87 t464.length co87 : Value).ownBlock) (.slice Ao65 t439.length co65) t439) := ⟨by (with_reducible repeat (first | apply Kd.R_alloc | apply Kd.R_drewN | apply Kd.R_drew)); exact Kd.R_mono (Kd.R_far (Kd.R_far (Kd.R_types Zg.out Zh.out (by decide)) (fun _ hk => hk.2) _) (fun _ hk => hk.2) _) (fun _ hk => ⟨hk.1.1, hk.1.2⟩)⟩
                      have n2_ : Aside0 (Kd.R k52 52 ((w84.setCell ⟨gb468, 0, none⟩ (.slice Ao85 t461.length co85)).setCell ⟨gb468, 1, none⟩ (.slice Ao87 t464.length co87)) w.heap.size (fun _ => True) (.slice Ao71 t444.length co71) t444) := ⟨by (with_reducible repeat (first | apply Kd.R_alloc | apply Kd.R_drewN | apply Kd.R_drew)); exact Kd.R_mono (Kd.R_far (Kd.R_far (Kd.R_types Zl.out Zh.out (by decide)) (fun _ hk => hk.2) _) (fun _ hk => hk.2) _) (fun _ hk => trivial)⟩
                      have n3_ : Aside0 (Kd.R Kd.string 9 ((w84.setCell ⟨gb468, 0, none⟩ (.slice Ao85 t461.length co85)).setCell ⟨gb468, 1, none⟩ (.slice Ao87 t464.length co87)) w.heap.size (fun k_ => some k_ ≠ (.slice Ao63 t436.length co63 : Value).ownBlock ∧ some k_ ≠ (.slice Ao85 t461.length co85 : Value).ownBlock) (.slice Ao74 t448.length co74) t448) := ⟨by (with_reducible repeat (first | apply Kd.R_alloc | apply Kd.R_drewN | apply Kd.R_drew)); exact Kd.R_mono (Kd.R_far (Kd.R_far (Kd.R_types Zi.out Zh.out (by decide)) (fun _ hk => hk.2) _) (fun _ hk => hk.2) _) (fun _ hk => ⟨hk.1.1, hk.1.2⟩)⟩
                      have n4_ : Aside0 (Kd.R k75 75 ((w84.setCell ⟨gb468, 0, none⟩ (.slice Ao85 t461.length co85)).setCell ⟨gb468, 1, none⟩ (.slice Ao87 t464.length co87)) w.heap.size (fun k_ => some k_ ≠ (.slice Ao65 t439.length co65 : Value).ownBlock ∧ some k_ ≠ (.slice Ao87 t464.length co87 : Value).ownBlock) (.slice Ao78 t451.length co78) t451) := ⟨by (with_reducible repeat (first | apply Kd.R_alloc | apply Kd.R_drewN | apply Kd.R_drew)); exact Kd.R_mono (Kd.R_far (Kd.R_far (Kd.R_types Zm.out Zh.out (by decide)) (fun _ hk => hk.2) _) (fun _ hk => hk.2) _) (fun _ hk => ⟨hk.1.1, hk.1.2⟩)⟩
                      have n5_ : Aside0 (Kd.R Kd.string 9 ((w84.setCell ⟨gb468, 0, none⟩ (.slice Ao85 t461.length co85)).setCell ⟨gb468, 1, none⟩ (.slice Ao87 t464.length co87)) w.heap.size (fun k_ => some k_ ≠ (.slice Ao63 t436.length co63 : Value).ownBlock ∧ some k_ ≠ (.slice Ao74 t448.length co74 : Value).ownBlock) (.slice Ao85 t461.length co85) t461) := ⟨by (with_reducible repeat (first | apply Kd.R_alloc | apply Kd.R_drewN | apply Kd.R_drew)); exact Kd.R_mono (Kd.R_far (Kd.R_far (Kd.R_types Zq.out Zh.out (by decide)) (fun _ hk => hk.2) _) (fun _ hk => hk.2) _) (fun _ hk => ⟨hk.1.1, hk.1.2⟩)⟩
                      have n6_ : Aside0 (Kd.R k75 75 ((w84.setCell ⟨gb468, 0, none⟩ (.slice Ao85 t461.length co85)).setCell ⟨gb468, 1, none⟩ (.slice Ao87 t464.length co87)) w.heap.size (fun k_ => some k_ ≠ (.slice Ao65 t439.length co65 : Value).ownBlock ∧ some k_ ≠ (.slice Ao78 t451.length co78 : Value).ownBlock) (.slice Ao87 t464.length co87) t464) := ⟨by (with_reducible repeat (first | apply Kd.R_alloc | apply Kd.R_drewN | apply Kd.R_drew)); exact Kd.R_mono (Kd.R_far (Kd.R_far (Kd.R_types Zr.out Zh.out (by decide)) (fun _ hk => hk.2) _) (fun _ hk => hk.2) _) (fun _ hk => ⟨hk.1.1, hk.1.2⟩)⟩
                      have n7_ : Aside0 (((w84.setCell ⟨gb468, 0, none⟩ (.slice Ao85 t461.length co85)).setCell ⟨gb468, 1, none⟩ (.slice Ao87 t464.length co87)).heap[gb434]? = some (.cells #[.slice Ao54 t427.length co54, .slice Ao56 t430.length co56] 32 (0, 0))) := ⟨by (with_reducible repeat (first | refine blk_drewN ?_ _ | refine blk_drew ?_ | refine blk_alloc ?_ _)); refine blk_far ?_ ZC.out _; (with_reducible repeat (first | refine blk_drewN ?_ _ | refine blk_drew ?_ | refine blk_alloc ?_ _)); refine blk_far ?_ ZC.out _; (with_reducible repeat (first | refine blk_drewN ?_ _ | refine blk_drew ?_ | refine blk_alloc ?_ _)); exact Za.out⟩
                      have n8_ : Aside0 (((w84.setCell ⟨gb468, 0, none⟩ (.slice Ao85 t461.length co85)).setCell ⟨gb468, 1, none⟩ (.slice Ao87 t464.length co87)).heap[gb443]? = some (.cells #[.slice Ao63 t436.length co63, .slice Ao65 t439.length co65] 32 (0, 0))) := ⟨by (with_reducible repeat (first | refine blk_drewN ?_ _ | refine blk_drew ?_ | refine blk_alloc ?_ _)); refine blk_far ?_ Zx.out _; (with_reducible repeat (first | refine blk_drewN ?_ _ | refine blk_drew ?_ | refine blk_alloc ?_ _)); refine blk_far ?_ Zx.out _; (with_reducible repeat (first | refine blk_drewN ?_ _ | refine blk_drew ?_ | refine blk_alloc ?_ _)); exact Zb.out⟩
                      have n9_ : Aside0 (((w84.setCell ⟨gb468, 0, none⟩ (.slice Ao85 t461.length co85)).setCell ⟨gb468, 1, none⟩ (.slice Ao87 t464.length co87)).heap[gb455]? = some (.cells #[.slice Ao74 t448.length co74, .slice Ao78 t451.length co78] 32 (0, 0))) := ⟨by (with_reducible repeat (first | refine blk_drewN ?_ _ | refine blk_drew ?_ | refine blk_alloc ?_ _)); refine blk_far ?_ ZD.out _; (with_reducible repeat (first | refine blk_drewN ?_ _ | refine blk_drew ?_ | refine blk_alloc ?_ _)); refine blk_far ?_ ZD.out _; (with_reducible repeat (first | refine blk_drewN ?_ _ | refine blk_drew ?_ | refine blk_alloc ?_ _)); exact Ze.out⟩
                      have n10_ : Aside0 (((w84.setCell ⟨gb468, 0, none⟩ (.slice Ao85 t461.length co85)).setCell ⟨gb468, 1, none⟩ (.slice Ao87 t464.length co87)).heap[gb468]? = some (.cells #[.slice Ao85 t461.length co85, .slice Ao87 t464.length co87] 32 (0, 0))) := ⟨by (with_reducible repeat (first | refine blk_drewN ?_ _ | refine blk_drew ?_ | refine blk_alloc ?_ _)); refine blk_put (cs := #[.slice Ao85 t461.length co85, .slice none 0 0]) ?_ 1 _ rfl; (with_reducible repeat (first | refine blk_drewN ?_ _ | refine blk_drew ?_ | refine blk_alloc ?_ _)); refine blk_put (cs := #[.slice none 0 0, .slice none 0 0]) ?_ 0 _ rfl; (with_reducible repeat (first | refine blk_drewN ?_ _ | refine blk_drew ?_ | refine blk_alloc ?_ _)); exact Zh.out⟩
                      have n11_ : Aside0 (Below w.heap.size w ((w84.setCell ⟨gb468, 0, none⟩ (.slice Ao85 t461.length co85)).setCell ⟨gb468, 1, none⟩ (.slice Ao87 t464.length co87))) := ⟨z3_6 HB.out Zc.out Zk.out Zn.out Zt.out⟩
                      (try clear Zf)
                      (try clear Zg)
                      (try clear Zl)
                      (try clear Zi)
                      (try clear Zm)
                      (try clear Zq)
                      (try clear Zr)
                      (try clear Za)
                      (try clear Zb)
                      (try clear Ze)
                      (try clear Zh)
                      (try clear HB)
                      generalize ((w84.setCell ⟨gb468, 0, none⟩ (.slice Ao85 t461.length co85)).setCell ⟨gb468, 1, none⟩ (.slice Ao87 t464.length co87)) = w89 at n0_ n1_ n2_ n3_ n4_ n5_ n6_ n7_ n8_ n9_ n10_ n11_ ⊢
                      have Zf := n0_; have Zg := n1_; have Zl := n2_; have Zi := n3_; have Zm := n4_; have Zq := n5_; have Zr := n6_; have Za := n7_; have Zb := n8_; have Ze := n9_; have Zh := n10_; have HB := n11_; clear n0_ n1_ n2_ n3_ n4_ n5_ n6_ n7_ n8_ n9_ n10_ n11_; have n0_ := zm3 (Kd.R_drew Zf.out); have n1_ := zm3 (Kd.R_drew Zg.out); have n2_ := zm3 (Kd.R_drew Zl.out); have n3_ := zm3 (Kd.R_drew Zi.out); have n4_ := zm3 (Kd.R_drew Zm.out); have n5_ := zm3 (Kd.R_drew Zq.out); have n6_ := zm3 (Kd.R_drew Zr.out); have n7_ := zm3 (blk_drew Za.out); have n8_ := zm3 (blk_drew Zb.out); have n9_ := zm3 (blk_drew Ze.out); have n10_ := zm3 (blk_drew Zh.out); have n11_ := zm3 (below_drew1 HB.out); clear Zf; clear Zg; clear Zl; clear Zi; clear Zm; clear Zq; clear Zr; clear Za; clear Zb; clear Ze; clear Zh; clear HB; have Zf := n0_; have Zg := n1_; have Zl := n2_; have Zi := n3_; have Zm := n4_; have Zq := n5_; have Zr := n6_; have Za := n7_; have Zb := n8_; have Ze := n9_; have Zh := n10_; have HB := n11_; clear n0_ n1_ n2_ n3_ n4_ n5_ n6_ n7_ n8_ n9_ n10_ n11_
                      refine start_ (n := 11) (S := fun w' => w'.cell? ⟨gb468, 0, none⟩ = some (.slice Ao85 t461.length co85) ∧ w'.cell? ⟨gb468, 1, none⟩ = some (.slice Ao87 t464.length co87)) (ds := []) #[false, false, false, false, false, false, false, false, false, false, false] (by kernel_rfl) rfl rfl ⟨(blk_cell Zh.out 0).trans rfl, (blk_cell Zh.out 1).trans rfl⟩ (fun hHeld => ?_); refine with_tabW laws_FnReplay.tab13 laws_FnReplay.bits13 (fun HT_ HW_ => ?_)
                      generalize w89.drew = w90 at Zf Zg Zl Zi Zm Zq Zr Za Zb Ze Zh HB hHeld ⊢
                      refine pure_ (i := 1) (N := some 102) (v := ?_) (a' := ?_) #[ff, tt, ff, ff, ff, ff, ff, ff, ff, ff, ff] rfl rfl (any_of HT_.out (by kernel_rfl)) (fun _ _ _ h => h) (Or.inl ⟨by rfl, ?_⟩) ?_ ?_
                      rotate_left; (intro w'; go_simp; with_reducible rfl); rotate_left; (simp only [Act.put, zs3, zz3, zt3, i64_w, i32_w]; rfl)
                      refine pure_ (i := 2) (N := some 103) (v := ?_) (a' := ?_) #[ff, tt, tt, ff, ff, ff, ff, ff, ff, ff, ff] rfl rfl (any_of HT_.out (by kernel_rfl)) (fun _ _ _ h => h) (Or.inl ⟨by rfl, ?_⟩) ?_ ?_
                      rotate_left; (intro w'; go_simp; with_reducible rfl); rotate_left; (simp only [Act.put, zs3, zz3, zt3, i64_w, i32_w]; rfl)
                      refine take_ (i := 0) (N := some 101) (v := ?_) (a' := ?_) #[tt, tt, tt, ff, ff, ff, ff, ff, ff, ff, ff] rfl rfl (take_ofW HT_.out HW_.out (by kernel_rfl)) (fun _ _ _ h => h) (Or.inl ⟨by rfl, ?_⟩) hHeld ?_ ?_
                      rotate_left
                      ·rintro w' ⟨s0, s1⟩
                       go_simp
                       with_reducible rfl
                      rotate_left
                      ·simp only [Act.put, zs3, zz3, zt3, i64_w, i32_w]
                       rfl
                      refine join_ (σ := Value × Value × Nat) 2 #[tt, tt, tt, tt, tt, tt, tt, tt, tt, ff, ff] (fun s_ => [(104, .int .i64 t469), (105, .tuple #[.agg #[s_.1, s_.2.1], .int .i64 t476]), (21, .pointer (some ⟨s_.2.2, 0, none⟩)), (100, .tuple #[.agg #[s_.1, s_.2.1], .int .i64 t476]), (106, .agg #[s_.1, s_.2.1]), (107, .int .i64 t476)]) (fun s_ w' => (w'.cell? ⟨gb468, 0, none⟩ = some (.slice Ao85 t461.length co85) ∧ w'.cell? ⟨gb468, 1, none⟩ = some (.slice Ao87 t464.length co87)) ∧ (Kd.R Kd.string 9 w' w.heap.size (fun k_ => some k_ ≠ (.slice Ao74 t448.length co74 : Value).ownBlock ∧ some k_ ≠ (.slice Ao85 t461.length co85 : Value).ownBlock ∧ some k_ ≠ (s_.1 : Value).ownBlock) (.slice Ao63 t436.length co63) t436) ∧ (Kd.R k75 75 w' w.heap.size (fun k_ => some k_ ≠ (.slice Ao78 t451.length co78 : Value).ownBlock ∧ some k_ ≠ (.slice Ao87 t464.length co87 : Value).ownBlock ∧ some k_ ≠ (s_.2.1 : Value).ownBlock) (.slice Ao65 t439.length co65) t439) ∧ (Kd.R k52 52 w' w.heap.size (fun _ => True) (.slice Ao71 t444.length co71) t444) ∧ (Kd.R Kd.string 9 w' w.heap.size (fun k_ => some k_ ≠ (.slice Ao63 t436.length co63 : Value).ownBlock ∧ some k_ ≠ (.slice Ao85 t461.length co85 : Value).ownBlock ∧ some k_ ≠ (s_.1 : Value).ownBlock) (.slice Ao74 t448.length co74) t448) ∧ (Kd.R k75 75 w' w.heap.size (fun k_ => some k_ ≠ (.slice Ao65 t439.length co65 : Value).ownBlock ∧ some k_ ≠ (.slice Ao87 t464.length co87 : Value).ownBlock ∧ some k_ ≠ (s_.2.1 : Value).ownBlock) (.slice Ao78 t451.length co78) t451) ∧ (Kd.R Kd.string 9 w' w.heap.size (fun k_ => some k_ ≠ (.slice Ao63 t436.length co63 : Value).ownBlock ∧ some k_ ≠ (.slice Ao74 t448.length co74 : Value).ownBlock ∧ some k_ ≠ (s_.1 : Value).ownBlock) (.slice Ao85 t461.length co85) t461) ∧ (Kd.R k75 75 w' w.heap.size (fun k_ => some k_ ≠ (.slice Ao65 t439.length co65 : Value).ownBlock ∧ some k_ ≠ (.slice Ao78 t451.length co78 : Value).ownBlock ∧ some k_ ≠ (s_.2.1 : Value).ownBlock) (.slice Ao87 t464.length co87) t464) ∧ (Kd.R Kd.string 9 w' w.heap.size (fun k_ => some k_ ≠ (.slice Ao63 t436.length co63 : Value).ownBlock ∧ some k_ ≠ (.slice Ao74 t448.length co74 : Value).ownBlock ∧ some k_ ≠ (.slice Ao85 t461.length co85 : Value).ownBlock) s_.1 t470) ∧ (Kd.R k75 75 w' w.heap.size (fun k_ => some k_ ≠ (.slice Ao65 t439.length co65 : Value).ownBlock ∧ some k_ ≠ (.slice Ao78 t451.length co78 : Value).ownBlock ∧ some k_ ≠ (.slice Ao87 t464.length co87 : Value).ownBlock) s_.2.1 t473) ∧ (w'.heap[gb434]? = some (.cells #[.slice Ao54 t427.length co54, .slice Ao56 t430.length co56] 32 (0, 0))) ∧ (w'.heap[gb443]? = some (.cells #[.slice Ao63 t436.length co63, .slice Ao65 t439.length co65] 32 (0, 0))) ∧ (w'.heap[gb455]? = some (.cells #[.slice Ao74 t448.length co74, .slice Ao78 t451.length co78] 32 (0, 0))) ∧ (w'.heap[gb468]? = some (.cells #[.slice Ao85 t461.length co85, .slice Ao87 t464.length co87] 32 (0, 0))) ∧ (w'.heap[s_.2.2]? = some (.cells #[.slice none 0 0, .slice none 0 0] 32 (0, 0))) ∧ (w.heap.size ≤ s_.2.2) ∧ (w.heap.size ≤ s_.2.2) ∧ (gb434 ≠ s_.2.2) ∧ (s_.2.2 ≠ gb434) ∧ (gb443 ≠ s_.2.2) ∧ (s_.2.2 ≠ gb443) ∧ (gb455 ≠ s_.2.2) ∧ (s_.2.2 ≠ gb455) ∧ (gb468 ≠ s_.2.2) ∧ (s_.2.2 ≠ gb468) ∧ (Below w.heap.size w w')) ?_ ?_
                      rotate_left
                      ·intro hCont
                       refine two_ (i := 3) (j := 8) (Ni := some 104) (Nj := some 21) #[tt, tt, tt, tt, ff, ff, ff, ff, ff, ff, ff] #[tt, tt, tt, ff, ff, ff, ff, ff, tt, ff, ff] rfl rfl rfl rfl (two_of HT_.out (by kernel_rfl)) (by decide) (by decide) (fun K hK => ?_) (fun K hK => ?_)
                       ·skip
                        refine goes_ Try.func5 (by kernel_rfl) rfl #[.slice A1 l1.length c1, .int .i64 4, .int .i64 4] (by rfl) rfl rfl zq ?_
                        with_reducible refine (laws_at.calls _ _ l1 4 4 t469 _ ?side1 ?side2 A21.out).mono ?_
                        (case side1 => exact zC (Kd.C_below HR1.out HB.out))
                        (case side2 => exact HC1.out)
                        rintro e w' ⟨rfl, ⟨nd, rfl⟩⟩
                        refine ⟨_, rfl, ?_⟩
                        refine hK.out _ _ ⟨(blk_cell Zh.out 0).trans rfl, (blk_cell Zh.out 1).trans rfl⟩ (fun hHeld => ?_)
                        clear hK K
                        refine norm_ (a' := ?_) ?_ ?_
                        rotate_left
                        ·show Act.put _ (some 104) _ = _
                         simp only [Act.put, zs3, zz3, zt3, i64_w, i32_w]
                         rfl
                        refine two_ (i := 4) (j := 8) (Ni := some 105) (Nj := some 21) #[tt, tt, tt, tt, tt, ff, ff, ff, ff, ff, ff] #[tt, tt, tt, tt, ff, ff, ff, ff, tt, ff, ff] rfl rfl rfl rfl (two_of HT_.out (by kernel_rfl)) (by decide) (by decide) (fun K hK => ?_) (fun K hK => ?_)
                        ·skip
                         refine goes_ Try.func8 (by kernel_rfl) rfl #[.agg #[.slice Ao85 t461.length co85, .slice Ao87 t464.length co87], .int .i64 (Int.tmod (wrap64 (t414 + 1)) 4), .int .i64 t469] (by rfl) rfl rfl zq ?_
                         with_reducible refine (impl_LoseHost.calls _ _ t461 _ _ t464 (Int.tmod (wrap64 (t414 + 1)) 4) t469 t470 t473 t476 _ ?side1 ?side2 ?side3 ?side4 A22.out).mono ?_
                         (case side1 => exact zC ((Kd.R_reads' Zq.out).2.2))
                         (case side2 => exact (Kd.R_reads' Zq.out).2.1)
                         (case side3 => exact zC ((Kd.R_reads' Zr.out).2.2))
                         (case side4 => exact (Kd.R_reads' Zr.out).2.1)
                         rintro e w91 ⟨v471, v474, rfl, ho0, ho1, hb⟩
                         refine ⟨_, rfl, ?_⟩
                         have n0_ := zm3 (Kd.R_elder' (z3_1 Zf.out) (Kd.R_base ho0) hb); have n1_ := zm3 (Kd.R_elder' (z3_1 Zg.out) (Kd.R_base ho1) hb); have n2_ := zm3 (Kd.R_below (z3_1 Zl.out) hb); have n3_ := zm3 (Kd.R_elder' (z3_1 Zi.out) (Kd.R_base ho0) hb); have n4_ := zm3 (Kd.R_elder' (z3_1 Zm.out) (Kd.R_base ho1) hb); have n5_ := zm3 (Kd.R_elder' (z3_1 Zq.out) (Kd.R_base ho0) hb); have n6_ := zm3 (Kd.R_elder' (z3_1 Zr.out) (Kd.R_base ho1) hb); have n7_ := zm3 (Kd.R_lower (Kd.R_new' (Kd.R_new' (Kd.R_new' ho0 (Kd.R_lt (z3_1 Zf.out))) (Kd.R_lt (z3_1 Zi.out))) (Kd.R_lt (z3_1 Zq.out))) (below_size (z3_6 HB.out Zc.out Zk.out Zn.out Zt.out))); have n8_ := zm3 (Kd.R_lower (Kd.R_new' (Kd.R_new' (Kd.R_new' ho1 (Kd.R_lt (z3_1 Zg.out))) (Kd.R_lt (z3_1 Zm.out))) (Kd.R_lt (z3_1 Zr.out))) (below_size (z3_6 HB.out Zc.out Zk.out Zn.out Zt.out))); have n9_ := zm3 (blk_below (g := gb434) (o := .cells #[.slice Ao54 t427.length co54, .slice Ao56 t430.length co56] 32 (0, 0)) (z3_2 Za.out) hb); have n10_ := zm3 (blk_below (g := gb443) (o := .cells #[.slice Ao63 t436.length co63, .slice Ao65 t439.length co65] 32 (0, 0)) (z3_2 Zb.out) hb); have n11_ := zm3 (blk_below (g := gb455) (o := .cells #[.slice Ao74 t448.length co74, .slice Ao78 t451.length co78] 32 (0, 0)) (z3_2 Ze.out) hb); have n12_ := zm3 (blk_below (g := gb468) (o := .cells #[.slice Ao85 t461.length co85, .slice Ao87 t464.length co87] 32 (0, 0)) (z3_2 Zh.out) hb); have n13_ := zm3 (below_step (z3_6 HB.out Zc.out Zk.out Zn.out Zt.out) hb); clear Zf; clear Zg; clear Zl; clear Zi; clear Zm; clear Zq; clear Zr; clear Za; clear Zb; clear Ze; clear Zh; clear HB; have Zf := n0_; have Zg := n1_; have Zl := n2_; have Zi := n3_; have Zm := n4_; have Zq := n5_; have Zr := n6_; have ZO := n7_; have ZP := n8_; have Za := n9_; have Zb := n10_; have Ze := n11_; have Zh := n12_; have HB := n13_; clear n0_ n1_ n2_ n3_ n4_ n5_ n6_ n7_ n8_ n9_ n10_ n11_ n12_ n13_
                         (try clear hb)
                         (try clear hb2)
                         (try clear hk)
                         (try clear hi)
                         (try clear ho0)
                         (try clear ho1)
                         refine hK.out _ _ ⟨(blk_cell Zh.out 0).trans rfl, (blk_cell Zh.out 1).trans rfl⟩ (fun hHeld => ?_)
                         clear hK K
                         refine norm_ (a' := ?_) ?_ ?_
                         rotate_left
                         ·show Act.put _ (some 105) _ = _
                          simp only [Act.put, zs3, zz3, zt3, i64_w, i32_w]
                          rfl
                         refine pure_ (i := 5) (N := some 100) (v := ?_) (a' := ?_) #[tt, tt, tt, tt, tt, tt, ff, ff, ff, ff, ff] rfl rfl (any_of HT_.out (by kernel_rfl)) (fun _ _ _ h => h) (Or.inl ⟨by rfl, ?_⟩) ?_ ?_
                         rotate_left; (intro w'; go_simp; with_reducible rfl); rotate_left; (simp only [Act.put, zs3, zz3, zt3, i64_w, i32_w]; rfl)
                         refine pure_ (i := 6) (N := some 106) (v := ?_) (a' := ?_) #[tt, tt, tt, tt, tt, tt, tt, ff, ff, ff, ff] rfl rfl (any_of HT_.out (by kernel_rfl)) (fun _ _ _ h => h) (Or.inl ⟨by rfl, ?_⟩) ?_ ?_
                         rotate_left; (intro w'; go_simp; with_reducible rfl); rotate_left; (simp only [Act.put, zs3, zz3, zt3, i64_w, i32_w]; rfl)
                         refine pure_ (i := 7) (N := some 107) (v := ?_) (a' := ?_) #[tt, tt, tt, tt, tt, tt, tt, tt, ff, ff, ff] rfl rfl (any_of HT_.out (by kernel_rfl)) (fun _ _ _ h => h) (Or.inl ⟨by rfl, ?_⟩) ?_ ?_
                         rotate_left; (intro w'; go_simp; with_reducible rfl); rotate_left; (simp only [Act.put, zs3, zz3, zt3, i64_w, i32_w]; rfl)
                         refine one_ (i := 8) (N := some 21) #[tt, tt, tt, tt, tt, tt, tt, tt, tt, ff, ff] rfl rfl (one_of HT_.out (by kernel_rfl)) (by decide) (fun K hK => ?_)
                         refine box_step ?hg (N := 21) ?hd (cs := #[.slice none 0 0, .slice none 0 0]) (t := 32) ?hr ?_; (case hd => rfl); (case hg => rfl); (case hr => first | (go_simp; done) | (go_simp; rfl))
                         intro gb477 hg w92 hbox hb
                         have n0_ := zm3 (Kd.R_below (z3_1 Zf.out) hb); have n1_ := zm3 (Kd.R_below (z3_1 Zg.out) hb); have n2_ := zm3 (Kd.R_below (z3_1 Zl.out) hb); have n3_ := zm3 (Kd.R_below (z3_1 Zi.out) hb); have n4_ := zm3 (Kd.R_below (z3_1 Zm.out) hb); have n5_ := zm3 (Kd.R_below (z3_1 Zq.out) hb); have n6_ := zm3 (Kd.R_below (z3_1 Zr.out) hb); have n7_ := zm3 (Kd.R_below (z3_1 ZO.out) hb); have n8_ := zm3 (Kd.R_below (z3_1 ZP.out) hb); have n9_ := zm3 (blk_below (g := gb434) (o := .cells #[.slice Ao54 t427.length co54, .slice Ao56 t430.length co56] 32 (0, 0)) (z3_2 Za.out) hb); have n10_ := zm3 (blk_below (g := gb443) (o := .cells #[.slice Ao63 t436.length co63, .slice Ao65 t439.length co65] 32 (0, 0)) (z3_2 Zb.out) hb); have n11_ := zm3 (blk_below (g := gb455) (o := .cells #[.slice Ao74 t448.length co74, .slice Ao78 t451.length co78] 32 (0, 0)) (z3_2 Ze.out) hb); have n12_ := zm3 (blk_below (g := gb468) (o := .cells #[.slice Ao85 t461.length co85, .slice Ao87 t464.length co87] 32 (0, 0)) (z3_2 Zh.out) hb); have n13_ := zm3 (below_step (z3_6 HB.out Zc.out Zk.out Zn.out Zt.out) hb); have n14_ := zm3 (hbox); have n15_ := zm3 ((by rw [hg]; exact (below_size (z3_6 HB.out Zc.out Zk.out Zn.out Zt.out)) : w.heap.size ≤ gb477)); have n16_ := zm3 ((by rw [hg]; exact (below_size (z3_6 HB.out Zc.out Zk.out Zn.out Zt.out)) : w.heap.size ≤ gb477)); have n17_ := zm3 ((by rw [hg]; exact Nat.ne_of_lt (blk_lt (g := gb434) (o := .cells #[.slice Ao54 t427.length co54, .slice Ao56 t430.length co56] 32 (0, 0)) (z3_2 Za.out)) : gb434 ≠ gb477)); have n18_ := zm3 ((by rw [hg]; exact Nat.ne_of_gt (blk_lt (g := gb434) (o := .cells #[.slice Ao54 t427.length co54, .slice Ao56 t430.length co56] 32 (0, 0)) (z3_2 Za.out)) : gb477 ≠ gb434)); have n19_ := zm3 ((by rw [hg]; exact Nat.ne_of_lt (blk_lt (g := gb443) (o := .cells #[.slice Ao63 t436.length co63, .slice Ao65 t439.length co65] 32 (0, 0)) (z3_2 Zb.out)) : gb443 ≠ gb477)); have n20_ := zm3 ((by rw [hg]; exact Nat.ne_of_gt (blk_lt (g := gb443) (o := .cells #[.slice Ao63 t436.length co63, .slice Ao65 t439.length co65] 32 (0, 0)) (z3_2 Zb.out)) : gb477 ≠ gb443)); have n21_ := zm3 ((by rw [hg]; exact Nat.ne_of_lt (blk_lt (g := gb455) (o := .cells #[.slice Ao74 t448.length co74, .slice Ao78 t451.length co78] 32 (0, 0)) (z3_2 Ze.out)) : gb455 ≠ gb477)); have n22_ := zm3 ((by rw [hg]; exact Nat.ne_of_gt (blk_lt (g := gb455) (o := .cells #[.slice Ao74 t448.length co74, .slice Ao78 t451.length co78] 32 (0, 0)) (z3_2 Ze.out)) : gb477 ≠ gb455)); have n23_ := zm3 ((by rw [hg]; exact Nat.ne_of_lt (blk_lt (g := gb468) (o := .cells #[.slice Ao85 t461.length co85, .slice Ao87 t464.length co87] 32 (0, 0)) (z3_2 Zh.out)) : gb468 ≠ gb477)); have n24_ := zm3 ((by rw [hg]; exact Nat.ne_of_gt (blk_lt (g := gb468) (o := .cells #[.slice Ao85 t461.length co85, .slice Ao87 t464.length co87] 32 (0, 0)) (z3_2 Zh.out)) : gb477 ≠ gb468)); clear Zf; clear Zg; clear Zl; clear Zi; clear Zm; clear Zq; clear Zr; clear ZO; clear ZP; clear Za; clear Zb; clear Ze; clear Zh; clear HB; have Zf := n0_; have Zg := n1_; have Zl := n2_; have Zi := n3_; have Zm := n4_; have Zq := n5_; have Zr := n6_; have ZO := n7_; have ZP := n8_; have Za := n9_; have Zb := n10_; have Ze := n11_; have Zh := n12_; have HB := n13_; have Zs := n14_; have Zad := n15_; have ZB := n16_; have Zy := n17_; have ZF := n18_; have Zz := n19_; have ZG := n20_; have ZA := n21_; have ZH := n22_; have Zv := n23_; have ZI := n24_; clear n0_ n1_ n2_ n3_ n4_ n5_ n6_ n7_ n8_ n9_ n10_ n11_ n12_ n13_ n14_ n15_ n16_ n17_ n18_ n19_ n20_ n21_ n22_ n23_ n24_; clear hb hbox hg
                         refine hK.out _ _ ⟨(blk_cell Zh.out 0).trans rfl, (blk_cell Zh.out 1).trans rfl⟩ (fun hHeld => ?_)
                         clear hK K
                         refine norm_ (a' := ?_) ?_ ?_
                         rotate_left
                         ·show Act.put _ (some 21) _ = _
                          simp only [Act.put, zs3, zz3, zt3, i64_w, i32_w]
                          rfl
                         exact norm_ (by simp only [putAll, Act.put, zs3, zz3, zt3]) (hCont (v471, v474, gb477) _ ⟨hHeld, (by (with_reducible repeat (first | apply Kd.R_alloc | apply Kd.R_drewN | apply Kd.R_drew)); exact Kd.R_mono Zf.out (fun _ hk => ⟨hk.1.1, ⟨hk.1.2, hk.2⟩⟩)), (by (with_reducible repeat (first | apply Kd.R_alloc | apply Kd.R_drewN | apply Kd.R_drew)); exact Kd.R_mono Zg.out (fun _ hk => ⟨hk.1.1, ⟨hk.1.2, hk.2⟩⟩)), (z3_1 Zl.out), (by (with_reducible repeat (first | apply Kd.R_alloc | apply Kd.R_drewN | apply Kd.R_drew)); exact Kd.R_mono Zi.out (fun _ hk => ⟨hk.1.1, ⟨hk.1.2, hk.2⟩⟩)), (by (with_reducible repeat (first | apply Kd.R_alloc | apply Kd.R_drewN | apply Kd.R_drew)); exact Kd.R_mono Zm.out (fun _ hk => ⟨hk.1.1, ⟨hk.1.2, hk.2⟩⟩)), (by (with_reducible repeat (first | apply Kd.R_alloc | apply Kd.R_drewN | apply Kd.R_drew)); exact Kd.R_mono Zq.out (fun _ hk => ⟨hk.1.1, ⟨hk.1.2, hk.2⟩⟩)), (by (with_reducible repeat (first | apply Kd.R_alloc | apply Kd.R_drewN | apply Kd.R_drew)); exact Kd.R_mono Zr.out (fun _ hk => ⟨hk.1.1, ⟨hk.1.2, hk.2⟩⟩)), (by (with_reducible repeat (first | apply Kd.R_alloc | apply Kd.R_drewN | apply Kd.R_drew)); exact Kd.R_mono ZO.out (fun _ hk => ⟨hk.1.1.2, ⟨hk.1.2, hk.2⟩⟩)), (by (with_reducible repeat (first | apply Kd.R_alloc | apply Kd.R_drewN | apply Kd.R_drew)); exact Kd.R_mono ZP.out (fun _ hk => ⟨hk.1.1.2, ⟨hk.1.2, hk.2⟩⟩)), (z3_2 Za.out), (z3_2 Zb.out), (z3_2 Ze.out), (z3_2 Zh.out), (z3_2 Zs.out), Zad.out, ZB.out, Zy.out, ZF.out, Zz.out, ZG.out, ZA.out, ZH.out, Zv.out, ZI.out, (z3_7 HB.out Zc.out Zk.out Zn.out Zt.out ZB.out)⟩)
                        ·skip
                         refine box_step ?hg (N := 21) ?hd (cs := #[.slice none 0 0, .slice none 0 0]) (t := 32) ?hr ?_; (case hd => rfl); (case hg => rfl); (case hr => first | (go_simp; done) | (go_simp; rfl))
                         intro gb477 hg w91 hbox hb
                         have n0_ := zm3 (Kd.R_below (z3_1 Zf.out) hb); have n1_ := zm3 (Kd.R_below (z3_1 Zg.out) hb); have n2_ := zm3 (Kd.R_below (z3_1 Zl.out) hb); have n3_ := zm3 (Kd.R_below (z3_1 Zi.out) hb); have n4_ := zm3 (Kd.R_below (z3_1 Zm.out) hb); have n5_ := zm3 (Kd.R_below (z3_1 Zq.out) hb); have n6_ := zm3 (Kd.R_below (z3_1 Zr.out) hb); have n7_ := zm3 (blk_below (g := gb434) (o := .cells #[.slice Ao54 t427.length co54, .slice Ao56 t430.length co56] 32 (0, 0)) (z3_2 Za.out) hb); have n8_ := zm3 (blk_below (g := gb443) (o := .cells #[.slice Ao63 t436.length co63, .slice Ao65 t439.length co65] 32 (0, 0)) (z3_2 Zb.out) hb); have n9_ := zm3 (blk_below (g := gb455) (o := .cells #[.slice Ao74 t448.length co74, .slice Ao78 t451.length co78] 32 (0, 0)) (z3_2 Ze.out) hb); have n10_ := zm3 (blk_below (g := gb468) (o := .cells #[.slice Ao85 t461.length co85, .slice Ao87 t464.length co87] 32 (0, 0)) (z3_2 Zh.out) hb); have n11_ := zm3 (below_step (z3_6 HB.out Zc.out Zk.out Zn.out Zt.out) hb); have n12_ := zm3 (hbox); have n13_ := zm3 ((by rw [hg]; exact (below_size (z3_6 HB.out Zc.out Zk.out Zn.out Zt.out)) : w.heap.size ≤ gb477)); have n14_ := zm3 ((by rw [hg]; exact (below_size (z3_6 HB.out Zc.out Zk.out Zn.out Zt.out)) : w.heap.size ≤ gb477)); have n15_ := zm3 ((by rw [hg]; exact Nat.ne_of_lt (blk_lt (g := gb434) (o := .cells #[.slice Ao54 t427.length co54, .slice Ao56 t430.length co56] 32 (0, 0)) (z3_2 Za.out)) : gb434 ≠ gb477)); have n16_ := zm3 ((by rw [hg]; exact Nat.ne_of_gt (blk_lt (g := gb434) (o := .cells #[.slice Ao54 t427.length co54, .slice Ao56 t430.length co56] 32 (0, 0)) (z3_2 Za.out)) : gb477 ≠ gb434)); have n17_ := zm3 ((by rw [hg]; exact Nat.ne_of_lt (blk_lt (g := gb443) (o := .cells #[.slice Ao63 t436.length co63, .slice Ao65 t439.length co65] 32 (0, 0)) (z3_2 Zb.out)) : gb443 ≠ gb477)); have n18_ := zm3 ((by rw [hg]; exact Nat.ne_of_gt (blk_lt (g := gb443) (o := .cells #[.slice Ao63 t436.length co63, .slice Ao65 t439.length co65] 32 (0, 0)) (z3_2 Zb.out)) : gb477 ≠ gb443)); have n19_ := zm3 ((by rw [hg]; exact Nat.ne_of_lt (blk_lt (g := gb455) (o := .cells #[.slice Ao74 t448.length co74, .slice Ao78 t451.length co78] 32 (0, 0)) (z3_2 Ze.out)) : gb455 ≠ gb477)); have n20_ := zm3 ((by rw [hg]; exact Nat.ne_of_gt (blk_lt (g := gb455) (o := .cells #[.slice Ao74 t448.length co74, .slice Ao78 t451.length co78] 32 (0, 0)) (z3_2 Ze.out)) : gb477 ≠ gb455)); have n21_ := zm3 ((by rw [hg]; exact Nat.ne_of_lt (blk_lt (g := gb468) (o := .cells #[.slice Ao85 t461.length co85, .slice Ao87 t464.length co87] 32 (0, 0)) (z3_2 Zh.out)) : gb468 ≠ gb477)); have n22_ := zm3 ((by rw [hg]; exact Nat.ne_of_gt (blk_lt (g := gb468) (o := .cells #[.slice Ao85 t461.length co85, .slice Ao87 t464.length co87] 32 (0, 0)) (z3_2 Zh.out)) : gb477 ≠ gb468)); clear Zf; clear Zg; clear Zl; clear Zi; clear Zm; clear Zq; clear Zr; clear Za; clear Zb; clear Ze; clear Zh; clear HB; have Zf := n0_; have Zg := n1_; have Zl := n2_; have Zi := n3_; have Zm := n4_; have Zq := n5_; have Zr := n6_; have Za := n7_; have Zb := n8_; have Ze := n9_; have Zh := n10_; have HB := n11_; have Zs := n12_; have Zad := n13_; have ZB := n14_; have Zy := n15_; have ZF := n16_; have Zz := n17_; have ZG := n18_; have ZA := n19_; have ZH := n20_; have Zv := n21_; have ZI := n22_; clear n0_ n1_ n2_ n3_ n4_ n5_ n6_ n7_ n8_ n9_ n10_ n11_ n12_ n13_ n14_ n15_ n16_ n17_ n18_ n19_ n20_ n21_ n22_; clear hb hbox hg
                         refine hK.out _ _ ⟨(blk_cell Zh.out 0).trans rfl, (blk_cell Zh.out 1).trans rfl⟩ (fun hHeld => ?_)
                         clear hK K
                         refine norm_ (a' := ?_) ?_ ?_
                         rotate_left
                         ·show Act.put _ (some 21) _ = _
                          simp only [Act.put, zs3, zz3, zt3, i64_w, i32_w]
                          rfl
                         refine one_ (i := 4) (N := some 105) #[tt, tt, tt, tt, tt, ff, ff, ff, tt, ff, ff] rfl rfl (one_of HT_.out (by kernel_rfl)) (by decide) (fun K hK => ?_)
                         refine goes_ Try.func8 (by kernel_rfl) rfl #[.agg #[.slice Ao85 t461.length co85, .slice Ao87 t464.length co87], .int .i64 (Int.tmod (wrap64 (t414 + 1)) 4), .int .i64 t469] (by rfl) rfl rfl zq ?_
                         with_reducible refine (impl_LoseHost.calls _ _ t461 _ _ t464 (Int.tmod (wrap64 (t414 + 1)) 4) t469 t470 t473 t476 _ ?side1 ?side2 ?side3 ?side4 A22.out).mono ?_
                         (case side1 => exact zC ((Kd.R_reads' Zq.out).2.2))
                         (case side2 => exact (Kd.R_reads' Zq.out).2.1)
                         (case side3 => exact zC ((Kd.R_reads' Zr.out).2.2))
                         (case side4 => exact (Kd.R_reads' Zr.out).2.1)
                         rintro e w92 ⟨v471, v474, rfl, ho0, ho1, hb⟩
                         refine ⟨_, rfl, ?_⟩
                         have n0_ := zm3 (Kd.R_elder' (z3_1 Zf.out) (Kd.R_base ho0) hb); have n1_ := zm3 (Kd.R_elder' (z3_1 Zg.out) (Kd.R_base ho1) hb); have n2_ := zm3 (Kd.R_below (z3_1 Zl.out) hb); have n3_ := zm3 (Kd.R_elder' (z3_1 Zi.out) (Kd.R_base ho0) hb); have n4_ := zm3 (Kd.R_elder' (z3_1 Zm.out) (Kd.R_base ho1) hb); have n5_ := zm3 (Kd.R_elder' (z3_1 Zq.out) (Kd.R_base ho0) hb); have n6_ := zm3 (Kd.R_elder' (z3_1 Zr.out) (Kd.R_base ho1) hb); have n7_ := zm3 (Kd.R_lower (Kd.R_new' (Kd.R_new' (Kd.R_new' ho0 (Kd.R_lt (z3_1 Zf.out))) (Kd.R_lt (z3_1 Zi.out))) (Kd.R_lt (z3_1 Zq.out))) (below_size (z3_7 HB.out Zc.out Zk.out Zn.out Zt.out ZB.out))); have n8_ := zm3 (Kd.R_lower (Kd.R_new' (Kd.R_new' (Kd.R_new' ho1 (Kd.R_lt (z3_1 Zg.out))) (Kd.R_lt (z3_1 Zm.out))) (Kd.R_lt (z3_1 Zr.out))) (below_size (z3_7 HB.out Zc.out Zk.out Zn.out Zt.out ZB.out))); have n9_ := zm3 (blk_below (g := gb434) (o := .cells #[.slice Ao54 t427.length co54, .slice Ao56 t430.length co56] 32 (0, 0)) (z3_2 Za.out) hb); have n10_ := zm3 (blk_below (g := gb443) (o := .cells #[.slice Ao63 t436.length co63, .slice Ao65 t439.length co65] 32 (0, 0)) (z3_2 Zb.out) hb); have n11_ := zm3 (blk_below (g := gb455) (o := .cells #[.slice Ao74 t448.length co74, .slice Ao78 t451.length co78] 32 (0, 0)) (z3_2 Ze.out) hb); have n12_ := zm3 (blk_below (g := gb468) (o := .cells #[.slice Ao85 t461.length co85, .slice Ao87 t464.length co87] 32 (0, 0)) (z3_2 Zh.out) hb); have n13_ := zm3 (blk_below (g := gb477) (o := .cells #[.slice none 0 0, .slice none 0 0] 32 (0, 0)) (z3_2 Zs.out) hb); have n14_ := zm3 (below_step (z3_7 HB.out Zc.out Zk.out Zn.out Zt.out ZB.out) hb); clear Zf; clear Zg; clear Zl; clear Zi; clear Zm; clear Zq; clear Zr; clear Za; clear Zb; clear Ze; clear Zh; clear Zs; clear HB; have Zf := n0_; have Zg := n1_; have Zl := n2_; have Zi := n3_; have Zm := n4_; have Zq := n5_; have Zr := n6_; have ZO := n7_; have ZP := n8_; have Za := n9_; have Zb := n10_; have Ze := n11_; have Zh := n12_; have Zs := n13_; have HB := n14_; clear n0_ n1_ n2_ n3_ n4_ n5_ n6_ n7_ n8_ n9_ n10_ n11_ n12_ n13_ n14_
                         (try clear hb)
                         (try clear hb2)
                         (try clear hk)
                         (try clear hi)
                         (try clear ho0)
                         (try clear ho1)
                         refine hK.out _ _ ⟨(blk_cell Zh.out 0).trans rfl, (blk_cell Zh.out 1).trans rfl⟩ (fun hHeld => ?_)
                         clear hK K
                         refine norm_ (a' := ?_) ?_ ?_
                         rotate_left
                         ·show Act.put _ (some 105) _ = _
                          simp only [Act.put, zs3, zz3, zt3, i64_w, i32_w]
                          rfl
                         refine pure_ (i := 5) (N := some 100) (v := ?_) (a' := ?_) #[tt, tt, tt, tt, tt, tt, ff, ff, tt, ff, ff] rfl rfl (any_of HT_.out (by kernel_rfl)) (fun _ _ _ h => h) (Or.inl ⟨by rfl, ?_⟩) ?_ ?_
                         rotate_left; (intro w'; go_simp; with_reducible rfl); rotate_left; (simp only [Act.put, zs3, zz3, zt3, i64_w, i32_w]; rfl)
                         refine pure_ (i := 6) (N := some 106) (v := ?_) (a' := ?_) #[tt, tt, tt, tt, tt, tt, tt, ff, tt, ff, ff] rfl rfl (any_of HT_.out (by kernel_rfl)) (fun _ _ _ h => h) (Or.inl ⟨by rfl, ?_⟩) ?_ ?_
                         rotate_left; (intro w'; go_simp; with_reducible rfl); rotate_left; (simp only [Act.put, zs3, zz3, zt3, i64_w, i32_w]; rfl)
                         refine pure_ (i := 7) (N := some 107) (v := ?_) (a' := ?_) #[tt, tt, tt, tt, tt, tt, tt, tt, tt, ff, ff] rfl rfl (any_of HT_.out (by kernel_rfl)) (fun _ _ _ h => h) (Or.inl ⟨by rfl, ?_⟩) ?_ ?_
                         rotate_left; (intro w'; go_simp; with_reducible rfl); rotate_left; (simp only [Act.put, zs3, zz3, zt3, i64_w, i32_w]; rfl)
                         exact norm_ (by simp only [putAll, Act.put, zs3, zz3, zt3]) (hCont (v471, v474, gb477) _ ⟨hHeld, (by (with_reducible repeat (first | apply Kd.R_alloc | apply Kd.R_drewN | apply Kd.R_drew)); exact Kd.R_mono Zf.out (fun _ hk => ⟨hk.1.1, ⟨hk.1.2, hk.2⟩⟩)), (by (with_reducible repeat (first | apply Kd.R_alloc | apply Kd.R_drewN | apply Kd.R_drew)); exact Kd.R_mono Zg.out (fun _ hk => ⟨hk.1.1, ⟨hk.1.2, hk.2⟩⟩)), (z3_1 Zl.out), (by (with_reducible repeat (first | apply Kd.R_alloc | apply Kd.R_drewN | apply Kd.R_drew)); exact Kd.R_mono Zi.out (fun _ hk => ⟨hk.1.1, ⟨hk.1.2, hk.2⟩⟩)), (by (with_reducible repeat (first | apply Kd.R_alloc | apply Kd.R_drewN | apply Kd.R_drew)); exact Kd.R_mono Zm.out (fun _ hk => ⟨hk.1.1, ⟨hk.1.2, hk.2⟩⟩)), (by (with_reducible repeat (first | apply Kd.R_alloc | apply Kd.R_drewN | apply Kd.R_drew)); exact Kd.R_mono Zq.out (fun _ hk => ⟨hk.1.1, ⟨hk.1.2, hk.2⟩⟩)), (by (with_reducible repeat (first | apply Kd.R_alloc | apply Kd.R_drewN | apply Kd.R_drew)); exact Kd.R_mono Zr.out (fun _ hk => ⟨hk.1.1, ⟨hk.1.2, hk.2⟩⟩)), (by (with_reducible repeat (first | apply Kd.R_alloc | apply Kd.R_drewN | apply Kd.R_drew)); exact Kd.R_mono ZO.out (fun _ hk => ⟨hk.1.1.2, ⟨hk.1.2, hk.2⟩⟩)), (by (with_reducible repeat (first | apply Kd.R_alloc | apply Kd.R_drewN | apply Kd.R_drew)); exact Kd.R_mono ZP.out (fun _ hk => ⟨hk.1.1.2, ⟨hk.1.2, hk.2⟩⟩)), (z3_2 Za.out), (z3_2 Zb.out), (z3_2 Ze.out), (z3_2 Zh.out), (z3_2 Zs.out), Zad.out, ZB.out, Zy.out, ZF.out, Zz.out, ZG.out, ZA.out, ZH.out, Zv.out, ZI.out, (z3_7 HB.out Zc.out Zk.out Zn.out Zt.out ZB.out)⟩)
                       ·skip
                        refine box_step ?hg (N := 21) ?hd (cs := #[.slice none 0 0, .slice none 0 0]) (t := 32) ?hr ?_; (case hd => rfl); (case hg => rfl); (case hr => first | (go_simp; done) | (go_simp; rfl))
                        intro gb477 hg w91 hbox hb
                        have n0_ := zm3 (Kd.R_below (z3_1 Zf.out) hb); have n1_ := zm3 (Kd.R_below (z3_1 Zg.out) hb); have n2_ := zm3 (Kd.R_below (z3_1 Zl.out) hb); have n3_ := zm3 (Kd.R_below (z3_1 Zi.out) hb); have n4_ := zm3 (Kd.R_below (z3_1 Zm.out) hb); have n5_ := zm3 (Kd.R_below (z3_1 Zq.out) hb); have n6_ := zm3 (Kd.R_below (z3_1 Zr.out) hb); have n7_ := zm3 (blk_below (g := gb434) (o := .cells #[.slice Ao54 t427.length co54, .slice Ao56 t430.length co56] 32 (0, 0)) (z3_2 Za.out) hb); have n8_ := zm3 (blk_below (g := gb443) (o := .cells #[.slice Ao63 t436.length co63, .slice Ao65 t439.length co65] 32 (0, 0)) (z3_2 Zb.out) hb); have n9_ := zm3 (blk_below (g := gb455) (o := .cells #[.slice Ao74 t448.length co74, .slice Ao78 t451.length co78] 32 (0, 0)) (z3_2 Ze.out) hb); have n10_ := zm3 (blk_below (g := gb468) (o := .cells #[.slice Ao85 t461.length co85, .slice Ao87 t464.length co87] 32 (0, 0)) (z3_2 Zh.out) hb); have n11_ := zm3 (below_step (z3_6 HB.out Zc.out Zk.out Zn.out Zt.out) hb); have n12_ := zm3 (hbox); have n13_ := zm3 ((by rw [hg]; exact (below_size (z3_6 HB.out Zc.out Zk.out Zn.out Zt.out)) : w.heap.size ≤ gb477)); have n14_ := zm3 ((by rw [hg]; exact (below_size (z3_6 HB.out Zc.out Zk.out Zn.out Zt.out)) : w.heap.size ≤ gb477)); have n15_ := zm3 ((by rw [hg]; exact Nat.ne_of_lt (blk_lt (g := gb434) (o := .cells #[.slice Ao54 t427.length co54, .slice Ao56 t430.length co56] 32 (0, 0)) (z3_2 Za.out)) : gb434 ≠ gb477)); have n16_ := zm3 ((by rw [hg]; exact Nat.ne_of_gt (blk_lt (g := gb434) (o := .cells #[.slice Ao54 t427.length co54, .slice Ao56 t430.length co56] 32 (0, 0)) (z3_2 Za.out)) : gb477 ≠ gb434)); have n17_ := zm3 ((by rw [hg]; exact Nat.ne_of_lt (blk_lt (g := gb443) (o := .cells #[.slice Ao63 t436.length co63, .slice Ao65 t439.length co65] 32 (0, 0)) (z3_2 Zb.out)) : gb443 ≠ gb477)); have n18_ := zm3 ((by rw [hg]; exact Nat.ne_of_gt (blk_lt (g := gb443) (o := .cells #[.slice Ao63 t436.length co63, .slice Ao65 t439.length co65] 32 (0, 0)) (z3_2 Zb.out)) : gb477 ≠ gb443)); have n19_ := zm3 ((by rw [hg]; exact Nat.ne_of_lt (blk_lt (g := gb455) (o := .cells #[.slice Ao74 t448.length co74, .slice Ao78 t451.length co78] 32 (0, 0)) (z3_2 Ze.out)) : gb455 ≠ gb477)); have n20_ := zm3 ((by rw [hg]; exact Nat.ne_of_gt (blk_lt (g := gb455) (o := .cells #[.slice Ao74 t448.length co74, .slice Ao78 t451.length co78] 32 (0, 0)) (z3_2 Ze.out)) : gb477 ≠ gb455)); have n21_ := zm3 ((by rw [hg]; exact Nat.ne_of_lt (blk_lt (g := gb468) (o := .cells #[.slice Ao85 t461.length co85, .slice Ao87 t464.length co87] 32 (0, 0)) (z3_2 Zh.out)) : gb468 ≠ gb477)); have n22_ := zm3 ((by rw [hg]; exact Nat.ne_of_gt (blk_lt (g := gb468) (o := .cells #[.slice Ao85 t461.length co85, .slice Ao87 t464.length co87] 32 (0, 0)) (z3_2 Zh.out)) : gb477 ≠ gb468)); clear Zf; clear Zg; clear Zl; clear Zi; clear Zm; clear Zq; clear Zr; clear Za; clear Zb; clear Ze; clear Zh; clear HB; have Zf := n0_; have Zg := n1_; have Zl := n2_; have Zi := n3_; have Zm := n4_; have Zq := n5_; have Zr := n6_; have Za := n7_; have Zb := n8_; have Ze := n9_; have Zh := n10_; have HB := n11_; have Zs := n12_; have Zad := n13_; have ZB := n14_; have Zy := n15_; have ZF := n16_; have Zz := n17_; have ZG := n18_; have ZA := n19_; have ZH := n20_; have Zv := n21_; have ZI := n22_; clear n0_ n1_ n2_ n3_ n4_ n5_ n6_ n7_ n8_ n9_ n10_ n11_ n12_ n13_ n14_ n15_ n16_ n17_ n18_ n19_ n20_ n21_ n22_; clear hb hbox hg
                        refine hK.out _ _ ⟨(blk_cell Zh.out 0).trans rfl, (blk_cell Zh.out 1).trans rfl⟩ (fun hHeld => ?_)
                        clear hK K
                        refine norm_ (a' := ?_) ?_ ?_
                        rotate_left
                        ·show Act.put _ (some 21) _ = _
                         simp only [Act.put, zs3, zz3, zt3, i64_w, i32_w]
                         rfl
                        refine one_ (i := 3) (N := some 104) #[tt, tt, tt, tt, ff, ff, ff, ff, tt, ff, ff] rfl rfl (one_of HT_.out (by kernel_rfl)) (by decide) (fun K hK => ?_)
                        refine goes_ Try.func5 (by kernel_rfl) rfl #[.slice A1 l1.length c1, .int .i64 4, .int .i64 4] (by rfl) rfl rfl zq ?_
                        with_reducible refine (laws_at.calls _ _ l1 4 4 t469 _ ?side1 ?side2 A21.out).mono ?_
                        (case side1 => exact zC (Kd.C_below HR1.out HB.out))
                        (case side2 => exact HC1.out)
                        rintro e w' ⟨rfl, ⟨nd, rfl⟩⟩
                        refine ⟨_, rfl, ?_⟩
                        refine hK.out _ _ ⟨(blk_cell Zh.out 0).trans rfl, (blk_cell Zh.out 1).trans rfl⟩ (fun hHeld => ?_)
                        clear hK K
                        refine norm_ (a' := ?_) ?_ ?_
                        rotate_left
                        ·show Act.put _ (some 104) _ = _
                         simp only [Act.put, zs3, zz3, zt3, i64_w, i32_w]
                         rfl
                        refine one_ (i := 4) (N := some 105) #[tt, tt, tt, tt, tt, ff, ff, ff, tt, ff, ff] rfl rfl (one_of HT_.out (by kernel_rfl)) (by decide) (fun K hK => ?_)
                        refine goes_ Try.func8 (by kernel_rfl) rfl #[.agg #[.slice Ao85 t461.length co85, .slice Ao87 t464.length co87], .int .i64 (Int.tmod (wrap64 (t414 + 1)) 4), .int .i64 t469] (by rfl) rfl rfl zq ?_
                        with_reducible refine (impl_LoseHost.calls _ _ t461 _ _ t464 (Int.tmod (wrap64 (t414 + 1)) 4) t469 t470 t473 t476 _ ?side1 ?side2 ?side3 ?side4 A22.out).mono ?_
                        (case side1 => exact zC ((Kd.R_reads' Zq.out).2.2))
                        (case side2 => exact (Kd.R_reads' Zq.out).2.1)
                        (case side3 => exact zC ((Kd.R_reads' Zr.out).2.2))
                        (case side4 => exact (Kd.R_reads' Zr.out).2.1)
                        rintro e w92 ⟨v471, v474, rfl, ho0, ho1, hb⟩
                        refine ⟨_, rfl, ?_⟩
                        have n0_ := zm3 (Kd.R_elder' (z3_1 Zf.out) (Kd.R_base ho0) hb); have n1_ := zm3 (Kd.R_elder' (z3_1 Zg.out) (Kd.R_base ho1) hb); have n2_ := zm3 (Kd.R_below (z3_1 Zl.out) hb); have n3_ := zm3 (Kd.R_elder' (z3_1 Zi.out) (Kd.R_base ho0) hb); have n4_ := zm3 (Kd.R_elder' (z3_1 Zm.out) (Kd.R_base ho1) hb); have n5_ := zm3 (Kd.R_elder' (z3_1 Zq.out) (Kd.R_base ho0) hb); have n6_ := zm3 (Kd.R_elder' (z3_1 Zr.out) (Kd.R_base ho1) hb); have n7_ := zm3 (Kd.R_lower (Kd.R_new' (Kd.R_new' (Kd.R_new' ho0 (Kd.R_lt (z3_1 Zf.out))) (Kd.R_lt (z3_1 Zi.out))) (Kd.R_lt (z3_1 Zq.out))) (below_size (z3_7 HB.out Zc.out Zk.out Zn.out Zt.out ZB.out))); have n8_ := zm3 (Kd.R_lower (Kd.R_new' (Kd.R_new' (Kd.R_new' ho1 (Kd.R_lt (z3_1 Zg.out))) (Kd.R_lt (z3_1 Zm.out))) (Kd.R_lt (z3_1 Zr.out))) (below_size (z3_7 HB.out Zc.out Zk.out Zn.out Zt.out ZB.out))); have n9_ := zm3 (blk_below (g := gb434) (o := .cells #[.slice Ao54 t427.length co54, .slice Ao56 t430.length co56] 32 (0, 0)) (z3_2 Za.out) hb); have n10_ := zm3 (blk_below (g := gb443) (o := .cells #[.slice Ao63 t436.length co63, .slice Ao65 t439.length co65] 32 (0, 0)) (z3_2 Zb.out) hb); have n11_ := zm3 (blk_below (g := gb455) (o := .cells #[.slice Ao74 t448.length co74, .slice Ao78 t451.length co78] 32 (0, 0)) (z3_2 Ze.out) hb); have n12_ := zm3 (blk_below (g := gb468) (o := .cells #[.slice Ao85 t461.length co85, .slice Ao87 t464.length co87] 32 (0, 0)) (z3_2 Zh.out) hb); have n13_ := zm3 (blk_below (g := gb477) (o := .cells #[.slice none 0 0, .slice none 0 0] 32 (0, 0)) (z3_2 Zs.out) hb); have n14_ := zm3 (below_step (z3_7 HB.out Zc.out Zk.out Zn.out Zt.out ZB.out) hb); clear Zf; clear Zg; clear Zl; clear Zi; clear Zm; clear Zq; clear Zr; clear Za; clear Zb; clear Ze; clear Zh; clear Zs; clear HB; have Zf := n0_; have Zg := n1_; have Zl := n2_; have Zi := n3_; have Zm := n4_; have Zq := n5_; have Zr := n6_; have ZO := n7_; have ZP := n8_; have Za := n9_; have Zb := n10_; have Ze := n11_; have Zh := n12_; have Zs := n13_; have HB := n14_; clear n0_ n1_ n2_ n3_ n4_ n5_ n6_ n7_ n8_ n9_ n10_ n11_ n12_ n13_ n14_
                        (try clear hb)
                        (try clear hb2)
                        (try clear hk)
                        (try clear hi)
                        (try clear ho0)
                        (try clear ho1)
                        refine hK.out _ _ ⟨(blk_cell Zh.out 0).trans rfl, (blk_cell Zh.out 1).trans rfl⟩ (fun hHeld => ?_)
                        clear hK K
                        refine norm_ (a' := ?_) ?_ ?_
                        rotate_left
                        ·show Act.put _ (some 105) _ = _
                         simp only [Act.put, zs3, zz3, zt3, i64_w, i32_w]
                         rfl
                        refine pure_ (i := 5) (N := some 100) (v := ?_) (a' := ?_) #[tt, tt, tt, tt, tt, tt, ff, ff, tt, ff, ff] rfl rfl (any_of HT_.out (by kernel_rfl)) (fun _ _ _ h => h) (Or.inl ⟨by rfl, ?_⟩) ?_ ?_
                        rotate_left; (intro w'; go_simp; with_reducible rfl); rotate_left; (simp only [Act.put, zs3, zz3, zt3, i64_w, i32_w]; rfl)
                        refine pure_ (i := 6) (N := some 106) (v := ?_) (a' := ?_) #[tt, tt, tt, tt, tt, tt, tt, ff, tt, ff, ff] rfl rfl (any_of HT_.out (by kernel_rfl)) (fun _ _ _ h => h) (Or.inl ⟨by rfl, ?_⟩) ?_ ?_
                        rotate_left; (intro w'; go_simp; with_reducible rfl); rotate_left; (simp only [Act.put, zs3, zz3, zt3, i64_w, i32_w]; rfl)
                        refine pure_ (i := 7) (N := some 107) (v := ?_) (a' := ?_) #[tt, tt, tt, tt, tt, tt, tt, tt, tt, ff, ff] rfl rfl (any_of HT_.out (by kernel_rfl)) (fun _ _ _ h => h) (Or.inl ⟨by rfl, ?_⟩) ?_ ?_
                        rotate_left; (intro w'; go_simp; with_reducible rfl); rotate_left; (simp only [Act.put, zs3, zz3, zt3, i64_w, i32_w]; rfl)
                        exact norm_ (by simp only [putAll, Act.put, zs3, zz3, zt3]) (hCont (v471, v474, gb477) _ ⟨hHeld, (by (with_reducible repeat (first | apply Kd.R_alloc | apply Kd.R_drewN | apply Kd.R_drew)); exact Kd.R_mono Zf.out (fun _ hk => ⟨hk.1.1, ⟨hk.1.2, hk.2⟩⟩)), (by (with_reducible repeat (first | apply Kd.R_alloc | apply Kd.R_drewN | apply Kd.R_drew)); exact Kd.R_mono Zg.out (fun _ hk => ⟨hk.1.1, ⟨hk.1.2, hk.2⟩⟩)), (z3_1 Zl.out), (by (with_reducible repeat (first | apply Kd.R_alloc | apply Kd.R_drewN | apply Kd.R_drew)); exact Kd.R_mono Zi.out (fun _ hk => ⟨hk.1.1, ⟨hk.1.2, hk.2⟩⟩)), (by (with_reducible repeat (first | apply Kd.R_alloc | apply Kd.R_drewN | apply Kd.R_drew)); exact Kd.R_mono Zm.out (fun _ hk => ⟨hk.1.1, ⟨hk.1.2, hk.2⟩⟩)), (by (with_reducible repeat (first | apply Kd.R_alloc | apply Kd.R_drewN | apply Kd.R_drew)); exact Kd.R_mono Zq.out (fun _ hk => ⟨hk.1.1, ⟨hk.1.2, hk.2⟩⟩)), (by (with_reducible repeat (first | apply Kd.R_alloc | apply Kd.R_drewN | apply Kd.R_drew)); exact Kd.R_mono Zr.out (fun _ hk => ⟨hk.1.1, ⟨hk.1.2, hk.2⟩⟩)), (by (with_reducible repeat (first | apply Kd.R_alloc | apply Kd.R_drewN | apply Kd.R_drew)); exact Kd.R_mono ZO.out (fun _ hk => ⟨hk.1.1.2, ⟨hk.1.2, hk.2⟩⟩)), (by (with_reducible repeat (first | apply Kd.R_alloc | apply Kd.R_drewN | apply Kd.R_drew)); exact Kd.R_mono ZP.out (fun _ hk => ⟨hk.1.1.2, ⟨hk.1.2, hk.2⟩⟩)), (z3_2 Za.out), (z3_2 Zb.out), (z3_2 Ze.out), (z3_2 Zh.out), (z3_2 Zs.out), Zad.out, ZB.out, Zy.out, ZF.out, Zz.out, ZG.out, ZA.out, ZH.out, Zv.out, ZI.out, (z3_7 HB.out Zc.out Zk.out Zn.out Zt.out ZB.out)⟩)
                      rintro ⟨v471, v474, gb477⟩ w93 ⟨hS_, h0_, h1_, h2_, h3_, h4_, h5_, h6_, h7_, h8_, h9_, h10_, h11_, h12_, h13_, h14_, h15_, h16_, h17_, h18_, h19_, h20_, h21_, h22_, h23_, h24_⟩
                      have n0_ : Aside0 (Kd.R Kd.string 9 w93 w.heap.size (fun k_ => some k_ ≠ (.slice Ao74 t448.length co74 : Value).ownBlock ∧ some k_ ≠ (.slice Ao85 t461.length co85 : Value).ownBlock ∧ some k_ ≠ (v471 : Value).ownBlock) (.slice Ao63 t436.length co63) t436) := ⟨h0_⟩
                      have n1_ : Aside0 (Kd.R k75 75 w93 w.heap.size (fun k_ => some k_ ≠ (.slice Ao78 t451.length co78 : Value).ownBlock ∧ some k_ ≠ (.slice Ao87 t464.length co87 : Value).ownBlock ∧ some k_ ≠ (v474 : Value).ownBlock) (.slice Ao65 t439.length co65) t439) := ⟨h1_⟩
                      have n2_ : Aside0 (Kd.R k52 52 w93 w.heap.size (fun _ => True) (.slice Ao71 t444.length co71) t444) := ⟨h2_⟩
                      have n3_ : Aside0 (Kd.R Kd.string 9 w93 w.heap.size (fun k_ => some k_ ≠ (.slice Ao63 t436.length co63 : Value).ownBlock ∧ some k_ ≠ (.slice Ao85 t461.length co85 : Value).ownBlock ∧ some k_ ≠ (v471 : Value).ownBlock) (.slice Ao74 t448.length co74) t448) := ⟨h3_⟩
                      have n4_ : Aside0 (Kd.R k75 75 w93 w.heap.size (fun k_ => some k_ ≠ (.slice Ao65 t439.length co65 : Value).ownBlock ∧ some k_ ≠ (.slice Ao87 t464.length co87 : Value).ownBlock ∧ some k_ ≠ (v474 : Value).ownBlock) (.slice Ao78 t451.length co78) t451) := ⟨h4_⟩
                      have n5_ : Aside0 (Kd.R Kd.string 9 w93 w.heap.size (fun k_ => some k_ ≠ (.slice Ao63 t436.length co63 : Value).ownBlock ∧ some k_ ≠ (.slice Ao74 t448.length co74 : Value).ownBlock ∧ some k_ ≠ (v471 : Value).ownBlock) (.slice Ao85 t461.length co85) t461) := ⟨h5_⟩
                      have n6_ : Aside0 (Kd.R k75 75 w93 w.heap.size (fun k_ => some k_ ≠ (.slice Ao65 t439.length co65 : Value).ownBlock ∧ some k_ ≠ (.slice Ao78 t451.length co78 : Value).ownBlock ∧ some k_ ≠ (v474 : Value).ownBlock) (.slice Ao87 t464.length co87) t464) := ⟨h6_⟩
                      have n7_ : Aside0 (Kd.R Kd.string 9 w93 w.heap.size (fun k_ => some k_ ≠ (.slice Ao63 t436.length co63 : Value).ownBlock ∧ some k_ ≠ (.slice Ao74 t448.length co74 : Value).ownBlock ∧ some k_ ≠ (.slice Ao85 t461.length co85 : Value).ownBlock) v471 t470) := ⟨h7_⟩
                      have n8_ : Aside0 (Kd.R k75 75 w93 w.heap.size (fun k_ => some k_ ≠ (.slice Ao65 t439.length co65 : Value).ownBlock ∧ some k_ ≠ (.slice Ao78 t451.length co78 : Value).ownBlock ∧ some k_ ≠ (.slice Ao87 t464.length co87 : Value).ownBlock) v474 t473) := ⟨h8_⟩
                      have n9_ : Aside0 (w93.heap[gb434]? = some (.cells #[.slice Ao54 t427.length co54, .slice Ao56 t430.length co56] 32 (0, 0))) := ⟨h9_⟩
                      have n10_ : Aside0 (w93.heap[gb443]? = some (.cells #[.slice Ao63 t436.length co63, .slice Ao65 t439.length co65] 32 (0, 0))) := ⟨h10_⟩
                      have n11_ : Aside0 (w93.heap[gb455]? = some (.cells #[.slice Ao74 t448.length co74, .slice Ao78 t451.length co78] 32 (0, 0))) := ⟨h11_⟩
                      have n12_ : Aside0 (w93.heap[gb468]? = some (.cells #[.slice Ao85 t461.length co85, .slice Ao87 t464.length co87] 32 (0, 0))) := ⟨h12_⟩
                      have n13_ : Aside0 (w93.heap[gb477]? = some (.cells #[.slice none 0 0, .slice none 0 0] 32 (0, 0))) := ⟨h13_⟩
                      have n14_ : Aside0 (w.heap.size ≤ gb477) := ⟨h14_⟩
                      have n15_ : Aside0 (w.heap.size ≤ gb477) := ⟨h15_⟩
                      have n16_ : Aside0 (gb434 ≠ gb477) := ⟨h16_⟩
                      have n17_ : Aside0 (gb477 ≠ gb434) := ⟨h17_⟩
                      have n18_ : Aside0 (gb443 ≠ gb477) := ⟨h18_⟩
                      have n19_ : Aside0 (gb477 ≠ gb443) := ⟨h19_⟩
                      have n20_ : Aside0 (gb455 ≠ gb477) := ⟨h20_⟩
                      have n21_ : Aside0 (gb477 ≠ gb455) := ⟨h21_⟩
                      have n22_ : Aside0 (gb468 ≠ gb477) := ⟨h22_⟩
                      have n23_ : Aside0 (gb477 ≠ gb468) := ⟨h23_⟩
                      have n24_ : Aside0 (Below w.heap.size w w93) := ⟨h24_⟩
                      clear Zf; clear Zg; clear Zl; clear Zi; clear Zm; clear Zq; clear Zr; clear Za; clear Zb; clear Ze; clear Zh; clear HB; clear h0_ h1_ h2_ h3_ h4_ h5_ h6_ h7_ h8_ h9_ h10_ h11_ h12_ h13_ h14_ h15_ h16_ h17_ h18_ h19_ h20_ h21_ h22_ h23_ h24_; have Zf := n0_; have Zg := n1_; have Zl := n2_; have Zi := n3_; have Zm := n4_; have Zq := n5_; have Zr := n6_; have ZO := n7_; have ZP := n8_; have Za := n9_; have Zb := n10_; have Ze := n11_; have Zh := n12_; have Zs := n13_; have Zad := n14_; have ZB := n15_; have Zy := n16_; have ZF := n17_; have Zz := n18_; have ZG := n19_; have ZA := n20_; have ZH := n21_; have Zv := n22_; have ZI := n23_; have HB := n24_; clear n0_ n1_ n2_ n3_ n4_ n5_ n6_ n7_ n8_ n9_ n10_ n11_ n12_ n13_ n14_ n15_ n16_ n17_ n18_ n19_ n20_ n21_ n22_ n23_ n24_
                      have hHeld : w93.cell? ⟨gb468, 0, none⟩ = some (.slice Ao85 t461.length co85) ∧ w93.cell? ⟨gb468, 1, none⟩ = some (.slice Ao87 t464.length co87) := hS_
                      obtain ⟨Ao94, co94, eo94⟩ := Kd.R_slice ZO.out
                      (first | subst eo94 | (injection eo94 with f1_ f2_ f3_; have f4_ := f1_.symm; have f5_ := f3_.symm; clear f1_ f2_ f3_; subst f4_; subst f5_))
                      obtain ⟨Ao96, co96, eo96⟩ := Kd.R_slice ZP.out
                      (first | subst eo96 | (injection eo96 with f1_ f2_ f3_; have f4_ := f1_.symm; have f5_ := f3_.symm; clear f1_ f2_ f3_; subst f4_; subst f5_))
                      refine norm_ (a' := ?_) ?_ ?_
                      rotate_left
                      ·simp only [putAll, Act.put, zs3, zz3, zt3]
                       rfl
                      refine one_ (i := 9) (N := none) #[tt, tt, tt, tt, tt, tt, tt, tt, tt, tt, ff] rfl rfl (one_of HT_.out (by kernel_rfl)) (by decide) (fun K hK => ?_)
                      have hs95 : w93.cell? ⟨gb477, 0, none⟩ = some (.slice none 0 0) := (blk_cell Zs.out 0).trans rfl
                      have hfs95 := blk_frozen Zs.out 0; have hns95_0 := Zy.out; have hns95_1 := Zz.out; have hns95_2 := ZA.out; have hns95_3 := Zv.out; have hms95_0 := ZF.out; have hms95_1 := ZG.out; have hms95_2 := ZH.out; have hms95_3 := ZI.out
                      have hs97 : w93.cell? ⟨gb477, 1, none⟩ = some (.slice none 0 0) := (blk_cell Zs.out 1).trans rfl
                      have hfs97 := blk_frozen Zs.out 1; have hns97_0 := Zy.out; have hns97_1 := Zz.out; have hns97_2 := ZA.out; have hns97_3 := Zv.out; have hms97_0 := ZF.out; have hms97_1 := ZG.out; have hms97_2 := ZH.out; have hms97_3 := ZI.out
                      refine skip_ (w1 := ?_) (by rfl) rfl ?_ ?_
                      rotate_left
                      ·go_simp
                       rfl
                      refine hK.out _ _ ⟨((cell_far (p := ⟨gb477, _, none⟩) Zv.out _).trans (((cell_far (p := ⟨gb477, _, none⟩) Zv.out _).trans (hHeld.1)))), ((cell_far (p := ⟨gb477, _, none⟩) Zv.out _).trans (((cell_far (p := ⟨gb477, _, none⟩) Zv.out _).trans (hHeld.2))))⟩ (fun hHeld => ?_)
                      clear hK K
                      refine pure_ (i := 10) (N := some 22) (v := ?_) (a' := ?_) #[tt, tt, tt, tt, tt, tt, tt, tt, tt, tt, tt] rfl rfl (any_of HT_.out (by kernel_rfl)) (fun _ _ _ h => h) (Or.inl ⟨by rfl, ?_⟩) ?_ ?_
                      rotate_left; (intro w'; go_simp; with_reducible rfl); rotate_left; (simp only [Act.put, zs3, zz3, zt3, i64_w, i32_w]; rfl)
                      refine done_ (done_of HT_.out (by kernel_rfl)) ?_
                      have hnb98 := ZF.out; have hnc98 := Zy.out; have hnb99 := ZG.out; have hnc99 := Zz.out; have hnb100 := ZH.out; have hnc100 := ZA.out; have hnb101 := ZI.out; have hnc101 := Zv.out
                      obtain ⟨hcz102_0, hcz102_1, hfz102_0, hfz102_1⟩ := zb2 Zs.out
                      try go_wp2_with (first | ((with_reducible refine gate_callee (f := 9) rfl ?_); refine goesL_ (some 112) rfl rfl Try.func9 (by kernel_rfl) rfl #[.agg #[.slice Ao94 t470.length co94, .slice Ao96 t473.length co96], .int .i64 (Int.tmod (wrap64 (t414 + 2)) 4), .int .i64 t414] rfl zq ?_; (with_reducible refine (impl_ReplayPlan.calls k _ _ t470 _ _ t473 (Int.tmod (wrap64 (t414 + 2)) 4) t414 t478 t481 _ ?side1 ?side2 ?side3 ?side4 A23.out).mono ?_); (case side1 => refine (Kd.R_reads' (e := 9) (base := w.heap.size) (ok := fun k_ => (some k_ ≠ (.slice Ao63 t436.length co63 : Value).ownBlock ∧ (some k_ ≠ (.slice Ao74 t448.length co74 : Value).ownBlock ∧ some k_ ≠ (.slice Ao85 t461.length co85 : Value).ownBlock))) (n := t470.length) (c := co94) ?_).2.2; exact (by (with_reducible repeat (first | apply Kd.R_alloc | apply Kd.R_drewN | apply Kd.R_drew)); exact (Kd.R_mono (Kd.R_far (Kd.R_far (Kd.R_types ZO.out Zs.out (by decide)) (fun _ hk => hk.2) _) (fun _ hk => hk.2) _) (fun _ h_ => h_.1)))); (case side2 => exact (Kd.R_reads' ZO.out).2.1); (case side3 => refine (Kd.R_reads' (e := 75) (base := w.heap.size) (ok := fun k_ => (some k_ ≠ (.slice Ao65 t439.length co65 : Value).ownBlock ∧ (some k_ ≠ (.slice Ao78 t451.length co78 : Value).ownBlock ∧ some k_ ≠ (.slice Ao87 t464.length co87 : Value).ownBlock))) (n := t473.length) (c := co96) ?_).2.2; exact (by (with_reducible repeat (first | apply Kd.R_alloc | apply Kd.R_drewN | apply Kd.R_drew)); exact (Kd.R_mono (Kd.R_far (Kd.R_far (Kd.R_types ZP.out Zs.out (by decide)) (fun _ hk => hk.2) _) (fun _ hk => hk.2) _) (fun _ h_ => h_.1)))); (case side4 => exact (Kd.R_reads' ZP.out).2.1); rintro e w103 ⟨v479, rfl, ho0, hb⟩; refine ⟨_, rfl, ?_⟩; have n0_ := zm3 (Kd.R_mono (ok := fun k_ => (some k_ ≠ (.slice Ao63 t436.length co63 : Value).ownBlock ∧ (some k_ ≠ (.slice Ao85 t461.length co85 : Value).ownBlock ∧ some k_ ≠ (.slice Ao94 t470.length co94 : Value).ownBlock))) (ok' := fun k_ => some k_ ≠ (.slice Ao94 t470.length co94 : Value).ownBlock) (Kd.R_below (by (with_reducible repeat (first | apply Kd.R_alloc | apply Kd.R_drewN | apply Kd.R_drew)); exact (Kd.R_mono (Kd.R_far (Kd.R_far (Kd.R_types Zi.out Zs.out (by decide)) (fun _ hk => hk.2) _) (fun _ hk => hk.2) _) (fun _ h_ => h_.1))) hb) (fun k_ hk => hk.2.2)); have n1_ := zm3 (Kd.R_mono (ok := fun k_ => (some k_ ≠ (.slice Ao63 t436.length co63 : Value).ownBlock ∧ (some k_ ≠ (.slice Ao74 t448.length co74 : Value).ownBlock ∧ some k_ ≠ (.slice Ao85 t461.length co85 : Value).ownBlock))) (ok' := fun k_ => some k_ ≠ (.slice Ao74 t448.length co74 : Value).ownBlock) (Kd.R_below (by (with_reducible repeat (first | apply Kd.R_alloc | apply Kd.R_drewN | apply Kd.R_drew)); exact (Kd.R_mono (Kd.R_far (Kd.R_far (Kd.R_types ZO.out Zs.out (by decide)) (fun _ hk => hk.2) _) (fun _ hk => hk.2) _) (fun _ h_ => h_.1))) hb) (fun k_ hk => hk.2.1)); have n2_ := zm3 (Kd.R_mono (ok := fun k_ => (some k_ ≠ (.slice Ao65 t439.length co65 : Value).ownBlock ∧ (some k_ ≠ (.slice Ao78 t451.length co78 : Value).ownBlock ∧ some k_ ≠ (.slice Ao87 t464.length co87 : Value).ownBlock))) (ok' := fun k_ => True) (Kd.R_below (by (with_reducible repeat (first | apply Kd.R_alloc | apply Kd.R_drewN | apply Kd.R_drew)); exact (Kd.R_mono (Kd.R_far (Kd.R_far (Kd.R_types ZP.out Zs.out (by decide)) (fun _ hk => hk.2) _) (fun _ hk => hk.2) _) (fun _ h_ => h_.1))) hb) (fun k_ hk => trivial)); have n3_ := zm3 (Kd.R_mono (ok := fun k_ => (True ∧ some k_ ≠ (.slice Ao71 t444.length co71 : Value).ownBlock)) (ok' := fun k_ => True) (Kd.R_lower (Kd.R_new' ho0 (Kd.R_lt (by (with_reducible repeat (first | apply Kd.R_alloc | apply Kd.R_drewN | apply Kd.R_drew)); exact (Kd.R_mono (Kd.R_far (Kd.R_far (Kd.R_types Zl.out Zs.out (by decide)) (fun _ hk => hk.2) _) (fun _ hk => hk.2) _) (fun _ h_ => h_.1))))) (below_size (z3_7 HB.out Zc.out Zk.out Zn.out Zt.out ZB.out))) (fun k_ hk => trivial)); have n4_ := zm3 (blk_below (g := gb434) (o := .cells #[.slice Ao54 t427.length co54, .slice Ao56 t430.length co56] 32 (0, 0)) (by (with_reducible repeat (first | refine blk_drewN ?_ _ | refine blk_drew ?_ | refine blk_alloc ?_ _)); refine blk_far ?_ Zy.out _; (with_reducible repeat (first | refine blk_drewN ?_ _ | refine blk_drew ?_ | refine blk_alloc ?_ _)); refine blk_far ?_ Zy.out _; (with_reducible repeat (first | refine blk_drewN ?_ _ | refine blk_drew ?_ | refine blk_alloc ?_ _)); exact Za.out) hb); have n5_ := zm3 (blk_below (g := gb443) (o := .cells #[.slice Ao63 t436.length co63, .slice Ao65 t439.length co65] 32 (0, 0)) (by (with_reducible repeat (first | refine blk_drewN ?_ _ | refine blk_drew ?_ | refine blk_alloc ?_ _)); refine blk_far ?_ Zz.out _; (with_reducible repeat (first | refine blk_drewN ?_ _ | refine blk_drew ?_ | refine blk_alloc ?_ _)); refine blk_far ?_ Zz.out _; (with_reducible repeat (first | refine blk_drewN ?_ _ | refine blk_drew ?_ | refine blk_alloc ?_ _)); exact Zb.out) hb); have n6_ := zm3 (blk_below (g := gb455) (o := .cells #[.slice Ao74 t448.length co74, .slice Ao78 t451.length co78] 32 (0, 0)) (by (with_reducible repeat (first | refine blk_drewN ?_ _ | refine blk_drew ?_ | refine blk_alloc ?_ _)); refine blk_far ?_ ZA.out _; (with_reducible repeat (first | refine blk_drewN ?_ _ | refine blk_drew ?_ | refine blk_alloc ?_ _)); refine blk_far ?_ ZA.out _; (with_reducible repeat (first | refine blk_drewN ?_ _ | refine blk_drew ?_ | refine blk_alloc ?_ _)); exact Ze.out) hb); have n7_ := zm3 (blk_below (g := gb468) (o := .cells #[.slice Ao85 t461.length co85, .slice Ao87 t464.length co87] 32 (0, 0)) (by (with_reducible repeat (first | refine blk_drewN ?_ _ | refine blk_drew ?_ | refine blk_alloc ?_ _)); refine blk_far ?_ Zv.out _; (with_reducible repeat (first | refine blk_drewN ?_ _ | refine blk_drew ?_ | refine blk_alloc ?_ _)); refine blk_far ?_ Zv.out _; (with_reducible repeat (first | refine blk_drewN ?_ _ | refine blk_drew ?_ | refine blk_alloc ?_ _)); exact Zh.out) hb); have n8_ := zm3 (blk_below (g := gb477) (o := .cells #[.slice Ao94 t470.length co94, .slice Ao96 t473.length co96] 32 (0, 0)) (by (with_reducible repeat (first | refine blk_drewN ?_ _ | refine blk_drew ?_ | refine blk_alloc ?_ _)); refine blk_put (cs := #[.slice Ao94 t470.length co94, .slice none 0 0]) ?_ 1 _ rfl; (with_reducible repeat (first | refine blk_drewN ?_ _ | refine blk_drew ?_ | refine blk_alloc ?_ _)); refine blk_put (cs := #[.slice none 0 0, .slice none 0 0]) ?_ 0 _ rfl; (with_reducible repeat (first | refine blk_drewN ?_ _ | refine blk_drew ?_ | refine blk_alloc ?_ _)); exact Zs.out) hb); have n9_ := zm3 (below_step (z3_7 HB.out Zc.out Zk.out Zn.out Zt.out ZB.out) hb); replace Zi := n0_; replace ZO := n1_; replace ZP := n2_; have Zag := n3_; replace Za := n4_; replace Zb := n5_; replace Ze := n6_; replace Zh := n7_; replace Zs := n8_; replace HB := n9_; clear n0_ n1_ n2_ n3_ n4_ n5_ n6_ n7_ n8_ n9_; (try clear hb); (try clear hb2); (try clear hk); (try clear hi); (try clear ho0); (try clear Zf); (try clear Zg); (try clear Zl); (try clear Zm); (try clear Zq); (try clear Zr); obtain ⟨hcz104_0, hcz104_1, hfz104_0, hfz104_1⟩ := zb2 Zs.out; obtain ⟨Ao105, co105, eo105⟩ := Kd.R_slice Zag.out; subst eo105) | ((with_reducible refine gate_callee (f := 7) rfl ?_); refine goesL_ (some 119) rfl rfl Try.func7 (by kernel_rfl) rfl #[.agg #[.slice Ao94 t470.length co94, .slice Ao96 t473.length co96], .int .i64 (Int.tmod (wrap64 (t414 + 2)) 4), .slice Ao105 t478.length co105] rfl zq ?_; (with_reducible refine (impl_MovesDo.calls k _ _ t470 _ _ t473 (Int.tmod (wrap64 (t414 + 2)) 4) _ _ t478 t482 t485 t488 _ ?side1 ?side2 ?side3 ?side4 ?side5 ?side6 A24.out).mono ?_); (case side1 => exact zC ((Kd.R_reads' ZO.out).2.2)); (case side2 => exact (Kd.R_reads' ZO.out).2.1); (case side3 => exact zC ((Kd.R_reads' ZP.out).2.2)); (case side4 => exact (Kd.R_reads' ZP.out).2.1); (case side5 => exact zC ((Kd.R_reads' Zag.out).2.2)); (case side6 => exact (Kd.R_reads' Zag.out).2.1); rintro e w106 ⟨v483, v486, rfl, ho0, ho1, hb⟩; refine ⟨_, rfl, ?_⟩; have n0_ := zm3 (Kd.R_mono (ok := fun k_ => (some k_ ≠ (.slice Ao94 t470.length co94 : Value).ownBlock ∧ some k_ ≠ (v483 : Value).ownBlock)) (ok' := fun k_ => some k_ ≠ (v483 : Value).ownBlock) (Kd.R_elder' (z3_1 Zi.out) (Kd.R_base ho0) hb) (fun k_ hk => hk.2)); have n1_ := zm3 (Kd.R_mono (ok := fun k_ => ((True ∧ some k_ ≠ (.slice Ao74 t448.length co74 : Value).ownBlock) ∧ some k_ ≠ (.slice Ao94 t470.length co94 : Value).ownBlock)) (ok' := fun k_ => some k_ ≠ (.slice Ao74 t448.length co74 : Value).ownBlock) (Kd.R_lower (Kd.R_new' (Kd.R_new' ho0 (Kd.R_lt (z3_1 Zi.out))) (Kd.R_lt (z3_1 ZO.out))) (below_size (z3_7 HB.out Zc.out Zk.out Zn.out Zt.out ZB.out))) (fun k_ hk => hk.1.2)); have n2_ := zm3 (Kd.R_mono (ok := fun k_ => (True ∧ some k_ ≠ (.slice Ao96 t473.length co96 : Value).ownBlock)) (ok' := fun k_ => True) (Kd.R_lower (Kd.R_new' ho1 (Kd.R_lt (z3_1 ZP.out))) (below_size (z3_7 HB.out Zc.out Zk.out Zn.out Zt.out ZB.out))) (fun k_ hk => trivial)); have n3_ := zm3 (blk_below (g := gb434) (o := .cells #[.slice Ao54 t427.length co54, .slice Ao56 t430.length co56] 32 (0, 0)) (z3_2 Za.out) hb); have n4_ := zm3 (blk_below (g := gb443) (o := .cells #[.slice Ao63 t436.length co63, .slice Ao65 t439.length co65] 32 (0, 0)) (z3_2 Zb.out) hb); have n5_ := zm3 (blk_below (g := gb455) (o := .cells #[.slice Ao74 t448.length co74, .slice Ao78 t451.length co78] 32 (0, 0)) (z3_2 Ze.out) hb); have n6_ := zm3 (blk_below (g := gb468) (o := .cells #[.slice Ao85 t461.length co85, .slice Ao87 t464.length co87] 32 (0, 0)) (z3_2 Zh.out) hb); have n7_ := zm3 (blk_below (g := gb477) (o := .cells #[.slice Ao94 t470.length co94, .slice Ao96 t473.length co96] 32 (0, 0)) (z3_2 Zs.out) hb); have n8_ := zm3 (below_step (z3_7 HB.out Zc.out Zk.out Zn.out Zt.out ZB.out) hb); replace Zi := n0_; have ZR := n1_; have ZS := n2_; replace Za := n3_; replace Zb := n4_; replace Ze := n5_; replace Zh := n6_; replace Zs := n7_; replace HB := n8_; clear n0_ n1_ n2_ n3_ n4_ n5_ n6_ n7_ n8_; (try clear hb); (try clear hb2); (try clear hk); (try clear hi); (try clear ho0); (try clear ho1); (try clear ZO); (try clear ZP); (try clear Zag)) | ((with_reducible refine gate_dst (N := 25) rfl ?_); (try (refine gate_guard (by rfl) ?_; dsimp only)); refine box_event ?hg (N := 25) ?hd (cs := #[.slice none 0 0, .slice none 0 0]) (t := 32) ?hr ?_; (case hd => rfl); (case hg => rfl); (case hr => first | (go_simp; done) | (go_simp; rfl)); intro gb489 hg w107 hbox hb; have n0_ := zm3 (Kd.R_below (z3_1 Zi.out) hb); have n1_ := zm3 (Kd.R_below (z3_1 ZR.out) hb); have n2_ := zm3 (Kd.R_below (z3_1 ZS.out) hb); have n3_ := zm3 (blk_below (g := gb434) (o := .cells #[.slice Ao54 t427.length co54, .slice Ao56 t430.length co56] 32 (0, 0)) (z3_2 Za.out) hb); have n4_ := zm3 (blk_below (g := gb443) (o := .cells #[.slice Ao63 t436.length co63, .slice Ao65 t439.length co65] 32 (0, 0)) (z3_2 Zb.out) hb); have n5_ := zm3 (blk_below (g := gb455) (o := .cells #[.slice Ao74 t448.length co74, .slice Ao78 t451.length co78] 32 (0, 0)) (z3_2 Ze.out) hb); have n6_ := zm3 (blk_below (g := gb468) (o := .cells #[.slice Ao85 t461.length co85, .slice Ao87 t464.length co87] 32 (0, 0)) (z3_2 Zh.out) hb); have n7_ := zm3 (blk_below (g := gb477) (o := .cells #[.slice Ao94 t470.length co94, .slice Ao96 t473.length co96] 32 (0, 0)) (z3_2 Zs.out) hb); have n8_ := zm3 (below_step (z3_7 HB.out Zc.out Zk.out Zn.out Zt.out ZB.out) hb); have n9_ := zm3 (hbox); have n10_ := zm3 ((by rw [hg]; exact (below_size (z3_7 HB.out Zc.out Zk.out Zn.out Zt.out ZB.out)) : w.heap.size ≤ gb489)); have n11_ := zm3 ((by rw [hg]; exact (below_size (z3_7 HB.out Zc.out Zk.out Zn.out Zt.out ZB.out)) : w.heap.size ≤ gb489)); have n12_ := zm3 ((by rw [hg]; exact Nat.ne_of_lt (blk_lt (g := gb434) (o := .cells #[.slice Ao54 t427.length co54, .slice Ao56 t430.length co56] 32 (0, 0)) (z3_2 Za.out)) : gb434 ≠ gb489)); have n13_ := zm3 ((by rw [hg]; exact Nat.ne_of_gt (blk_lt (g := gb434) (o := .cells #[.slice Ao54 t427.length co54, .slice Ao56 t430.length co56] 32 (0, 0)) (z3_2 Za.out)) : gb489 ≠ gb434)); have n14_ := zm3 ((by rw [hg]; exact Nat.ne_of_lt (blk_lt (g := gb443) (o := .cells #[.slice Ao63 t436.length co63, .slice Ao65 t439.length co65] 32 (0, 0)) (z3_2 Zb.out)) : gb443 ≠ gb489)); have n15_ := zm3 ((by rw [hg]; exact Nat.ne_of_gt (blk_lt (g := gb443) (o := .cells #[.slice Ao63 t436.length co63, .slice Ao65 t439.length co65] 32 (0, 0)) (z3_2 Zb.out)) : gb489 ≠ gb443)); have n16_ := zm3 ((by rw [hg]; exact Nat.ne_of_lt (blk_lt (g := gb455) (o := .cells #[.slice Ao74 t448.length co74, .slice Ao78 t451.length co78] 32 (0, 0)) (z3_2 Ze.out)) : gb455 ≠ gb489)); have n17_ := zm3 ((by rw [hg]; exact Nat.ne_of_gt (blk_lt (g := gb455) (o := .cells #[.slice Ao74 t448.length co74, .slice Ao78 t451.length co78] 32 (0, 0)) (z3_2 Ze.out)) : gb489 ≠ gb455)); have n18_ := zm3 ((by rw [hg]; exact Nat.ne_of_lt (blk_lt (g := gb468) (o := .cells #[.slice Ao85 t461.length co85, .slice Ao87 t464.length co87] 32 (0, 0)) (z3_2 Zh.out)) : gb468 ≠ gb489)); have n19_ := zm3 ((by rw [hg]; exact Nat.ne_of_gt (blk_lt (g := gb468) (o := .cells #[.slice Ao85 t461.length co85, .slice Ao87 t464.length co87] 32 (0, 0)) (z3_2 Zh.out)) : gb489 ≠ gb468)); have n20_ := zm3 ((by rw [hg]; exact Nat.ne_of_lt (blk_lt (g := gb477) (o := .cells #[.slice Ao94 t470.length co94, .slice Ao96 t473.length co96] 32 (0, 0)) (z3_2 Zs.out)) : gb477 ≠ gb489)); have n21_ := zm3 ((by rw [hg]; exact Nat.ne_of_gt (blk_lt (g := gb477) (o := .cells #[.slice Ao94 t470.length co94, .slice Ao96 t473.length co96] 32 (0, 0)) (z3_2 Zs.out)) : gb489 ≠ gb477)); replace Zi := n0_; replace ZR := n1_; replace ZS := n2_; replace Za := n3_; replace Zb := n4_; replace Ze := n5_; replace Zh := n6_; replace Zs := n7_; replace HB := n8_; have ZQ := n9_; have Zau := n10_; have Zaq := n11_; have ZV := n12_; have Zaj := n13_; have ZW := n14_; have Zak := n15_; have ZX := n16_; have Zal := n17_; have ZY := n18_; have Zam := n19_; have ZZ := n20_; have Zan := n21_; clear n0_ n1_ n2_ n3_ n4_ n5_ n6_ n7_ n8_ n9_ n10_ n11_ n12_ n13_ n14_ n15_ n16_ n17_ n18_ n19_ n20_ n21_; clear hb hbox hg; obtain ⟨Ao108, co108, eo108⟩ := Kd.R_slice ZR.out; subst eo108; have hnb109 := Zaj.out; have hnc109 := ZV.out; have hnb110 := Zak.out; have hnc110 := ZW.out; have hnb111 := Zal.out; have hnc111 := ZX.out; have hnb112 := Zam.out; have hnc112 := ZY.out; have hnb113 := Zan.out; have hnc113 := ZZ.out; obtain ⟨hcz114_0, hcz114_1, hfz114_0, hfz114_1⟩ := zb2 ZQ.out; obtain ⟨Ao115, co115, eo115⟩ := Kd.R_slice ZS.out; subst eo115) | ((with_reducible refine gate_store (t := 32) (p := 25) rfl ?_); refine store_event (t := 32) (p := 25) (v := ?vo_w116) (w1 := ((w107.setCell ⟨gb489, 0, none⟩ (.slice Ao108 t482.length co108)).setCell ⟨gb489, 1, none⟩ (.slice Ao115 t485.length co115))) ?hg ?ho ?hn ?hr ?_; (case ho => rfl); (case hg => rfl); (case hn => rfl); (case hr => first | (go_simp; done) | (go_simp; rfl)); intro w116 hw; have n0_ : Aside0 (Kd.R Kd.string 9 w116 w.heap.size (fun k_ => some k_ ≠ (.slice Ao108 t482.length co108 : Value).ownBlock) (.slice Ao74 t448.length co74) t448) := ⟨(by rw [hw]; exact (by (with_reducible repeat (first | apply Kd.R_alloc | apply Kd.R_drewN | apply Kd.R_drew)); exact Kd.R_mono (Kd.R_far (Kd.R_far (Kd.R_types Zi.out ZQ.out (by decide)) (fun _ hk => hk.2) _) (fun _ hk => hk.2) _) (fun _ hk => hk.1)))⟩; have n1_ : Aside0 (Kd.R Kd.string 9 w116 w.heap.size (fun k_ => some k_ ≠ (.slice Ao74 t448.length co74 : Value).ownBlock) (.slice Ao108 t482.length co108) t482) := ⟨(by rw [hw]; exact (by (with_reducible repeat (first | apply Kd.R_alloc | apply Kd.R_drewN | apply Kd.R_drew)); exact Kd.R_mono (Kd.R_far (Kd.R_far (Kd.R_types ZR.out ZQ.out (by decide)) (fun _ hk => hk.2) _) (fun _ hk => hk.2) _) (fun _ hk => hk.1)))⟩; have n2_ : Aside0 (Kd.R k75 75 w116 w.heap.size (fun _ => True) (.slice Ao115 t485.length co115) t485) := ⟨(by rw [hw]; exact (by (with_reducible repeat (first | apply Kd.R_alloc | apply Kd.R_drewN | apply Kd.R_drew)); exact Kd.R_mono (Kd.R_far (Kd.R_far (Kd.R_types ZS.out ZQ.out (by decide)) (fun _ hk => hk.2) _) (fun _ hk => hk.2) _) (fun _ hk => trivial)))⟩; have n3_ : Aside0 (w116.heap[gb434]? = some (.cells #[.slice Ao54 t427.length co54, .slice Ao56 t430.length co56] 32 (0, 0))) := ⟨(by rw [hw]; exact (by (with_reducible repeat (first | refine blk_drewN ?_ _ | refine blk_drew ?_ | refine blk_alloc ?_ _)); refine blk_far ?_ ZV.out _; (with_reducible repeat (first | refine blk_drewN ?_ _ | refine blk_drew ?_ | refine blk_alloc ?_ _)); refine blk_far ?_ ZV.out _; (with_reducible repeat (first | refine blk_drewN ?_ _ | refine blk_drew ?_ | refine blk_alloc ?_ _)); exact Za.out))⟩; have n4_ : Aside0 (w116.heap[gb443]? = some (.cells #[.slice Ao63 t436.length co63, .slice Ao65 t439.length co65] 32 (0, 0))) := ⟨(by rw [hw]; exact (by (with_reducible repeat (first | refine blk_drewN ?_ _ | refine blk_drew ?_ | refine blk_alloc ?_ _)); refine blk_far ?_ ZW.out _; (with_reducible repeat (first | refine blk_drewN ?_ _ | refine blk_drew ?_ | refine blk_alloc ?_ _)); refine blk_far ?_ ZW.out _; (with_reducible repeat (first | refine blk_drewN ?_ _ | refine blk_drew ?_ | refine blk_alloc ?_ _)); exact Zb.out))⟩; have n5_ : Aside0 (w116.heap[gb455]? = some (.cells #[.slice Ao74 t448.length co74, .slice Ao78 t451.length co78] 32 (0, 0))) := ⟨(by rw [hw]; exact (by (with_reducible repeat (first | refine blk_drewN ?_ _ | refine blk_drew ?_ | refine blk_alloc ?_ _)); refine blk_far ?_ ZX.out _; (with_reducible repeat (first | refine blk_drewN ?_ _ | refine blk_drew ?_ | refine blk_alloc ?_ _)); refine blk_far ?_ ZX.out _; (with_reducible repeat (first | refine blk_drewN ?_ _ | refine blk_drew ?_ | refine blk_alloc ?_ _)); exact Ze.out))⟩; have n6_ : Aside0 (w116.heap[gb468]? = some (.cells #[.slice Ao85 t461.length co85, .slice Ao87 t464.length co87] 32 (0, 0))) := ⟨(by rw [hw]; exact (by (with_reducible repeat (first | refine blk_drewN ?_ _ | refine blk_drew ?_ | refine blk_alloc ?_ _)); refine blk_far ?_ ZY.out _; (with_reducible repeat (first | refine blk_drewN ?_ _ | refine blk_drew ?_ | refine blk_alloc ?_ _)); refine blk_far ?_ ZY.out _; (with_reducible repeat (first | refine blk_drewN ?_ _ | refine blk_drew ?_ | refine blk_alloc ?_ _)); exact Zh.out))⟩; have n7_ : Aside0 (w116.heap[gb477]? = some (.cells #[.slice Ao94 t470.length co94, .slice Ao96 t473.length co96] 32 (0, 0))) := ⟨(by rw [hw]; exact (by (with_reducible repeat (first | refine blk_drewN ?_ _ | refine blk_drew ?_ | refine blk_alloc ?_ _)); refine blk_far ?_ ZZ.out _; (with_reducible repeat (first | refine blk_drewN ?_ _ | refine blk_drew ?_ | refine blk_alloc ?_ _)); refine blk_far ?_ ZZ.out _; (with_reducible repeat (first | refine blk_drewN ?_ _ | refine blk_drew ?_ | refine blk_alloc ?_ _)); exact Zs.out))⟩; have n8_ : Aside0 (w116.heap[gb489]? = some (.cells #[.slice Ao108 t482.length co108, .slice Ao115 t485.length co115] 32 (0, 0))) := ⟨(by rw [hw]; exact (by (with_reducible repeat (first | refine blk_drewN ?_ _ | refine blk_drew ?_ | refine blk_alloc ?_ _)); refine blk_put (cs := #[.slice Ao108 t482.length co108, .slice none 0 0]) ?_ 1 _ rfl; (with_reducible repeat (first | refine blk_drewN ?_ _ | refine blk_drew ?_ | refine blk_alloc ?_ _)); refine blk_put (cs := #[.slice none 0 0, .slice none 0 0]) ?_ 0 _ rfl; (with_reducible repeat (first | refine blk_drewN ?_ _ | refine blk_drew ?_ | refine blk_alloc ?_ _)); exact ZQ.out))⟩; have n9_ : Aside0 (Below w.heap.size w w116) := ⟨(by rw [hw]; exact (z3_8 HB.out Zc.out Zk.out Zn.out Zt.out ZB.out Zaq.out))⟩; clear hw; replace Zi := n0_; replace ZR := n1_; replace ZS := n2_; replace Za := n3_; replace Zb := n4_; replace Ze := n5_; replace Zh := n6_; replace Zs := n7_; replace ZQ := n8_; replace HB := n9_; clear n0_ n1_ n2_ n3_ n4_ n5_ n6_ n7_ n8_ n9_; have q117 : (39 : Int) ≤ ((t482.length : Int) : Int) := zd; obtain ⟨i0117, hi0117, _, hsz117, _⟩ := info_parts info9; have hroom117 : t482.length ≤ co108 := (Kd.R_reads' ZR.out).2.1; have hC117 : Kd.C Kd.string _ Ao108 t482.length t482 := (Kd.R_reads' ZR.out).2.2; have ql117 : (9 : Int) ≤ (39 : Int) := (by omega); have hcut117 := cut_mid (P := Try.prog) 29 9 .i64 .i64 Try.underlying29 hi0117 1 hsz117 Ao108 t482.length co108 9 39 (by omega) ql117 q117 hroom117; have hr117 := Kd.C_mid (lo := (9 : Int).toNat) (hi := (39 : Int).toNat) (c := co108) hC117 (by omega) (by omega) hroom117; obtain ⟨A117, hA117⟩ : ∃ A1, A1 = (if co108 = (9 : Int).toNat then Ao108 else (Ao108 : Option Addr).map (·.add ((9 : Int).toNat * 1))) := ⟨_, rfl⟩; obtain ⟨c117, hc117⟩ : ∃ c1, c1 = co108 - (9 : Int).toNat := ⟨_, rfl⟩; have hy117 : y490.length = (39 : Int).toNat - (9 : Int).toNat := (by rw [Ny490.out, List.length_drop, List.length_take] <;> omega); rw [show ((t482).take (39 : Int).toNat).drop (9 : Int).toNat = y490 from Ny490.out.symm] at hr117; replace hr117 : Kd.C Kd.string _ A117 y490.length y490 := (by rw [hA117]; exact hr117); rw [← hy117, ← hA117, ← hc117] at hcut117; have Zae := zm3 hr117; have Zar := zm3 (show y490.length ≤ c117 from by rw [hy117, hc117]; exact Nat.sub_le_sub_right (Nat.le_trans (by omega) hroom117) _); clear hr117 hC117 hroom117 hi0117 hsz117 hc117; have KY117 := zm3 hy117; have KA117 := zm3 hA117; clear hy117 hA117; have KL117 := zm3 (show 39 ≤ t482.length from by omega); have KM117 := zm3 (show 9 ≤ 39 from by omega); replace q117 := eq_true q117; have q118 : (39 : Int) ≤ ((t448.length : Int) : Int) := zd; obtain ⟨i0118, hi0118, _, hsz118, _⟩ := info_parts info9; have hroom118 : t448.length ≤ co74 := (Kd.R_reads' Zi.out).2.1; have hC118 : Kd.C Kd.string _ Ao74 t448.length t448 := (Kd.R_reads' Zi.out).2.2; have ql118 : (9 : Int) ≤ (39 : Int) := (by omega); have hcut118 := cut_mid (P := Try.prog) 29 9 .i64 .i64 Try.underlying29 hi0118 1 hsz118 Ao74 t448.length co74 9 39 (by omega) ql118 q118 hroom118; have hr118 := Kd.C_mid (lo := (9 : Int).toNat) (hi := (39 : Int).toNat) (c := co74) hC118 (by omega) (by omega) hroom118; obtain ⟨A118, hA118⟩ : ∃ A1, A1 = (if co74 = (9 : Int).toNat then Ao74 else (Ao74 : Option Addr).map (·.add ((9 : Int).toNat * 1))) := ⟨_, rfl⟩; obtain ⟨c118, hc118⟩ : ∃ c1, c1 = co74 - (9 : Int).toNat := ⟨_, rfl⟩; have hy118 : y494.length = (39 : Int).toNat - (9 : Int).toNat := (by rw [Ny494.out, List.length_drop, List.length_take] <;> omega); rw [show ((t448).take (39 : Int).toNat).drop (9 : Int).toNat = y494 from Ny494.out.symm] at hr118; replace hr118 : Kd.C Kd.string _ A118 y494.length y494 := (by rw [hA118]; exact hr118); rw [← hy118, ← hA118, ← hc118] at hcut118; have Zaf := zm3 hr118; have Zas := zm3 (show y494.length ≤ c118 from by rw [hy118, hc118]; exact Nat.sub_le_sub_right (Nat.le_trans (by omega) hroom118) _); clear hr118 hC118 hroom118 hi0118 hsz118 hc118; have KY118 := zm3 hy118; have KA118 := zm3 hA118; clear hy118 hA118; have KL118 := zm3 (show 39 ≤ t448.length from by omega); have KM118 := zm3 (show 9 ≤ 39 from by omega); replace q118 := eq_true q118))
                      have n0_ := zm3 (Kd.R_drew Zi.out); have n1_ := zm3 (Kd.R_drew ZR.out); have n2_ := zm3 (Kd.R_drew ZS.out); have n3_ := zm3 (blk_drew Za.out); have n4_ := zm3 (blk_drew Zb.out); have n5_ := zm3 (blk_drew Ze.out); have n6_ := zm3 (blk_drew Zh.out); have n7_ := zm3 (blk_drew Zs.out); have n8_ := zm3 (blk_drew ZQ.out); have n9_ := zm3 (Kd.C_drew Zae.out); have n10_ := zm3 (Kd.C_drew Zaf.out); have n11_ := zm3 (below_drew1 HB.out); clear Zi; clear ZR; clear ZS; clear Za; clear Zb; clear Ze; clear Zh; clear Zs; clear ZQ; clear Zae; clear Zaf; clear HB; have Zi := n0_; have ZR := n1_; have ZS := n2_; have Za := n3_; have Zb := n4_; have Ze := n5_; have Zh := n6_; have Zs := n7_; have ZQ := n8_; have Zae := n9_; have Zaf := n10_; have HB := n11_; clear n0_ n1_ n2_ n3_ n4_ n5_ n6_ n7_ n8_ n9_ n10_ n11_
                      refine start_ (n := 56) (S := fun w' => w'.cell? ⟨gb455, 0, none⟩ = some (.slice Ao74 t448.length co74) ∧ w'.cell? ⟨gb455, 1, none⟩ = some (.slice Ao78 t451.length co78) ∧ w'.cell? ⟨gb489, 0, none⟩ = some (.slice Ao108 t482.length co108) ∧ w'.cell? ⟨gb489, 1, none⟩ = some (.slice Ao115 t485.length co115)) (ds := []) #[false, false, false, false, false, false, false, false, false, false, false, false, false, false, false, false, false, false, false, false, false, false, false, false, false, false, false, false, false, false, false, false, false, false, false, false, false, false, false, false, false, false, false, false, false, false, false, false, false, false, false, false, false, false, false, false] (by kernel_rfl) rfl rfl ⟨(blk_cell Ze.out 0).trans rfl, (blk_cell Ze.out 1).trans rfl, (blk_cell ZQ.out 0).trans rfl, (blk_cell ZQ.out 1).trans rfl⟩ (fun hHeld => ?_); refine with_tabW laws_FnReplay.tab16 laws_FnReplay.bits16 (fun HT_ HW_ => ?_)
                      generalize w116.drew = w119 at Zi ZR ZS Za Zb Ze Zh Zs ZQ Zae Zaf HB hHeld ⊢
                      refine pure_ (i := 0) (N := some 122) (v := ?_) (a' := ?_) #[tt, ff, ff, ff, ff, ff, ff, ff, ff, ff, ff, ff, ff, ff, ff, ff, ff, ff, ff, ff, ff, ff, ff, ff, ff, ff, ff, ff, ff, ff, ff, ff, ff, ff, ff, ff, ff, ff, ff, ff, ff, ff, ff, ff, ff, ff, ff, ff, ff, ff, ff, ff, ff, ff, ff, ff] rfl rfl (any_of HT_.out (by kernel_rfl)) (fun _ _ _ h => h) (Or.inl ⟨by rfl, ?_⟩) ?_ ?_
                      rotate_left; (intro w'; go_simp; with_reducible rfl); rotate_left; (simp only [Act.put, zs3, zz3, zt3, i64_w, i32_w]; rfl)
                      refine pure_ (i := 1) (N := some 123) (v := ?_) (a' := ?_) #[tt, tt, ff, ff, ff, ff, ff, ff, ff, ff, ff, ff, ff, ff, ff, ff, ff, ff, ff, ff, ff, ff, ff, ff, ff, ff, ff, ff, ff, ff, ff, ff, ff, ff, ff, ff, ff, ff, ff, ff, ff, ff, ff, ff, ff, ff, ff, ff, ff, ff, ff, ff, ff, ff, ff, ff] rfl rfl (any_of HT_.out (by kernel_rfl)) (fun _ _ _ h => h) (Or.inl ⟨by rfl, ?_⟩) ?_ ?_
                      rotate_left; (intro w'; go_simp; with_reducible rfl); rotate_left; (simp only [Act.put, zs3, zz3, zt3, i64_w, i32_w]; rfl)
                      refine pure_ (i := 2) (N := some 124) (v := ?_) (a' := ?_) #[tt, tt, tt, ff, ff, ff, ff, ff, ff, ff, ff, ff, ff, ff, ff, ff, ff, ff, ff, ff, ff, ff, ff, ff, ff, ff, ff, ff, ff, ff, ff, ff, ff, ff, ff, ff, ff, ff, ff, ff, ff, ff, ff, ff, ff, ff, ff, ff, ff, ff, ff, ff, ff, ff, ff, ff] rfl rfl (any_of HT_.out (by kernel_rfl)) (fun _ _ _ h => h) (Or.inl ⟨by rfl, ?_⟩) ?_ ?_
                      rotate_left; (intro w'; go_simp; with_reducible rfl); rotate_left; (simp only [Act.put, zs3, zz3, zt3, i64_w, i32_w]; rfl)
                      refine pure_ (i := 3) (N := some 125) (v := ?_) (a' := ?_) #[tt, tt, tt, tt, ff, ff, ff, ff, ff, ff, ff, ff, ff, ff, ff, ff, ff, ff, ff, ff, ff, ff, ff, ff, ff, ff, ff, ff, ff, ff, ff, ff, ff, ff, ff, ff, ff, ff, ff, ff, ff, ff, ff, ff, ff, ff, ff, ff, ff, ff, ff, ff, ff, ff, ff, ff] rfl rfl (any_of HT_.out (by kernel_rfl)) (fun _ _ _ h => h) (Or.inl ⟨by rfl, ?_⟩) ?_ ?_
                      rotate_left; (intro w'; go_simp; with_reducible rfl); rotate_left; (simp only [Act.put, zs3, zz3, zt3, i64_w, i32_w]; rfl)
                      refine pure_ (i := 4) (N := some 126) (v := ?_) (a' := ?_) #[tt, tt, tt, tt, tt, ff, ff, ff, ff, ff, ff, ff, ff, ff, ff, ff, ff, ff, ff, ff, ff, ff, ff, ff, ff, ff, ff, ff, ff, ff, ff, ff, ff, ff, ff, ff, ff, ff, ff, ff, ff, ff, ff, ff, ff, ff, ff, ff, ff, ff, ff, ff, ff, ff, ff, ff] rfl rfl (any_of HT_.out (by kernel_rfl)) (fun _ _ _ h => h) (Or.inl ⟨by rfl, ?_⟩) ?_ ?_
                      rotate_left; (intro w'; go_simp; with_reducible rfl); rotate_left; (simp only [Act.put, zs3, zz3, zt3, i64_w, i32_w]; rfl)
                      refine pure_ (i := 5) (N := some 127) (v := ?_) (a' := ?_) #[tt, tt, tt, tt, tt, tt, ff, ff, ff, ff, ff, ff, ff, ff, ff, ff, ff, ff, ff, ff, ff, ff, ff, ff, ff, ff, ff, ff, ff, ff, ff, ff, ff, ff, ff, ff, ff, ff, ff, ff, ff, ff, ff, ff, ff, ff, ff, ff, ff, ff, ff, ff, ff, ff, ff, ff] rfl rfl (any_of HT_.out (by kernel_rfl)) (fun _ _ _ h => h) (Or.inl ⟨by rfl, ?_⟩) ?_ ?_
                      rotate_left; (intro w'; go_simp; with_reducible rfl); rotate_left; (simp only [Act.put, zs3, zz3, zt3, i64_w, i32_w]; rfl)
                      refine pure_ (i := 6) (N := some 128) (v := ?_) (a' := ?_) #[tt, tt, tt, tt, tt, tt, tt, ff, ff, ff, ff, ff, ff, ff, ff, ff, ff, ff, ff, ff, ff, ff, ff, ff, ff, ff, ff, ff, ff, ff, ff, ff, ff, ff, ff, ff, ff, ff, ff, ff, ff, ff, ff, ff, ff, ff, ff, ff, ff, ff, ff, ff, ff, ff, ff, ff] rfl rfl (any_of HT_.out (by kernel_rfl)) (fun _ _ _ h => h) (Or.inl ⟨by rfl, ?_⟩) ?_ ?_
                      rotate_left; (intro w'; go_simp; with_reducible rfl); rotate_left; (simp only [Act.put, zs3, zz3, zt3, i64_w, i32_w]; rfl)
                      refine pure_ (i := 7) (N := some 129) (v := ?_) (a' := ?_) #[tt, tt, tt, tt, tt, tt, tt, tt, ff, ff, ff, ff, ff, ff, ff, ff, ff, ff, ff, ff, ff, ff, ff, ff, ff, ff, ff, ff, ff, ff, ff, ff, ff, ff, ff, ff, ff, ff, ff, ff, ff, ff, ff, ff, ff, ff, ff, ff, ff, ff, ff, ff, ff, ff, ff, ff] rfl rfl (any_of HT_.out (by kernel_rfl)) (fun _ _ _ h => h) (Or.inl ⟨by rfl, ?_⟩) ?_ ?_
                      rotate_left; (intro w'; go_simp; with_reducible rfl); rotate_left; (simp only [Act.put, zs3, zz3, zt3, i64_w, i32_w]; rfl)
                      refine pure_ (i := 8) (N := some 130) (v := ?_) (a' := ?_) #[tt, tt, tt, tt, tt, tt, tt, tt, tt, ff, ff, ff, ff, ff, ff, ff, ff, ff, ff, ff, ff, ff, ff, ff, ff, ff, ff, ff, ff, ff, ff, ff, ff, ff, ff, ff, ff, ff, ff, ff, ff, ff, ff, ff, ff, ff, ff, ff, ff, ff, ff, ff, ff, ff, ff, ff] rfl rfl (any_of HT_.out (by kernel_rfl)) (fun _ _ _ h => h) (Or.inl ⟨by rfl, ?_⟩) ?_ ?_
                      rotate_left; (intro w'; go_simp; with_reducible rfl); rotate_left; (simp only [Act.put, zs3, zz3, zt3, i64_w, i32_w]; rfl)
                      refine pure_ (i := 9) (N := some 131) (v := ?_) (a' := ?_) #[tt, tt, tt, tt, tt, tt, tt, tt, tt, tt, ff, ff, ff, ff, ff, ff, ff, ff, ff, ff, ff, ff, ff, ff, ff, ff, ff, ff, ff, ff, ff, ff, ff, ff, ff, ff, ff, ff, ff, ff, ff, ff, ff, ff, ff, ff, ff, ff, ff, ff, ff, ff, ff, ff, ff, ff] rfl rfl (any_of HT_.out (by kernel_rfl)) (fun _ _ _ h => h) (Or.inl ⟨by rfl, ?_⟩) ?_ ?_
                      rotate_left; (intro w'; go_simp; with_reducible rfl); rotate_left; (simp only [Act.put, zs3, zz3, zt3, i64_w, i32_w]; rfl)
                      refine pure_ (i := 10) (N := some 132) (v := ?_) (a' := ?_) #[tt, tt, tt, tt, tt, tt, tt, tt, tt, tt, tt, ff, ff, ff, ff, ff, ff, ff, ff, ff, ff, ff, ff, ff, ff, ff, ff, ff, ff, ff, ff, ff, ff, ff, ff, ff, ff, ff, ff, ff, ff, ff, ff, ff, ff, ff, ff, ff, ff, ff, ff, ff, ff, ff, ff, ff] rfl rfl (any_of HT_.out (by kernel_rfl)) (fun _ _ _ h => h) (Or.inl ⟨by rfl, ?_⟩) ?_ ?_
                      rotate_left; (intro w'; go_simp; with_reducible rfl); rotate_left; (simp only [Act.put, zs3, zz3, zt3, i64_w, i32_w]; rfl)
                      refine pure_ (i := 11) (N := some 133) (v := ?_) (a' := ?_) #[tt, tt, tt, tt, tt, tt, tt, tt, tt, tt, tt, tt, ff, ff, ff, ff, ff, ff, ff, ff, ff, ff, ff, ff, ff, ff, ff, ff, ff, ff, ff, ff, ff, ff, ff, ff, ff, ff, ff, ff, ff, ff, ff, ff, ff, ff, ff, ff, ff, ff, ff, ff, ff, ff, ff, ff] rfl rfl (any_of HT_.out (by kernel_rfl)) (fun _ _ _ h => h) (Or.inl ⟨by rfl, ?_⟩) ?_ ?_
                      rotate_left; (intro w'; go_simp; with_reducible rfl); rotate_left; (simp only [Act.put, zs3, zz3, zt3, i64_w, i32_w]; rfl)
                      refine pure_ (i := 12) (N := some 134) (v := ?_) (a' := ?_) #[tt, tt, tt, tt, tt, tt, tt, tt, tt, tt, tt, tt, tt, ff, ff, ff, ff, ff, ff, ff, ff, ff, ff, ff, ff, ff, ff, ff, ff, ff, ff, ff, ff, ff, ff, ff, ff, ff, ff, ff, ff, ff, ff, ff, ff, ff, ff, ff, ff, ff, ff, ff, ff, ff, ff, ff] rfl rfl (any_of HT_.out (by kernel_rfl)) (fun _ _ _ h => h) (Or.inl ⟨by rfl, ?_⟩) ?_ ?_
                      rotate_left; (intro w'; go_simp; with_reducible rfl); rotate_left; (simp only [Act.put, zs3, zz3, zt3, i64_w, i32_w]; rfl)
                      refine pure_ (i := 13) (N := some 135) (v := ?_) (a' := ?_) #[tt, tt, tt, tt, tt, tt, tt, tt, tt, tt, tt, tt, tt, tt, ff, ff, ff, ff, ff, ff, ff, ff, ff, ff, ff, ff, ff, ff, ff, ff, ff, ff, ff, ff, ff, ff, ff, ff, ff, ff, ff, ff, ff, ff, ff, ff, ff, ff, ff, ff, ff, ff, ff, ff, ff, ff] rfl rfl (any_of HT_.out (by kernel_rfl)) (fun _ _ _ h => h) (Or.inl ⟨by rfl, ?_⟩) ?_ ?_
                      rotate_left; (intro w'; go_simp; with_reducible rfl); rotate_left; (simp only [Act.put, zs3, zz3, zt3, i64_w, i32_w]; rfl)
                      refine pure_ (i := 14) (N := some 136) (v := ?_) (a' := ?_) #[tt, tt, tt, tt, tt, tt, tt, tt, tt, tt, tt, tt, tt, tt, tt, ff, ff, ff, ff, ff, ff, ff, ff, ff, ff, ff, ff, ff, ff, ff, ff, ff, ff, ff, ff, ff, ff, ff, ff, ff, ff, ff, ff, ff, ff, ff, ff, ff, ff, ff, ff, ff, ff, ff, ff, ff] rfl rfl (any_of HT_.out (by kernel_rfl)) (fun _ _ _ h => h) (Or.inl ⟨by rfl, ?_⟩) ?_ ?_
                      rotate_left; (intro w'; go_simp; with_reducible rfl); rotate_left; (simp only [Act.put, zs3, zz3, zt3, i64_w, i32_w]; rfl)
                      refine pure_ (i := 15) (N := some 137) (v := ?_) (a' := ?_) #[tt, tt, tt, tt, tt, tt, tt, tt, tt, tt, tt, tt, tt, tt, tt, tt, ff, ff, ff, ff, ff, ff, ff, ff, ff, ff, ff, ff, ff, ff, ff, ff, ff, ff, ff, ff, ff, ff, ff, ff, ff, ff, ff, ff, ff, ff, ff, ff, ff, ff, ff, ff, ff, ff, ff, ff] rfl rfl (any_of HT_.out (by kernel_rfl)) (fun _ _ _ h => h) (Or.inl ⟨by rfl, ?_⟩) ?_ ?_
                      rotate_left; (intro w'; go_simp; with_reducible rfl); rotate_left; (simp only [Act.put, zs3, zz3, zt3, i64_w, i32_w]; rfl)
                      refine pure_ (i := 16) (N := some 138) (v := ?_) (a' := ?_) #[tt, tt, tt, tt, tt, tt, tt, tt, tt, tt, tt, tt, tt, tt, tt, tt, tt, ff, ff, ff, ff, ff, ff, ff, ff, ff, ff, ff, ff, ff, ff, ff, ff, ff, ff, ff, ff, ff, ff, ff, ff, ff, ff, ff, ff, ff, ff, ff, ff, ff, ff, ff, ff, ff, ff, ff] rfl rfl (any_of HT_.out (by kernel_rfl)) (fun _ _ _ h => h) (Or.inl ⟨by rfl, ?_⟩) ?_ ?_
                      rotate_left; (intro w'; go_simp; with_reducible rfl); rotate_left; (simp only [Act.put, zs3, zz3, zt3, i64_w, i32_w]; rfl)
                      refine pure_ (i := 17) (N := some 139) (v := ?_) (a' := ?_) #[tt, tt, tt, tt, tt, tt, tt, tt, tt, tt, tt, tt, tt, tt, tt, tt, tt, tt, ff, ff, ff, ff, ff, ff, ff, ff, ff, ff, ff, ff, ff, ff, ff, ff, ff, ff, ff, ff, ff, ff, ff, ff, ff, ff, ff, ff, ff, ff, ff, ff, ff, ff, ff, ff, ff, ff] rfl rfl (any_of HT_.out (by kernel_rfl)) (fun _ _ _ h => h) (Or.inl ⟨by rfl, ?_⟩) ?_ ?_
                      rotate_left; (intro w'; go_simp; with_reducible rfl); rotate_left; (simp only [Act.put, zs3, zz3, zt3, i64_w, i32_w]; rfl)
                      refine pure_ (i := 18) (N := some 140) (v := ?_) (a' := ?_) #[tt, tt, tt, tt, tt, tt, tt, tt, tt, tt, tt, tt, tt, tt, tt, tt, tt, tt, tt, ff, ff, ff, ff, ff, ff, ff, ff, ff, ff, ff, ff, ff, ff, ff, ff, ff, ff, ff, ff, ff, ff, ff, ff, ff, ff, ff, ff, ff, ff, ff, ff, ff, ff, ff, ff, ff] rfl rfl (any_of HT_.out (by kernel_rfl)) (fun _ _ _ h => h) (Or.inl ⟨by rfl, ?_⟩) ?_ ?_
                      rotate_left; (intro w'; go_simp; with_reducible rfl); rotate_left; (simp only [Act.put, zs3, zz3, zt3, i64_w, i32_w]; rfl)
                      refine pure_ (i := 19) (N := some 141) (v := ?_) (a' := ?_) #[tt, tt, tt, tt, tt, tt, tt, tt, tt, tt, tt, tt, tt, tt, tt, tt, tt, tt, tt, tt, ff, ff, ff, ff, ff, ff, ff, ff, ff, ff, ff, ff, ff, ff, ff, ff, ff, ff, ff, ff, ff, ff, ff, ff, ff, ff, ff, ff, ff, ff, ff, ff, ff, ff, ff, ff] rfl rfl (any_of HT_.out (by kernel_rfl)) (fun _ _ _ h => h) (Or.inl ⟨by rfl, ?_⟩) ?_ ?_
                      rotate_left; (intro w'; go_simp; with_reducible rfl); rotate_left; (simp only [Act.put, zs3, zz3, zt3, i64_w, i32_w]; rfl)
                      refine pure_ (i := 20) (N := some 142) (v := ?_) (a' := ?_) #[tt, tt, tt, tt, tt, tt, tt, tt, tt, tt, tt, tt, tt, tt, tt, tt, tt, tt, tt, tt, tt, ff, ff, ff, ff, ff, ff, ff, ff, ff, ff, ff, ff, ff, ff, ff, ff, ff, ff, ff, ff, ff, ff, ff, ff, ff, ff, ff, ff, ff, ff, ff, ff, ff, ff, ff] rfl rfl (any_of HT_.out (by kernel_rfl)) (fun _ _ _ h => h) (Or.inl ⟨by rfl, ?_⟩) ?_ ?_
                      rotate_left; (intro w'; go_simp; with_reducible rfl); rotate_left; (simp only [Act.put, zs3, zz3, zt3, i64_w, i32_w]; rfl)
                      refine pure_ (i := 21) (N := some 143) (v := ?_) (a' := ?_) #[tt, tt, tt, tt, tt, tt, tt, tt, tt, tt, tt, tt, tt, tt, tt, tt, tt, tt, tt, tt, tt, tt, ff, ff, ff, ff, ff, ff, ff, ff, ff, ff, ff, ff, ff, ff, ff, ff, ff, ff, ff, ff, ff, ff, ff, ff, ff, ff, ff, ff, ff, ff, ff, ff, ff, ff] rfl rfl (any_of HT_.out (by kernel_rfl)) (fun _ _ _ h => h) (Or.inl ⟨by rfl, ?_⟩) ?_ ?_
                      rotate_left; (intro w'; go_simp; with_reducible rfl); rotate_left; (simp only [Act.put, zs3, zz3, zt3, i64_w, i32_w]; rfl)
                      refine pure_ (i := 22) (N := some 144) (v := ?_) (a' := ?_) #[tt, tt, tt, tt, tt, tt, tt, tt, tt, tt, tt, tt, tt, tt, tt, tt, tt, tt, tt, tt, tt, tt, tt, ff, ff, ff, ff, ff, ff, ff, ff, ff, ff, ff, ff, ff, ff, ff, ff, ff, ff, ff, ff, ff, ff, ff, ff, ff, ff, ff, ff, ff, ff, ff, ff, ff] rfl rfl (any_of HT_.out (by kernel_rfl)) (fun _ _ _ h => h) (Or.inl ⟨by rfl, ?_⟩) ?_ ?_
                      rotate_left; (intro w'; go_simp; with_reducible rfl); rotate_left; (simp only [Act.put, zs3, zz3, zt3, i64_w, i32_w]; rfl)
                      refine pure_ (i := 23) (N := some 145) (v := ?_) (a' := ?_) #[tt, tt, tt, tt, tt, tt, tt, tt, tt, tt, tt, tt, tt, tt, tt, tt, tt, tt, tt, tt, tt, tt, tt, tt, ff, ff, ff, ff, ff, ff, ff, ff, ff, ff, ff, ff, ff, ff, ff, ff, ff, ff, ff, ff, ff, ff, ff, ff, ff, ff, ff, ff, ff, ff, ff, ff] rfl rfl (any_of HT_.out (by kernel_rfl)) (fun _ _ _ h => h) (Or.inl ⟨by rfl, ?_⟩) ?_ ?_
                      rotate_left; (intro w'; go_simp; with_reducible rfl); rotate_left; (simp only [Act.put, zs3, zz3, zt3, i64_w, i32_w]; rfl)
                      refine pure_ (i := 24) (N := some 146) (v := ?_) (a' := ?_) #[tt, tt, tt, tt, tt, tt, tt, tt, tt, tt, tt, tt, tt, tt, tt, tt, tt, tt, tt, tt, tt, tt, tt, tt, tt, ff, ff, ff, ff, ff, ff, ff, ff, ff, ff, ff, ff, ff, ff, ff, ff, ff, ff, ff, ff, ff, ff, ff, ff, ff, ff, ff, ff, ff, ff, ff] rfl rfl (any_of HT_.out (by kernel_rfl)) (fun _ _ _ h => h) (Or.inl ⟨by rfl, ?_⟩) ?_ ?_
                      rotate_left; (intro w'; go_simp; with_reducible rfl); rotate_left; (simp only [Act.put, zs3, zz3, zt3, i64_w, i32_w]; rfl)
                      refine pure_ (i := 25) (N := some 147) (v := ?_) (a' := ?_) #[tt, tt, tt, tt, tt, tt, tt, tt, tt, tt, tt, tt, tt, tt, tt, tt, tt, tt, tt, tt, tt, tt, tt, tt, tt, tt, ff, ff, ff, ff, ff, ff, ff, ff, ff, ff, ff, ff, ff, ff, ff, ff, ff, ff, ff, ff, ff, ff, ff, ff, ff, ff, ff, ff, ff, ff] rfl rfl (any_of HT_.out (by kernel_rfl)) (fun _ _ _ h => h) (Or.inl ⟨by rfl, ?_⟩) ?_ ?_
                      rotate_left; (intro w'; go_simp; with_reducible rfl); rotate_left; (simp only [Act.put, zs3, zz3, zt3, i64_w, i32_w]; rfl)
                      refine pure_ (i := 26) (N := some 148) (v := ?_) (a' := ?_) #[tt, tt, tt, tt, tt, tt, tt, tt, tt, tt, tt, tt, tt, tt, tt, tt, tt, tt, tt, tt, tt, tt, tt, tt, tt, tt, tt, ff, ff, ff, ff, ff, ff, ff, ff, ff, ff, ff, ff, ff, ff, ff, ff, ff, ff, ff, ff, ff, ff, ff, ff, ff, ff, ff, ff, ff] rfl rfl (any_of HT_.out (by kernel_rfl)) (fun _ _ _ h => h) (Or.inl ⟨by rfl, ?_⟩) ?_ ?_
                      rotate_left; (intro w'; go_simp; with_reducible rfl); rotate_left; (simp only [Act.put, zs3, zz3, zt3, i64_w, i32_w]; rfl)
                      refine pure_ (i := 27) (N := some 149) (v := ?_) (a' := ?_) #[tt, tt, tt, tt, tt, tt, tt, tt, tt, tt, tt, tt, tt, tt, tt, tt, tt, tt, tt, tt, tt, tt, tt, tt, tt, tt, tt, tt, ff, ff, ff, ff, ff, ff, ff, ff, ff, ff, ff, ff, ff, ff, ff, ff, ff, ff, ff, ff, ff, ff, ff, ff, ff, ff, ff, ff] rfl rfl (any_of HT_.out (by kernel_rfl)) (fun _ _ _ h => h) (Or.inl ⟨by rfl, ?_⟩) ?_ ?_
                      rotate_left; (intro w'; go_simp; with_reducible rfl); rotate_left; (simp only [Act.put, zs3, zz3, zt3, i64_w, i32_w]; rfl)
                      refine pure_ (i := 28) (N := some 150) (v := ?_) (a' := ?_) #[tt, tt, tt, tt, tt, tt, tt, tt, tt, tt, tt, tt, tt, tt, tt, tt, tt, tt, tt, tt, tt, tt, tt, tt, tt, tt, tt, tt, tt, ff, ff, ff, ff, ff, ff, ff, ff, ff, ff, ff, ff, ff, ff, ff, ff, ff, ff, ff, ff, ff, ff, ff, ff, ff, ff, ff] rfl rfl (any_of HT_.out (by kernel_rfl)) (fun _ _ _ h => h) (Or.inl ⟨by rfl, ?_⟩) ?_ ?_
                      rotate_left; (intro w'; go_simp; with_reducible rfl); rotate_left; (simp only [Act.put, zs3, zz3, zt3, i64_w, i32_w]; rfl)
                      refine pure_ (i := 29) (N := some 151) (v := ?_) (a' := ?_) #[tt, tt, tt, tt, tt, tt, tt, tt, tt, tt, tt, tt, tt, tt, tt, tt, tt, tt, tt, tt, tt, tt, tt, tt, tt, tt, tt, tt, tt, tt, ff, ff, ff, ff, ff, ff, ff, ff, ff, ff, ff, ff, ff, ff, ff, ff, ff, ff, ff, ff, ff, ff, ff, ff, ff, ff] rfl rfl (any_of HT_.out (by kernel_rfl)) (fun _ _ _ h => h) (Or.inl ⟨by rfl, ?_⟩) ?_ ?_
                      rotate_left; (intro w'; go_simp; with_reducible rfl); rotate_left; (simp only [Act.put, zs3, zz3, zt3, i64_w, i32_w]; rfl)
                      refine pure_ (i := 30) (N := some 152) (v := ?_) (a' := ?_) #[tt, tt, tt, tt, tt, tt, tt, tt, tt, tt, tt, tt, tt, tt, tt, tt, tt, tt, tt, tt, tt, tt, tt, tt, tt, tt, tt, tt, tt, tt, tt, ff, ff, ff, ff, ff, ff, ff, ff, ff, ff, ff, ff, ff, ff, ff, ff, ff, ff, ff, ff, ff, ff, ff, ff, ff] rfl rfl (any_of HT_.out (by kernel_rfl)) (fun _ _ _ h => h) (Or.inl ⟨by rfl, ?_⟩) ?_ ?_
                      rotate_left; (intro w'; go_simp; with_reducible rfl); rotate_left; (simp only [Act.put, zs3, zz3, zt3, i64_w, i32_w]; rfl)
                      refine pure_ (i := 31) (N := some 153) (v := ?_) (a' := ?_) #[tt, tt, tt, tt, tt, tt, tt, tt, tt, tt, tt, tt, tt, tt, tt, tt, tt, tt, tt, tt, tt, tt, tt, tt, tt, tt, tt, tt, tt, tt, tt, tt, ff, ff, ff, ff, ff, ff, ff, ff, ff, ff, ff, ff, ff, ff, ff, ff, ff, ff, ff, ff, ff, ff, ff, ff] rfl rfl (any_of HT_.out (by kernel_rfl)) (fun _ _ _ h => h) (Or.inl ⟨by rfl, ?_⟩) ?_ ?_
                      rotate_left; (intro w'; go_simp; with_reducible rfl); rotate_left; (simp only [Act.put, zs3, zz3, zt3, i64_w, i32_w]; rfl)
                      refine pure_ (i := 32) (N := some 154) (v := ?_) (a' := ?_) #[tt, tt, tt, tt, tt, tt, tt, tt, tt, tt, tt, tt, tt, tt, tt, tt, tt, tt, tt, tt, tt, tt, tt, tt, tt, tt, tt, tt, tt, tt, tt, tt, tt, ff, ff, ff, ff, ff, ff, ff, ff, ff, ff, ff, ff, ff, ff, ff, ff, ff, ff, ff, ff, ff, ff, ff] rfl rfl (any_of HT_.out (by kernel_rfl)) (fun _ _ _ h => h) (Or.inl ⟨by rfl, ?_⟩) ?_ ?_
                      rotate_left; (intro w'; go_simp; with_reducible rfl); rotate_left; (simp only [Act.put, zs3, zz3, zt3, i64_w, i32_w]; rfl)
                      refine pure_ (i := 33) (N := some 155) (v := ?_) (a' := ?_) #[tt, tt, tt, tt, tt, tt, tt, tt, tt, tt, tt, tt, tt, tt, tt, tt, tt, tt, tt, tt, tt, tt, tt, tt, tt, tt, tt, tt, tt, tt, tt, tt, tt, tt, ff, ff, ff, ff, ff, ff, ff, ff, ff, ff, ff, ff, ff, ff, ff, ff, ff, ff, ff, ff, ff, ff] rfl rfl (any_of HT_.out (by kernel_rfl)) (fun _ _ _ h => h) (Or.inl ⟨by rfl, ?_⟩) ?_ ?_
                      rotate_left; (intro w'; go_simp; with_reducible rfl); rotate_left; (simp only [Act.put, zs3, zz3, zt3, i64_w, i32_w]; rfl)
                      refine pure_ (i := 34) (N := some 156) (v := ?_) (a' := ?_) #[tt, tt, tt, tt, tt, tt, tt, tt, tt, tt, tt, tt, tt, tt, tt, tt, tt, tt, tt, tt, tt, tt, tt, tt, tt, tt, tt, tt, tt, tt, tt, tt, tt, tt, tt, ff, ff, ff, ff, ff, ff, ff, ff, ff, ff, ff, ff, ff, ff, ff, ff, ff, ff, ff, ff, ff] rfl rfl (any_of HT_.out (by kernel_rfl)) (fun _ _ _ h => h) (Or.inl ⟨by rfl, ?_⟩) ?_ ?_
                      rotate_left; (intro w'; go_simp; with_reducible rfl); rotate_left; (simp only [Act.put, zs3, zz3, zt3, i64_w, i32_w]; rfl)
                      refine pure_ (i := 35) (N := some 157) (v := ?_) (a' := ?_) #[tt, tt, tt, tt, tt, tt, tt, tt, tt, tt, tt, tt, tt, tt, tt, tt, tt, tt, tt, tt, tt, tt, tt, tt, tt, tt, tt, tt, tt, tt, tt, tt, tt, tt, tt, tt, ff, ff, ff, ff, ff, ff, ff, ff, ff, ff, ff, ff, ff, ff, ff, ff, ff, ff, ff, ff] rfl rfl (any_of HT_.out (by kernel_rfl)) (fun _ _ _ h => h) (Or.inl ⟨by rfl, ?_⟩) ?_ ?_
                      rotate_left; (intro w'; go_simp; with_reducible rfl); rotate_left; (simp only [Act.put, zs3, zz3, zt3, i64_w, i32_w]; rfl)
                      refine take_ (i := 36) (N := some 158) (v := ?_) (a' := ?_) #[tt, tt, tt, tt, tt, tt, tt, tt, tt, tt, tt, tt, tt, tt, tt, tt, tt, tt, tt, tt, tt, tt, tt, tt, tt, tt, tt, tt, tt, tt, tt, tt, tt, tt, tt, tt, tt, ff, ff, ff, ff, ff, ff, ff, ff, ff, ff, ff, ff, ff, ff, ff, ff, ff, ff, ff] rfl rfl (take_ofW HT_.out HW_.out (by kernel_rfl)) (fun _ _ _ h => h) (Or.inl ⟨by rfl, ?_⟩) hHeld ?_ ?_
                      rotate_left
                      ·rintro w' ⟨s0, s1, s2, s3⟩
                       go_simp
                       with_reducible rfl
                      rotate_left
                      ·simp only [Act.put, zs3, zz3, zt3, i64_w, i32_w]
                       rfl
                      refine pure_ (i := 37) (N := some 159) (v := ?_) (a' := ?_) #[tt, tt, tt, tt, tt, tt, tt, tt, tt, tt, tt, tt, tt, tt, tt, tt, tt, tt, tt, tt, tt, tt, tt, tt, tt, tt, tt, tt, tt, tt, tt, tt, tt, tt, tt, tt, tt, tt, ff, ff, ff, ff, ff, ff, ff, ff, ff, ff, ff, ff, ff, ff, ff, ff, ff, ff] rfl rfl (any_of HT_.out (by kernel_rfl)) (fun _ _ _ h => h) (Or.inl ⟨by rfl, ?_⟩) ?_ ?_
                      rotate_left; (intro w'; go_simp; with_reducible rfl); rotate_left; (simp only [Act.put, zs3, zz3, zt3, i64_w, i32_w]; rfl)
                      refine pure_ (i := 38) (N := some 160) (v := ?_) (a' := ?_) #[tt, tt, tt, tt, tt, tt, tt, tt, tt, tt, tt, tt, tt, tt, tt, tt, tt, tt, tt, tt, tt, tt, tt, tt, tt, tt, tt, tt, tt, tt, tt, tt, tt, tt, tt, tt, tt, tt, tt, ff, ff, ff, ff, ff, ff, ff, ff, ff, ff, ff, ff, ff, ff, ff, ff, ff] rfl rfl (any_of HT_.out (by kernel_rfl)) (fun _ _ _ h => h) (Or.inl ⟨by rfl, ?_⟩) ?_ ?_
                      rotate_left; (intro w'; go_simp; with_reducible rfl); rotate_left; (simp only [Act.put, zs3, zz3, zt3, i64_w, i32_w]; rfl)
                      refine pure_ (i := 39) (N := some 161) (v := ?_) (a' := ?_) #[tt, tt, tt, tt, tt, tt, tt, tt, tt, tt, tt, tt, tt, tt, tt, tt, tt, tt, tt, tt, tt, tt, tt, tt, tt, tt, tt, tt, tt, tt, tt, tt, tt, tt, tt, tt, tt, tt, tt, tt, ff, ff, ff, ff, ff, ff, ff, ff, ff, ff, ff, ff, ff, ff, ff, ff] rfl rfl (any_of HT_.out (by kernel_rfl)) (fun _ _ _ h => h) (Or.inl ⟨by rfl, ?_⟩) ?_ ?_
                      rotate_left; (intro w'; go_simp; with_reducible rfl); rotate_left; (simp only [Act.put, zs3, zz3, zt3, i64_w, i32_w]; rfl)
                      refine pure_ (i := 40) (N := some 162) (v := ?_) (a' := ?_) #[tt, tt, tt, tt, tt, tt, tt, tt, tt, tt, tt, tt, tt, tt, tt, tt, tt, tt, tt, tt, tt, tt, tt, tt, tt, tt, tt, tt, tt, tt, tt, tt, tt, tt, tt, tt, tt, tt, tt, tt, tt, ff, ff, ff, ff, ff, ff, ff, ff, ff, ff, ff, ff, ff, ff, ff] rfl rfl (any_of HT_.out (by kernel_rfl)) (fun _ _ _ h => h) (Or.inl ⟨by rfl, ?_⟩) ?_ ?_
                      rotate_left; (intro w'; go_simp; with_reducible rfl); rotate_left; (simp only [Act.put, zs3, zz3, zt3, i64_w, i32_w]; rfl)
                      refine pure_ (i := 41) (N := some 163) (v := ?_) (a' := ?_) #[tt, tt, tt, tt, tt, tt, tt, tt, tt, tt, tt, tt, tt, tt, tt, tt, tt, tt, tt, tt, tt, tt, tt, tt, tt, tt, tt, tt, tt, tt, tt, tt, tt, tt, tt, tt, tt, tt, tt, tt, tt, tt, ff, ff, ff, ff, ff, ff, ff, ff, ff, ff, ff, ff, ff, ff] rfl rfl (any_of HT_.out (by kernel_rfl)) (fun _ _ _ h => h) (Or.inl ⟨by rfl, ?_⟩) ?_ ?_
                      rotate_left; (intro w'; go_simp; with_reducible rfl); rotate_left; (simp only [Act.put, zs3, zz3, zt3, i64_w, i32_w]; rfl)
                      refine take_ (i := 42) (N := some 164) (v := ?_) (a' := ?_) #[tt, tt, tt, tt, tt, tt, tt, tt, tt, tt, tt, tt, tt, tt, tt, tt, tt, tt, tt, tt, tt, tt, tt, tt, tt, tt, tt, tt, tt, tt, tt, tt, tt, tt, tt, tt, tt, tt, tt, tt, tt, tt, tt, ff, ff, ff, ff, ff, ff, ff, ff, ff, ff, ff, ff, ff] rfl rfl (take_ofW HT_.out HW_.out (by kernel_rfl)) (fun _ _ _ h => h) (Or.inl ⟨by rfl, ?_⟩) hHeld ?_ ?_
                      rotate_left
                      ·rintro w' ⟨s0, s1, s2, s3⟩
                       go_simp
                       with_reducible rfl
                      rotate_left
                      ·simp only [Act.put, zs3, zz3, zt3, i64_w, i32_w]
                       rfl
                      refine pure_ (i := 43) (N := some 165) (v := ?_) (a' := ?_) #[tt, tt, tt, tt, tt, tt, tt, tt, tt, tt, tt, tt, tt, tt, tt, tt, tt, tt, tt, tt, tt, tt, tt, tt, tt, tt, tt, tt, tt, tt, tt, tt, tt, tt, tt, tt, tt, tt, tt, tt, tt, tt, tt, tt, ff, ff, ff, ff, ff, ff, ff, ff, ff, ff, ff, ff] rfl rfl (any_of HT_.out (by kernel_rfl)) (fun _ _ _ h => h) (Or.inl ⟨by rfl, ?_⟩) ?_ ?_
                      rotate_left; (intro w'; go_simp; with_reducible rfl); rotate_left; (simp only [Act.put, zs3, zz3, zt3, i64_w, i32_w]; rfl)
                      refine pure_ (i := 44) (N := some 166) (v := ?_) (a' := ?_) #[tt, tt, tt, tt, tt, tt, tt, tt, tt, tt, tt, tt, tt, tt, tt, tt, tt, tt, tt, tt, tt, tt, tt, tt, tt, tt, tt, tt, tt, tt, tt, tt, tt, tt, tt, tt, tt, tt, tt, tt, tt, tt, tt, tt, tt, ff, ff, ff, ff, ff, ff, ff, ff, ff, ff, ff] rfl rfl (any_of HT_.out (by kernel_rfl)) (fun _ _ _ h => h) (Or.inl ⟨by rfl, ?_⟩) ?_ ?_
                      rotate_left; (intro w'; go_simp; with_reducible rfl); rotate_left; (simp only [Act.put, zs3, zz3, zt3, i64_w, i32_w]; rfl)
                      refine pure_ (i := 45) (N := some 167) (v := ?_) (a' := ?_) #[tt, tt, tt, tt, tt, tt, tt, tt, tt, tt, tt, tt, tt, tt, tt, tt, tt, tt, tt, tt, tt, tt, tt, tt, tt, tt, tt, tt, tt, tt, tt, tt, tt, tt, tt, tt, tt, tt, tt, tt, tt, tt, tt, tt, tt, tt, ff, ff, ff, ff, ff, ff, ff, ff, ff, ff] rfl rfl (any_of HT_.out (by kernel_rfl)) (fun _ _ _ h => h) (Or.inl ⟨by rfl, ?_⟩) ?_ ?_
                      rotate_left; (intro w'; go_simp; with_reducible rfl); rotate_left; (simp only [Act.put, zs3, zz3, zt3, i64_w, i32_w]; rfl)
                      refine pure_ (i := 46) (N := some 168) (v := ?_) (a' := ?_) #[tt, tt, tt, tt, tt, tt, tt, tt, tt, tt, tt, tt, tt, tt, tt, tt, tt, tt, tt, tt, tt, tt, tt, tt, tt, tt, tt, tt, tt, tt, tt, tt, tt, tt, tt, tt, tt, tt, tt, tt, tt, tt, tt, tt, tt, tt, tt, ff, ff, ff, ff, ff, ff, ff, ff, ff] rfl rfl (any_of HT_.out (by kernel_rfl)) (fun _ _ _ h => h) (Or.inl ⟨by rfl, ?_⟩) ?_ ?_
                      rotate_left; (intro w'; go_simp; with_reducible rfl); rotate_left; (simp only [Act.put, zs3, zz3, zt3, i64_w, i32_w]; rfl)
                      refine pure_ (i := 47) (N := some 169) (v := ?_) (a' := ?_) #[tt, tt, tt, tt, tt, tt, tt, tt, tt, tt, tt, tt, tt, tt, tt, tt, tt, tt, tt, tt, tt, tt, tt, tt, tt, tt, tt, tt, tt, tt, tt, tt, tt, tt, tt, tt, tt, tt, tt, tt, tt, tt, tt, tt, tt, tt, tt, tt, ff, ff, ff, ff, ff, ff, ff, ff] rfl rfl (any_of HT_.out (by kernel_rfl)) (fun _ _ _ h => h) (Or.inl ⟨by rfl, ?_⟩) ?_ ?_
                      rotate_left; (intro w'; go_simp; with_reducible rfl); rotate_left; (simp only [Act.put, zs3, zz3, zt3, i64_w, i32_w]; rfl)
                      refine pure_ (i := 50) (N := some 172) (v := ?_) (a' := ?_) #[tt, tt, tt, tt, tt, tt, tt, tt, tt, tt, tt, tt, tt, tt, tt, tt, tt, tt, tt, tt, tt, tt, tt, tt, tt, tt, tt, tt, tt, tt, tt, tt, tt, tt, tt, tt, tt, tt, tt, tt, tt, tt, tt, tt, tt, tt, tt, tt, ff, ff, tt, ff, ff, ff, ff, ff] rfl rfl (any_of HT_.out (by kernel_rfl)) (fun _ _ _ h => h) (Or.inl ⟨by rfl, ?_⟩) ?_ ?_
                      rotate_left; (intro w'; go_simp; with_reducible rfl); rotate_left; (simp only [Act.put, zs3, zz3, zt3, i64_w, i32_w]; rfl)
                      refine take_ (i := 48) (N := some 170) (v := ?_) (a' := ?_) #[tt, tt, tt, tt, tt, tt, tt, tt, tt, tt, tt, tt, tt, tt, tt, tt, tt, tt, tt, tt, tt, tt, tt, tt, tt, tt, tt, tt, tt, tt, tt, tt, tt, tt, tt, tt, tt, tt, tt, tt, tt, tt, tt, tt, tt, tt, tt, tt, tt, ff, tt, ff, ff, ff, ff, ff] rfl rfl (take_ofW HT_.out HW_.out (by kernel_rfl)) (fun _ _ _ h => h) (Or.inl ⟨by rfl, ?_⟩) hHeld ?_ ?_
                      rotate_left
                      ·rintro w' ⟨s0, s1, s2, s3⟩
                       go_simp
                       with_reducible rfl
                      rotate_left
                      ·simp only [Act.put, zs3, zz3, zt3, i64_w, i32_w]
                       rfl
                      refine pure_ (i := 49) (N := some 171) (v := ?_) (a' := ?_) #[tt, tt, tt, tt, tt, tt, tt, tt, tt, tt, tt, tt, tt, tt, tt, tt, tt, tt, tt, tt, tt, tt, tt, tt, tt, tt, tt, tt, tt, tt, tt, tt, tt, tt, tt, tt, tt, tt, tt, tt, tt, tt, tt, tt, tt, tt, tt, tt, tt, tt, tt, ff, ff, ff, ff, ff] rfl rfl (any_of HT_.out (by kernel_rfl)) (fun _ _ _ h => h) (Or.inl ⟨by rfl, ?_⟩) ?_ ?_
                      rotate_left; (intro w'; go_simp; with_reducible rfl); rotate_left; (simp only [Act.put, zs3, zz3, zt3, i64_w, i32_w]; rfl)
                      refine take_ (i := 51) (N := some 173) (v := ?_) (a' := ?_) #[tt, tt, tt, tt, tt, tt, tt, tt, tt, tt, tt, tt, tt, tt, tt, tt, tt, tt, tt, tt, tt, tt, tt, tt, tt, tt, tt, tt, tt, tt, tt, tt, tt, tt, tt, tt, tt, tt, tt, tt, tt, tt, tt, tt, tt, tt, tt, tt, tt, tt, tt, tt, ff, ff, ff, ff] rfl rfl (take_ofW HT_.out HW_.out (by kernel_rfl)) (fun _ _ _ h => h) (Or.inl ⟨by rfl, ?_⟩) hHeld ?_ ?_
                      rotate_left
                      ·rintro w' ⟨s0, s1, s2, s3⟩
                       go_simp
                       with_reducible rfl
                      rotate_left
                      ·simp only [Act.put, zs3, zz3, zt3, i64_w, i32_w]
                       rfl
                      refine pure_ (i := 52) (N := some 174) (v := ?_) (a' := ?_) #[tt, tt, tt, tt, tt, tt, tt, tt, tt, tt, tt, tt, tt, tt, tt, tt, tt, tt, tt, tt, tt, tt, tt, tt, tt, tt, tt, tt, tt, tt, tt, tt, tt, tt, tt, tt, tt, tt, tt, tt, tt, tt, tt, tt, tt, tt, tt, tt, tt, tt, tt, tt, tt, ff, ff, ff] rfl rfl (any_of HT_.out (by kernel_rfl)) (fun _ _ _ h => h) (Or.inl ⟨by rfl, ?_⟩) ?_ ?_
                      rotate_left; (intro w'; go_simp; with_reducible rfl); rotate_left; (simp only [Act.put, zs3, zz3, zt3, i64_w, i32_w]; rfl)
                      refine one_ (i := 53) (N := some 175) #[tt, tt, tt, tt, tt, tt, tt, tt, tt, tt, tt, tt, tt, tt, tt, tt, tt, tt, tt, tt, tt, tt, tt, tt, tt, tt, tt, tt, tt, tt, tt, tt, tt, tt, tt, tt, tt, tt, tt, tt, tt, tt, tt, tt, tt, tt, tt, tt, tt, tt, tt, tt, tt, tt, ff, ff] rfl rfl (one_of HT_.out (by kernel_rfl)) (by decide) (fun K hK => ?_)
                      refine goes_ Try.func10 (by kernel_rfl) rfl #[.slice A117 y490.length c117, .slice A118 y494.length c118] (by rfl) rfl rfl zq ?_
                      with_reducible refine (laws_sameTexts.calls k _ _ y490 _ _ y494 t498 _ ?side1 ?side2 ?side3 ?side4 A40.out).mono ?_
                      (case side1 => repeat (first | exact (by repeat (first | (with_reducible exact Zae.out) | (with_reducible refine Kd.C_alloc ?_ _) | (with_reducible refine Kd.C_drewN ?_ _) | (with_reducible refine Kd.C_drew ?_) | exact Zae.out)) | (with_reducible refine Kd.C_alloc ?_ _) | (with_reducible refine Kd.C_drewN ?_ _) | (with_reducible refine Kd.C_drew ?_)))
                      (case side2 => exact Zar.out)
                      (case side3 => repeat (first | exact (by repeat (first | (with_reducible exact Zaf.out) | (with_reducible refine Kd.C_alloc ?_ _) | (with_reducible refine Kd.C_drewN ?_ _) | (with_reducible refine Kd.C_drew ?_) | exact Zaf.out)) | (with_reducible refine Kd.C_alloc ?_ _) | (with_reducible refine Kd.C_drewN ?_ _) | (with_reducible refine Kd.C_drew ?_)))
                      (case side4 => exact Zas.out)
                      rintro e w' ⟨rfl, ⟨nd, rfl⟩⟩
                      refine ⟨_, rfl, ?_⟩
                      refine hK.out _ _ ⟨(blk_cell Ze.out 0).trans rfl, (blk_cell Ze.out 1).trans rfl, (blk_cell ZQ.out 0).trans rfl, (blk_cell ZQ.out 1).trans rfl⟩ (fun hHeld => ?_)
                      clear hK K
                      refine norm_ (a' := ?_) ?_ ?_
                      rotate_left
                      ·show Act.put _ (some 175) _ = _
                       simp only [Act.put, zs3, zz3, zt3, i64_w, i32_w]
                       rfl
                      refine pure_ (i := 54) (N := some 176) (v := ?_) (a' := ?_) #[tt, tt, tt, tt, tt, tt, tt, tt, tt, tt, tt, tt, tt, tt, tt, tt, tt, tt, tt, tt, tt, tt, tt, tt, tt, tt, tt, tt, tt, tt, tt, tt, tt, tt, tt, tt, tt, tt, tt, tt, tt, tt, tt, tt, tt, tt, tt, tt, tt, tt, tt, tt, tt, tt, tt, ff] rfl rfl (any_of HT_.out (by kernel_rfl)) (fun _ _ _ h => h) (Or.inl ⟨by rfl, ?_⟩) ?_ ?_
                      rotate_left; (intro w'; go_simp; with_reducible rfl); rotate_left; (simp only [Act.put, zs3, zz3, zt3, i64_w, i32_w]; rfl)
                      refine pure_ (i := 55) (N := some 4) (v := ?_) (a' := ?_) #[tt, tt, tt, tt, tt, tt, tt, tt, tt, tt, tt, tt, tt, tt, tt, tt, tt, tt, tt, tt, tt, tt, tt, tt, tt, tt, tt, tt, tt, tt, tt, tt, tt, tt, tt, tt, tt, tt, tt, tt, tt, tt, tt, tt, tt, tt, tt, tt, tt, tt, tt, tt, tt, tt, tt, tt] rfl rfl (any_of HT_.out (by kernel_rfl)) (fun _ _ _ h => h) (Or.inl ⟨by rfl, ?_⟩) ?_ ?_
                      rotate_left; (intro w'; go_simp; with_reducible rfl); rotate_left; (simp only [Act.put, zs3, zz3, zt3, i64_w, i32_w]; rfl)
                      refine done_ (done_of HT_.out (by kernel_rfl)) ?_
                      try go_wp2
                      go_ret
                      exact ⟨ze, z3_8 HB.out Zc.out Zk.out Zn.out Zt.out ZB.out Zaq.out⟩
                     ·rw [if_neg c39] at H
                      exact absurd H (by simp)
                    ·rw [if_neg c37] at H
                     exact absurd H (by simp)
                   ·rw [if_neg c36] at H
                    exact absurd H (by simp)
                  ·rw [if_neg c35] at H
                   have c35b0 : ((t482.length : Int) == 64) = false := beq_eq_false_iff_ne.mpr c35
                   have c35b1 : ((t482.length : Int) != 64) = true := bne_iff_ne.mpr c35
                   exact absurd hr_.out (by rw [← Option.some.inj H]; decide)
                 ·rw [if_neg c34] at H
                  have c34b0 : ((t448.length : Int) == 64) = false := beq_eq_false_iff_ne.mpr c34
                  have c34b1 : ((t448.length : Int) != 64) = true := bne_iff_ne.mpr c34
                  exact absurd hr_.out (by rw [← Option.some.inj H]; decide)
                ·rw [if_neg c33] at H
                 have c33b0 : (t488 == 0) = false := beq_eq_false_iff_ne.mpr c33
                 have c33b1 : (t488 != 0) = true := bne_iff_ne.mpr c33
                 exact absurd hr_.out (by rw [← Option.some.inj H]; decide)
               ·rw [if_neg c32] at H
                have c32b0 : (t481 == 0) = false := beq_eq_false_iff_ne.mpr c32
                have c32b1 : (t481 != 0) = true := bne_iff_ne.mpr c32
                exact absurd hr_.out (by rw [← Option.some.inj H]; decide)
              ·rw [if_neg c31] at H
               have c31b0 : (t476 == 0) = false := beq_eq_false_iff_ne.mpr c31
               have c31b1 : (t476 != 0) = true := bne_iff_ne.mpr c31
               exact absurd hr_.out (by rw [← Option.some.inj H]; decide)
             ·rw [if_neg c30] at H
              have c30b0 : (t467 == 0) = false := beq_eq_false_iff_ne.mpr c30
              have c30b1 : (t467 != 0) = true := bne_iff_ne.mpr c30
              exact absurd hr_.out (by rw [← Option.some.inj H]; decide)
            ·rw [if_neg c29] at H
             have c29b0 : (t454 == 0) = false := beq_eq_false_iff_ne.mpr c29
             have c29b1 : (t454 != 0) = true := bne_iff_ne.mpr c29
             exact absurd hr_.out (by rw [← Option.some.inj H]; decide)
           ·rw [if_neg c28] at H
            have c28b0 : (t447 == 0) = false := beq_eq_false_iff_ne.mpr c28
            have c28b1 : (t447 != 0) = true := bne_iff_ne.mpr c28
            exact absurd hr_.out (by rw [← Option.some.inj H]; decide)
          ·rw [if_neg c27] at H
           have c27b0 : (t442 == 0) = false := beq_eq_false_iff_ne.mpr c27
           have c27b1 : (t442 != 0) = true := bne_iff_ne.mpr c27
           exact absurd hr_.out (by rw [← Option.some.inj H]; decide)
         ·rw [if_neg c26] at H
          have c26b0 : (t433 == 0) = false := beq_eq_false_iff_ne.mpr c26
          have c26b1 : (t433 != 0) = true := bne_iff_ne.mpr c26
          exact absurd hr_.out (by rw [← Option.some.inj H]; decide)
        ·rw [if_neg c25] at H
         have c25b0 : (t416 == 0) = false := beq_eq_false_iff_ne.mpr c25
         have c25b1 : (t416 != 0) = true := bne_iff_ne.mpr c25
         exact absurd hr_.out (by rw [← Option.some.inj H]; decide)
       ·rw [if_neg c19] at H
        exact absurd H (by simp)
      ·rw [if_neg c18] at H
       exact absurd H (by simp)
     ·rw [if_neg c11] at H
      exact absurd H (by simp)
    ·rw [if_neg c10] at H
     exact absurd H (by simp)
   ·rw [if_neg c8] at H
    exact absurd H (by simp)
end Go.Proofs.Ytfmfbmcdikkijaa.Q
