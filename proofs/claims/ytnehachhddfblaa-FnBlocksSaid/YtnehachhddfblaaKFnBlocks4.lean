/- What laws.FnBlocks reaches, part 4: the functions as Lean functions, the proofs that the program's functions answer so, and plain laws about them. -/
import Derived.Test.YtnehachhddfblaaKFnBlocks1
import Derived.Test.YtnehachhddfblaaKFnBlocks3
namespace Go.Proofs.Ytnehachhddfblaa.Q
open Go.RowKit Go.Proofs.Ytnehachhddfblaa.Ext Go.Proofs.YtnehachhddfblaaW.PrintWords Go.Proofs.YtnehachhddfblaaW.PrintLast Go.Proofs.YtnehachhddfblaaW.PrintMore
attribute [local go_sem] max2_int min2_int max_two min_two max_three min_three max_four min_four   -- for this text's walks alone
set_option linter.unusedVariables false
set_option linter.unusedSimpArgs false

set_option linter.unusedVariables false
set_option linter.unusedSimpArgs false
/-! ### spec_l00Src_block: function 44 -/
def spec_l00Src_block.f (s0_0 : List Int) (s0_1 : Int) (s0_2 : Int) : Option (Int × Int × Int × Int × Int × Int) := (spec_l00Src_next.f s0_0 s0_1 s0_2 3).bind fun bt289 => ((some (([0, bt289.1] : List Int) : List Int)).bind fun y292 => ((spec_l00Src_next.f s0_0 bt289.2.1 bt289.2.2 2).bind fun bt295 => (if 0 ≤ bt295.1 then (if bt295.1 < (y292.length : Int) then ((spec_l00Src_next.f s0_0 bt295.2.1 bt295.2.2 12).bind fun bt299 => ((spec_l00Src_next.f s0_0 bt299.2.1 bt299.2.2 (wrap64 (bt299.1 + 1))).bind fun bt303 => (if bt303.1 > 0 then ((spec_l00Src_next.f s0_0 bt303.2.1 bt303.2.2 9).bind fun bt306 => (some (rd y292 bt295.1, bt299.1, bt303.1, bt306.1, bt306.2.1, bt306.2.2))) else (some (rd y292 bt295.1, bt299.1, bt303.1, 0, bt303.2.1, bt303.2.2))))) else (none)) else (none))))
def spec_l00Src_block.T1 : Bool × List (List Nat × List Nat) := (true, [([], []), ([0], [0]), ([1], [1]), ([], []), ([3, 1], [3]), ([2, 4], [2, 4]), ([5], [5]), ([], []), ([7, 4], [7]), ([6, 8], [6, 8]), ([], []), ([10, 9, 8, 0, 1, 2, 3, 4, 5, 6, 7, 8, 9, 10], [9, 10])])
def spec_l00Src_block.B1 : List Nat := [0, 1, 3, 0, 11, 31, 63, 0, 155, 511, 0, 2047]
theorem spec_l00Src_block.tab1 : rtab .any (opsOf Try.f44 1) = spec_l00Src_block.T1 := by kernel_rfl
theorem spec_l00Src_block.bits1 : waitsOk spec_l00Src_block.T1.2 spec_l00Src_block.B1 = true := by kernel_rfl
theorem z44_0 {P Q  : Prop} (h_ : P)  (q : P → Q := by intro h_ ; repeat (first | (with_reducible first | exact h_ | apply IsS89.alloc | apply IsS89.drewN | apply IsS89.drew | apply IsS89.set_1 | apply IsS89.set_2) | exact h_)) : Q := q h_ 
theorem z44_1 {P Q  : Prop} (h_ : P)  (q : P → Q := by intro h_ ; repeat (first | (with_reducible first | exact h_ | apply KeepBut.set_ | apply keep_drewN | apply keep_drew | apply keep_alloc) | exact h_)) : Q := q h_ 
theorem z44_2 {P Q A0 : Prop} (h_ : P) (a0_ : A0) (q : P → A0 → Q := by intro h_ a0_; repeat (first | (with_reducible first | exact h_ | apply below_alloc | apply pw_below_drewN | apply below_drew1 | refine below_set ?_ (IsS89.ge a0_)) | exact h_)) : Q := q h_ a0_
theorem z44_3 {P Q : Prop} (h_ : P) (q : P → Q := by intro h_; (with_reducible repeat (first | refine blk_drewN ?_ _ | refine blk_drew ?_ | refine blk_alloc ?_ _)); exact h_) : Q := q h_
theorem z44_4 {P Q A0 : Prop} (h_ : P) (a0_ : A0) (q : P → A0 → Q := by intro h_ a0_; repeat (first | (with_reducible first | exact h_ | apply KeepBut.set_ | apply keep_drewN | apply keep_drew | apply keep_alloc | refine keep_far ?_ a0_ _) | exact h_)) : Q := q h_ a0_
theorem z44_5 {P Q A0 : Prop} (h_ : P) (a0_ : A0) (q : P → A0 → Q := by intro h_ a0_; repeat (first | (with_reducible first | exact h_ | apply IsS89.alloc | apply IsS89.drewN | apply IsS89.drew | apply IsS89.set_1 | apply IsS89.set_2 | refine IsS89.far ?_ a0_ _) | exact h_)) : Q := q h_ a0_
theorem z44_6 {P Q A0 A1 : Prop} (h_ : P) (a0_ : A0) (a1_ : A1) (q : P → A0 → A1 → Q := by intro h_ a0_ a1_; repeat (first | (with_reducible first | exact h_ | apply below_alloc | apply pw_below_drewN | apply below_drew1 | refine below_set ?_ (IsS89.ge a0_) | refine below_set ?_ a1_) | exact h_)) : Q := q h_ a0_ a1_
theorem z44_7 {P Q A0 A1 : Prop} (h_ : P) (a0_ : A0) (a1_ : A1) (q : P → A0 → A1 → Q := by intro h_ a0_ a1_; repeat (first | (with_reducible first | exact h_ | apply IsS89.alloc | apply IsS89.drewN | apply IsS89.drew | apply IsS89.set_1 | apply IsS89.set_2 | refine IsS89.far ?_ a0_ _ | refine IsS89.far ?_ a1_ _) | exact h_)) : Q := q h_ a0_ a1_
theorem z44_8 {P Q A0 A1 : Prop} (h_ : P) (a0_ : A0) (a1_ : A1) (q : P → A0 → A1 → Q := by intro h_ a0_ a1_; repeat (first | (with_reducible first | exact h_ | apply KeepBut.set_ | apply keep_drewN | apply keep_drew | apply keep_alloc | refine keep_far ?_ a0_ _ | refine keep_far ?_ a1_ _) | exact h_)) : Q := q h_ a0_ a1_
theorem z44_9 {P Q A0 A1 A2 : Prop} (h_ : P) (a0_ : A0) (a1_ : A1) (a2_ : A2) (q : P → A0 → A1 → A2 → Q := by intro h_ a0_ a1_ a2_; repeat (first | (with_reducible first | exact h_ | apply below_alloc | apply pw_below_drewN | apply below_drew1 | refine below_set ?_ (IsS89.ge a0_) | refine below_set ?_ a1_ | refine below_set ?_ a2_) | exact h_)) : Q := q h_ a0_ a1_ a2_
theorem z44_10 {P Q : Prop} (h_ : P) (q : P → Q := by intro h_; (with_reducible repeat (first | apply Kd.R_alloc | apply Kd.R_drewN | apply Kd.R_drew)); exact h_) : Q := q h_
theorem zm44 {p : Prop} (h : p) : Aside0 p := ⟨h⟩
theorem zs44 {α : Type} {l : List α} {i : Nat} {a : α} : l.toArray.setIfInBounds i a = (l.set i a).toArray := List.setIfInBounds_toArray ..
theorem zz44 {α : Type} {a b : α} {l : List α} : (a :: l).set 0 b = b :: l := rfl
theorem zt44 {α : Type} {a b : α} {l : List α} {i : Nat} : (a :: l).set (i + 1) b = a :: l.set i b := rfl
set_option maxHeartbeats 8000000 in
set_option maxRecDepth 100000 in
theorem spec_l00Src_block.calls (g : Nat) (s0_0 : List Int) (s0_1 : Int) (s0_2 : Int) (r1 : Int) (r2 : Int) (r3 : Int) (r4 : Int) (r5 : Int) (r6 : Int) (w0 w : World) (hI : IsS89 w0 w g s0_0 s0_1 s0_2) (hB : Below w0.heap.size w0 w) (h : spec_l00Src_block.f s0_0 s0_1 s0_2 = some (r1, r2, r3, r4, r5, r6)) :
    Calls Try.prog 44 #[.pointer (some ⟨g, 0, none⟩)] w fun e w' => e = .returned (.agg #[.int .i64 r1, .int .i64 r2, .int .i64 r3, .int .i64 r4]) ∧ IsS89 w0 w' g s0_0 r5 r6 ∧ Below w0.heap.size w0 w' ∧ KeepBut w w' g none := by
 have hu39 := Try.underlying39
 have HI0 := zm44 hI
 have HK := zm44 (KeepBut.refl w g none)
 have HL := zm44 hB.size
 clear hI
 have HW0 := zm44 hB.size
 have HB := zm44 hB
 clear hB
 have H : ((spec_l00Src_next.f s0_0 s0_1 s0_2 3).bind fun bt289 => ((some (([0, bt289.1] : List Int) : List Int)).bind fun y292 => ((spec_l00Src_next.f s0_0 bt289.2.1 bt289.2.2 2).bind fun bt295 => (if 0 ≤ bt295.1 then (if bt295.1 < (y292.length : Int) then ((spec_l00Src_next.f s0_0 bt295.2.1 bt295.2.2 12).bind fun bt299 => ((spec_l00Src_next.f s0_0 bt299.2.1 bt299.2.2 (wrap64 (bt299.1 + 1))).bind fun bt303 => (if bt303.1 > 0 then ((spec_l00Src_next.f s0_0 bt303.2.1 bt303.2.2 9).bind fun bt306 => (some (rd y292 bt295.1, bt299.1, bt303.1, bt306.1, bt306.2.1, bt306.2.2))) else (some (rd y292 bt295.1, bt299.1, bt303.1, 0, bt303.2.1, bt303.2.2))))) else (none)) else (none))))) = some (r1, r2, r3, r4, r5, r6) := h
 clear h
 replace H := Option.bind_eq_some_iff.mp H
 obtain ⟨⟨t289, t290, t291⟩, A20, H⟩ := H
 replace H : ((some (([0, t289] : List Int) : List Int)).bind fun y292 => ((spec_l00Src_next.f s0_0 t290 t291 2).bind fun bt295 => (if 0 ≤ bt295.1 then (if bt295.1 < (y292.length : Int) then ((spec_l00Src_next.f s0_0 bt295.2.1 bt295.2.2 12).bind fun bt299 => ((spec_l00Src_next.f s0_0 bt299.2.1 bt299.2.2 (wrap64 (bt299.1 + 1))).bind fun bt303 => (if bt303.1 > 0 then ((spec_l00Src_next.f s0_0 bt303.2.1 bt303.2.2 9).bind fun bt306 => (some (rd y292 bt295.1, bt299.1, bt303.1, bt306.1, bt306.2.1, bt306.2.2))) else (some (rd y292 bt295.1, bt299.1, bt303.1, 0, bt303.2.1, bt303.2.2))))) else (none)) else (none)))) = some (r1, r2, r3, r4, r5, r6) := H
 have A2 := zm44 A20
 clear A20
 obtain ⟨y292, hy292⟩ : ∃ y_ : List Int, y_ = (([0, t289] : List Int)) := ⟨_, rfl⟩
 replace H : ((spec_l00Src_next.f s0_0 t290 t291 2).bind fun bt295 => (if 0 ≤ bt295.1 then (if bt295.1 < (y292.length : Int) then ((spec_l00Src_next.f s0_0 bt295.2.1 bt295.2.2 12).bind fun bt299 => ((spec_l00Src_next.f s0_0 bt299.2.1 bt299.2.2 (wrap64 (bt299.1 + 1))).bind fun bt303 => (if bt303.1 > 0 then ((spec_l00Src_next.f s0_0 bt303.2.1 bt303.2.2 9).bind fun bt306 => (some (rd y292 bt295.1, bt299.1, bt303.1, bt306.1, bt306.2.1, bt306.2.2))) else (some (rd y292 bt295.1, bt299.1, bt303.1, 0, bt303.2.1, bt303.2.2))))) else (none)) else (none))) = some (r1, r2, r3, r4, r5, r6) := by first | (rw [hy292]; with_reducible exact H) | (have H2_ := (Option.bind_some _ _).symm.trans H; rw [hy292]; with_reducible exact H2_) | (have H2_ := (Option.bind_some _ _).symm.trans H; with_reducible exact H2_) | with_reducible exact H | (rw [hy292]; exact H) | exact H
 have Ny292 := zm44 hy292
 clear hy292
 replace H := Option.bind_eq_some_iff.mp H
 obtain ⟨⟨t295, t296, t297⟩, A30, H⟩ := H
 replace H : (if 0 ≤ t295 then (if t295 < (y292.length : Int) then ((spec_l00Src_next.f s0_0 t296 t297 12).bind fun bt299 => ((spec_l00Src_next.f s0_0 bt299.2.1 bt299.2.2 (wrap64 (bt299.1 + 1))).bind fun bt303 => (if bt303.1 > 0 then ((spec_l00Src_next.f s0_0 bt303.2.1 bt303.2.2 9).bind fun bt306 => (some (rd y292 t295, bt299.1, bt303.1, bt306.1, bt306.2.1, bt306.2.2))) else (some (rd y292 t295, bt299.1, bt303.1, 0, bt303.2.1, bt303.2.2))))) else (none)) else (none)) = some (r1, r2, r3, r4, r5, r6) := H
 have A3 := zm44 A30
 clear A30
 by_cases c4 : 0 ≤ t295
 ·rw [if_pos c4] at H
  have c4b0 : decide (0 ≤ t295) = true := decide_eq_true c4
  clear c4
  by_cases c5 : t295 < (y292.length : Int)
  ·rw [if_pos c5] at H
   have c5b0 : decide (t295 < (y292.length : Int)) = true := decide_eq_true c5
   clear c5
   replace H := Option.bind_eq_some_iff.mp H
   obtain ⟨⟨t299, t300, t301⟩, A60, H⟩ := H
   replace H : ((spec_l00Src_next.f s0_0 t300 t301 (wrap64 (t299 + 1))).bind fun bt303 => (if bt303.1 > 0 then ((spec_l00Src_next.f s0_0 bt303.2.1 bt303.2.2 9).bind fun bt306 => (some (rd y292 t295, t299, bt303.1, bt306.1, bt306.2.1, bt306.2.2))) else (some (rd y292 t295, t299, bt303.1, 0, bt303.2.1, bt303.2.2)))) = some (r1, r2, r3, r4, r5, r6) := H
   have A6 := zm44 A60
   clear A60
   replace H := Option.bind_eq_some_iff.mp H
   obtain ⟨⟨t303, t304, t305⟩, A70, H⟩ := H
   replace H : (if t303 > 0 then ((spec_l00Src_next.f s0_0 t304 t305 9).bind fun bt306 => (some (rd y292 t295, t299, t303, bt306.1, bt306.2.1, bt306.2.2))) else (some (rd y292 t295, t299, t303, 0, t304, t305))) = some (r1, r2, r3, r4, r5, r6) := H
   have A7 := zm44 A70
   clear A70
   by_cases c8 : t303 > 0
   ·rw [if_pos c8] at H
    have c8b0 : decide (0 < t303) = true := decide_eq_true c8
    clear c8
    replace H := Option.bind_eq_some_iff.mp H
    obtain ⟨⟨t306, t307, t308⟩, A90, H⟩ := H
    replace H : (some (rd y292 t295, t299, t303, t306, t307, t308)) = some (r1, r2, r3, r4, r5, r6) := H
    have A9 := zm44 A90
    clear A90
    simp only [Option.some.injEq, Prod.mk.injEq] at H
    obtain ⟨rfl, rfl, rfl, rfl, rfl, rfl⟩ := H
    go_enter Try.func44, Try.ntmps44
    try go_wp2_with (first | ((with_reducible refine gate_dst (N := 2) rfl ?_); refine box_event ?hg (N := 2) ?hd (cs := #[.int .i64 0, .int .i64 0, .int .i64 0, .int .i64 0]) (t := 39) ?hr ?_; (case hd => rfl); (case hg => rfl); (case hr => first | (go_simp; done) | (go_simp; rfl)); intro gb288 hg w10 hbox hb; have n0_ := zm44 (IsS89.below (z44_0 HI0.out) hb); have n1_ := zm44 (KeepBut.trans (z44_1 HK.out) (KeepBut.of_below hb g none) (.inl rfl)); have n2_ := zm44 (below_step (z44_2 HB.out HI0.out) hb); have n3_ := zm44 (hbox); have n4_ := zm44 ((by rw [hg]; exact (keep_size (w := w) (g := g) (row := none) (z44_1 HK.out)) : w.heap.size ≤ gb288)); have n5_ := zm44 ((Nat.le_trans HW0.out (by rw [hg]; exact (keep_size (w := w) (g := g) (row := none) (z44_1 HK.out)) : w.heap.size ≤ gb288) : w0.heap.size ≤ gb288)); have n6_ := zm44 ((by rw [hg]; exact Nat.ne_of_lt (IsS89.lt (show IsS89 w0 _ g s0_0 s0_1 s0_2 from z44_0 HI0.out)) : g ≠ gb288)); have n7_ := zm44 ((by rw [hg]; exact Nat.ne_of_gt (IsS89.lt (show IsS89 w0 _ g s0_0 s0_1 s0_2 from z44_0 HI0.out)) : gb288 ≠ g)); clear HI0; clear HK; clear HB; have HI0 := n0_; have HK := n1_; have HB := n2_; have Za := n3_; have Zh := n4_; have Zl := n5_; have Zb := n6_; have Zm := n7_; clear n0_ n1_ n2_ n3_ n4_ n5_ n6_ n7_; clear hb hbox hg))
    have pi298 : (0 ≤ (t295 : Int)) = True := eq_true (of_decide_eq_true (by first | (with_reducible assumption) | assumption))
    have qi298 : (t295 < (y292.length : Int)) = True := eq_true (of_decide_eq_true (by first | (with_reducible assumption) | assumption))
    have n0_ := zm44 (blk_drew Za.out)
    have n1_ := zm44 (IsS89.drew HI0.out)
    have n2_ := zm44 (keep_drew HK.out)
    have n3_ := zm44 (below_drew1 HB.out)
    clear Za
    clear HI0
    clear HK
    clear HB
    have Za := n0_
    have HI0 := n1_
    have HK := n2_
    have HB := n3_
    clear n0_ n1_ n2_ n3_
    refine start_ (n := 12) (S := fun w' => True) (ds := []) #[false, false, false, false, false, false, false, false, false, false, false, false] (by kernel_rfl) rfl rfl trivial (fun hHeld => ?_); refine with_tabW spec_l00Src_block.tab1 spec_l00Src_block.bits1 (fun HT_ HW_ => ?_)
    generalize w10.drew = w11 at Za HI0 HK HB hHeld ⊢
    refine pure_ (i := 0) (N := some 4) (v := ?_) (a' := ?_) #[true, false, false, false, false, false, false, false, false, false, false, false] rfl rfl (any_of HT_.out (by kernel_rfl)) (fun _ _ _ h => h) (Or.inl ⟨by rfl, ?_⟩) ?_ ?_
    rotate_left
    ·intro w'
     go_simp
     with_reducible rfl
    rotate_left
    ·simp only [Act.put, zs44, zz44, zt44, i64_w, i32_w]
     rfl
    refine pure_ (i := 3) (N := some 7) (v := ?_) (a' := ?_) #[true, false, false, true, false, false, false, false, false, false, false, false] rfl rfl (any_of HT_.out (by kernel_rfl)) (fun _ _ _ h => h) (Or.inl ⟨by rfl, ?_⟩) ?_ ?_
    rotate_left
    ·intro w'
     go_simp
     with_reducible rfl
    rotate_left
    ·simp only [Act.put, zs44, zz44, zt44, i64_w, i32_w]
     rfl
    refine pure_ (i := 7) (N := some 11) (v := ?_) (a' := ?_) #[true, false, false, true, false, false, false, true, false, false, false, false] rfl rfl (any_of HT_.out (by kernel_rfl)) (fun _ _ _ h => h) (Or.inl ⟨by rfl, ?_⟩) ?_ ?_
    rotate_left
    ·intro w'
     go_simp
     with_reducible rfl
    rotate_left
    ·simp only [Act.put, zs44, zz44, zt44, i64_w, i32_w]
     rfl
    refine join_ (σ := Value × Addr × Nat) 1 #[true, true, true, true, true, true, true, true, true, true, true, false] (fun s_ => [(5, .int .i64 t289), (6, s_.1), (8, .int .i64 t295), (10, .int .i64 (rd y292 t295)), (12, .int .i64 t299), (3, .pointer (some ⟨s_.2.2, 0, none⟩)), (9, .pointer (some (s_.2.1.add (t295).toNat))), (13, .agg #[.int .i64 (rd y292 t295), .int .i64 t299, .int .i64 0, .int .i64 0])]) (fun s_ w' => (Kd.R (Kd.int .i64) 3 w' w.heap.size (fun _ => True) s_.1 y292) ∧ (∃ c_, (s_.1 : Value) = .slice (some s_.2.1) y292.length c_) ∧ (w'.heap[gb288]? = some (.cells #[.int .i64 0, .int .i64 0, .int .i64 0, .int .i64 0] 39 (0, 0))) ∧ (w'.heap[s_.2.2]? = some (.cells #[.int .i64 0, .int .i64 0, .int .i64 0, .int .i64 0] 39 (0, 0))) ∧ (w.heap.size ≤ s_.2.2) ∧ (w0.heap.size ≤ s_.2.2) ∧ (g ≠ s_.2.2) ∧ (s_.2.2 ≠ g) ∧ (gb288 ≠ s_.2.2) ∧ (s_.2.2 ≠ gb288) ∧ (IsS89 w0 w' g s0_0 t300 t301) ∧ (KeepBut w w' g none) ∧ (Below w0.heap.size w0 w')) ?_ ?_
    rotate_left
    ·intro hJ1_2_4_6_8_10
     refine join_ (σ := Value × Addr) 2 #[true, true, true, true, true, true, true, true, true, true, false, false] (fun s_ => [(5, .int .i64 t289), (6, s_.1), (8, .int .i64 t295), (10, .int .i64 (rd y292 t295)), (12, .int .i64 t299), (9, .pointer (some (s_.2.add (t295).toNat))), (13, .agg #[.int .i64 (rd y292 t295), .int .i64 t299, .int .i64 0, .int .i64 0])]) (fun s_ w' => (Kd.R (Kd.int .i64) 3 w' w.heap.size (fun _ => True) s_.1 y292) ∧ (∃ c_, (s_.1 : Value) = .slice (some s_.2) y292.length c_) ∧ (w'.heap[gb288]? = some (.cells #[.int .i64 0, .int .i64 0, .int .i64 0, .int .i64 0] 39 (0, 0))) ∧ (IsS89 w0 w' g s0_0 t300 t301) ∧ (KeepBut w w' g none) ∧ (Below w0.heap.size w0 w')) ?_ ?_
     rotate_left
     ·intro hJ1_2_4_6_8
      refine join_ (σ := Value × Addr × Nat) 3 #[true, true, true, true, true, true, true, true, false, false, true, false] (fun s_ => [(5, .int .i64 t289), (6, s_.1), (8, .int .i64 t295), (10, .int .i64 (rd y292 t295)), (3, .pointer (some ⟨s_.2.2, 0, none⟩)), (9, .pointer (some (s_.2.1.add (t295).toNat)))]) (fun s_ w' => (Kd.R (Kd.int .i64) 3 w' w.heap.size (fun _ => True) s_.1 y292) ∧ (∃ c_, (s_.1 : Value) = .slice (some s_.2.1) y292.length c_) ∧ (w'.heap[gb288]? = some (.cells #[.int .i64 0, .int .i64 0, .int .i64 0, .int .i64 0] 39 (0, 0))) ∧ (w'.heap[s_.2.2]? = some (.cells #[.int .i64 0, .int .i64 0, .int .i64 0, .int .i64 0] 39 (0, 0))) ∧ (w.heap.size ≤ s_.2.2) ∧ (w0.heap.size ≤ s_.2.2) ∧ (g ≠ s_.2.2) ∧ (s_.2.2 ≠ g) ∧ (gb288 ≠ s_.2.2) ∧ (s_.2.2 ≠ gb288) ∧ (IsS89 w0 w' g s0_0 t296 t297) ∧ (KeepBut w w' g none) ∧ (Below w0.heap.size w0 w')) ?_ ?_
      rotate_left
      ·intro hJ1_2_4_6_10
       refine join_ (σ := Value × Addr × Nat) 3 #[true, true, true, true, true, true, false, true, true, false, true, false] (fun s_ => [(5, .int .i64 t289), (6, s_.1), (8, .int .i64 t295), (12, .int .i64 t299), (3, .pointer (some ⟨s_.2.2, 0, none⟩)), (9, .pointer (some (s_.2.1.add (t295).toNat)))]) (fun s_ w' => (Kd.R (Kd.int .i64) 3 w' w.heap.size (fun _ => True) s_.1 y292) ∧ (∃ c_, (s_.1 : Value) = .slice (some s_.2.1) y292.length c_) ∧ (w'.heap[gb288]? = some (.cells #[.int .i64 0, .int .i64 0, .int .i64 0, .int .i64 0] 39 (0, 0))) ∧ (w'.heap[s_.2.2]? = some (.cells #[.int .i64 0, .int .i64 0, .int .i64 0, .int .i64 0] 39 (0, 0))) ∧ (w.heap.size ≤ s_.2.2) ∧ (w0.heap.size ≤ s_.2.2) ∧ (g ≠ s_.2.2) ∧ (s_.2.2 ≠ g) ∧ (gb288 ≠ s_.2.2) ∧ (s_.2.2 ≠ gb288) ∧ (IsS89 w0 w' g s0_0 t300 t301) ∧ (KeepBut w w' g none) ∧ (Below w0.heap.size w0 w')) ?_ ?_
       rotate_left
       ·intro hJ1_2_4_8_10
        refine join_ (σ := Value × Addr) 4 #[true, true, true, true, true, true, true, true, false, false, false, false] (fun s_ => [(5, .int .i64 t289), (6, s_.1), (8, .int .i64 t295), (10, .int .i64 (rd y292 t295)), (9, .pointer (some (s_.2.add (t295).toNat)))]) (fun s_ w' => (Kd.R (Kd.int .i64) 3 w' w.heap.size (fun _ => True) s_.1 y292) ∧ (∃ c_, (s_.1 : Value) = .slice (some s_.2) y292.length c_) ∧ (w'.heap[gb288]? = some (.cells #[.int .i64 0, .int .i64 0, .int .i64 0, .int .i64 0] 39 (0, 0))) ∧ (IsS89 w0 w' g s0_0 t296 t297) ∧ (KeepBut w w' g none) ∧ (Below w0.heap.size w0 w')) ?_ ?_
        rotate_left
        ·intro hJ1_2_4_6
         refine join_ (σ := Value × Addr) 4 #[true, true, true, true, true, true, false, true, true, false, false, false] (fun s_ => [(5, .int .i64 t289), (6, s_.1), (8, .int .i64 t295), (12, .int .i64 t299), (9, .pointer (some (s_.2.add (t295).toNat)))]) (fun s_ w' => (Kd.R (Kd.int .i64) 3 w' w.heap.size (fun _ => True) s_.1 y292) ∧ (∃ c_, (s_.1 : Value) = .slice (some s_.2) y292.length c_) ∧ (w'.heap[gb288]? = some (.cells #[.int .i64 0, .int .i64 0, .int .i64 0, .int .i64 0] 39 (0, 0))) ∧ (IsS89 w0 w' g s0_0 t300 t301) ∧ (KeepBut w w' g none) ∧ (Below w0.heap.size w0 w')) ?_ ?_
         rotate_left
         ·intro hJ1_2_4_8
          refine join_ (σ := Value × Addr × Nat) 4 #[true, true, true, true, true, true, false, true, false, false, true, false] (fun s_ => [(5, .int .i64 t289), (6, s_.1), (8, .int .i64 t295), (3, .pointer (some ⟨s_.2.2, 0, none⟩)), (9, .pointer (some (s_.2.1.add (t295).toNat)))]) (fun s_ w' => (Kd.R (Kd.int .i64) 3 w' w.heap.size (fun _ => True) s_.1 y292) ∧ (∃ c_, (s_.1 : Value) = .slice (some s_.2.1) y292.length c_) ∧ (w'.heap[gb288]? = some (.cells #[.int .i64 0, .int .i64 0, .int .i64 0, .int .i64 0] 39 (0, 0))) ∧ (w'.heap[s_.2.2]? = some (.cells #[.int .i64 0, .int .i64 0, .int .i64 0, .int .i64 0] 39 (0, 0))) ∧ (w.heap.size ≤ s_.2.2) ∧ (w0.heap.size ≤ s_.2.2) ∧ (g ≠ s_.2.2) ∧ (s_.2.2 ≠ g) ∧ (gb288 ≠ s_.2.2) ∧ (s_.2.2 ≠ gb288) ∧ (IsS89 w0 w' g s0_0 t296 t297) ∧ (KeepBut w w' g none) ∧ (Below w0.heap.size w0 w')) ?_ ?_
          rotate_left
          ·intro hJ1_2_4_10
           refine join_ (σ := Nat) 5 #[true, true, false, true, true, false, false, true, true, false, true, false] (fun s_ => [(5, .int .i64 t289), (8, .int .i64 t295), (12, .int .i64 t299), (3, .pointer (some ⟨s_, 0, none⟩))]) (fun s_ w' => (w'.heap[gb288]? = some (.cells #[.int .i64 0, .int .i64 0, .int .i64 0, .int .i64 0] 39 (0, 0))) ∧ (w'.heap[s_]? = some (.cells #[.int .i64 0, .int .i64 0, .int .i64 0, .int .i64 0] 39 (0, 0))) ∧ (w.heap.size ≤ s_) ∧ (w0.heap.size ≤ s_) ∧ (g ≠ s_) ∧ (s_ ≠ g) ∧ (gb288 ≠ s_) ∧ (s_ ≠ gb288) ∧ (IsS89 w0 w' g s0_0 t300 t301) ∧ (KeepBut w w' g none) ∧ (Below w0.heap.size w0 w')) ?_ ?_
           rotate_left
           ·intro hJ1_4_8_10
            refine join_ (σ := Value × Addr) 5 #[true, true, true, true, true, true, false, true, false, false, false, false] (fun s_ => [(5, .int .i64 t289), (6, s_.1), (8, .int .i64 t295), (9, .pointer (some (s_.2.add (t295).toNat)))]) (fun s_ w' => (Kd.R (Kd.int .i64) 3 w' w.heap.size (fun _ => True) s_.1 y292) ∧ (∃ c_, (s_.1 : Value) = .slice (some s_.2) y292.length c_) ∧ (w'.heap[gb288]? = some (.cells #[.int .i64 0, .int .i64 0, .int .i64 0, .int .i64 0] 39 (0, 0))) ∧ (IsS89 w0 w' g s0_0 t296 t297) ∧ (KeepBut w w' g none) ∧ (Below w0.heap.size w0 w')) ?_ ?_
            rotate_left
            ·intro hJ1_2_4
             refine join_ (σ := Value × Addr × Nat) 6 #[true, true, true, true, false, false, false, true, false, false, true, false] (fun s_ => [(5, .int .i64 t289), (6, s_.1), (3, .pointer (some ⟨s_.2.2, 0, none⟩))]) (fun s_ w' => (Kd.R (Kd.int .i64) 3 w' w.heap.size (fun _ => True) s_.1 y292) ∧ (∃ c_, (s_.1 : Value) = .slice (some s_.2.1) y292.length c_) ∧ (w'.heap[gb288]? = some (.cells #[.int .i64 0, .int .i64 0, .int .i64 0, .int .i64 0] 39 (0, 0))) ∧ (w'.heap[s_.2.2]? = some (.cells #[.int .i64 0, .int .i64 0, .int .i64 0, .int .i64 0] 39 (0, 0))) ∧ (w.heap.size ≤ s_.2.2) ∧ (w0.heap.size ≤ s_.2.2) ∧ (g ≠ s_.2.2) ∧ (s_.2.2 ≠ g) ∧ (gb288 ≠ s_.2.2) ∧ (s_.2.2 ≠ gb288) ∧ (IsS89 w0 w' g s0_0 t290 t291) ∧ (KeepBut w w' g none) ∧ (Below w0.heap.size w0 w')) ?_ ?_
             rotate_left
             ·intro hJ1_2_10
              refine join_ (σ := Unit) 6 #[true, true, false, true, true, false, false, true, true, false, false, false] (fun s_ => [(5, .int .i64 t289), (8, .int .i64 t295), (12, .int .i64 t299)]) (fun s_ w' => (w'.heap[gb288]? = some (.cells #[.int .i64 0, .int .i64 0, .int .i64 0, .int .i64 0] 39 (0, 0))) ∧ (IsS89 w0 w' g s0_0 t300 t301) ∧ (KeepBut w w' g none) ∧ (Below w0.heap.size w0 w')) ?_ ?_
              rotate_left
              ·intro hJ1_4_8
               refine join_ (σ := Nat) 6 #[true, true, false, true, true, false, false, true, false, false, true, false] (fun s_ => [(5, .int .i64 t289), (8, .int .i64 t295), (3, .pointer (some ⟨s_, 0, none⟩))]) (fun s_ w' => (w'.heap[gb288]? = some (.cells #[.int .i64 0, .int .i64 0, .int .i64 0, .int .i64 0] 39 (0, 0))) ∧ (w'.heap[s_]? = some (.cells #[.int .i64 0, .int .i64 0, .int .i64 0, .int .i64 0] 39 (0, 0))) ∧ (w.heap.size ≤ s_) ∧ (w0.heap.size ≤ s_) ∧ (g ≠ s_) ∧ (s_ ≠ g) ∧ (gb288 ≠ s_) ∧ (s_ ≠ gb288) ∧ (IsS89 w0 w' g s0_0 t296 t297) ∧ (KeepBut w w' g none) ∧ (Below w0.heap.size w0 w')) ?_ ?_
               rotate_left
               ·intro hJ1_4_10
                refine join_ (σ := Value × Addr) 7 #[true, true, true, true, false, false, false, true, false, false, false, false] (fun s_ => [(5, .int .i64 t289), (6, s_.1)]) (fun s_ w' => (Kd.R (Kd.int .i64) 3 w' w.heap.size (fun _ => True) s_.1 y292) ∧ (∃ c_, (s_.1 : Value) = .slice (some s_.2) y292.length c_) ∧ (w'.heap[gb288]? = some (.cells #[.int .i64 0, .int .i64 0, .int .i64 0, .int .i64 0] 39 (0, 0))) ∧ (IsS89 w0 w' g s0_0 t290 t291) ∧ (KeepBut w w' g none) ∧ (Below w0.heap.size w0 w')) ?_ ?_
                rotate_left
                ·intro hJ1_2
                 refine join_ (σ := Unit) 7 #[true, true, false, true, true, false, false, true, false, false, false, false] (fun s_ => [(5, .int .i64 t289), (8, .int .i64 t295)]) (fun s_ w' => (w'.heap[gb288]? = some (.cells #[.int .i64 0, .int .i64 0, .int .i64 0, .int .i64 0] 39 (0, 0))) ∧ (IsS89 w0 w' g s0_0 t296 t297) ∧ (KeepBut w w' g none) ∧ (Below w0.heap.size w0 w')) ?_ ?_
                 rotate_left
                 ·intro hJ1_4
                  refine join_ (σ := Nat) 7 #[true, true, false, true, false, false, false, true, false, false, true, false] (fun s_ => [(5, .int .i64 t289), (3, .pointer (some ⟨s_, 0, none⟩))]) (fun s_ w' => (w'.heap[gb288]? = some (.cells #[.int .i64 0, .int .i64 0, .int .i64 0, .int .i64 0] 39 (0, 0))) ∧ (w'.heap[s_]? = some (.cells #[.int .i64 0, .int .i64 0, .int .i64 0, .int .i64 0] 39 (0, 0))) ∧ (w.heap.size ≤ s_) ∧ (w0.heap.size ≤ s_) ∧ (g ≠ s_) ∧ (s_ ≠ g) ∧ (gb288 ≠ s_) ∧ (s_ ≠ gb288) ∧ (IsS89 w0 w' g s0_0 t290 t291) ∧ (KeepBut w w' g none) ∧ (Below w0.heap.size w0 w')) ?_ ?_
                  rotate_left
                  ·intro hJ1_10
                   refine join_ (σ := Unit) 8 #[true, true, false, true, false, false, false, true, false, false, false, false] (fun s_ => [(5, .int .i64 t289)]) (fun s_ w' => (w'.heap[gb288]? = some (.cells #[.int .i64 0, .int .i64 0, .int .i64 0, .int .i64 0] 39 (0, 0))) ∧ (IsS89 w0 w' g s0_0 t290 t291) ∧ (KeepBut w w' g none) ∧ (Below w0.heap.size w0 w')) ?_ ?_
                   rotate_left
                   ·intro hJ1
                    refine join_ (σ := Nat) 8 #[true, false, false, true, false, false, false, true, false, false, true, false] (fun s_ => [(3, .pointer (some ⟨s_, 0, none⟩))]) (fun s_ w' => (w'.heap[gb288]? = some (.cells #[.int .i64 0, .int .i64 0, .int .i64 0, .int .i64 0] 39 (0, 0))) ∧ (w'.heap[s_]? = some (.cells #[.int .i64 0, .int .i64 0, .int .i64 0, .int .i64 0] 39 (0, 0))) ∧ (w.heap.size ≤ s_) ∧ (w0.heap.size ≤ s_) ∧ (g ≠ s_) ∧ (s_ ≠ g) ∧ (gb288 ≠ s_) ∧ (s_ ≠ gb288) ∧ (IsS89 w0 w' g s0_0 s0_1 s0_2) ∧ (KeepBut w w' g none) ∧ (Below w0.heap.size w0 w')) ?_ ?_
                    rotate_left
                    ·intro hJ10
                     refine two_ (i := 1) (j := 10) (Ni := some 5) (Nj := some 3) #[true, true, false, true, false, false, false, true, false, false, false, false] #[true, false, false, true, false, false, false, true, false, false, true, false] rfl rfl rfl rfl (two_of HT_.out (by kernel_rfl)) (by decide) (by decide) (fun K hK => ?_) (fun K hK => ?_)
                     ·skip
                      refine goes_ Try.func66 (by kernel_rfl) rfl #[.pointer (some ⟨g, 0, none⟩), .int .i64 3] (by rfl) rfl rfl (by (try simp only [List.map_toArray, List.map_cons, List.map_nil]); first | done | rfl | (simp only [List.length_drop, List.length_take]; rfl)) ?_
                      with_reducible refine (spec_l00Src_next.calls g s0_0 s0_1 s0_2 3 t289 t290 t291 w0 _ ?side1 ?side2 A2.out).mono ?_
                      (case side1 => repeat (first | (with_reducible first | exact HI0.out | apply IsS89.alloc | apply IsS89.drewN | apply IsS89.drew | apply IsS89.set_1 | apply IsS89.set_2 | refine IsS89.far ?_ Zb.out _) | exact HI0.out))
                      (case side2 => repeat (first | (with_reducible first | exact HB.out | apply below_alloc | apply pw_below_drewN | apply below_drew1 | refine below_set ?_ (IsS89.ge HI0.out) | refine below_set ?_ Zl.out) | exact HB.out))
                      rintro e w12 ⟨rfl, hi, hb, hk⟩
                      refine ⟨_, rfl, ?_⟩
                      have n0_ := zm44 (KeepBut.blk hk (g' := gb288) (o := .cells #[.int .i64 0, .int .i64 0, .int .i64 0, .int .i64 0] 39 (0, 0)) (z44_3 Za.out) Zm.out (by simp))
                      have n1_ := zm44 (KeepBut.trans (z44_4 HK.out Zh.out) hk (.inl rfl))
                      have n2_ := zm44 (hb)
                      have n3_ := zm44 (hi)
                      clear Za
                      clear HK
                      clear HB
                      clear HI0
                      have Za := n0_
                      have HK := n1_
                      have HB := n2_
                      have HI0 := n3_
                      clear n0_ n1_ n2_ n3_
                      (try clear hb)
                      (try clear hb2)
                      (try clear hk)
                      (try clear hi)
                      refine hK.out _ _ trivial (fun hHeld => ?_)
                      clear hK K
                      refine norm_ (a' := ?_) ?_ ?_
                      rotate_left
                      ·show Act.put _ (some 5) _ = _
                       simp only [Act.put, zs44, zz44, zt44, i64_w, i32_w]
                       rfl
                      exact norm_ (by first | (simp only [putAll, Act.put, zs44, zz44, zt44]; done) | (simp only [putAll, Act.put, zs44, zz44, zt44]; rfl)) (hJ1 () _ ⟨(z44_3 Za.out), (z44_5 HI0.out Zb.out), (z44_4 HK.out Zh.out), (z44_6 HB.out HI0.out Zl.out)⟩)
                     ·skip
                      refine box_step ?hg (N := 3) ?hd (cs := #[.int .i64 0, .int .i64 0, .int .i64 0, .int .i64 0]) (t := 39) ?hr ?_; (case hd => rfl); (case hg => rfl); (case hr => first | (go_simp; done) | (go_simp; rfl))
                      intro gb302 hg w12 hbox hb
                      have n0_ := zm44 (IsS89.below (z44_5 HI0.out Zb.out) hb)
                      have n1_ := zm44 (blk_below (g := gb288) (o := .cells #[.int .i64 0, .int .i64 0, .int .i64 0, .int .i64 0] 39 (0, 0)) (z44_3 Za.out) hb)
                      have n2_ := zm44 (KeepBut.trans (z44_4 HK.out Zh.out) (KeepBut.of_below hb g none) (.inl rfl))
                      have n3_ := zm44 (below_step (z44_6 HB.out HI0.out Zl.out) hb)
                      have n4_ := zm44 (hbox)
                      have n5_ := zm44 ((by rw [hg]; exact (keep_size (w := w) (g := g) (row := none) (z44_4 HK.out Zh.out)) : w.heap.size ≤ gb302))
                      have n6_ := zm44 ((Nat.le_trans HW0.out (by rw [hg]; exact (keep_size (w := w) (g := g) (row := none) (z44_4 HK.out Zh.out)) : w.heap.size ≤ gb302) : w0.heap.size ≤ gb302))
                      have n7_ := zm44 ((by rw [hg]; exact Nat.ne_of_lt (blk_lt (g := gb288) (o := .cells #[.int .i64 0, .int .i64 0, .int .i64 0, .int .i64 0] 39 (0, 0)) (z44_3 Za.out)) : gb288 ≠ gb302))
                      have n8_ := zm44 ((by rw [hg]; exact Nat.ne_of_gt (blk_lt (g := gb288) (o := .cells #[.int .i64 0, .int .i64 0, .int .i64 0, .int .i64 0] 39 (0, 0)) (z44_3 Za.out)) : gb302 ≠ gb288))
                      have n9_ := zm44 ((by rw [hg]; exact Nat.ne_of_lt (IsS89.lt (show IsS89 w0 _ g s0_0 s0_1 s0_2 from z44_5 HI0.out Zb.out)) : g ≠ gb302))
                      have n10_ := zm44 ((by rw [hg]; exact Nat.ne_of_gt (IsS89.lt (show IsS89 w0 _ g s0_0 s0_1 s0_2 from z44_5 HI0.out Zb.out)) : gb302 ≠ g))
                      clear HI0
                      clear Za
                      clear HK
                      clear HB
                      have HI0 := n0_
                      have Za := n1_
                      have HK := n2_
                      have HB := n3_
                      have Zf := n4_
                      have Zj := n5_
                      have Zk := n6_
                      have Zd := n7_
                      have Ze := n8_
                      have Zc := n9_
                      have Zi := n10_
                      clear n0_ n1_ n2_ n3_ n4_ n5_ n6_ n7_ n8_ n9_ n10_
                      clear hb hbox hg
                      refine hK.out _ _ trivial (fun hHeld => ?_)
                      clear hK K
                      refine norm_ (a' := ?_) ?_ ?_
                      rotate_left
                      ·show Act.put _ (some 3) _ = _
                       simp only [Act.put, zs44, zz44, zt44, i64_w, i32_w]
                       rfl
                      exact norm_ (by first | (simp only [putAll, Act.put, zs44, zz44, zt44]; done) | (simp only [putAll, Act.put, zs44, zz44, zt44]; rfl)) (hJ10 (gb302) _ ⟨(z44_3 Za.out), (z44_3 Zf.out), Zj.out, Zk.out, Zc.out, Zi.out, Zd.out, Ze.out, (z44_7 HI0.out Zb.out Zc.out), (z44_8 HK.out Zh.out Zj.out), (z44_9 HB.out HI0.out Zl.out Zk.out)⟩)
                    ·skip
                     rintro gb302 w13 ⟨h0_, h1_, h2_, h3_, h4_, h5_, h6_, h7_, h8_, h9_, h10_⟩
                     have n0_ : Aside0 (w13.heap[gb288]? = some (.cells #[.int .i64 0, .int .i64 0, .int .i64 0, .int .i64 0] 39 (0, 0))) := ⟨h0_⟩
                     have n1_ : Aside0 (w13.heap[gb302]? = some (.cells #[.int .i64 0, .int .i64 0, .int .i64 0, .int .i64 0] 39 (0, 0))) := ⟨h1_⟩
                     have n2_ : Aside0 (w.heap.size ≤ gb302) := ⟨h2_⟩
                     have n3_ : Aside0 (w0.heap.size ≤ gb302) := ⟨h3_⟩
                     have n4_ : Aside0 (g ≠ gb302) := ⟨h4_⟩
                     have n5_ : Aside0 (gb302 ≠ g) := ⟨h5_⟩
                     have n6_ : Aside0 (gb288 ≠ gb302) := ⟨h6_⟩
                     have n7_ : Aside0 (gb302 ≠ gb288) := ⟨h7_⟩
                     have n8_ : Aside0 (IsS89 w0 w13 g s0_0 s0_1 s0_2) := ⟨h8_⟩
                     have n9_ : Aside0 (KeepBut w w13 g none) := ⟨h9_⟩
                     have n10_ : Aside0 (Below w0.heap.size w0 w13) := ⟨h10_⟩
                     clear Za
                     clear HI0
                     clear HK
                     clear HB
                     clear h0_ h1_ h2_ h3_ h4_ h5_ h6_ h7_ h8_ h9_ h10_
                     have Za := n0_
                     have Zf := n1_
                     have Zj := n2_
                     have Zk := n3_
                     have Zc := n4_
                     have Zi := n5_
                     have Zd := n6_
                     have Ze := n7_
                     have HI0 := n8_
                     have HK := n9_
                     have HB := n10_
                     clear n0_ n1_ n2_ n3_ n4_ n5_ n6_ n7_ n8_ n9_ n10_
                     have hHeld := trivial
                     refine norm_ (a' := ?_) ?_ ?_
                     rotate_left
                     ·simp only [putAll, Act.put, zs44, zz44, zt44]
                      rfl
                     refine one_ (i := 1) (N := some 5) #[true, true, false, true, false, false, false, true, false, false, true, false] rfl rfl (one_of HT_.out (by kernel_rfl)) (by decide) (fun K hK => ?_)
                     refine goes_ Try.func66 (by kernel_rfl) rfl #[.pointer (some ⟨g, 0, none⟩), .int .i64 3] (by rfl) rfl rfl (by (try simp only [List.map_toArray, List.map_cons, List.map_nil]); first | done | rfl | (simp only [List.length_drop, List.length_take]; rfl)) ?_
                     with_reducible refine (spec_l00Src_next.calls g s0_0 s0_1 s0_2 3 t289 t290 t291 w0 _ ?side1 ?side2 A2.out).mono ?_
                     (case side1 => repeat (first | (with_reducible first | exact HI0.out | apply IsS89.alloc | apply IsS89.drewN | apply IsS89.drew | apply IsS89.set_1 | apply IsS89.set_2 | refine IsS89.far ?_ Zb.out _ | refine IsS89.far ?_ Zc.out _) | exact HI0.out))
                     (case side2 => repeat (first | (with_reducible first | exact HB.out | apply below_alloc | apply pw_below_drewN | apply below_drew1 | refine below_set ?_ (IsS89.ge HI0.out) | refine below_set ?_ Zl.out | refine below_set ?_ Zk.out) | exact HB.out))
                     rintro e w14 ⟨rfl, hi, hb, hk⟩
                     refine ⟨_, rfl, ?_⟩
                     have n0_ := zm44 (KeepBut.blk hk (g' := gb288) (o := .cells #[.int .i64 0, .int .i64 0, .int .i64 0, .int .i64 0] 39 (0, 0)) (z44_3 Za.out) Zm.out (by simp))
                     have n1_ := zm44 (KeepBut.blk hk (g' := gb302) (o := .cells #[.int .i64 0, .int .i64 0, .int .i64 0, .int .i64 0] 39 (0, 0)) (z44_3 Zf.out) Zi.out (by simp))
                     have n2_ := zm44 (KeepBut.trans (z44_8 HK.out Zh.out Zj.out) hk (.inl rfl))
                     have n3_ := zm44 (hb)
                     have n4_ := zm44 (hi)
                     clear Za
                     clear Zf
                     clear HK
                     clear HB
                     clear HI0
                     have Za := n0_
                     have Zf := n1_
                     have HK := n2_
                     have HB := n3_
                     have HI0 := n4_
                     clear n0_ n1_ n2_ n3_ n4_
                     (try clear hb)
                     (try clear hb2)
                     (try clear hk)
                     (try clear hi)
                     refine hK.out _ _ trivial (fun hHeld => ?_)
                     clear hK K
                     refine norm_ (a' := ?_) ?_ ?_
                     rotate_left
                     ·show Act.put _ (some 5) _ = _
                      simp only [Act.put, zs44, zz44, zt44, i64_w, i32_w]
                      rfl
                     exact norm_ (by first | (simp only [putAll, Act.put, zs44, zz44, zt44]; done) | (simp only [putAll, Act.put, zs44, zz44, zt44]; rfl)) (hJ1_10 (gb302) _ ⟨(z44_3 Za.out), (z44_3 Zf.out), Zj.out, Zk.out, Zc.out, Zi.out, Zd.out, Ze.out, (z44_7 HI0.out Zb.out Zc.out), (z44_8 HK.out Zh.out Zj.out), (z44_9 HB.out HI0.out Zl.out Zk.out)⟩)
                   ·skip
                    rintro _ w13 ⟨h0_, h1_, h2_, h3_⟩
                    have n0_ : Aside0 (w13.heap[gb288]? = some (.cells #[.int .i64 0, .int .i64 0, .int .i64 0, .int .i64 0] 39 (0, 0))) := ⟨h0_⟩
                    have n1_ : Aside0 (IsS89 w0 w13 g s0_0 t290 t291) := ⟨h1_⟩
                    have n2_ : Aside0 (KeepBut w w13 g none) := ⟨h2_⟩
                    have n3_ : Aside0 (Below w0.heap.size w0 w13) := ⟨h3_⟩
                    clear Za
                    clear HI0
                    clear HK
                    clear HB
                    clear h0_ h1_ h2_ h3_
                    have Za := n0_
                    have HI0 := n1_
                    have HK := n2_
                    have HB := n3_
                    clear n0_ n1_ n2_ n3_
                    have hHeld := trivial
                    refine norm_ (a' := ?_) ?_ ?_
                    rotate_left
                    ·simp only [putAll, Act.put, zs44, zz44, zt44]
                     rfl
                    refine three_ (i := 2) (j := 4) (k := 10) (Ni := some 6) (Nj := some 8) (Nk := some 3) #[true, true, true, true, false, false, false, true, false, false, false, false] #[true, true, false, true, true, false, false, true, false, false, false, false] #[true, true, false, true, false, false, false, true, false, false, true, false] rfl rfl rfl rfl rfl rfl (three_of HT_.out (by kernel_rfl)) (by decide) (by decide) (by decide) (fun K hK => ?_) (fun K hK => ?_) (fun K hK => ?_)
                    ·skip
                     refine Kd.R_lit_step (Kd.int .i64) _ 3 ?hg (N := 6) ?hd (xs := ([0, t289] : List Int)) (inner := [.int .i64 0, .int .i64 t289]) (ok := fun _ => True) (okp := fun _ => True) ?hr ?hp (fun _ hk => hk) trivial (Below.refl _ _) (Nat.le_refl _) (by simp) ?_; (case hd => rfl); (case hg => rfl); (case hr => first | (go_simp; done) | (go_simp; rfl)); (case hp => exact (Reps.one (show Kd.M (Kd.int .i64) _ _ _ 0 [.int .i64 0] from rfl) (Reps.one (show Kd.M (Kd.int .i64) _ _ _ t289 [.int .i64 t289] from rfl) (Reps.none _ _))))
                     intro v293 w14 ho15 hb hg_ hnew_
                     clear hg_ hnew_
                     (first | rw [← Ny292.out] at ho15 | (simp only [Int.reduceToNat] at ho15; rw [← Ny292.out] at ho15))
                     have n0_ := zm44 (Kd.R_lower ho15 (keep_size (w := w) (g := g) (row := none) (z44_4 HK.out Zh.out)))
                     have n1_ := zm44 (IsS89.below (z44_5 HI0.out Zb.out) hb)
                     have n2_ := zm44 (blk_below (g := gb288) (o := .cells #[.int .i64 0, .int .i64 0, .int .i64 0, .int .i64 0] 39 (0, 0)) (z44_3 Za.out) hb)
                     have n3_ := zm44 (KeepBut.trans (z44_4 HK.out Zh.out) (KeepBut.of_below hb g none) (.inl rfl))
                     have n4_ := zm44 (below_step (z44_6 HB.out HI0.out Zl.out) hb)
                     clear HI0
                     clear Za
                     clear HK
                     clear HB
                     have Zg := n0_
                     have HI0 := n1_
                     have Za := n2_
                     have HK := n3_
                     have HB := n4_
                     clear n0_ n1_ n2_ n3_ n4_
                     clear hb ho15
                     obtain ⟨Ao16, co16, eo16⟩ := Kd.R_slice Zg.out
                     subst eo16
                     obtain ⟨ado16, fo16, _⟩ := Kd.at_int (Kd.R_reads' Zg.out).2.2 0 (by decide) (by rw [Ny292.out]; simp)
                     cases fo16
                     refine hK.out _ _ trivial (fun hHeld => ?_)
                     clear hK K
                     refine norm_ (a' := ?_) ?_ ?_
                     rotate_left
                     ·show Act.put _ (some 6) _ = _
                      simp only [Act.put, zs44, zz44, zt44, i64_w, i32_w]
                      rfl
                     exact norm_ (by first | (simp only [putAll, Act.put, zs44, zz44, zt44]; done) | (simp only [putAll, Act.put, zs44, zz44, zt44]; rfl)) (hJ1_2 (.slice (some ado16) y292.length co16, ado16) _ ⟨(z44_10 Zg.out), ⟨_, rfl⟩, (z44_3 Za.out), (z44_5 HI0.out Zb.out), (z44_4 HK.out Zh.out), (z44_6 HB.out HI0.out Zl.out)⟩)
                    ·skip
                     refine goes_ Try.func66 (by kernel_rfl) rfl #[.pointer (some ⟨g, 0, none⟩), .int .i64 2] (by rfl) rfl rfl (by (try simp only [List.map_toArray, List.map_cons, List.map_nil]); first | done | rfl | (simp only [List.length_drop, List.length_take]; rfl)) ?_
                     with_reducible refine (spec_l00Src_next.calls g s0_0 t290 t291 2 t295 t296 t297 w0 _ ?side1 ?side2 A3.out).mono ?_
                     (case side1 => repeat (first | (with_reducible first | exact HI0.out | apply IsS89.alloc | apply IsS89.drewN | apply IsS89.drew | apply IsS89.set_1 | apply IsS89.set_2 | refine IsS89.far ?_ Zb.out _) | exact HI0.out))
                     (case side2 => repeat (first | (with_reducible first | exact HB.out | apply below_alloc | apply pw_below_drewN | apply below_drew1 | refine below_set ?_ (IsS89.ge HI0.out) | refine below_set ?_ Zl.out) | exact HB.out))
                     rintro e w14 ⟨rfl, hi, hb, hk⟩
                     refine ⟨_, rfl, ?_⟩
                     have n0_ := zm44 (KeepBut.blk hk (g' := gb288) (o := .cells #[.int .i64 0, .int .i64 0, .int .i64 0, .int .i64 0] 39 (0, 0)) (z44_3 Za.out) Zm.out (by simp))
                     have n1_ := zm44 (KeepBut.trans (z44_4 HK.out Zh.out) hk (.inl rfl))
                     have n2_ := zm44 (hb)
                     have n3_ := zm44 (hi)
                     clear Za
                     clear HK
                     clear HB
                     clear HI0
                     have Za := n0_
                     have HK := n1_
                     have HB := n2_
                     have HI0 := n3_
                     clear n0_ n1_ n2_ n3_
                     (try clear hb)
                     (try clear hb2)
                     (try clear hk)
                     (try clear hi)
                     refine hK.out _ _ trivial (fun hHeld => ?_)
                     clear hK K
                     refine norm_ (a' := ?_) ?_ ?_
                     rotate_left
                     ·show Act.put _ (some 8) _ = _
                      simp only [Act.put, zs44, zz44, zt44, i64_w, i32_w]
                      rfl
                     exact norm_ (by first | (simp only [putAll, Act.put, zs44, zz44, zt44]; done) | (simp only [putAll, Act.put, zs44, zz44, zt44]; rfl)) (hJ1_4 () _ ⟨(z44_3 Za.out), (z44_5 HI0.out Zb.out), (z44_4 HK.out Zh.out), (z44_6 HB.out HI0.out Zl.out)⟩)
                    ·skip
                     refine box_step ?hg (N := 3) ?hd (cs := #[.int .i64 0, .int .i64 0, .int .i64 0, .int .i64 0]) (t := 39) ?hr ?_; (case hd => rfl); (case hg => rfl); (case hr => first | (go_simp; done) | (go_simp; rfl))
                     intro gb302 hg w14 hbox hb
                     have n0_ := zm44 (IsS89.below (z44_5 HI0.out Zb.out) hb)
                     have n1_ := zm44 (blk_below (g := gb288) (o := .cells #[.int .i64 0, .int .i64 0, .int .i64 0, .int .i64 0] 39 (0, 0)) (z44_3 Za.out) hb)
                     have n2_ := zm44 (KeepBut.trans (z44_4 HK.out Zh.out) (KeepBut.of_below hb g none) (.inl rfl))
                     have n3_ := zm44 (below_step (z44_6 HB.out HI0.out Zl.out) hb)
                     have n4_ := zm44 (hbox)
                     have n5_ := zm44 ((by rw [hg]; exact (keep_size (w := w) (g := g) (row := none) (z44_4 HK.out Zh.out)) : w.heap.size ≤ gb302))
                     have n6_ := zm44 ((Nat.le_trans HW0.out (by rw [hg]; exact (keep_size (w := w) (g := g) (row := none) (z44_4 HK.out Zh.out)) : w.heap.size ≤ gb302) : w0.heap.size ≤ gb302))
                     have n7_ := zm44 ((by rw [hg]; exact Nat.ne_of_lt (blk_lt (g := gb288) (o := .cells #[.int .i64 0, .int .i64 0, .int .i64 0, .int .i64 0] 39 (0, 0)) (z44_3 Za.out)) : gb288 ≠ gb302))
                     have n8_ := zm44 ((by rw [hg]; exact Nat.ne_of_gt (blk_lt (g := gb288) (o := .cells #[.int .i64 0, .int .i64 0, .int .i64 0, .int .i64 0] 39 (0, 0)) (z44_3 Za.out)) : gb302 ≠ gb288))
                     have n9_ := zm44 ((by rw [hg]; exact Nat.ne_of_lt (IsS89.lt (show IsS89 w0 _ g s0_0 t290 t291 from z44_5 HI0.out Zb.out)) : g ≠ gb302))
                     have n10_ := zm44 ((by rw [hg]; exact Nat.ne_of_gt (IsS89.lt (show IsS89 w0 _ g s0_0 t290 t291 from z44_5 HI0.out Zb.out)) : gb302 ≠ g))
                     clear HI0
                     clear Za
                     clear HK
                     clear HB
                     have HI0 := n0_
                     have Za := n1_
                     have HK := n2_
                     have HB := n3_
                     have Zf := n4_
                     have Zj := n5_
                     have Zk := n6_
                     have Zd := n7_
                     have Ze := n8_
                     have Zc := n9_
                     have Zi := n10_
                     clear n0_ n1_ n2_ n3_ n4_ n5_ n6_ n7_ n8_ n9_ n10_
                     clear hb hbox hg
                     refine hK.out _ _ trivial (fun hHeld => ?_)
                     clear hK K
                     refine norm_ (a' := ?_) ?_ ?_
                     rotate_left
                     ·show Act.put _ (some 3) _ = _
                      simp only [Act.put, zs44, zz44, zt44, i64_w, i32_w]
                      rfl
                     exact norm_ (by first | (simp only [putAll, Act.put, zs44, zz44, zt44]; done) | (simp only [putAll, Act.put, zs44, zz44, zt44]; rfl)) (hJ1_10 (gb302) _ ⟨(z44_3 Za.out), (z44_3 Zf.out), Zj.out, Zk.out, Zc.out, Zi.out, Zd.out, Ze.out, (z44_7 HI0.out Zb.out Zc.out), (z44_8 HK.out Zh.out Zj.out), (z44_9 HB.out HI0.out Zl.out Zk.out)⟩)
                  ·skip
                   rintro gb302 w14 ⟨h0_, h1_, h2_, h3_, h4_, h5_, h6_, h7_, h8_, h9_, h10_⟩
                   have n0_ : Aside0 (w14.heap[gb288]? = some (.cells #[.int .i64 0, .int .i64 0, .int .i64 0, .int .i64 0] 39 (0, 0))) := ⟨h0_⟩
                   have n1_ : Aside0 (w14.heap[gb302]? = some (.cells #[.int .i64 0, .int .i64 0, .int .i64 0, .int .i64 0] 39 (0, 0))) := ⟨h1_⟩
                   have n2_ : Aside0 (w.heap.size ≤ gb302) := ⟨h2_⟩
                   have n3_ : Aside0 (w0.heap.size ≤ gb302) := ⟨h3_⟩
                   have n4_ : Aside0 (g ≠ gb302) := ⟨h4_⟩
                   have n5_ : Aside0 (gb302 ≠ g) := ⟨h5_⟩
                   have n6_ : Aside0 (gb288 ≠ gb302) := ⟨h6_⟩
                   have n7_ : Aside0 (gb302 ≠ gb288) := ⟨h7_⟩
                   have n8_ : Aside0 (IsS89 w0 w14 g s0_0 t290 t291) := ⟨h8_⟩
                   have n9_ : Aside0 (KeepBut w w14 g none) := ⟨h9_⟩
                   have n10_ : Aside0 (Below w0.heap.size w0 w14) := ⟨h10_⟩
                   clear Za
                   clear HI0
                   clear HK
                   clear HB
                   clear h0_ h1_ h2_ h3_ h4_ h5_ h6_ h7_ h8_ h9_ h10_
                   have Za := n0_
                   have Zf := n1_
                   have Zj := n2_
                   have Zk := n3_
                   have Zc := n4_
                   have Zi := n5_
                   have Zd := n6_
                   have Ze := n7_
                   have HI0 := n8_
                   have HK := n9_
                   have HB := n10_
                   clear n0_ n1_ n2_ n3_ n4_ n5_ n6_ n7_ n8_ n9_ n10_
                   have hHeld := trivial
                   refine norm_ (a' := ?_) ?_ ?_
                   rotate_left
                   ·simp only [putAll, Act.put, zs44, zz44, zt44]
                    rfl
                   refine two_ (i := 2) (j := 4) (Ni := some 6) (Nj := some 8) #[true, true, true, true, false, false, false, true, false, false, true, false] #[true, true, false, true, true, false, false, true, false, false, true, false] rfl rfl rfl rfl (two_of HT_.out (by kernel_rfl)) (by decide) (by decide) (fun K hK => ?_) (fun K hK => ?_)
                   ·skip
                    refine Kd.R_lit_step (Kd.int .i64) _ 3 ?hg (N := 6) ?hd (xs := ([0, t289] : List Int)) (inner := [.int .i64 0, .int .i64 t289]) (ok := fun _ => True) (okp := fun _ => True) ?hr ?hp (fun _ hk => hk) trivial (Below.refl _ _) (Nat.le_refl _) (by simp) ?_; (case hd => rfl); (case hg => rfl); (case hr => first | (go_simp; done) | (go_simp; rfl)); (case hp => exact (Reps.one (show Kd.M (Kd.int .i64) _ _ _ 0 [.int .i64 0] from rfl) (Reps.one (show Kd.M (Kd.int .i64) _ _ _ t289 [.int .i64 t289] from rfl) (Reps.none _ _))))
                    intro v293 w15 ho16 hb hg_ hnew_
                    clear hg_ hnew_
                    (first | rw [← Ny292.out] at ho16 | (simp only [Int.reduceToNat] at ho16; rw [← Ny292.out] at ho16))
                    have n0_ := zm44 (Kd.R_lower ho16 (keep_size (w := w) (g := g) (row := none) (z44_8 HK.out Zh.out Zj.out)))
                    have n1_ := zm44 (IsS89.below (z44_7 HI0.out Zb.out Zc.out) hb)
                    have n2_ := zm44 (blk_below (g := gb288) (o := .cells #[.int .i64 0, .int .i64 0, .int .i64 0, .int .i64 0] 39 (0, 0)) (z44_3 Za.out) hb)
                    have n3_ := zm44 (blk_below (g := gb302) (o := .cells #[.int .i64 0, .int .i64 0, .int .i64 0, .int .i64 0] 39 (0, 0)) (z44_3 Zf.out) hb)
                    have n4_ := zm44 (KeepBut.trans (z44_8 HK.out Zh.out Zj.out) (KeepBut.of_below hb g none) (.inl rfl))
                    have n5_ := zm44 (below_step (z44_9 HB.out HI0.out Zl.out Zk.out) hb)
                    clear HI0
                    clear Za
                    clear Zf
                    clear HK
                    clear HB
                    have Zg := n0_
                    have HI0 := n1_
                    have Za := n2_
                    have Zf := n3_
                    have HK := n4_
                    have HB := n5_
                    clear n0_ n1_ n2_ n3_ n4_ n5_
                    clear hb ho16
                    obtain ⟨Ao17, co17, eo17⟩ := Kd.R_slice Zg.out
                    subst eo17
                    obtain ⟨ado17, fo17, _⟩ := Kd.at_int (Kd.R_reads' Zg.out).2.2 0 (by decide) (by rw [Ny292.out]; simp)
                    cases fo17
                    refine hK.out _ _ trivial (fun hHeld => ?_)
                    clear hK K
                    refine norm_ (a' := ?_) ?_ ?_
                    rotate_left
                    ·show Act.put _ (some 6) _ = _
                     simp only [Act.put, zs44, zz44, zt44, i64_w, i32_w]
                     rfl
                    exact norm_ (by first | (simp only [putAll, Act.put, zs44, zz44, zt44]; done) | (simp only [putAll, Act.put, zs44, zz44, zt44]; rfl)) (hJ1_2_10 (.slice (some ado17) y292.length co17, ado17, gb302) _ ⟨(z44_10 Zg.out), ⟨_, rfl⟩, (z44_3 Za.out), (z44_3 Zf.out), Zj.out, Zk.out, Zc.out, Zi.out, Zd.out, Ze.out, (z44_7 HI0.out Zb.out Zc.out), (z44_8 HK.out Zh.out Zj.out), (z44_9 HB.out HI0.out Zl.out Zk.out)⟩)
                   ·skip
                    refine goes_ Try.func66 (by kernel_rfl) rfl #[.pointer (some ⟨g, 0, none⟩), .int .i64 2] (by rfl) rfl rfl (by (try simp only [List.map_toArray, List.map_cons, List.map_nil]); first | done | rfl | (simp only [List.length_drop, List.length_take]; rfl)) ?_
                    with_reducible refine (spec_l00Src_next.calls g s0_0 t290 t291 2 t295 t296 t297 w0 _ ?side1 ?side2 A3.out).mono ?_
                    (case side1 => repeat (first | (with_reducible first | exact HI0.out | apply IsS89.alloc | apply IsS89.drewN | apply IsS89.drew | apply IsS89.set_1 | apply IsS89.set_2 | refine IsS89.far ?_ Zb.out _ | refine IsS89.far ?_ Zc.out _) | exact HI0.out))
                    (case side2 => repeat (first | (with_reducible first | exact HB.out | apply below_alloc | apply pw_below_drewN | apply below_drew1 | refine below_set ?_ (IsS89.ge HI0.out) | refine below_set ?_ Zl.out | refine below_set ?_ Zk.out) | exact HB.out))
                    rintro e w15 ⟨rfl, hi, hb, hk⟩
                    refine ⟨_, rfl, ?_⟩
                    have n0_ := zm44 (KeepBut.blk hk (g' := gb288) (o := .cells #[.int .i64 0, .int .i64 0, .int .i64 0, .int .i64 0] 39 (0, 0)) (z44_3 Za.out) Zm.out (by simp))
                    have n1_ := zm44 (KeepBut.blk hk (g' := gb302) (o := .cells #[.int .i64 0, .int .i64 0, .int .i64 0, .int .i64 0] 39 (0, 0)) (z44_3 Zf.out) Zi.out (by simp))
                    have n2_ := zm44 (KeepBut.trans (z44_8 HK.out Zh.out Zj.out) hk (.inl rfl))
                    have n3_ := zm44 (hb)
                    have n4_ := zm44 (hi)
                    clear Za
                    clear Zf
                    clear HK
                    clear HB
                    clear HI0
                    have Za := n0_
                    have Zf := n1_
                    have HK := n2_
                    have HB := n3_
                    have HI0 := n4_
                    clear n0_ n1_ n2_ n3_ n4_
                    (try clear hb)
                    (try clear hb2)
                    (try clear hk)
                    (try clear hi)
                    refine hK.out _ _ trivial (fun hHeld => ?_)
                    clear hK K
                    refine norm_ (a' := ?_) ?_ ?_
                    rotate_left
                    ·show Act.put _ (some 8) _ = _
                     simp only [Act.put, zs44, zz44, zt44, i64_w, i32_w]
                     rfl
                    exact norm_ (by first | (simp only [putAll, Act.put, zs44, zz44, zt44]; done) | (simp only [putAll, Act.put, zs44, zz44, zt44]; rfl)) (hJ1_4_10 (gb302) _ ⟨(z44_3 Za.out), (z44_3 Zf.out), Zj.out, Zk.out, Zc.out, Zi.out, Zd.out, Ze.out, (z44_7 HI0.out Zb.out Zc.out), (z44_8 HK.out Zh.out Zj.out), (z44_9 HB.out HI0.out Zl.out Zk.out)⟩)
                 ·skip
                  rintro _ w14 ⟨h0_, h1_, h2_, h3_⟩
                  have n0_ : Aside0 (w14.heap[gb288]? = some (.cells #[.int .i64 0, .int .i64 0, .int .i64 0, .int .i64 0] 39 (0, 0))) := ⟨h0_⟩
                  have n1_ : Aside0 (IsS89 w0 w14 g s0_0 t296 t297) := ⟨h1_⟩
                  have n2_ : Aside0 (KeepBut w w14 g none) := ⟨h2_⟩
                  have n3_ : Aside0 (Below w0.heap.size w0 w14) := ⟨h3_⟩
                  clear Za
                  clear HI0
                  clear HK
                  clear HB
                  clear h0_ h1_ h2_ h3_
                  have Za := n0_
                  have HI0 := n1_
                  have HK := n2_
                  have HB := n3_
                  clear n0_ n1_ n2_ n3_
                  have hHeld := trivial
                  refine norm_ (a' := ?_) ?_ ?_
                  rotate_left
                  ·simp only [putAll, Act.put, zs44, zz44, zt44]
                   rfl
                  refine three_ (i := 2) (j := 8) (k := 10) (Ni := some 6) (Nj := some 12) (Nk := some 3) #[true, true, true, true, true, false, false, true, false, false, false, false] #[true, true, false, true, true, false, false, true, true, false, false, false] #[true, true, false, true, true, false, false, true, false, false, true, false] rfl rfl rfl rfl rfl rfl (three_of HT_.out (by kernel_rfl)) (by decide) (by decide) (by decide) (fun K hK => ?_) (fun K hK => ?_) (fun K hK => ?_)
                  ·skip
                   refine Kd.R_lit_step (Kd.int .i64) _ 3 ?hg (N := 6) ?hd (xs := ([0, t289] : List Int)) (inner := [.int .i64 0, .int .i64 t289]) (ok := fun _ => True) (okp := fun _ => True) ?hr ?hp (fun _ hk => hk) trivial (Below.refl _ _) (Nat.le_refl _) (by simp) ?_; (case hd => rfl); (case hg => rfl); (case hr => first | (go_simp; done) | (go_simp; rfl)); (case hp => exact (Reps.one (show Kd.M (Kd.int .i64) _ _ _ 0 [.int .i64 0] from rfl) (Reps.one (show Kd.M (Kd.int .i64) _ _ _ t289 [.int .i64 t289] from rfl) (Reps.none _ _))))
                   intro v293 w15 ho16 hb hg_ hnew_
                   clear hg_ hnew_
                   (first | rw [← Ny292.out] at ho16 | (simp only [Int.reduceToNat] at ho16; rw [← Ny292.out] at ho16))
                   have n0_ := zm44 (Kd.R_lower ho16 (keep_size (w := w) (g := g) (row := none) (z44_4 HK.out Zh.out)))
                   have n1_ := zm44 (IsS89.below (z44_5 HI0.out Zb.out) hb)
                   have n2_ := zm44 (blk_below (g := gb288) (o := .cells #[.int .i64 0, .int .i64 0, .int .i64 0, .int .i64 0] 39 (0, 0)) (z44_3 Za.out) hb)
                   have n3_ := zm44 (KeepBut.trans (z44_4 HK.out Zh.out) (KeepBut.of_below hb g none) (.inl rfl))
                   have n4_ := zm44 (below_step (z44_6 HB.out HI0.out Zl.out) hb)
                   clear HI0
                   clear Za
                   clear HK
                   clear HB
                   have Zg := n0_
                   have HI0 := n1_
                   have Za := n2_
                   have HK := n3_
                   have HB := n4_
                   clear n0_ n1_ n2_ n3_ n4_
                   clear hb ho16
                   obtain ⟨Ao17, co17, eo17⟩ := Kd.R_slice Zg.out
                   subst eo17
                   obtain ⟨ado17, fo17, _⟩ := Kd.at_int (Kd.R_reads' Zg.out).2.2 0 (by decide) (by rw [Ny292.out]; simp)
                   cases fo17
                   refine hK.out _ _ trivial (fun hHeld => ?_)
                   clear hK K
                   refine norm_ (a' := ?_) ?_ ?_
                   rotate_left
                   ·show Act.put _ (some 6) _ = _
                    simp only [Act.put, zs44, zz44, zt44, i64_w, i32_w]
                    rfl
                   refine pure_ (i := 5) (N := some 9) (v := ?_) (a' := ?_) #[true, true, true, true, true, true, false, true, false, false, false, false] rfl rfl (any_of HT_.out (by kernel_rfl)) (fun _ _ _ h => h) (Or.inl ⟨by rfl, ?_⟩) ?_ ?_
                   rotate_left
                   ·intro w'
                    go_simp
                    with_reducible rfl
                   rotate_left
                   ·simp only [Act.put, zs44, zz44, zt44, i64_w, i32_w]
                    rfl
                   exact norm_ (by first | (simp only [putAll, Act.put, zs44, zz44, zt44]; done) | (simp only [putAll, Act.put, zs44, zz44, zt44]; rfl)) (hJ1_2_4 (.slice (some ado17) y292.length co17, ado17) _ ⟨(z44_10 Zg.out), ⟨_, rfl⟩, (z44_3 Za.out), (z44_5 HI0.out Zb.out), (z44_4 HK.out Zh.out), (z44_6 HB.out HI0.out Zl.out)⟩)
                  ·skip
                   refine goes_ Try.func66 (by kernel_rfl) rfl #[.pointer (some ⟨g, 0, none⟩), .int .i64 12] (by rfl) rfl rfl (by (try simp only [List.map_toArray, List.map_cons, List.map_nil]); first | done | rfl | (simp only [List.length_drop, List.length_take]; rfl)) ?_
                   with_reducible refine (spec_l00Src_next.calls g s0_0 t296 t297 12 t299 t300 t301 w0 _ ?side1 ?side2 A6.out).mono ?_
                   (case side1 => repeat (first | (with_reducible first | exact HI0.out | apply IsS89.alloc | apply IsS89.drewN | apply IsS89.drew | apply IsS89.set_1 | apply IsS89.set_2 | refine IsS89.far ?_ Zb.out _) | exact HI0.out))
                   (case side2 => repeat (first | (with_reducible first | exact HB.out | apply below_alloc | apply pw_below_drewN | apply below_drew1 | refine below_set ?_ (IsS89.ge HI0.out) | refine below_set ?_ Zl.out) | exact HB.out))
                   rintro e w15 ⟨rfl, hi, hb, hk⟩
                   refine ⟨_, rfl, ?_⟩
                   have n0_ := zm44 (KeepBut.blk hk (g' := gb288) (o := .cells #[.int .i64 0, .int .i64 0, .int .i64 0, .int .i64 0] 39 (0, 0)) (z44_3 Za.out) Zm.out (by simp))
                   have n1_ := zm44 (KeepBut.trans (z44_4 HK.out Zh.out) hk (.inl rfl))
                   have n2_ := zm44 (hb)
                   have n3_ := zm44 (hi)
                   clear Za
                   clear HK
                   clear HB
                   clear HI0
                   have Za := n0_
                   have HK := n1_
                   have HB := n2_
                   have HI0 := n3_
                   clear n0_ n1_ n2_ n3_
                   (try clear hb)
                   (try clear hb2)
                   (try clear hk)
                   (try clear hi)
                   refine hK.out _ _ trivial (fun hHeld => ?_)
                   clear hK K
                   refine norm_ (a' := ?_) ?_ ?_
                   rotate_left
                   ·show Act.put _ (some 12) _ = _
                    simp only [Act.put, zs44, zz44, zt44, i64_w, i32_w]
                    rfl
                   exact norm_ (by first | (simp only [putAll, Act.put, zs44, zz44, zt44]; done) | (simp only [putAll, Act.put, zs44, zz44, zt44]; rfl)) (hJ1_4_8 () _ ⟨(z44_3 Za.out), (z44_5 HI0.out Zb.out), (z44_4 HK.out Zh.out), (z44_6 HB.out HI0.out Zl.out)⟩)
                  ·skip
                   refine box_step ?hg (N := 3) ?hd (cs := #[.int .i64 0, .int .i64 0, .int .i64 0, .int .i64 0]) (t := 39) ?hr ?_; (case hd => rfl); (case hg => rfl); (case hr => first | (go_simp; done) | (go_simp; rfl))
                   intro gb302 hg w15 hbox hb
                   have n0_ := zm44 (IsS89.below (z44_5 HI0.out Zb.out) hb)
                   have n1_ := zm44 (blk_below (g := gb288) (o := .cells #[.int .i64 0, .int .i64 0, .int .i64 0, .int .i64 0] 39 (0, 0)) (z44_3 Za.out) hb)
                   have n2_ := zm44 (KeepBut.trans (z44_4 HK.out Zh.out) (KeepBut.of_below hb g none) (.inl rfl))
                   have n3_ := zm44 (below_step (z44_6 HB.out HI0.out Zl.out) hb)
                   have n4_ := zm44 (hbox)
                   have n5_ := zm44 ((by rw [hg]; exact (keep_size (w := w) (g := g) (row := none) (z44_4 HK.out Zh.out)) : w.heap.size ≤ gb302))
                   have n6_ := zm44 ((Nat.le_trans HW0.out (by rw [hg]; exact (keep_size (w := w) (g := g) (row := none) (z44_4 HK.out Zh.out)) : w.heap.size ≤ gb302) : w0.heap.size ≤ gb302))
                   have n7_ := zm44 ((by rw [hg]; exact Nat.ne_of_lt (blk_lt (g := gb288) (o := .cells #[.int .i64 0, .int .i64 0, .int .i64 0, .int .i64 0] 39 (0, 0)) (z44_3 Za.out)) : gb288 ≠ gb302))
                   have n8_ := zm44 ((by rw [hg]; exact Nat.ne_of_gt (blk_lt (g := gb288) (o := .cells #[.int .i64 0, .int .i64 0, .int .i64 0, .int .i64 0] 39 (0, 0)) (z44_3 Za.out)) : gb302 ≠ gb288))
                   have n9_ := zm44 ((by rw [hg]; exact Nat.ne_of_lt (IsS89.lt (show IsS89 w0 _ g s0_0 t296 t297 from z44_5 HI0.out Zb.out)) : g ≠ gb302))
                   have n10_ := zm44 ((by rw [hg]; exact Nat.ne_of_gt (IsS89.lt (show IsS89 w0 _ g s0_0 t296 t297 from z44_5 HI0.out Zb.out)) : gb302 ≠ g))
                   clear HI0
                   clear Za
                   clear HK
                   clear HB
                   have HI0 := n0_
                   have Za := n1_
                   have HK := n2_
                   have HB := n3_
                   have Zf := n4_
                   have Zj := n5_
                   have Zk := n6_
                   have Zd := n7_
                   have Ze := n8_
                   have Zc := n9_
                   have Zi := n10_
                   clear n0_ n1_ n2_ n3_ n4_ n5_ n6_ n7_ n8_ n9_ n10_
                   clear hb hbox hg
                   refine hK.out _ _ trivial (fun hHeld => ?_)
                   clear hK K
                   refine norm_ (a' := ?_) ?_ ?_
                   rotate_left
                   ·show Act.put _ (some 3) _ = _
                    simp only [Act.put, zs44, zz44, zt44, i64_w, i32_w]
                    rfl
                   exact norm_ (by first | (simp only [putAll, Act.put, zs44, zz44, zt44]; done) | (simp only [putAll, Act.put, zs44, zz44, zt44]; rfl)) (hJ1_4_10 (gb302) _ ⟨(z44_3 Za.out), (z44_3 Zf.out), Zj.out, Zk.out, Zc.out, Zi.out, Zd.out, Ze.out, (z44_7 HI0.out Zb.out Zc.out), (z44_8 HK.out Zh.out Zj.out), (z44_9 HB.out HI0.out Zl.out Zk.out)⟩)
                ·skip
                 rintro ⟨v293, adz_v293⟩ w16 ⟨h0_, h1_, h2_, h3_, h4_, h5_⟩
                 have n0_ : Aside0 (Kd.R (Kd.int .i64) 3 w16 w.heap.size (fun _ => True) v293 y292) := ⟨h0_⟩
                 have n1_ : Aside0 (∃ c_, (v293 : Value) = .slice (some adz_v293) y292.length c_) := ⟨h1_⟩
                 have n2_ : Aside0 (w16.heap[gb288]? = some (.cells #[.int .i64 0, .int .i64 0, .int .i64 0, .int .i64 0] 39 (0, 0))) := ⟨h2_⟩
                 have n3_ : Aside0 (IsS89 w0 w16 g s0_0 t290 t291) := ⟨h3_⟩
                 have n4_ : Aside0 (KeepBut w w16 g none) := ⟨h4_⟩
                 have n5_ : Aside0 (Below w0.heap.size w0 w16) := ⟨h5_⟩
                 clear Za
                 clear HI0
                 clear HK
                 clear HB
                 clear h0_ h1_ h2_ h3_ h4_ h5_
                 have Zg := n0_
                 have HA_HO294 := n1_
                 have Za := n2_
                 have HI0 := n3_
                 have HK := n4_
                 have HB := n5_
                 clear n0_ n1_ n2_ n3_ n4_ n5_
                 have hHeld := trivial
                 obtain ⟨co17, eo17⟩ := HA_HO294.out
                 clear HA_HO294
                 subst eo17
                 refine norm_ (a' := ?_) ?_ ?_
                 rotate_left
                 ·simp only [putAll, Act.put, zs44, zz44, zt44]
                  rfl
                 refine two_ (i := 4) (j := 10) (Ni := some 8) (Nj := some 3) #[true, true, true, true, true, false, false, true, false, false, false, false] #[true, true, true, true, false, false, false, true, false, false, true, false] rfl rfl rfl rfl (two_of HT_.out (by kernel_rfl)) (by decide) (by decide) (fun K hK => ?_) (fun K hK => ?_)
                 ·skip
                  refine goes_ Try.func66 (by kernel_rfl) rfl #[.pointer (some ⟨g, 0, none⟩), .int .i64 2] (by rfl) rfl rfl (by (try simp only [List.map_toArray, List.map_cons, List.map_nil]); first | done | rfl | (simp only [List.length_drop, List.length_take]; rfl)) ?_
                  with_reducible refine (spec_l00Src_next.calls g s0_0 t290 t291 2 t295 t296 t297 w0 _ ?side1 ?side2 A3.out).mono ?_
                  (case side1 => repeat (first | (with_reducible first | exact HI0.out | apply IsS89.alloc | apply IsS89.drewN | apply IsS89.drew | apply IsS89.set_1 | apply IsS89.set_2 | refine IsS89.far ?_ Zb.out _) | exact HI0.out))
                  (case side2 => repeat (first | (with_reducible first | exact HB.out | apply below_alloc | apply pw_below_drewN | apply below_drew1 | refine below_set ?_ (IsS89.ge HI0.out) | refine below_set ?_ Zl.out) | exact HB.out))
                  rintro e w18 ⟨rfl, hi, hb, hk⟩
                  refine ⟨_, rfl, ?_⟩
                  have n0_ := zm44 (KeepBut.blk hk (g' := gb288) (o := .cells #[.int .i64 0, .int .i64 0, .int .i64 0, .int .i64 0] 39 (0, 0)) (z44_3 Za.out) Zm.out (by simp))
                  have n1_ := zm44 (Kd.R_mono (Kd.R_keep (IsS89.apart (show IsS89 w0 _ g s0_0 t290 t291 from z44_5 HI0.out Zb.out) (z44_10 Zg.out) (by decide)) hk (fun _ h => h.2)) (fun _ h => h.1))
                  have n2_ := zm44 (KeepBut.trans (z44_4 HK.out Zh.out) hk (.inl rfl))
                  have n3_ := zm44 (hb)
                  have n4_ := zm44 (hi)
                  clear Za
                  clear Zg
                  clear HK
                  clear HB
                  clear HI0
                  have Za := n0_
                  have Zg := n1_
                  have HK := n2_
                  have HB := n3_
                  have HI0 := n4_
                  clear n0_ n1_ n2_ n3_ n4_
                  (try clear hb)
                  (try clear hb2)
                  (try clear hk)
                  (try clear hi)
                  refine hK.out _ _ trivial (fun hHeld => ?_)
                  clear hK K
                  refine norm_ (a' := ?_) ?_ ?_
                  rotate_left
                  ·show Act.put _ (some 8) _ = _
                   simp only [Act.put, zs44, zz44, zt44, i64_w, i32_w]
                   rfl
                  refine pure_ (i := 5) (N := some 9) (v := ?_) (a' := ?_) #[true, true, true, true, true, true, false, true, false, false, false, false] rfl rfl (any_of HT_.out (by kernel_rfl)) (fun _ _ _ h => h) (Or.inl ⟨by rfl, ?_⟩) ?_ ?_
                  rotate_left
                  ·intro w'
                   go_simp
                   with_reducible rfl
                  rotate_left
                  ·simp only [Act.put, zs44, zz44, zt44, i64_w, i32_w]
                   rfl
                  exact norm_ (by first | (simp only [putAll, Act.put, zs44, zz44, zt44]; done) | (simp only [putAll, Act.put, zs44, zz44, zt44]; rfl)) (hJ1_2_4 (.slice (some adz_v293) y292.length co17, adz_v293) _ ⟨(z44_10 Zg.out), ⟨_, rfl⟩, (z44_3 Za.out), (z44_5 HI0.out Zb.out), (z44_4 HK.out Zh.out), (z44_6 HB.out HI0.out Zl.out)⟩)
                 ·skip
                  refine box_step ?hg (N := 3) ?hd (cs := #[.int .i64 0, .int .i64 0, .int .i64 0, .int .i64 0]) (t := 39) ?hr ?_; (case hd => rfl); (case hg => rfl); (case hr => first | (go_simp; done) | (go_simp; rfl))
                  intro gb302 hg w18 hbox hb
                  have n0_ := zm44 (Kd.R_below (z44_10 Zg.out) hb)
                  have n1_ := zm44 (IsS89.below (z44_5 HI0.out Zb.out) hb)
                  have n2_ := zm44 (blk_below (g := gb288) (o := .cells #[.int .i64 0, .int .i64 0, .int .i64 0, .int .i64 0] 39 (0, 0)) (z44_3 Za.out) hb)
                  have n3_ := zm44 (KeepBut.trans (z44_4 HK.out Zh.out) (KeepBut.of_below hb g none) (.inl rfl))
                  have n4_ := zm44 (below_step (z44_6 HB.out HI0.out Zl.out) hb)
                  have n5_ := zm44 (hbox)
                  have n6_ := zm44 ((by rw [hg]; exact (keep_size (w := w) (g := g) (row := none) (z44_4 HK.out Zh.out)) : w.heap.size ≤ gb302))
                  have n7_ := zm44 ((Nat.le_trans HW0.out (by rw [hg]; exact (keep_size (w := w) (g := g) (row := none) (z44_4 HK.out Zh.out)) : w.heap.size ≤ gb302) : w0.heap.size ≤ gb302))
                  have n8_ := zm44 ((by rw [hg]; exact Nat.ne_of_lt (blk_lt (g := gb288) (o := .cells #[.int .i64 0, .int .i64 0, .int .i64 0, .int .i64 0] 39 (0, 0)) (z44_3 Za.out)) : gb288 ≠ gb302))
                  have n9_ := zm44 ((by rw [hg]; exact Nat.ne_of_gt (blk_lt (g := gb288) (o := .cells #[.int .i64 0, .int .i64 0, .int .i64 0, .int .i64 0] 39 (0, 0)) (z44_3 Za.out)) : gb302 ≠ gb288))
                  have n10_ := zm44 ((by rw [hg]; exact Nat.ne_of_lt (IsS89.lt (show IsS89 w0 _ g s0_0 t290 t291 from z44_5 HI0.out Zb.out)) : g ≠ gb302))
                  have n11_ := zm44 ((by rw [hg]; exact Nat.ne_of_gt (IsS89.lt (show IsS89 w0 _ g s0_0 t290 t291 from z44_5 HI0.out Zb.out)) : gb302 ≠ g))
                  clear Zg
                  clear HI0
                  clear Za
                  clear HK
                  clear HB
                  have Zg := n0_
                  have HI0 := n1_
                  have Za := n2_
                  have HK := n3_
                  have HB := n4_
                  have Zf := n5_
                  have Zj := n6_
                  have Zk := n7_
                  have Zd := n8_
                  have Ze := n9_
                  have Zc := n10_
                  have Zi := n11_
                  clear n0_ n1_ n2_ n3_ n4_ n5_ n6_ n7_ n8_ n9_ n10_ n11_
                  clear hb hbox hg
                  refine hK.out _ _ trivial (fun hHeld => ?_)
                  clear hK K
                  refine norm_ (a' := ?_) ?_ ?_
                  rotate_left
                  ·show Act.put _ (some 3) _ = _
                   simp only [Act.put, zs44, zz44, zt44, i64_w, i32_w]
                   rfl
                  exact norm_ (by first | (simp only [putAll, Act.put, zs44, zz44, zt44]; done) | (simp only [putAll, Act.put, zs44, zz44, zt44]; rfl)) (hJ1_2_10 (.slice (some adz_v293) y292.length co17, adz_v293, gb302) _ ⟨(z44_10 Zg.out), ⟨_, rfl⟩, (z44_3 Za.out), (z44_3 Zf.out), Zj.out, Zk.out, Zc.out, Zi.out, Zd.out, Ze.out, (z44_7 HI0.out Zb.out Zc.out), (z44_8 HK.out Zh.out Zj.out), (z44_9 HB.out HI0.out Zl.out Zk.out)⟩)
               ·skip
                rintro gb302 w15 ⟨h0_, h1_, h2_, h3_, h4_, h5_, h6_, h7_, h8_, h9_, h10_⟩
                have n0_ : Aside0 (w15.heap[gb288]? = some (.cells #[.int .i64 0, .int .i64 0, .int .i64 0, .int .i64 0] 39 (0, 0))) := ⟨h0_⟩
                have n1_ : Aside0 (w15.heap[gb302]? = some (.cells #[.int .i64 0, .int .i64 0, .int .i64 0, .int .i64 0] 39 (0, 0))) := ⟨h1_⟩
                have n2_ : Aside0 (w.heap.size ≤ gb302) := ⟨h2_⟩
                have n3_ : Aside0 (w0.heap.size ≤ gb302) := ⟨h3_⟩
                have n4_ : Aside0 (g ≠ gb302) := ⟨h4_⟩
                have n5_ : Aside0 (gb302 ≠ g) := ⟨h5_⟩
                have n6_ : Aside0 (gb288 ≠ gb302) := ⟨h6_⟩
                have n7_ : Aside0 (gb302 ≠ gb288) := ⟨h7_⟩
                have n8_ : Aside0 (IsS89 w0 w15 g s0_0 t296 t297) := ⟨h8_⟩
                have n9_ : Aside0 (KeepBut w w15 g none) := ⟨h9_⟩
                have n10_ : Aside0 (Below w0.heap.size w0 w15) := ⟨h10_⟩
                clear Za
                clear HI0
                clear HK
                clear HB
                clear h0_ h1_ h2_ h3_ h4_ h5_ h6_ h7_ h8_ h9_ h10_
                have Za := n0_
                have Zf := n1_
                have Zj := n2_
                have Zk := n3_
                have Zc := n4_
                have Zi := n5_
                have Zd := n6_
                have Ze := n7_
                have HI0 := n8_
                have HK := n9_
                have HB := n10_
                clear n0_ n1_ n2_ n3_ n4_ n5_ n6_ n7_ n8_ n9_ n10_
                have hHeld := trivial
                refine norm_ (a' := ?_) ?_ ?_
                rotate_left
                ·simp only [putAll, Act.put, zs44, zz44, zt44]
                 rfl
                refine two_ (i := 2) (j := 8) (Ni := some 6) (Nj := some 12) #[true, true, true, true, true, false, false, true, false, false, true, false] #[true, true, false, true, true, false, false, true, true, false, true, false] rfl rfl rfl rfl (two_of HT_.out (by kernel_rfl)) (by decide) (by decide) (fun K hK => ?_) (fun K hK => ?_)
                ·skip
                 refine Kd.R_lit_step (Kd.int .i64) _ 3 ?hg (N := 6) ?hd (xs := ([0, t289] : List Int)) (inner := [.int .i64 0, .int .i64 t289]) (ok := fun _ => True) (okp := fun _ => True) ?hr ?hp (fun _ hk => hk) trivial (Below.refl _ _) (Nat.le_refl _) (by simp) ?_; (case hd => rfl); (case hg => rfl); (case hr => first | (go_simp; done) | (go_simp; rfl)); (case hp => exact (Reps.one (show Kd.M (Kd.int .i64) _ _ _ 0 [.int .i64 0] from rfl) (Reps.one (show Kd.M (Kd.int .i64) _ _ _ t289 [.int .i64 t289] from rfl) (Reps.none _ _))))
                 intro v293 w16 ho17 hb hg_ hnew_
                 clear hg_ hnew_
                 (first | rw [← Ny292.out] at ho17 | (simp only [Int.reduceToNat] at ho17; rw [← Ny292.out] at ho17))
                 have n0_ := zm44 (Kd.R_lower ho17 (keep_size (w := w) (g := g) (row := none) (z44_8 HK.out Zh.out Zj.out)))
                 have n1_ := zm44 (IsS89.below (z44_7 HI0.out Zb.out Zc.out) hb)
                 have n2_ := zm44 (blk_below (g := gb288) (o := .cells #[.int .i64 0, .int .i64 0, .int .i64 0, .int .i64 0] 39 (0, 0)) (z44_3 Za.out) hb)
                 have n3_ := zm44 (blk_below (g := gb302) (o := .cells #[.int .i64 0, .int .i64 0, .int .i64 0, .int .i64 0] 39 (0, 0)) (z44_3 Zf.out) hb)
                 have n4_ := zm44 (KeepBut.trans (z44_8 HK.out Zh.out Zj.out) (KeepBut.of_below hb g none) (.inl rfl))
                 have n5_ := zm44 (below_step (z44_9 HB.out HI0.out Zl.out Zk.out) hb)
                 clear HI0
                 clear Za
                 clear Zf
                 clear HK
                 clear HB
                 have Zg := n0_
                 have HI0 := n1_
                 have Za := n2_
                 have Zf := n3_
                 have HK := n4_
                 have HB := n5_
                 clear n0_ n1_ n2_ n3_ n4_ n5_
                 clear hb ho17
                 obtain ⟨Ao18, co18, eo18⟩ := Kd.R_slice Zg.out
                 subst eo18
                 obtain ⟨ado18, fo18, _⟩ := Kd.at_int (Kd.R_reads' Zg.out).2.2 0 (by decide) (by rw [Ny292.out]; simp)
                 cases fo18
                 refine hK.out _ _ trivial (fun hHeld => ?_)
                 clear hK K
                 refine norm_ (a' := ?_) ?_ ?_
                 rotate_left
                 ·show Act.put _ (some 6) _ = _
                  simp only [Act.put, zs44, zz44, zt44, i64_w, i32_w]
                  rfl
                 refine pure_ (i := 5) (N := some 9) (v := ?_) (a' := ?_) #[true, true, true, true, true, true, false, true, false, false, true, false] rfl rfl (any_of HT_.out (by kernel_rfl)) (fun _ _ _ h => h) (Or.inl ⟨by rfl, ?_⟩) ?_ ?_
                 rotate_left
                 ·intro w'
                  go_simp
                  with_reducible rfl
                 rotate_left
                 ·simp only [Act.put, zs44, zz44, zt44, i64_w, i32_w]
                  rfl
                 exact norm_ (by first | (simp only [putAll, Act.put, zs44, zz44, zt44]; done) | (simp only [putAll, Act.put, zs44, zz44, zt44]; rfl)) (hJ1_2_4_10 (.slice (some ado18) y292.length co18, ado18, gb302) _ ⟨(z44_10 Zg.out), ⟨_, rfl⟩, (z44_3 Za.out), (z44_3 Zf.out), Zj.out, Zk.out, Zc.out, Zi.out, Zd.out, Ze.out, (z44_7 HI0.out Zb.out Zc.out), (z44_8 HK.out Zh.out Zj.out), (z44_9 HB.out HI0.out Zl.out Zk.out)⟩)
                ·skip
                 refine goes_ Try.func66 (by kernel_rfl) rfl #[.pointer (some ⟨g, 0, none⟩), .int .i64 12] (by rfl) rfl rfl (by (try simp only [List.map_toArray, List.map_cons, List.map_nil]); first | done | rfl | (simp only [List.length_drop, List.length_take]; rfl)) ?_
                 with_reducible refine (spec_l00Src_next.calls g s0_0 t296 t297 12 t299 t300 t301 w0 _ ?side1 ?side2 A6.out).mono ?_
                 (case side1 => repeat (first | (with_reducible first | exact HI0.out | apply IsS89.alloc | apply IsS89.drewN | apply IsS89.drew | apply IsS89.set_1 | apply IsS89.set_2 | refine IsS89.far ?_ Zb.out _ | refine IsS89.far ?_ Zc.out _) | exact HI0.out))
                 (case side2 => repeat (first | (with_reducible first | exact HB.out | apply below_alloc | apply pw_below_drewN | apply below_drew1 | refine below_set ?_ (IsS89.ge HI0.out) | refine below_set ?_ Zl.out | refine below_set ?_ Zk.out) | exact HB.out))
                 rintro e w16 ⟨rfl, hi, hb, hk⟩
                 refine ⟨_, rfl, ?_⟩
                 have n0_ := zm44 (KeepBut.blk hk (g' := gb288) (o := .cells #[.int .i64 0, .int .i64 0, .int .i64 0, .int .i64 0] 39 (0, 0)) (z44_3 Za.out) Zm.out (by simp))
                 have n1_ := zm44 (KeepBut.blk hk (g' := gb302) (o := .cells #[.int .i64 0, .int .i64 0, .int .i64 0, .int .i64 0] 39 (0, 0)) (z44_3 Zf.out) Zi.out (by simp))
                 have n2_ := zm44 (KeepBut.trans (z44_8 HK.out Zh.out Zj.out) hk (.inl rfl))
                 have n3_ := zm44 (hb)
                 have n4_ := zm44 (hi)
                 clear Za
                 clear Zf
                 clear HK
                 clear HB
                 clear HI0
                 have Za := n0_
                 have Zf := n1_
                 have HK := n2_
                 have HB := n3_
                 have HI0 := n4_
                 clear n0_ n1_ n2_ n3_ n4_
                 (try clear hb)
                 (try clear hb2)
                 (try clear hk)
                 (try clear hi)
                 refine hK.out _ _ trivial (fun hHeld => ?_)
                 clear hK K
                 refine norm_ (a' := ?_) ?_ ?_
                 rotate_left
                 ·show Act.put _ (some 12) _ = _
                  simp only [Act.put, zs44, zz44, zt44, i64_w, i32_w]
                  rfl
                 exact norm_ (by first | (simp only [putAll, Act.put, zs44, zz44, zt44]; done) | (simp only [putAll, Act.put, zs44, zz44, zt44]; rfl)) (hJ1_4_8_10 (gb302) _ ⟨(z44_3 Za.out), (z44_3 Zf.out), Zj.out, Zk.out, Zc.out, Zi.out, Zd.out, Ze.out, (z44_7 HI0.out Zb.out Zc.out), (z44_8 HK.out Zh.out Zj.out), (z44_9 HB.out HI0.out Zl.out Zk.out)⟩)
              ·skip
               rintro _ w15 ⟨h0_, h1_, h2_, h3_⟩
               have n0_ : Aside0 (w15.heap[gb288]? = some (.cells #[.int .i64 0, .int .i64 0, .int .i64 0, .int .i64 0] 39 (0, 0))) := ⟨h0_⟩
               have n1_ : Aside0 (IsS89 w0 w15 g s0_0 t300 t301) := ⟨h1_⟩
               have n2_ : Aside0 (KeepBut w w15 g none) := ⟨h2_⟩
               have n3_ : Aside0 (Below w0.heap.size w0 w15) := ⟨h3_⟩
               clear Za
               clear HI0
               clear HK
               clear HB
               clear h0_ h1_ h2_ h3_
               have Za := n0_
               have HI0 := n1_
               have HK := n2_
               have HB := n3_
               clear n0_ n1_ n2_ n3_
               have hHeld := trivial
               refine norm_ (a' := ?_) ?_ ?_
               rotate_left
               ·simp only [putAll, Act.put, zs44, zz44, zt44]
                rfl
               refine two_ (i := 2) (j := 10) (Ni := some 6) (Nj := some 3) #[true, true, true, true, true, false, false, true, true, false, false, false] #[true, true, false, true, true, false, false, true, true, false, true, false] rfl rfl rfl rfl (two_of HT_.out (by kernel_rfl)) (by decide) (by decide) (fun K hK => ?_) (fun K hK => ?_)
               ·skip
                refine Kd.R_lit_step (Kd.int .i64) _ 3 ?hg (N := 6) ?hd (xs := ([0, t289] : List Int)) (inner := [.int .i64 0, .int .i64 t289]) (ok := fun _ => True) (okp := fun _ => True) ?hr ?hp (fun _ hk => hk) trivial (Below.refl _ _) (Nat.le_refl _) (by simp) ?_; (case hd => rfl); (case hg => rfl); (case hr => first | (go_simp; done) | (go_simp; rfl)); (case hp => exact (Reps.one (show Kd.M (Kd.int .i64) _ _ _ 0 [.int .i64 0] from rfl) (Reps.one (show Kd.M (Kd.int .i64) _ _ _ t289 [.int .i64 t289] from rfl) (Reps.none _ _))))
                intro v293 w16 ho17 hb hg_ hnew_
                clear hg_ hnew_
                (first | rw [← Ny292.out] at ho17 | (simp only [Int.reduceToNat] at ho17; rw [← Ny292.out] at ho17))
                have n0_ := zm44 (Kd.R_lower ho17 (keep_size (w := w) (g := g) (row := none) (z44_4 HK.out Zh.out)))
                have n1_ := zm44 (IsS89.below (z44_5 HI0.out Zb.out) hb)
                have n2_ := zm44 (blk_below (g := gb288) (o := .cells #[.int .i64 0, .int .i64 0, .int .i64 0, .int .i64 0] 39 (0, 0)) (z44_3 Za.out) hb)
                have n3_ := zm44 (KeepBut.trans (z44_4 HK.out Zh.out) (KeepBut.of_below hb g none) (.inl rfl))
                have n4_ := zm44 (below_step (z44_6 HB.out HI0.out Zl.out) hb)
                clear HI0
                clear Za
                clear HK
                clear HB
                have Zg := n0_
                have HI0 := n1_
                have Za := n2_
                have HK := n3_
                have HB := n4_
                clear n0_ n1_ n2_ n3_ n4_
                clear hb ho17
                obtain ⟨Ao18, co18, eo18⟩ := Kd.R_slice Zg.out
                subst eo18
                obtain ⟨ado18, fo18, _⟩ := Kd.at_int (Kd.R_reads' Zg.out).2.2 0 (by decide) (by rw [Ny292.out]; simp)
                cases fo18
                refine hK.out _ _ trivial (fun hHeld => ?_)
                clear hK K
                refine norm_ (a' := ?_) ?_ ?_
                rotate_left
                ·show Act.put _ (some 6) _ = _
                 simp only [Act.put, zs44, zz44, zt44, i64_w, i32_w]
                 rfl
                refine pure_ (i := 5) (N := some 9) (v := ?_) (a' := ?_) #[true, true, true, true, true, true, false, true, true, false, false, false] rfl rfl (any_of HT_.out (by kernel_rfl)) (fun _ _ _ h => h) (Or.inl ⟨by rfl, ?_⟩) ?_ ?_
                rotate_left
                ·intro w'
                 go_simp
                 with_reducible rfl
                rotate_left
                ·simp only [Act.put, zs44, zz44, zt44, i64_w, i32_w]
                 rfl
                exact norm_ (by first | (simp only [putAll, Act.put, zs44, zz44, zt44]; done) | (simp only [putAll, Act.put, zs44, zz44, zt44]; rfl)) (hJ1_2_4_8 (.slice (some ado18) y292.length co18, ado18) _ ⟨(z44_10 Zg.out), ⟨_, rfl⟩, (z44_3 Za.out), (z44_5 HI0.out Zb.out), (z44_4 HK.out Zh.out), (z44_6 HB.out HI0.out Zl.out)⟩)
               ·skip
                refine box_step ?hg (N := 3) ?hd (cs := #[.int .i64 0, .int .i64 0, .int .i64 0, .int .i64 0]) (t := 39) ?hr ?_; (case hd => rfl); (case hg => rfl); (case hr => first | (go_simp; done) | (go_simp; rfl))
                intro gb302 hg w16 hbox hb
                have n0_ := zm44 (IsS89.below (z44_5 HI0.out Zb.out) hb)
                have n1_ := zm44 (blk_below (g := gb288) (o := .cells #[.int .i64 0, .int .i64 0, .int .i64 0, .int .i64 0] 39 (0, 0)) (z44_3 Za.out) hb)
                have n2_ := zm44 (KeepBut.trans (z44_4 HK.out Zh.out) (KeepBut.of_below hb g none) (.inl rfl))
                have n3_ := zm44 (below_step (z44_6 HB.out HI0.out Zl.out) hb)
                have n4_ := zm44 (hbox)
                have n5_ := zm44 ((by rw [hg]; exact (keep_size (w := w) (g := g) (row := none) (z44_4 HK.out Zh.out)) : w.heap.size ≤ gb302))
                have n6_ := zm44 ((Nat.le_trans HW0.out (by rw [hg]; exact (keep_size (w := w) (g := g) (row := none) (z44_4 HK.out Zh.out)) : w.heap.size ≤ gb302) : w0.heap.size ≤ gb302))
                have n7_ := zm44 ((by rw [hg]; exact Nat.ne_of_lt (blk_lt (g := gb288) (o := .cells #[.int .i64 0, .int .i64 0, .int .i64 0, .int .i64 0] 39 (0, 0)) (z44_3 Za.out)) : gb288 ≠ gb302))
                have n8_ := zm44 ((by rw [hg]; exact Nat.ne_of_gt (blk_lt (g := gb288) (o := .cells #[.int .i64 0, .int .i64 0, .int .i64 0, .int .i64 0] 39 (0, 0)) (z44_3 Za.out)) : gb302 ≠ gb288))
                have n9_ := zm44 ((by rw [hg]; exact Nat.ne_of_lt (IsS89.lt (show IsS89 w0 _ g s0_0 t300 t301 from z44_5 HI0.out Zb.out)) : g ≠ gb302))
                have n10_ := zm44 ((by rw [hg]; exact Nat.ne_of_gt (IsS89.lt (show IsS89 w0 _ g s0_0 t300 t301 from z44_5 HI0.out Zb.out)) : gb302 ≠ g))
                clear HI0
                clear Za
                clear HK
                clear HB
                have HI0 := n0_
                have Za := n1_
                have HK := n2_
                have HB := n3_
                have Zf := n4_
                have Zj := n5_
                have Zk := n6_
                have Zd := n7_
                have Ze := n8_
                have Zc := n9_
                have Zi := n10_
                clear n0_ n1_ n2_ n3_ n4_ n5_ n6_ n7_ n8_ n9_ n10_
                clear hb hbox hg
                refine hK.out _ _ trivial (fun hHeld => ?_)
                clear hK K
                refine norm_ (a' := ?_) ?_ ?_
                rotate_left
                ·show Act.put _ (some 3) _ = _
                 simp only [Act.put, zs44, zz44, zt44, i64_w, i32_w]
                 rfl
                exact norm_ (by first | (simp only [putAll, Act.put, zs44, zz44, zt44]; done) | (simp only [putAll, Act.put, zs44, zz44, zt44]; rfl)) (hJ1_4_8_10 (gb302) _ ⟨(z44_3 Za.out), (z44_3 Zf.out), Zj.out, Zk.out, Zc.out, Zi.out, Zd.out, Ze.out, (z44_7 HI0.out Zb.out Zc.out), (z44_8 HK.out Zh.out Zj.out), (z44_9 HB.out HI0.out Zl.out Zk.out)⟩)
             ·skip
              rintro ⟨v293, adz_v293, gb302⟩ w17 ⟨h0_, h1_, h2_, h3_, h4_, h5_, h6_, h7_, h8_, h9_, h10_, h11_, h12_⟩
              have n0_ : Aside0 (Kd.R (Kd.int .i64) 3 w17 w.heap.size (fun _ => True) v293 y292) := ⟨h0_⟩
              have n1_ : Aside0 (∃ c_, (v293 : Value) = .slice (some adz_v293) y292.length c_) := ⟨h1_⟩
              have n2_ : Aside0 (w17.heap[gb288]? = some (.cells #[.int .i64 0, .int .i64 0, .int .i64 0, .int .i64 0] 39 (0, 0))) := ⟨h2_⟩
              have n3_ : Aside0 (w17.heap[gb302]? = some (.cells #[.int .i64 0, .int .i64 0, .int .i64 0, .int .i64 0] 39 (0, 0))) := ⟨h3_⟩
              have n4_ : Aside0 (w.heap.size ≤ gb302) := ⟨h4_⟩
              have n5_ : Aside0 (w0.heap.size ≤ gb302) := ⟨h5_⟩
              have n6_ : Aside0 (g ≠ gb302) := ⟨h6_⟩
              have n7_ : Aside0 (gb302 ≠ g) := ⟨h7_⟩
              have n8_ : Aside0 (gb288 ≠ gb302) := ⟨h8_⟩
              have n9_ : Aside0 (gb302 ≠ gb288) := ⟨h9_⟩
              have n10_ : Aside0 (IsS89 w0 w17 g s0_0 t290 t291) := ⟨h10_⟩
              have n11_ : Aside0 (KeepBut w w17 g none) := ⟨h11_⟩
              have n12_ : Aside0 (Below w0.heap.size w0 w17) := ⟨h12_⟩
              clear Za
              clear HI0
              clear HK
              clear HB
              clear h0_ h1_ h2_ h3_ h4_ h5_ h6_ h7_ h8_ h9_ h10_ h11_ h12_
              have Zg := n0_
              have HA_HO294 := n1_
              have Za := n2_
              have Zf := n3_
              have Zj := n4_
              have Zk := n5_
              have Zc := n6_
              have Zi := n7_
              have Zd := n8_
              have Ze := n9_
              have HI0 := n10_
              have HK := n11_
              have HB := n12_
              clear n0_ n1_ n2_ n3_ n4_ n5_ n6_ n7_ n8_ n9_ n10_ n11_ n12_
              have hHeld := trivial
              obtain ⟨co18, eo18⟩ := HA_HO294.out
              clear HA_HO294
              subst eo18
              refine norm_ (a' := ?_) ?_ ?_
              rotate_left
              ·simp only [putAll, Act.put, zs44, zz44, zt44]
               rfl
              refine one_ (i := 4) (N := some 8) #[true, true, true, true, true, false, false, true, false, false, true, false] rfl rfl (one_of HT_.out (by kernel_rfl)) (by decide) (fun K hK => ?_)
              refine goes_ Try.func66 (by kernel_rfl) rfl #[.pointer (some ⟨g, 0, none⟩), .int .i64 2] (by rfl) rfl rfl (by (try simp only [List.map_toArray, List.map_cons, List.map_nil]); first | done | rfl | (simp only [List.length_drop, List.length_take]; rfl)) ?_
              with_reducible refine (spec_l00Src_next.calls g s0_0 t290 t291 2 t295 t296 t297 w0 _ ?side1 ?side2 A3.out).mono ?_
              (case side1 => repeat (first | (with_reducible first | exact HI0.out | apply IsS89.alloc | apply IsS89.drewN | apply IsS89.drew | apply IsS89.set_1 | apply IsS89.set_2 | refine IsS89.far ?_ Zb.out _ | refine IsS89.far ?_ Zc.out _) | exact HI0.out))
              (case side2 => repeat (first | (with_reducible first | exact HB.out | apply below_alloc | apply pw_below_drewN | apply below_drew1 | refine below_set ?_ (IsS89.ge HI0.out) | refine below_set ?_ Zl.out | refine below_set ?_ Zk.out) | exact HB.out))
              rintro e w19 ⟨rfl, hi, hb, hk⟩
              refine ⟨_, rfl, ?_⟩
              have n0_ := zm44 (KeepBut.blk hk (g' := gb288) (o := .cells #[.int .i64 0, .int .i64 0, .int .i64 0, .int .i64 0] 39 (0, 0)) (z44_3 Za.out) Zm.out (by simp))
              have n1_ := zm44 (Kd.R_mono (Kd.R_keep (IsS89.apart (show IsS89 w0 _ g s0_0 t290 t291 from z44_7 HI0.out Zb.out Zc.out) (z44_10 Zg.out) (by decide)) hk (fun _ h => h.2)) (fun _ h => h.1))
              have n2_ := zm44 (KeepBut.blk hk (g' := gb302) (o := .cells #[.int .i64 0, .int .i64 0, .int .i64 0, .int .i64 0] 39 (0, 0)) (z44_3 Zf.out) Zi.out (by simp))
              have n3_ := zm44 (KeepBut.trans (z44_8 HK.out Zh.out Zj.out) hk (.inl rfl))
              have n4_ := zm44 (hb)
              have n5_ := zm44 (hi)
              clear Za
              clear Zg
              clear Zf
              clear HK
              clear HB
              clear HI0
              have Za := n0_
              have Zg := n1_
              have Zf := n2_
              have HK := n3_
              have HB := n4_
              have HI0 := n5_
              clear n0_ n1_ n2_ n3_ n4_ n5_
              (try clear hb)
              (try clear hb2)
              (try clear hk)
              (try clear hi)
              refine hK.out _ _ trivial (fun hHeld => ?_)
              clear hK K
              refine norm_ (a' := ?_) ?_ ?_
              rotate_left
              ·show Act.put _ (some 8) _ = _
               simp only [Act.put, zs44, zz44, zt44, i64_w, i32_w]
               rfl
              refine pure_ (i := 5) (N := some 9) (v := ?_) (a' := ?_) #[true, true, true, true, true, true, false, true, false, false, true, false] rfl rfl (any_of HT_.out (by kernel_rfl)) (fun _ _ _ h => h) (Or.inl ⟨by rfl, ?_⟩) ?_ ?_
              rotate_left
              ·intro w'
               go_simp
               with_reducible rfl
              rotate_left
              ·simp only [Act.put, zs44, zz44, zt44, i64_w, i32_w]
               rfl
              exact norm_ (by first | (simp only [putAll, Act.put, zs44, zz44, zt44]; done) | (simp only [putAll, Act.put, zs44, zz44, zt44]; rfl)) (hJ1_2_4_10 (.slice (some adz_v293) y292.length co18, adz_v293, gb302) _ ⟨(z44_10 Zg.out), ⟨_, rfl⟩, (z44_3 Za.out), (z44_3 Zf.out), Zj.out, Zk.out, Zc.out, Zi.out, Zd.out, Ze.out, (z44_7 HI0.out Zb.out Zc.out), (z44_8 HK.out Zh.out Zj.out), (z44_9 HB.out HI0.out Zl.out Zk.out)⟩)
            ·skip
             rintro ⟨v293, adz_v293⟩ w17 ⟨h0_, h1_, h2_, h3_, h4_, h5_⟩
             have n0_ : Aside0 (Kd.R (Kd.int .i64) 3 w17 w.heap.size (fun _ => True) v293 y292) := ⟨h0_⟩
             have n1_ : Aside0 (∃ c_, (v293 : Value) = .slice (some adz_v293) y292.length c_) := ⟨h1_⟩
             have n2_ : Aside0 (w17.heap[gb288]? = some (.cells #[.int .i64 0, .int .i64 0, .int .i64 0, .int .i64 0] 39 (0, 0))) := ⟨h2_⟩
             have n3_ : Aside0 (IsS89 w0 w17 g s0_0 t296 t297) := ⟨h3_⟩
             have n4_ : Aside0 (KeepBut w w17 g none) := ⟨h4_⟩
             have n5_ : Aside0 (Below w0.heap.size w0 w17) := ⟨h5_⟩
             clear Za
             clear HI0
             clear HK
             clear HB
             clear h0_ h1_ h2_ h3_ h4_ h5_
             have Zg := n0_
             have HA_HO294 := n1_
             have Za := n2_
             have HI0 := n3_
             have HK := n4_
             have HB := n5_
             clear n0_ n1_ n2_ n3_ n4_ n5_
             have hHeld := trivial
             obtain ⟨co18, eo18⟩ := HA_HO294.out
             clear HA_HO294
             subst eo18
             refine norm_ (a' := ?_) ?_ ?_
             rotate_left
             ·simp only [putAll, Act.put, zs44, zz44, zt44]
              rfl
             refine three_ (i := 6) (j := 8) (k := 10) (Ni := some 10) (Nj := some 12) (Nk := some 3) #[true, true, true, true, true, true, true, true, false, false, false, false] #[true, true, true, true, true, true, false, true, true, false, false, false] #[true, true, true, true, true, true, false, true, false, false, true, false] rfl rfl rfl rfl rfl rfl (three_of HT_.out (by kernel_rfl)) (by decide) (by decide) (by decide) (fun K hK => ?_) (fun K hK => ?_) (fun K hK => ?_)
             ·skip
              (have p298 : 0 ≤ (t295 : Int) := of_decide_eq_true (by first | (with_reducible assumption) | assumption); have q298 : t295 < (y292.length : Int) := of_decide_eq_true (by first | (with_reducible assumption) | assumption); obtain ⟨ad298, e298, hx298_0⟩ := Kd.at_int (Kd.R_reads' Zg.out).2.2 t295 p298 q298; obtain rfl : adz_v293 = ad298 := (by injection e298))
              refine value_ (w1 := ?_) (v := ?_) (by rfl) rfl ?_ ?_
              rotate_left 2
              ·go_simp
               constructor
               ·rfl
               ·rfl
              clear hx298_0
              refine hK.out _ _ trivial (fun hHeld => ?_)
              clear hK K
              refine norm_ (a' := ?_) ?_ ?_
              rotate_left
              ·show Act.put _ (some 10) _ = _
               simp only [Act.put, zs44, zz44, zt44, i64_w, i32_w]
               rfl
              exact norm_ (by first | (simp only [putAll, Act.put, zs44, zz44, zt44]; done) | (simp only [putAll, Act.put, zs44, zz44, zt44]; rfl)) (hJ1_2_4_6 (.slice (some adz_v293) y292.length co18, adz_v293) _ ⟨(z44_10 Zg.out), ⟨_, rfl⟩, (z44_3 Za.out), (z44_5 HI0.out Zb.out), (z44_4 HK.out Zh.out), (z44_6 HB.out HI0.out Zl.out)⟩)
             ·skip
              refine goes_ Try.func66 (by kernel_rfl) rfl #[.pointer (some ⟨g, 0, none⟩), .int .i64 12] (by rfl) rfl rfl (by (try simp only [List.map_toArray, List.map_cons, List.map_nil]); first | done | rfl | (simp only [List.length_drop, List.length_take]; rfl)) ?_
              with_reducible refine (spec_l00Src_next.calls g s0_0 t296 t297 12 t299 t300 t301 w0 _ ?side1 ?side2 A6.out).mono ?_
              (case side1 => repeat (first | (with_reducible first | exact HI0.out | apply IsS89.alloc | apply IsS89.drewN | apply IsS89.drew | apply IsS89.set_1 | apply IsS89.set_2 | refine IsS89.far ?_ Zb.out _) | exact HI0.out))
              (case side2 => repeat (first | (with_reducible first | exact HB.out | apply below_alloc | apply pw_below_drewN | apply below_drew1 | refine below_set ?_ (IsS89.ge HI0.out) | refine below_set ?_ Zl.out) | exact HB.out))
              rintro e w19 ⟨rfl, hi, hb, hk⟩
              refine ⟨_, rfl, ?_⟩
              have n0_ := zm44 (KeepBut.blk hk (g' := gb288) (o := .cells #[.int .i64 0, .int .i64 0, .int .i64 0, .int .i64 0] 39 (0, 0)) (z44_3 Za.out) Zm.out (by simp))
              have n1_ := zm44 (Kd.R_mono (Kd.R_keep (IsS89.apart (show IsS89 w0 _ g s0_0 t296 t297 from z44_5 HI0.out Zb.out) (z44_10 Zg.out) (by decide)) hk (fun _ h => h.2)) (fun _ h => h.1))
              have n2_ := zm44 (KeepBut.trans (z44_4 HK.out Zh.out) hk (.inl rfl))
              have n3_ := zm44 (hb)
              have n4_ := zm44 (hi)
              clear Za
              clear Zg
              clear HK
              clear HB
              clear HI0
              have Za := n0_
              have Zg := n1_
              have HK := n2_
              have HB := n3_
              have HI0 := n4_
              clear n0_ n1_ n2_ n3_ n4_
              (try clear hb)
              (try clear hb2)
              (try clear hk)
              (try clear hi)
              refine hK.out _ _ trivial (fun hHeld => ?_)
              clear hK K
              refine norm_ (a' := ?_) ?_ ?_
              rotate_left
              ·show Act.put _ (some 12) _ = _
               simp only [Act.put, zs44, zz44, zt44, i64_w, i32_w]
               rfl
              exact norm_ (by first | (simp only [putAll, Act.put, zs44, zz44, zt44]; done) | (simp only [putAll, Act.put, zs44, zz44, zt44]; rfl)) (hJ1_2_4_8 (.slice (some adz_v293) y292.length co18, adz_v293) _ ⟨(z44_10 Zg.out), ⟨_, rfl⟩, (z44_3 Za.out), (z44_5 HI0.out Zb.out), (z44_4 HK.out Zh.out), (z44_6 HB.out HI0.out Zl.out)⟩)
             ·skip
              refine box_step ?hg (N := 3) ?hd (cs := #[.int .i64 0, .int .i64 0, .int .i64 0, .int .i64 0]) (t := 39) ?hr ?_; (case hd => rfl); (case hg => rfl); (case hr => first | (go_simp; done) | (go_simp; rfl))
              intro gb302 hg w19 hbox hb
              have n0_ := zm44 (Kd.R_below (z44_10 Zg.out) hb)
              have n1_ := zm44 (IsS89.below (z44_5 HI0.out Zb.out) hb)
              have n2_ := zm44 (blk_below (g := gb288) (o := .cells #[.int .i64 0, .int .i64 0, .int .i64 0, .int .i64 0] 39 (0, 0)) (z44_3 Za.out) hb)
              have n3_ := zm44 (KeepBut.trans (z44_4 HK.out Zh.out) (KeepBut.of_below hb g none) (.inl rfl))
              have n4_ := zm44 (below_step (z44_6 HB.out HI0.out Zl.out) hb)
              have n5_ := zm44 (hbox)
              have n6_ := zm44 ((by rw [hg]; exact (keep_size (w := w) (g := g) (row := none) (z44_4 HK.out Zh.out)) : w.heap.size ≤ gb302))
              have n7_ := zm44 ((Nat.le_trans HW0.out (by rw [hg]; exact (keep_size (w := w) (g := g) (row := none) (z44_4 HK.out Zh.out)) : w.heap.size ≤ gb302) : w0.heap.size ≤ gb302))
              have n8_ := zm44 ((by rw [hg]; exact Nat.ne_of_lt (blk_lt (g := gb288) (o := .cells #[.int .i64 0, .int .i64 0, .int .i64 0, .int .i64 0] 39 (0, 0)) (z44_3 Za.out)) : gb288 ≠ gb302))
              have n9_ := zm44 ((by rw [hg]; exact Nat.ne_of_gt (blk_lt (g := gb288) (o := .cells #[.int .i64 0, .int .i64 0, .int .i64 0, .int .i64 0] 39 (0, 0)) (z44_3 Za.out)) : gb302 ≠ gb288))
              have n10_ := zm44 ((by rw [hg]; exact Nat.ne_of_lt (IsS89.lt (show IsS89 w0 _ g s0_0 t296 t297 from z44_5 HI0.out Zb.out)) : g ≠ gb302))
              have n11_ := zm44 ((by rw [hg]; exact Nat.ne_of_gt (IsS89.lt (show IsS89 w0 _ g s0_0 t296 t297 from z44_5 HI0.out Zb.out)) : gb302 ≠ g))
              clear Zg
              clear HI0
              clear Za
              clear HK
              clear HB
              have Zg := n0_
              have HI0 := n1_
              have Za := n2_
              have HK := n3_
              have HB := n4_
              have Zf := n5_
              have Zj := n6_
              have Zk := n7_
              have Zd := n8_
              have Ze := n9_
              have Zc := n10_
              have Zi := n11_
              clear n0_ n1_ n2_ n3_ n4_ n5_ n6_ n7_ n8_ n9_ n10_ n11_
              clear hb hbox hg
              refine hK.out _ _ trivial (fun hHeld => ?_)
              clear hK K
              refine norm_ (a' := ?_) ?_ ?_
              rotate_left
              ·show Act.put _ (some 3) _ = _
               simp only [Act.put, zs44, zz44, zt44, i64_w, i32_w]
               rfl
              exact norm_ (by first | (simp only [putAll, Act.put, zs44, zz44, zt44]; done) | (simp only [putAll, Act.put, zs44, zz44, zt44]; rfl)) (hJ1_2_4_10 (.slice (some adz_v293) y292.length co18, adz_v293, gb302) _ ⟨(z44_10 Zg.out), ⟨_, rfl⟩, (z44_3 Za.out), (z44_3 Zf.out), Zj.out, Zk.out, Zc.out, Zi.out, Zd.out, Ze.out, (z44_7 HI0.out Zb.out Zc.out), (z44_8 HK.out Zh.out Zj.out), (z44_9 HB.out HI0.out Zl.out Zk.out)⟩)
           ·skip
            rintro gb302 w16 ⟨h0_, h1_, h2_, h3_, h4_, h5_, h6_, h7_, h8_, h9_, h10_⟩
            have n0_ : Aside0 (w16.heap[gb288]? = some (.cells #[.int .i64 0, .int .i64 0, .int .i64 0, .int .i64 0] 39 (0, 0))) := ⟨h0_⟩
            have n1_ : Aside0 (w16.heap[gb302]? = some (.cells #[.int .i64 0, .int .i64 0, .int .i64 0, .int .i64 0] 39 (0, 0))) := ⟨h1_⟩
            have n2_ : Aside0 (w.heap.size ≤ gb302) := ⟨h2_⟩
            have n3_ : Aside0 (w0.heap.size ≤ gb302) := ⟨h3_⟩
            have n4_ : Aside0 (g ≠ gb302) := ⟨h4_⟩
            have n5_ : Aside0 (gb302 ≠ g) := ⟨h5_⟩
            have n6_ : Aside0 (gb288 ≠ gb302) := ⟨h6_⟩
            have n7_ : Aside0 (gb302 ≠ gb288) := ⟨h7_⟩
            have n8_ : Aside0 (IsS89 w0 w16 g s0_0 t300 t301) := ⟨h8_⟩
            have n9_ : Aside0 (KeepBut w w16 g none) := ⟨h9_⟩
            have n10_ : Aside0 (Below w0.heap.size w0 w16) := ⟨h10_⟩
            clear Za
            clear HI0
            clear HK
            clear HB
            clear h0_ h1_ h2_ h3_ h4_ h5_ h6_ h7_ h8_ h9_ h10_
            have Za := n0_
            have Zf := n1_
            have Zj := n2_
            have Zk := n3_
            have Zc := n4_
            have Zi := n5_
            have Zd := n6_
            have Ze := n7_
            have HI0 := n8_
            have HK := n9_
            have HB := n10_
            clear n0_ n1_ n2_ n3_ n4_ n5_ n6_ n7_ n8_ n9_ n10_
            have hHeld := trivial
            refine norm_ (a' := ?_) ?_ ?_
            rotate_left
            ·simp only [putAll, Act.put, zs44, zz44, zt44]
             rfl
            refine one_ (i := 2) (N := some 6) #[true, true, true, true, true, false, false, true, true, false, true, false] rfl rfl (one_of HT_.out (by kernel_rfl)) (by decide) (fun K hK => ?_)
            refine Kd.R_lit_step (Kd.int .i64) _ 3 ?hg (N := 6) ?hd (xs := ([0, t289] : List Int)) (inner := [.int .i64 0, .int .i64 t289]) (ok := fun _ => True) (okp := fun _ => True) ?hr ?hp (fun _ hk => hk) trivial (Below.refl _ _) (Nat.le_refl _) (by simp) ?_; (case hd => rfl); (case hg => rfl); (case hr => first | (go_simp; done) | (go_simp; rfl)); (case hp => exact (Reps.one (show Kd.M (Kd.int .i64) _ _ _ 0 [.int .i64 0] from rfl) (Reps.one (show Kd.M (Kd.int .i64) _ _ _ t289 [.int .i64 t289] from rfl) (Reps.none _ _))))
            intro v293 w17 ho18 hb hg_ hnew_
            clear hg_ hnew_
            (first | rw [← Ny292.out] at ho18 | (simp only [Int.reduceToNat] at ho18; rw [← Ny292.out] at ho18))
            have n0_ := zm44 (Kd.R_lower ho18 (keep_size (w := w) (g := g) (row := none) (z44_8 HK.out Zh.out Zj.out)))
            have n1_ := zm44 (IsS89.below (z44_7 HI0.out Zb.out Zc.out) hb)
            have n2_ := zm44 (blk_below (g := gb288) (o := .cells #[.int .i64 0, .int .i64 0, .int .i64 0, .int .i64 0] 39 (0, 0)) (z44_3 Za.out) hb)
            have n3_ := zm44 (blk_below (g := gb302) (o := .cells #[.int .i64 0, .int .i64 0, .int .i64 0, .int .i64 0] 39 (0, 0)) (z44_3 Zf.out) hb)
            have n4_ := zm44 (KeepBut.trans (z44_8 HK.out Zh.out Zj.out) (KeepBut.of_below hb g none) (.inl rfl))
            have n5_ := zm44 (below_step (z44_9 HB.out HI0.out Zl.out Zk.out) hb)
            clear HI0
            clear Za
            clear Zf
            clear HK
            clear HB
            have Zg := n0_
            have HI0 := n1_
            have Za := n2_
            have Zf := n3_
            have HK := n4_
            have HB := n5_
            clear n0_ n1_ n2_ n3_ n4_ n5_
            clear hb ho18
            obtain ⟨Ao19, co19, eo19⟩ := Kd.R_slice Zg.out
            subst eo19
            obtain ⟨ado19, fo19, _⟩ := Kd.at_int (Kd.R_reads' Zg.out).2.2 0 (by decide) (by rw [Ny292.out]; simp)
            cases fo19
            refine hK.out _ _ trivial (fun hHeld => ?_)
            clear hK K
            refine norm_ (a' := ?_) ?_ ?_
            rotate_left
            ·show Act.put _ (some 6) _ = _
             simp only [Act.put, zs44, zz44, zt44, i64_w, i32_w]
             rfl
            refine pure_ (i := 5) (N := some 9) (v := ?_) (a' := ?_) #[true, true, true, true, true, true, false, true, true, false, true, false] rfl rfl (any_of HT_.out (by kernel_rfl)) (fun _ _ _ h => h) (Or.inl ⟨by rfl, ?_⟩) ?_ ?_
            rotate_left
            ·intro w'
             go_simp
             with_reducible rfl
            rotate_left
            ·simp only [Act.put, zs44, zz44, zt44, i64_w, i32_w]
             rfl
            exact norm_ (by first | (simp only [putAll, Act.put, zs44, zz44, zt44]; done) | (simp only [putAll, Act.put, zs44, zz44, zt44]; rfl)) (hJ1_2_4_8_10 (.slice (some ado19) y292.length co19, ado19, gb302) _ ⟨(z44_10 Zg.out), ⟨_, rfl⟩, (z44_3 Za.out), (z44_3 Zf.out), Zj.out, Zk.out, Zc.out, Zi.out, Zd.out, Ze.out, (z44_7 HI0.out Zb.out Zc.out), (z44_8 HK.out Zh.out Zj.out), (z44_9 HB.out HI0.out Zl.out Zk.out)⟩)
          ·skip
           rintro ⟨v293, adz_v293, gb302⟩ w18 ⟨h0_, h1_, h2_, h3_, h4_, h5_, h6_, h7_, h8_, h9_, h10_, h11_, h12_⟩
           have n0_ : Aside0 (Kd.R (Kd.int .i64) 3 w18 w.heap.size (fun _ => True) v293 y292) := ⟨h0_⟩
           have n1_ : Aside0 (∃ c_, (v293 : Value) = .slice (some adz_v293) y292.length c_) := ⟨h1_⟩
           have n2_ : Aside0 (w18.heap[gb288]? = some (.cells #[.int .i64 0, .int .i64 0, .int .i64 0, .int .i64 0] 39 (0, 0))) := ⟨h2_⟩
           have n3_ : Aside0 (w18.heap[gb302]? = some (.cells #[.int .i64 0, .int .i64 0, .int .i64 0, .int .i64 0] 39 (0, 0))) := ⟨h3_⟩
           have n4_ : Aside0 (w.heap.size ≤ gb302) := ⟨h4_⟩
           have n5_ : Aside0 (w0.heap.size ≤ gb302) := ⟨h5_⟩
           have n6_ : Aside0 (g ≠ gb302) := ⟨h6_⟩
           have n7_ : Aside0 (gb302 ≠ g) := ⟨h7_⟩
           have n8_ : Aside0 (gb288 ≠ gb302) := ⟨h8_⟩
           have n9_ : Aside0 (gb302 ≠ gb288) := ⟨h9_⟩
           have n10_ : Aside0 (IsS89 w0 w18 g s0_0 t296 t297) := ⟨h10_⟩
           have n11_ : Aside0 (KeepBut w w18 g none) := ⟨h11_⟩
           have n12_ : Aside0 (Below w0.heap.size w0 w18) := ⟨h12_⟩
           clear Za
           clear HI0
           clear HK
           clear HB
           clear h0_ h1_ h2_ h3_ h4_ h5_ h6_ h7_ h8_ h9_ h10_ h11_ h12_
           have Zg := n0_
           have HA_HO294 := n1_
           have Za := n2_
           have Zf := n3_
           have Zj := n4_
           have Zk := n5_
           have Zc := n6_
           have Zi := n7_
           have Zd := n8_
           have Ze := n9_
           have HI0 := n10_
           have HK := n11_
           have HB := n12_
           clear n0_ n1_ n2_ n3_ n4_ n5_ n6_ n7_ n8_ n9_ n10_ n11_ n12_
           have hHeld := trivial
           obtain ⟨co19, eo19⟩ := HA_HO294.out
           clear HA_HO294
           subst eo19
           refine norm_ (a' := ?_) ?_ ?_
           rotate_left
           ·simp only [putAll, Act.put, zs44, zz44, zt44]
            rfl
           refine two_ (i := 6) (j := 8) (Ni := some 10) (Nj := some 12) #[true, true, true, true, true, true, true, true, false, false, true, false] #[true, true, true, true, true, true, false, true, true, false, true, false] rfl rfl rfl rfl (two_of HT_.out (by kernel_rfl)) (by decide) (by decide) (fun K hK => ?_) (fun K hK => ?_)
           ·skip
            (have p298 : 0 ≤ (t295 : Int) := of_decide_eq_true (by first | (with_reducible assumption) | assumption); have q298 : t295 < (y292.length : Int) := of_decide_eq_true (by first | (with_reducible assumption) | assumption); obtain ⟨ad298, e298, hx298_0⟩ := Kd.at_int (Kd.R_reads' Zg.out).2.2 t295 p298 q298; obtain rfl : adz_v293 = ad298 := (by injection e298))
            refine value_ (w1 := ?_) (v := ?_) (by rfl) rfl ?_ ?_
            rotate_left 2
            ·go_simp
             constructor
             ·rfl
             ·rfl
            clear hx298_0
            refine hK.out _ _ trivial (fun hHeld => ?_)
            clear hK K
            refine norm_ (a' := ?_) ?_ ?_
            rotate_left
            ·show Act.put _ (some 10) _ = _
             simp only [Act.put, zs44, zz44, zt44, i64_w, i32_w]
             rfl
            exact norm_ (by first | (simp only [putAll, Act.put, zs44, zz44, zt44]; done) | (simp only [putAll, Act.put, zs44, zz44, zt44]; rfl)) (hJ1_2_4_6_10 (.slice (some adz_v293) y292.length co19, adz_v293, gb302) _ ⟨(z44_10 Zg.out), ⟨_, rfl⟩, (z44_3 Za.out), (z44_3 Zf.out), Zj.out, Zk.out, Zc.out, Zi.out, Zd.out, Ze.out, (z44_7 HI0.out Zb.out Zc.out), (z44_8 HK.out Zh.out Zj.out), (z44_9 HB.out HI0.out Zl.out Zk.out)⟩)
           ·skip
            refine goes_ Try.func66 (by kernel_rfl) rfl #[.pointer (some ⟨g, 0, none⟩), .int .i64 12] (by rfl) rfl rfl (by (try simp only [List.map_toArray, List.map_cons, List.map_nil]); first | done | rfl | (simp only [List.length_drop, List.length_take]; rfl)) ?_
            with_reducible refine (spec_l00Src_next.calls g s0_0 t296 t297 12 t299 t300 t301 w0 _ ?side1 ?side2 A6.out).mono ?_
            (case side1 => repeat (first | (with_reducible first | exact HI0.out | apply IsS89.alloc | apply IsS89.drewN | apply IsS89.drew | apply IsS89.set_1 | apply IsS89.set_2 | refine IsS89.far ?_ Zb.out _ | refine IsS89.far ?_ Zc.out _) | exact HI0.out))
            (case side2 => repeat (first | (with_reducible first | exact HB.out | apply below_alloc | apply pw_below_drewN | apply below_drew1 | refine below_set ?_ (IsS89.ge HI0.out) | refine below_set ?_ Zl.out | refine below_set ?_ Zk.out) | exact HB.out))
            rintro e w20 ⟨rfl, hi, hb, hk⟩
            refine ⟨_, rfl, ?_⟩
            have n0_ := zm44 (KeepBut.blk hk (g' := gb288) (o := .cells #[.int .i64 0, .int .i64 0, .int .i64 0, .int .i64 0] 39 (0, 0)) (z44_3 Za.out) Zm.out (by simp))
            have n1_ := zm44 (Kd.R_mono (Kd.R_keep (IsS89.apart (show IsS89 w0 _ g s0_0 t296 t297 from z44_7 HI0.out Zb.out Zc.out) (z44_10 Zg.out) (by decide)) hk (fun _ h => h.2)) (fun _ h => h.1))
            have n2_ := zm44 (KeepBut.blk hk (g' := gb302) (o := .cells #[.int .i64 0, .int .i64 0, .int .i64 0, .int .i64 0] 39 (0, 0)) (z44_3 Zf.out) Zi.out (by simp))
            have n3_ := zm44 (KeepBut.trans (z44_8 HK.out Zh.out Zj.out) hk (.inl rfl))
            have n4_ := zm44 (hb)
            have n5_ := zm44 (hi)
            clear Za
            clear Zg
            clear Zf
            clear HK
            clear HB
            clear HI0
            have Za := n0_
            have Zg := n1_
            have Zf := n2_
            have HK := n3_
            have HB := n4_
            have HI0 := n5_
            clear n0_ n1_ n2_ n3_ n4_ n5_
            (try clear hb)
            (try clear hb2)
            (try clear hk)
            (try clear hi)
            refine hK.out _ _ trivial (fun hHeld => ?_)
            clear hK K
            refine norm_ (a' := ?_) ?_ ?_
            rotate_left
            ·show Act.put _ (some 12) _ = _
             simp only [Act.put, zs44, zz44, zt44, i64_w, i32_w]
             rfl
            exact norm_ (by first | (simp only [putAll, Act.put, zs44, zz44, zt44]; done) | (simp only [putAll, Act.put, zs44, zz44, zt44]; rfl)) (hJ1_2_4_8_10 (.slice (some adz_v293) y292.length co19, adz_v293, gb302) _ ⟨(z44_10 Zg.out), ⟨_, rfl⟩, (z44_3 Za.out), (z44_3 Zf.out), Zj.out, Zk.out, Zc.out, Zi.out, Zd.out, Ze.out, (z44_7 HI0.out Zb.out Zc.out), (z44_8 HK.out Zh.out Zj.out), (z44_9 HB.out HI0.out Zl.out Zk.out)⟩)
         ·skip
          rintro ⟨v293, adz_v293⟩ w18 ⟨h0_, h1_, h2_, h3_, h4_, h5_⟩
          have n0_ : Aside0 (Kd.R (Kd.int .i64) 3 w18 w.heap.size (fun _ => True) v293 y292) := ⟨h0_⟩
          have n1_ : Aside0 (∃ c_, (v293 : Value) = .slice (some adz_v293) y292.length c_) := ⟨h1_⟩
          have n2_ : Aside0 (w18.heap[gb288]? = some (.cells #[.int .i64 0, .int .i64 0, .int .i64 0, .int .i64 0] 39 (0, 0))) := ⟨h2_⟩
          have n3_ : Aside0 (IsS89 w0 w18 g s0_0 t300 t301) := ⟨h3_⟩
          have n4_ : Aside0 (KeepBut w w18 g none) := ⟨h4_⟩
          have n5_ : Aside0 (Below w0.heap.size w0 w18) := ⟨h5_⟩
          clear Za
          clear HI0
          clear HK
          clear HB
          clear h0_ h1_ h2_ h3_ h4_ h5_
          have Zg := n0_
          have HA_HO294 := n1_
          have Za := n2_
          have HI0 := n3_
          have HK := n4_
          have HB := n5_
          clear n0_ n1_ n2_ n3_ n4_ n5_
          have hHeld := trivial
          obtain ⟨co19, eo19⟩ := HA_HO294.out
          clear HA_HO294
          subst eo19
          refine norm_ (a' := ?_) ?_ ?_
          rotate_left
          ·simp only [putAll, Act.put, zs44, zz44, zt44]
           rfl
          refine two_ (i := 6) (j := 10) (Ni := some 10) (Nj := some 3) #[true, true, true, true, true, true, true, true, true, false, false, false] #[true, true, true, true, true, true, false, true, true, false, true, false] rfl rfl rfl rfl (two_of HT_.out (by kernel_rfl)) (by decide) (by decide) (fun K hK => ?_) (fun K hK => ?_)
          ·skip
           (have p298 : 0 ≤ (t295 : Int) := of_decide_eq_true (by first | (with_reducible assumption) | assumption); have q298 : t295 < (y292.length : Int) := of_decide_eq_true (by first | (with_reducible assumption) | assumption); obtain ⟨ad298, e298, hx298_0⟩ := Kd.at_int (Kd.R_reads' Zg.out).2.2 t295 p298 q298; obtain rfl : adz_v293 = ad298 := (by injection e298))
           refine value_ (w1 := ?_) (v := ?_) (by rfl) rfl ?_ ?_
           rotate_left 2
           ·go_simp
            constructor
            ·rfl
            ·rfl
           clear hx298_0
           refine hK.out _ _ trivial (fun hHeld => ?_)
           clear hK K
           refine norm_ (a' := ?_) ?_ ?_
           rotate_left
           ·show Act.put _ (some 10) _ = _
            simp only [Act.put, zs44, zz44, zt44, i64_w, i32_w]
            rfl
           refine pure_ (i := 9) (N := some 13) (v := ?_) (a' := ?_) #[true, true, true, true, true, true, true, true, true, true, false, false] rfl rfl (any_of HT_.out (by kernel_rfl)) (fun _ _ _ h => h) (Or.inl ⟨by rfl, ?_⟩) ?_ ?_
           rotate_left
           ·intro w'
            go_simp
            with_reducible rfl
           rotate_left
           ·simp only [Act.put, zs44, zz44, zt44, i64_w, i32_w]
            rfl
           exact norm_ (by first | (simp only [putAll, Act.put, zs44, zz44, zt44]; done) | (simp only [putAll, Act.put, zs44, zz44, zt44]; rfl)) (hJ1_2_4_6_8 (.slice (some adz_v293) y292.length co19, adz_v293) _ ⟨(z44_10 Zg.out), ⟨_, rfl⟩, (z44_3 Za.out), (z44_5 HI0.out Zb.out), (z44_4 HK.out Zh.out), (z44_6 HB.out HI0.out Zl.out)⟩)
          ·skip
           refine box_step ?hg (N := 3) ?hd (cs := #[.int .i64 0, .int .i64 0, .int .i64 0, .int .i64 0]) (t := 39) ?hr ?_; (case hd => rfl); (case hg => rfl); (case hr => first | (go_simp; done) | (go_simp; rfl))
           intro gb302 hg w20 hbox hb
           have n0_ := zm44 (Kd.R_below (z44_10 Zg.out) hb)
           have n1_ := zm44 (IsS89.below (z44_5 HI0.out Zb.out) hb)
           have n2_ := zm44 (blk_below (g := gb288) (o := .cells #[.int .i64 0, .int .i64 0, .int .i64 0, .int .i64 0] 39 (0, 0)) (z44_3 Za.out) hb)
           have n3_ := zm44 (KeepBut.trans (z44_4 HK.out Zh.out) (KeepBut.of_below hb g none) (.inl rfl))
           have n4_ := zm44 (below_step (z44_6 HB.out HI0.out Zl.out) hb)
           have n5_ := zm44 (hbox)
           have n6_ := zm44 ((by rw [hg]; exact (keep_size (w := w) (g := g) (row := none) (z44_4 HK.out Zh.out)) : w.heap.size ≤ gb302))
           have n7_ := zm44 ((Nat.le_trans HW0.out (by rw [hg]; exact (keep_size (w := w) (g := g) (row := none) (z44_4 HK.out Zh.out)) : w.heap.size ≤ gb302) : w0.heap.size ≤ gb302))
           have n8_ := zm44 ((by rw [hg]; exact Nat.ne_of_lt (blk_lt (g := gb288) (o := .cells #[.int .i64 0, .int .i64 0, .int .i64 0, .int .i64 0] 39 (0, 0)) (z44_3 Za.out)) : gb288 ≠ gb302))
           have n9_ := zm44 ((by rw [hg]; exact Nat.ne_of_gt (blk_lt (g := gb288) (o := .cells #[.int .i64 0, .int .i64 0, .int .i64 0, .int .i64 0] 39 (0, 0)) (z44_3 Za.out)) : gb302 ≠ gb288))
           have n10_ := zm44 ((by rw [hg]; exact Nat.ne_of_lt (IsS89.lt (show IsS89 w0 _ g s0_0 t300 t301 from z44_5 HI0.out Zb.out)) : g ≠ gb302))
           have n11_ := zm44 ((by rw [hg]; exact Nat.ne_of_gt (IsS89.lt (show IsS89 w0 _ g s0_0 t300 t301 from z44_5 HI0.out Zb.out)) : gb302 ≠ g))
           clear Zg
           clear HI0
           clear Za
           clear HK
           clear HB
           have Zg := n0_
           have HI0 := n1_
           have Za := n2_
           have HK := n3_
           have HB := n4_
           have Zf := n5_
           have Zj := n6_
           have Zk := n7_
           have Zd := n8_
           have Ze := n9_
           have Zc := n10_
           have Zi := n11_
           clear n0_ n1_ n2_ n3_ n4_ n5_ n6_ n7_ n8_ n9_ n10_ n11_
           clear hb hbox hg
           refine hK.out _ _ trivial (fun hHeld => ?_)
           clear hK K
           refine norm_ (a' := ?_) ?_ ?_
           rotate_left
           ·show Act.put _ (some 3) _ = _
            simp only [Act.put, zs44, zz44, zt44, i64_w, i32_w]
            rfl
           exact norm_ (by first | (simp only [putAll, Act.put, zs44, zz44, zt44]; done) | (simp only [putAll, Act.put, zs44, zz44, zt44]; rfl)) (hJ1_2_4_8_10 (.slice (some adz_v293) y292.length co19, adz_v293, gb302) _ ⟨(z44_10 Zg.out), ⟨_, rfl⟩, (z44_3 Za.out), (z44_3 Zf.out), Zj.out, Zk.out, Zc.out, Zi.out, Zd.out, Ze.out, (z44_7 HI0.out Zb.out Zc.out), (z44_8 HK.out Zh.out Zj.out), (z44_9 HB.out HI0.out Zl.out Zk.out)⟩)
        ·skip
         rintro ⟨v293, adz_v293⟩ w17 ⟨h0_, h1_, h2_, h3_, h4_, h5_⟩
         have n0_ : Aside0 (Kd.R (Kd.int .i64) 3 w17 w.heap.size (fun _ => True) v293 y292) := ⟨h0_⟩
         have n1_ : Aside0 (∃ c_, (v293 : Value) = .slice (some adz_v293) y292.length c_) := ⟨h1_⟩
         have n2_ : Aside0 (w17.heap[gb288]? = some (.cells #[.int .i64 0, .int .i64 0, .int .i64 0, .int .i64 0] 39 (0, 0))) := ⟨h2_⟩
         have n3_ : Aside0 (IsS89 w0 w17 g s0_0 t296 t297) := ⟨h3_⟩
         have n4_ : Aside0 (KeepBut w w17 g none) := ⟨h4_⟩
         have n5_ : Aside0 (Below w0.heap.size w0 w17) := ⟨h5_⟩
         clear Za
         clear HI0
         clear HK
         clear HB
         clear h0_ h1_ h2_ h3_ h4_ h5_
         have Zg := n0_
         have HA_HO294 := n1_
         have Za := n2_
         have HI0 := n3_
         have HK := n4_
         have HB := n5_
         clear n0_ n1_ n2_ n3_ n4_ n5_
         have hHeld := trivial
         obtain ⟨co18, eo18⟩ := HA_HO294.out
         clear HA_HO294
         subst eo18
         refine norm_ (a' := ?_) ?_ ?_
         rotate_left
         ·simp only [putAll, Act.put, zs44, zz44, zt44]
          rfl
         refine two_ (i := 8) (j := 10) (Ni := some 12) (Nj := some 3) #[true, true, true, true, true, true, true, true, true, false, false, false] #[true, true, true, true, true, true, true, true, false, false, true, false] rfl rfl rfl rfl (two_of HT_.out (by kernel_rfl)) (by decide) (by decide) (fun K hK => ?_) (fun K hK => ?_)
         ·skip
          refine goes_ Try.func66 (by kernel_rfl) rfl #[.pointer (some ⟨g, 0, none⟩), .int .i64 12] (by rfl) rfl rfl (by (try simp only [List.map_toArray, List.map_cons, List.map_nil]); first | done | rfl | (simp only [List.length_drop, List.length_take]; rfl)) ?_
          with_reducible refine (spec_l00Src_next.calls g s0_0 t296 t297 12 t299 t300 t301 w0 _ ?side1 ?side2 A6.out).mono ?_
          (case side1 => repeat (first | (with_reducible first | exact HI0.out | apply IsS89.alloc | apply IsS89.drewN | apply IsS89.drew | apply IsS89.set_1 | apply IsS89.set_2 | refine IsS89.far ?_ Zb.out _) | exact HI0.out))
          (case side2 => repeat (first | (with_reducible first | exact HB.out | apply below_alloc | apply pw_below_drewN | apply below_drew1 | refine below_set ?_ (IsS89.ge HI0.out) | refine below_set ?_ Zl.out) | exact HB.out))
          rintro e w19 ⟨rfl, hi, hb, hk⟩
          refine ⟨_, rfl, ?_⟩
          have n0_ := zm44 (KeepBut.blk hk (g' := gb288) (o := .cells #[.int .i64 0, .int .i64 0, .int .i64 0, .int .i64 0] 39 (0, 0)) (z44_3 Za.out) Zm.out (by simp))
          have n1_ := zm44 (Kd.R_mono (Kd.R_keep (IsS89.apart (show IsS89 w0 _ g s0_0 t296 t297 from z44_5 HI0.out Zb.out) (z44_10 Zg.out) (by decide)) hk (fun _ h => h.2)) (fun _ h => h.1))
          have n2_ := zm44 (KeepBut.trans (z44_4 HK.out Zh.out) hk (.inl rfl))
          have n3_ := zm44 (hb)
          have n4_ := zm44 (hi)
          clear Za
          clear Zg
          clear HK
          clear HB
          clear HI0
          have Za := n0_
          have Zg := n1_
          have HK := n2_
          have HB := n3_
          have HI0 := n4_
          clear n0_ n1_ n2_ n3_ n4_
          (try clear hb)
          (try clear hb2)
          (try clear hk)
          (try clear hi)
          refine hK.out _ _ trivial (fun hHeld => ?_)
          clear hK K
          refine norm_ (a' := ?_) ?_ ?_
          rotate_left
          ·show Act.put _ (some 12) _ = _
           simp only [Act.put, zs44, zz44, zt44, i64_w, i32_w]
           rfl
          refine pure_ (i := 9) (N := some 13) (v := ?_) (a' := ?_) #[true, true, true, true, true, true, true, true, true, true, false, false] rfl rfl (any_of HT_.out (by kernel_rfl)) (fun _ _ _ h => h) (Or.inl ⟨by rfl, ?_⟩) ?_ ?_
          rotate_left
          ·intro w'
           go_simp
           with_reducible rfl
          rotate_left
          ·simp only [Act.put, zs44, zz44, zt44, i64_w, i32_w]
           rfl
          exact norm_ (by first | (simp only [putAll, Act.put, zs44, zz44, zt44]; done) | (simp only [putAll, Act.put, zs44, zz44, zt44]; rfl)) (hJ1_2_4_6_8 (.slice (some adz_v293) y292.length co18, adz_v293) _ ⟨(z44_10 Zg.out), ⟨_, rfl⟩, (z44_3 Za.out), (z44_5 HI0.out Zb.out), (z44_4 HK.out Zh.out), (z44_6 HB.out HI0.out Zl.out)⟩)
         ·skip
          refine box_step ?hg (N := 3) ?hd (cs := #[.int .i64 0, .int .i64 0, .int .i64 0, .int .i64 0]) (t := 39) ?hr ?_; (case hd => rfl); (case hg => rfl); (case hr => first | (go_simp; done) | (go_simp; rfl))
          intro gb302 hg w19 hbox hb
          have n0_ := zm44 (Kd.R_below (z44_10 Zg.out) hb)
          have n1_ := zm44 (IsS89.below (z44_5 HI0.out Zb.out) hb)
          have n2_ := zm44 (blk_below (g := gb288) (o := .cells #[.int .i64 0, .int .i64 0, .int .i64 0, .int .i64 0] 39 (0, 0)) (z44_3 Za.out) hb)
          have n3_ := zm44 (KeepBut.trans (z44_4 HK.out Zh.out) (KeepBut.of_below hb g none) (.inl rfl))
          have n4_ := zm44 (below_step (z44_6 HB.out HI0.out Zl.out) hb)
          have n5_ := zm44 (hbox)
          have n6_ := zm44 ((by rw [hg]; exact (keep_size (w := w) (g := g) (row := none) (z44_4 HK.out Zh.out)) : w.heap.size ≤ gb302))
          have n7_ := zm44 ((Nat.le_trans HW0.out (by rw [hg]; exact (keep_size (w := w) (g := g) (row := none) (z44_4 HK.out Zh.out)) : w.heap.size ≤ gb302) : w0.heap.size ≤ gb302))
          have n8_ := zm44 ((by rw [hg]; exact Nat.ne_of_lt (blk_lt (g := gb288) (o := .cells #[.int .i64 0, .int .i64 0, .int .i64 0, .int .i64 0] 39 (0, 0)) (z44_3 Za.out)) : gb288 ≠ gb302))
          have n9_ := zm44 ((by rw [hg]; exact Nat.ne_of_gt (blk_lt (g := gb288) (o := .cells #[.int .i64 0, .int .i64 0, .int .i64 0, .int .i64 0] 39 (0, 0)) (z44_3 Za.out)) : gb302 ≠ gb288))
          have n10_ := zm44 ((by rw [hg]; exact Nat.ne_of_lt (IsS89.lt (show IsS89 w0 _ g s0_0 t296 t297 from z44_5 HI0.out Zb.out)) : g ≠ gb302))
          have n11_ := zm44 ((by rw [hg]; exact Nat.ne_of_gt (IsS89.lt (show IsS89 w0 _ g s0_0 t296 t297 from z44_5 HI0.out Zb.out)) : gb302 ≠ g))
          clear Zg
          clear HI0
          clear Za
          clear HK
          clear HB
          have Zg := n0_
          have HI0 := n1_
          have Za := n2_
          have HK := n3_
          have HB := n4_
          have Zf := n5_
          have Zj := n6_
          have Zk := n7_
          have Zd := n8_
          have Ze := n9_
          have Zc := n10_
          have Zi := n11_
          clear n0_ n1_ n2_ n3_ n4_ n5_ n6_ n7_ n8_ n9_ n10_ n11_
          clear hb hbox hg
          refine hK.out _ _ trivial (fun hHeld => ?_)
          clear hK K
          refine norm_ (a' := ?_) ?_ ?_
          rotate_left
          ·show Act.put _ (some 3) _ = _
           simp only [Act.put, zs44, zz44, zt44, i64_w, i32_w]
           rfl
          exact norm_ (by first | (simp only [putAll, Act.put, zs44, zz44, zt44]; done) | (simp only [putAll, Act.put, zs44, zz44, zt44]; rfl)) (hJ1_2_4_6_10 (.slice (some adz_v293) y292.length co18, adz_v293, gb302) _ ⟨(z44_10 Zg.out), ⟨_, rfl⟩, (z44_3 Za.out), (z44_3 Zf.out), Zj.out, Zk.out, Zc.out, Zi.out, Zd.out, Ze.out, (z44_7 HI0.out Zb.out Zc.out), (z44_8 HK.out Zh.out Zj.out), (z44_9 HB.out HI0.out Zl.out Zk.out)⟩)
       ·skip
        rintro ⟨v293, adz_v293, gb302⟩ w19 ⟨h0_, h1_, h2_, h3_, h4_, h5_, h6_, h7_, h8_, h9_, h10_, h11_, h12_⟩
        have n0_ : Aside0 (Kd.R (Kd.int .i64) 3 w19 w.heap.size (fun _ => True) v293 y292) := ⟨h0_⟩
        have n1_ : Aside0 (∃ c_, (v293 : Value) = .slice (some adz_v293) y292.length c_) := ⟨h1_⟩
        have n2_ : Aside0 (w19.heap[gb288]? = some (.cells #[.int .i64 0, .int .i64 0, .int .i64 0, .int .i64 0] 39 (0, 0))) := ⟨h2_⟩
        have n3_ : Aside0 (w19.heap[gb302]? = some (.cells #[.int .i64 0, .int .i64 0, .int .i64 0, .int .i64 0] 39 (0, 0))) := ⟨h3_⟩
        have n4_ : Aside0 (w.heap.size ≤ gb302) := ⟨h4_⟩
        have n5_ : Aside0 (w0.heap.size ≤ gb302) := ⟨h5_⟩
        have n6_ : Aside0 (g ≠ gb302) := ⟨h6_⟩
        have n7_ : Aside0 (gb302 ≠ g) := ⟨h7_⟩
        have n8_ : Aside0 (gb288 ≠ gb302) := ⟨h8_⟩
        have n9_ : Aside0 (gb302 ≠ gb288) := ⟨h9_⟩
        have n10_ : Aside0 (IsS89 w0 w19 g s0_0 t300 t301) := ⟨h10_⟩
        have n11_ : Aside0 (KeepBut w w19 g none) := ⟨h11_⟩
        have n12_ : Aside0 (Below w0.heap.size w0 w19) := ⟨h12_⟩
        clear Za
        clear HI0
        clear HK
        clear HB
        clear h0_ h1_ h2_ h3_ h4_ h5_ h6_ h7_ h8_ h9_ h10_ h11_ h12_
        have Zg := n0_
        have HA_HO294 := n1_
        have Za := n2_
        have Zf := n3_
        have Zj := n4_
        have Zk := n5_
        have Zc := n6_
        have Zi := n7_
        have Zd := n8_
        have Ze := n9_
        have HI0 := n10_
        have HK := n11_
        have HB := n12_
        clear n0_ n1_ n2_ n3_ n4_ n5_ n6_ n7_ n8_ n9_ n10_ n11_ n12_
        have hHeld := trivial
        obtain ⟨co20, eo20⟩ := HA_HO294.out
        clear HA_HO294
        subst eo20
        refine norm_ (a' := ?_) ?_ ?_
        rotate_left
        ·simp only [putAll, Act.put, zs44, zz44, zt44]
         rfl
        refine one_ (i := 6) (N := some 10) #[true, true, true, true, true, true, true, true, true, false, true, false] rfl rfl (one_of HT_.out (by kernel_rfl)) (by decide) (fun K hK => ?_)
        (have p298 : 0 ≤ (t295 : Int) := of_decide_eq_true (by first | (with_reducible assumption) | assumption); have q298 : t295 < (y292.length : Int) := of_decide_eq_true (by first | (with_reducible assumption) | assumption); obtain ⟨ad298, e298, hx298_0⟩ := Kd.at_int (Kd.R_reads' Zg.out).2.2 t295 p298 q298; obtain rfl : adz_v293 = ad298 := (by injection e298))
        refine value_ (w1 := ?_) (v := ?_) (by rfl) rfl ?_ ?_
        rotate_left 2
        ·go_simp
         constructor
         ·rfl
         ·rfl
        clear hx298_0
        refine hK.out _ _ trivial (fun hHeld => ?_)
        clear hK K
        refine norm_ (a' := ?_) ?_ ?_
        rotate_left
        ·show Act.put _ (some 10) _ = _
         simp only [Act.put, zs44, zz44, zt44, i64_w, i32_w]
         rfl
        refine pure_ (i := 9) (N := some 13) (v := ?_) (a' := ?_) #[true, true, true, true, true, true, true, true, true, true, true, false] rfl rfl (any_of HT_.out (by kernel_rfl)) (fun _ _ _ h => h) (Or.inl ⟨by rfl, ?_⟩) ?_ ?_
        rotate_left
        ·intro w'
         go_simp
         with_reducible rfl
        rotate_left
        ·simp only [Act.put, zs44, zz44, zt44, i64_w, i32_w]
         rfl
        exact norm_ (by first | (simp only [putAll, Act.put, zs44, zz44, zt44]; done) | (simp only [putAll, Act.put, zs44, zz44, zt44]; rfl)) (hJ1_2_4_6_8_10 (.slice (some adz_v293) y292.length co20, adz_v293, gb302) _ ⟨(z44_10 Zg.out), ⟨_, rfl⟩, (z44_3 Za.out), (z44_3 Zf.out), Zj.out, Zk.out, Zc.out, Zi.out, Zd.out, Ze.out, (z44_7 HI0.out Zb.out Zc.out), (z44_8 HK.out Zh.out Zj.out), (z44_9 HB.out HI0.out Zl.out Zk.out)⟩)
      ·skip
       rintro ⟨v293, adz_v293, gb302⟩ w18 ⟨h0_, h1_, h2_, h3_, h4_, h5_, h6_, h7_, h8_, h9_, h10_, h11_, h12_⟩
       have n0_ : Aside0 (Kd.R (Kd.int .i64) 3 w18 w.heap.size (fun _ => True) v293 y292) := ⟨h0_⟩
       have n1_ : Aside0 (∃ c_, (v293 : Value) = .slice (some adz_v293) y292.length c_) := ⟨h1_⟩
       have n2_ : Aside0 (w18.heap[gb288]? = some (.cells #[.int .i64 0, .int .i64 0, .int .i64 0, .int .i64 0] 39 (0, 0))) := ⟨h2_⟩
       have n3_ : Aside0 (w18.heap[gb302]? = some (.cells #[.int .i64 0, .int .i64 0, .int .i64 0, .int .i64 0] 39 (0, 0))) := ⟨h3_⟩
       have n4_ : Aside0 (w.heap.size ≤ gb302) := ⟨h4_⟩
       have n5_ : Aside0 (w0.heap.size ≤ gb302) := ⟨h5_⟩
       have n6_ : Aside0 (g ≠ gb302) := ⟨h6_⟩
       have n7_ : Aside0 (gb302 ≠ g) := ⟨h7_⟩
       have n8_ : Aside0 (gb288 ≠ gb302) := ⟨h8_⟩
       have n9_ : Aside0 (gb302 ≠ gb288) := ⟨h9_⟩
       have n10_ : Aside0 (IsS89 w0 w18 g s0_0 t296 t297) := ⟨h10_⟩
       have n11_ : Aside0 (KeepBut w w18 g none) := ⟨h11_⟩
       have n12_ : Aside0 (Below w0.heap.size w0 w18) := ⟨h12_⟩
       clear Za
       clear HI0
       clear HK
       clear HB
       clear h0_ h1_ h2_ h3_ h4_ h5_ h6_ h7_ h8_ h9_ h10_ h11_ h12_
       have Zg := n0_
       have HA_HO294 := n1_
       have Za := n2_
       have Zf := n3_
       have Zj := n4_
       have Zk := n5_
       have Zc := n6_
       have Zi := n7_
       have Zd := n8_
       have Ze := n9_
       have HI0 := n10_
       have HK := n11_
       have HB := n12_
       clear n0_ n1_ n2_ n3_ n4_ n5_ n6_ n7_ n8_ n9_ n10_ n11_ n12_
       have hHeld := trivial
       obtain ⟨co19, eo19⟩ := HA_HO294.out
       clear HA_HO294
       subst eo19
       refine norm_ (a' := ?_) ?_ ?_
       rotate_left
       ·simp only [putAll, Act.put, zs44, zz44, zt44]
        rfl
       refine one_ (i := 8) (N := some 12) #[true, true, true, true, true, true, true, true, true, false, true, false] rfl rfl (one_of HT_.out (by kernel_rfl)) (by decide) (fun K hK => ?_)
       refine goes_ Try.func66 (by kernel_rfl) rfl #[.pointer (some ⟨g, 0, none⟩), .int .i64 12] (by rfl) rfl rfl (by (try simp only [List.map_toArray, List.map_cons, List.map_nil]); first | done | rfl | (simp only [List.length_drop, List.length_take]; rfl)) ?_
       with_reducible refine (spec_l00Src_next.calls g s0_0 t296 t297 12 t299 t300 t301 w0 _ ?side1 ?side2 A6.out).mono ?_
       (case side1 => repeat (first | (with_reducible first | exact HI0.out | apply IsS89.alloc | apply IsS89.drewN | apply IsS89.drew | apply IsS89.set_1 | apply IsS89.set_2 | refine IsS89.far ?_ Zb.out _ | refine IsS89.far ?_ Zc.out _) | exact HI0.out))
       (case side2 => repeat (first | (with_reducible first | exact HB.out | apply below_alloc | apply pw_below_drewN | apply below_drew1 | refine below_set ?_ (IsS89.ge HI0.out) | refine below_set ?_ Zl.out | refine below_set ?_ Zk.out) | exact HB.out))
       rintro e w20 ⟨rfl, hi, hb, hk⟩
       refine ⟨_, rfl, ?_⟩
       have n0_ := zm44 (KeepBut.blk hk (g' := gb288) (o := .cells #[.int .i64 0, .int .i64 0, .int .i64 0, .int .i64 0] 39 (0, 0)) (z44_3 Za.out) Zm.out (by simp))
       have n1_ := zm44 (Kd.R_mono (Kd.R_keep (IsS89.apart (show IsS89 w0 _ g s0_0 t296 t297 from z44_7 HI0.out Zb.out Zc.out) (z44_10 Zg.out) (by decide)) hk (fun _ h => h.2)) (fun _ h => h.1))
       have n2_ := zm44 (KeepBut.blk hk (g' := gb302) (o := .cells #[.int .i64 0, .int .i64 0, .int .i64 0, .int .i64 0] 39 (0, 0)) (z44_3 Zf.out) Zi.out (by simp))
       have n3_ := zm44 (KeepBut.trans (z44_8 HK.out Zh.out Zj.out) hk (.inl rfl))
       have n4_ := zm44 (hb)
       have n5_ := zm44 (hi)
       clear Za
       clear Zg
       clear Zf
       clear HK
       clear HB
       clear HI0
       have Za := n0_
       have Zg := n1_
       have Zf := n2_
       have HK := n3_
       have HB := n4_
       have HI0 := n5_
       clear n0_ n1_ n2_ n3_ n4_ n5_
       (try clear hb)
       (try clear hb2)
       (try clear hk)
       (try clear hi)
       refine hK.out _ _ trivial (fun hHeld => ?_)
       clear hK K
       refine norm_ (a' := ?_) ?_ ?_
       rotate_left
       ·show Act.put _ (some 12) _ = _
        simp only [Act.put, zs44, zz44, zt44, i64_w, i32_w]
        rfl
       refine pure_ (i := 9) (N := some 13) (v := ?_) (a' := ?_) #[true, true, true, true, true, true, true, true, true, true, true, false] rfl rfl (any_of HT_.out (by kernel_rfl)) (fun _ _ _ h => h) (Or.inl ⟨by rfl, ?_⟩) ?_ ?_
       rotate_left
       ·intro w'
        go_simp
        with_reducible rfl
       rotate_left
       ·simp only [Act.put, zs44, zz44, zt44, i64_w, i32_w]
        rfl
       exact norm_ (by first | (simp only [putAll, Act.put, zs44, zz44, zt44]; done) | (simp only [putAll, Act.put, zs44, zz44, zt44]; rfl)) (hJ1_2_4_6_8_10 (.slice (some adz_v293) y292.length co19, adz_v293, gb302) _ ⟨(z44_10 Zg.out), ⟨_, rfl⟩, (z44_3 Za.out), (z44_3 Zf.out), Zj.out, Zk.out, Zc.out, Zi.out, Zd.out, Ze.out, (z44_7 HI0.out Zb.out Zc.out), (z44_8 HK.out Zh.out Zj.out), (z44_9 HB.out HI0.out Zl.out Zk.out)⟩)
     ·skip
      rintro ⟨v293, adz_v293⟩ w18 ⟨h0_, h1_, h2_, h3_, h4_, h5_⟩
      have n0_ : Aside0 (Kd.R (Kd.int .i64) 3 w18 w.heap.size (fun _ => True) v293 y292) := ⟨h0_⟩
      have n1_ : Aside0 (∃ c_, (v293 : Value) = .slice (some adz_v293) y292.length c_) := ⟨h1_⟩
      have n2_ : Aside0 (w18.heap[gb288]? = some (.cells #[.int .i64 0, .int .i64 0, .int .i64 0, .int .i64 0] 39 (0, 0))) := ⟨h2_⟩
      have n3_ : Aside0 (IsS89 w0 w18 g s0_0 t300 t301) := ⟨h3_⟩
      have n4_ : Aside0 (KeepBut w w18 g none) := ⟨h4_⟩
      have n5_ : Aside0 (Below w0.heap.size w0 w18) := ⟨h5_⟩
      clear Za
      clear HI0
      clear HK
      clear HB
      clear h0_ h1_ h2_ h3_ h4_ h5_
      have Zg := n0_
      have HA_HO294 := n1_
      have Za := n2_
      have HI0 := n3_
      have HK := n4_
      have HB := n5_
      clear n0_ n1_ n2_ n3_ n4_ n5_
      have hHeld := trivial
      obtain ⟨co19, eo19⟩ := HA_HO294.out
      clear HA_HO294
      subst eo19
      refine norm_ (a' := ?_) ?_ ?_
      rotate_left
      ·simp only [putAll, Act.put, zs44, zz44, zt44]
       rfl
      refine one_ (i := 10) (N := some 3) #[true, true, true, true, true, true, true, true, true, true, true, false] rfl rfl (one_of HT_.out (by kernel_rfl)) (by decide) (fun K hK => ?_)
      refine box_step ?hg (N := 3) ?hd (cs := #[.int .i64 0, .int .i64 0, .int .i64 0, .int .i64 0]) (t := 39) ?hr ?_; (case hd => rfl); (case hg => rfl); (case hr => first | (go_simp; done) | (go_simp; rfl))
      intro gb302 hg w20 hbox hb
      have n0_ := zm44 (Kd.R_below (z44_10 Zg.out) hb)
      have n1_ := zm44 (IsS89.below (z44_5 HI0.out Zb.out) hb)
      have n2_ := zm44 (blk_below (g := gb288) (o := .cells #[.int .i64 0, .int .i64 0, .int .i64 0, .int .i64 0] 39 (0, 0)) (z44_3 Za.out) hb)
      have n3_ := zm44 (KeepBut.trans (z44_4 HK.out Zh.out) (KeepBut.of_below hb g none) (.inl rfl))
      have n4_ := zm44 (below_step (z44_6 HB.out HI0.out Zl.out) hb)
      have n5_ := zm44 (hbox)
      have n6_ := zm44 ((by rw [hg]; exact (keep_size (w := w) (g := g) (row := none) (z44_4 HK.out Zh.out)) : w.heap.size ≤ gb302))
      have n7_ := zm44 ((Nat.le_trans HW0.out (by rw [hg]; exact (keep_size (w := w) (g := g) (row := none) (z44_4 HK.out Zh.out)) : w.heap.size ≤ gb302) : w0.heap.size ≤ gb302))
      have n8_ := zm44 ((by rw [hg]; exact Nat.ne_of_lt (blk_lt (g := gb288) (o := .cells #[.int .i64 0, .int .i64 0, .int .i64 0, .int .i64 0] 39 (0, 0)) (z44_3 Za.out)) : gb288 ≠ gb302))
      have n9_ := zm44 ((by rw [hg]; exact Nat.ne_of_gt (blk_lt (g := gb288) (o := .cells #[.int .i64 0, .int .i64 0, .int .i64 0, .int .i64 0] 39 (0, 0)) (z44_3 Za.out)) : gb302 ≠ gb288))
      have n10_ := zm44 ((by rw [hg]; exact Nat.ne_of_lt (IsS89.lt (show IsS89 w0 _ g s0_0 t300 t301 from z44_5 HI0.out Zb.out)) : g ≠ gb302))
      have n11_ := zm44 ((by rw [hg]; exact Nat.ne_of_gt (IsS89.lt (show IsS89 w0 _ g s0_0 t300 t301 from z44_5 HI0.out Zb.out)) : gb302 ≠ g))
      clear Zg
      clear HI0
      clear Za
      clear HK
      clear HB
      have Zg := n0_
      have HI0 := n1_
      have Za := n2_
      have HK := n3_
      have HB := n4_
      have Zf := n5_
      have Zj := n6_
      have Zk := n7_
      have Zd := n8_
      have Ze := n9_
      have Zc := n10_
      have Zi := n11_
      clear n0_ n1_ n2_ n3_ n4_ n5_ n6_ n7_ n8_ n9_ n10_ n11_
      clear hb hbox hg
      refine hK.out _ _ trivial (fun hHeld => ?_)
      clear hK K
      refine norm_ (a' := ?_) ?_ ?_
      rotate_left
      ·show Act.put _ (some 3) _ = _
       simp only [Act.put, zs44, zz44, zt44, i64_w, i32_w]
       rfl
      exact norm_ (by first | (simp only [putAll, Act.put, zs44, zz44, zt44]; done) | (simp only [putAll, Act.put, zs44, zz44, zt44]; rfl)) (hJ1_2_4_6_8_10 (.slice (some adz_v293) y292.length co19, adz_v293, gb302) _ ⟨(z44_10 Zg.out), ⟨_, rfl⟩, (z44_3 Za.out), (z44_3 Zf.out), Zj.out, Zk.out, Zc.out, Zi.out, Zd.out, Ze.out, (z44_7 HI0.out Zb.out Zc.out), (z44_8 HK.out Zh.out Zj.out), (z44_9 HB.out HI0.out Zl.out Zk.out)⟩)
    rintro ⟨v293, adz_v293, gb302⟩ w19 ⟨h0_, h1_, h2_, h3_, h4_, h5_, h6_, h7_, h8_, h9_, h10_, h11_, h12_⟩
    have n0_ : Aside0 (Kd.R (Kd.int .i64) 3 w19 w.heap.size (fun _ => True) v293 y292) := ⟨h0_⟩
    have n1_ : Aside0 (∃ c_, (v293 : Value) = .slice (some adz_v293) y292.length c_) := ⟨h1_⟩
    have n2_ : Aside0 (w19.heap[gb288]? = some (.cells #[.int .i64 0, .int .i64 0, .int .i64 0, .int .i64 0] 39 (0, 0))) := ⟨h2_⟩
    have n3_ : Aside0 (w19.heap[gb302]? = some (.cells #[.int .i64 0, .int .i64 0, .int .i64 0, .int .i64 0] 39 (0, 0))) := ⟨h3_⟩
    have n4_ : Aside0 (w.heap.size ≤ gb302) := ⟨h4_⟩
    have n5_ : Aside0 (w0.heap.size ≤ gb302) := ⟨h5_⟩
    have n6_ : Aside0 (g ≠ gb302) := ⟨h6_⟩
    have n7_ : Aside0 (gb302 ≠ g) := ⟨h7_⟩
    have n8_ : Aside0 (gb288 ≠ gb302) := ⟨h8_⟩
    have n9_ : Aside0 (gb302 ≠ gb288) := ⟨h9_⟩
    have n10_ : Aside0 (IsS89 w0 w19 g s0_0 t300 t301) := ⟨h10_⟩
    have n11_ : Aside0 (KeepBut w w19 g none) := ⟨h11_⟩
    have n12_ : Aside0 (Below w0.heap.size w0 w19) := ⟨h12_⟩
    clear Za
    clear HI0
    clear HK
    clear HB
    clear h0_ h1_ h2_ h3_ h4_ h5_ h6_ h7_ h8_ h9_ h10_ h11_ h12_
    have Zg := n0_
    have HA_HO294 := n1_
    have Za := n2_
    have Zf := n3_
    have Zj := n4_
    have Zk := n5_
    have Zc := n6_
    have Zi := n7_
    have Zd := n8_
    have Ze := n9_
    have HI0 := n10_
    have HK := n11_
    have HB := n12_
    clear n0_ n1_ n2_ n3_ n4_ n5_ n6_ n7_ n8_ n9_ n10_ n11_ n12_
    have hHeld := trivial
    obtain ⟨co20, eo20⟩ := HA_HO294.out
    clear HA_HO294
    subst eo20
    refine norm_ (a' := ?_) ?_ ?_
    rotate_left
    ·simp only [putAll, Act.put, zs44, zz44, zt44]
     rfl
    refine one_ (i := 11) (N := none) #[true, true, true, true, true, true, true, true, true, true, true, true] rfl rfl (one_of HT_.out (by kernel_rfl)) (by decide) (fun K hK => ?_)
    have hs21 : w19.cell? ⟨gb302, 0, none⟩ = some (.int .i64 0) := (blk_cell Zf.out 0).trans rfl
    have hfs21 := blk_frozen Zf.out 0
    have hns21_0 := Zd.out
    have hms21_0 := Ze.out
    have hs22 : w19.cell? ⟨gb302, 1, none⟩ = some (.int .i64 0) := (blk_cell Zf.out 1).trans rfl
    have hfs22 := blk_frozen Zf.out 1
    have hns22_0 := Zd.out
    have hms22_0 := Ze.out
    have hs23 : w19.cell? ⟨gb302, 2, none⟩ = some (.int .i64 0) := (blk_cell Zf.out 2).trans rfl
    have hfs23 := blk_frozen Zf.out 2
    have hns23_0 := Zd.out
    have hms23_0 := Ze.out
    have hs24 : w19.cell? ⟨gb302, 3, none⟩ = some (.int .i64 0) := (blk_cell Zf.out 3).trans rfl
    have hfs24 := blk_frozen Zf.out 3
    have hns24_0 := Zd.out
    have hms24_0 := Ze.out
    refine skip_ (w1 := ?_) (by rfl) rfl ?_ ?_
    rotate_left
    ·go_simp
     rfl
    refine hK.out _ _ trivial (fun hHeld => ?_)
    clear hK K
    refine done_ (done_of HT_.out (by kernel_rfl)) ?_
    have hnb25 := Ze.out
    have hnc25 := Zd.out
    have hnb26 := Zi.out
    have hnc26 := Zc.out
    have hcz27_0 : w19.cell? ⟨gb302, 0, none⟩ = some (.int .i64 0) := (blk_cell Zf.out 0).trans rfl
    have hcz27_1 : w19.cell? ⟨gb302, 1, none⟩ = some (.int .i64 0) := (blk_cell Zf.out 1).trans rfl
    have hcz27_2 : w19.cell? ⟨gb302, 2, none⟩ = some (.int .i64 0) := (blk_cell Zf.out 2).trans rfl
    have hcz27_3 : w19.cell? ⟨gb302, 3, none⟩ = some (.int .i64 0) := (blk_cell Zf.out 3).trans rfl
    have hfz27_0 := blk_frozen Zf.out 0
    have hfz27_1 := blk_frozen Zf.out 1
    have hfz27_2 := blk_frozen Zf.out 2
    have hfz27_3 := blk_frozen Zf.out 3
    try go_wp2_with (first | ((with_reducible refine gate_callee (f := 66) rfl ?_); refine goesL_ (some 18) rfl rfl Try.func66 (by kernel_rfl) rfl #[.pointer (some ⟨g, 0, none⟩), .int .i64 (wrap64 (t299 + 1))] rfl (by (try simp only [List.map_toArray, List.map_cons, List.map_nil]); first | done | rfl | (simp only [List.length_drop, List.length_take]; rfl)) ?_; (with_reducible refine (spec_l00Src_next.calls g s0_0 t300 t301 (wrap64 (t299 + 1)) t303 t304 t305 w0 _ ?side1 ?side2 A7.out).mono ?_); (case side1 => repeat (first | (with_reducible first | exact HI0.out | apply IsS89.alloc | apply IsS89.drewN | apply IsS89.drew | apply IsS89.set_1 | apply IsS89.set_2 | refine IsS89.far ?_ Zb.out _ | refine IsS89.far ?_ Zc.out _) | exact HI0.out)); (case side2 => repeat (first | (with_reducible first | exact HB.out | apply below_alloc | apply pw_below_drewN | apply below_drew1 | refine below_set ?_ (IsS89.ge HI0.out) | refine below_set ?_ Zl.out | refine below_set ?_ Zk.out) | exact HB.out)); rintro e w28 ⟨rfl, hi, hb, hk⟩; refine ⟨_, rfl, ?_⟩; have n0_ := zm44 (KeepBut.blk hk (g' := gb288) (o := .cells #[.int .i64 0, .int .i64 0, .int .i64 0, .int .i64 0] 39 (0, 0)) (by (with_reducible repeat (first | refine blk_drewN ?_ _ | refine blk_drew ?_ | refine blk_alloc ?_ _)); refine blk_far ?_ Zd.out _; (with_reducible repeat (first | refine blk_drewN ?_ _ | refine blk_drew ?_ | refine blk_alloc ?_ _)); refine blk_far ?_ Zd.out _; (with_reducible repeat (first | refine blk_drewN ?_ _ | refine blk_drew ?_ | refine blk_alloc ?_ _)); refine blk_far ?_ Zd.out _; (with_reducible repeat (first | refine blk_drewN ?_ _ | refine blk_drew ?_ | refine blk_alloc ?_ _)); refine blk_far ?_ Zd.out _; (with_reducible repeat (first | refine blk_drewN ?_ _ | refine blk_drew ?_ | refine blk_alloc ?_ _)); exact Za.out) Zm.out (by simp)); have n1_ := zm44 (Kd.R_mono (Kd.R_keep (IsS89.apart (show IsS89 w0 _ g s0_0 t300 t301 from z44_7 HI0.out Zb.out Zc.out) (by (with_reducible repeat (first | apply Kd.R_alloc | apply Kd.R_drewN | apply Kd.R_drew)); exact (Kd.R_mono (Kd.R_far (p := ⟨gb302, 3, none⟩) (Kd.R_far (p := ⟨gb302, 2, none⟩) (Kd.R_far (p := ⟨gb302, 1, none⟩) (Kd.R_far (p := ⟨gb302, 0, none⟩) (Kd.R_types Zg.out Zf.out (by decide)) (fun _ hk => hk.2) (.int .i64 (rd y292 t295))) (fun _ hk => hk.2) (.int .i64 t299)) (fun _ hk => hk.2) (.int .i64 0)) (fun _ hk => hk.2) (.int .i64 0)) (fun _ h_ => h_.1))) (by decide)) hk (fun _ h => h.2)) (fun _ h => h.1)); have n2_ := zm44 (KeepBut.blk hk (g' := gb302) (o := .cells #[.int .i64 (rd y292 t295), .int .i64 t299, .int .i64 0, .int .i64 0] 39 (0, 0)) (by (with_reducible repeat (first | refine blk_drewN ?_ _ | refine blk_drew ?_ | refine blk_alloc ?_ _)); refine blk_put (cs := #[.int .i64 (rd y292 t295), .int .i64 t299, .int .i64 0, .int .i64 0]) ?_ 3 _ rfl; (with_reducible repeat (first | refine blk_drewN ?_ _ | refine blk_drew ?_ | refine blk_alloc ?_ _)); refine blk_put (cs := #[.int .i64 (rd y292 t295), .int .i64 t299, .int .i64 0, .int .i64 0]) ?_ 2 _ rfl; (with_reducible repeat (first | refine blk_drewN ?_ _ | refine blk_drew ?_ | refine blk_alloc ?_ _)); refine blk_put (cs := #[.int .i64 (rd y292 t295), .int .i64 0, .int .i64 0, .int .i64 0]) ?_ 1 _ rfl; (with_reducible repeat (first | refine blk_drewN ?_ _ | refine blk_drew ?_ | refine blk_alloc ?_ _)); refine blk_put (cs := #[.int .i64 0, .int .i64 0, .int .i64 0, .int .i64 0]) ?_ 0 _ rfl; (with_reducible repeat (first | refine blk_drewN ?_ _ | refine blk_drew ?_ | refine blk_alloc ?_ _)); exact Zf.out) Zi.out (by simp)); have n3_ := zm44 (KeepBut.trans (z44_8 HK.out Zh.out Zj.out) hk (.inl rfl)); have n4_ := zm44 (hb); have n5_ := zm44 (hi); clear Za; clear Zg; clear Zf; clear HK; clear HB; clear HI0; have Za := n0_; have Zg := n1_; have Zf := n2_; have HK := n3_; have HB := n4_; have HI0 := n5_; clear n0_ n1_ n2_ n3_ n4_ n5_; (try clear hb); (try clear hb2); (try clear hk); (try clear hi); have hcz29_0 : w28.cell? ⟨gb302, 0, none⟩ = some (.int .i64 (rd y292 t295)) := (blk_cell Zf.out 0).trans rfl; have hcz29_1 : w28.cell? ⟨gb302, 1, none⟩ = some (.int .i64 t299) := (blk_cell Zf.out 1).trans rfl; have hcz29_2 : w28.cell? ⟨gb302, 2, none⟩ = some (.int .i64 0) := (blk_cell Zf.out 2).trans rfl; have hcz29_3 : w28.cell? ⟨gb302, 3, none⟩ = some (.int .i64 0) := (blk_cell Zf.out 3).trans rfl; have hfz29_0 := blk_frozen Zf.out 0; have hfz29_1 := blk_frozen Zf.out 1; have hfz29_2 := blk_frozen Zf.out 2; have hfz29_3 := blk_frozen Zf.out 3) | ((with_reducible refine gate_callee (f := 66) rfl ?_); refine goesL_ (some 24) rfl rfl Try.func66 (by kernel_rfl) rfl #[.pointer (some ⟨g, 0, none⟩), .int .i64 9] rfl (by (try simp only [List.map_toArray, List.map_cons, List.map_nil]); first | done | rfl | (simp only [List.length_drop, List.length_take]; rfl)) ?_; (with_reducible refine (spec_l00Src_next.calls g s0_0 t304 t305 9 t306 t307 t308 w0 _ ?side1 ?side2 A9.out).mono ?_); (case side1 => repeat (first | (with_reducible first | exact HI0.out | apply IsS89.alloc | apply IsS89.drewN | apply IsS89.drew | apply IsS89.set_1 | apply IsS89.set_2 | refine IsS89.far ?_ Zb.out _ | refine IsS89.far ?_ Zc.out _) | exact HI0.out)); (case side2 => repeat (first | (with_reducible first | exact HB.out | apply below_alloc | apply pw_below_drewN | apply below_drew1 | refine below_set ?_ (IsS89.ge HI0.out) | refine below_set ?_ Zl.out | refine below_set ?_ Zk.out) | exact HB.out)); rintro e w30 ⟨rfl, hi, hb, hk⟩; refine ⟨_, rfl, ?_⟩; have n0_ := zm44 (KeepBut.blk hk (g' := gb288) (o := .cells #[.int .i64 0, .int .i64 0, .int .i64 0, .int .i64 0] 39 (0, 0)) (by (with_reducible repeat (first | refine blk_drewN ?_ _ | refine blk_drew ?_ | refine blk_alloc ?_ _)); refine blk_far ?_ Zd.out _; (with_reducible repeat (first | refine blk_drewN ?_ _ | refine blk_drew ?_ | refine blk_alloc ?_ _)); exact Za.out) Zm.out (by simp)); have n1_ := zm44 (Kd.R_mono (Kd.R_keep (IsS89.apart (show IsS89 w0 _ g s0_0 t304 t305 from z44_7 HI0.out Zb.out Zc.out) (by (with_reducible repeat (first | apply Kd.R_alloc | apply Kd.R_drewN | apply Kd.R_drew)); exact (Kd.R_mono (Kd.R_far (p := ⟨gb302, 2, none⟩) (Kd.R_types Zg.out Zf.out (by decide)) (fun _ hk => hk.2) (.int .i64 t303)) (fun _ h_ => h_.1))) (by decide)) hk (fun _ h => h.2)) (fun _ h => h.1)); have n2_ := zm44 (KeepBut.blk hk (g' := gb302) (o := .cells #[.int .i64 (rd y292 t295), .int .i64 t299, .int .i64 t303, .int .i64 0] 39 (0, 0)) (by (with_reducible repeat (first | refine blk_drewN ?_ _ | refine blk_drew ?_ | refine blk_alloc ?_ _)); refine blk_put (cs := #[.int .i64 (rd y292 t295), .int .i64 t299, .int .i64 0, .int .i64 0]) ?_ 2 _ rfl; (with_reducible repeat (first | refine blk_drewN ?_ _ | refine blk_drew ?_ | refine blk_alloc ?_ _)); exact Zf.out) Zi.out (by simp)); have n3_ := zm44 (KeepBut.trans (z44_8 HK.out Zh.out Zj.out) hk (.inl rfl)); have n4_ := zm44 (hb); have n5_ := zm44 (hi); clear Za; clear Zg; clear Zf; clear HK; clear HB; clear HI0; have Za := n0_; have Zg := n1_; have Zf := n2_; have HK := n3_; have HB := n4_; have HI0 := n5_; clear n0_ n1_ n2_ n3_ n4_ n5_; (try clear hb); (try clear hb2); (try clear hk); (try clear hi); have hcz31_0 : w30.cell? ⟨gb302, 0, none⟩ = some (.int .i64 (rd y292 t295)) := (blk_cell Zf.out 0).trans rfl; have hcz31_1 : w30.cell? ⟨gb302, 1, none⟩ = some (.int .i64 t299) := (blk_cell Zf.out 1).trans rfl; have hcz31_2 : w30.cell? ⟨gb302, 2, none⟩ = some (.int .i64 t303) := (blk_cell Zf.out 2).trans rfl; have hcz31_3 : w30.cell? ⟨gb302, 3, none⟩ = some (.int .i64 0) := (blk_cell Zf.out 3).trans rfl; have hfz31_0 := blk_frozen Zf.out 0; have hfz31_1 := blk_frozen Zf.out 1; have hfz31_2 := blk_frozen Zf.out 2; have hfz31_3 := blk_frozen Zf.out 3; have hnb32 := Zm.out; have hnc32 := Zb.out; have hcz33_0 : w30.cell? ⟨gb288, 0, none⟩ = some (.int .i64 0) := (blk_cell Za.out 0).trans rfl; have hcz33_1 : w30.cell? ⟨gb288, 1, none⟩ = some (.int .i64 0) := (blk_cell Za.out 1).trans rfl; have hcz33_2 : w30.cell? ⟨gb288, 2, none⟩ = some (.int .i64 0) := (blk_cell Za.out 2).trans rfl; have hcz33_3 : w30.cell? ⟨gb288, 3, none⟩ = some (.int .i64 0) := (blk_cell Za.out 3).trans rfl; have hfz33_0 := blk_frozen Za.out 0; have hfz33_1 := blk_frozen Za.out 1; have hfz33_2 := blk_frozen Za.out 2; have hfz33_3 := blk_frozen Za.out 3))
    refine bodyPost_ret (results_cell_row rfl _ _ gb288 39 #[.int .i64 (rd y292 t295), .int .i64 t299, .int .i64 t303, .int .i64 t306] (0, 0) _ rfl (by (with_reducible repeat (first | refine blk_drewN ?_ _ | refine blk_drew ?_ | refine blk_alloc ?_ _)); refine blk_put (cs := #[.int .i64 (rd y292 t295), .int .i64 t299, .int .i64 t303, .int .i64 0]) ?_ 3 _ rfl; (with_reducible repeat (first | refine blk_drewN ?_ _ | refine blk_drew ?_ | refine blk_alloc ?_ _)); refine blk_put (cs := #[.int .i64 (rd y292 t295), .int .i64 t299, .int .i64 0, .int .i64 0]) ?_ 2 _ rfl; (with_reducible repeat (first | refine blk_drewN ?_ _ | refine blk_drew ?_ | refine blk_alloc ?_ _)); refine blk_put (cs := #[.int .i64 (rd y292 t295), .int .i64 0, .int .i64 0, .int .i64 0]) ?_ 1 _ rfl; (with_reducible repeat (first | refine blk_drewN ?_ _ | refine blk_drew ?_ | refine blk_alloc ?_ _)); refine blk_put (cs := #[.int .i64 0, .int .i64 0, .int .i64 0, .int .i64 0]) ?_ 0 _ rfl; (with_reducible repeat (first | refine blk_drewN ?_ _ | refine blk_drew ?_ | refine blk_alloc ?_ _)); refine blk_far ?_ Zd.out _; (with_reducible repeat (first | refine blk_drewN ?_ _ | refine blk_drew ?_ | refine blk_alloc ?_ _)); exact Za.out) Try.underlying39 rfl (by kernel_rfl)) rfl ?_
    exact ⟨by first | rfl | (simp [errW_none, errW_some] <;> rfl) | (simp [*, errW_none, errW_some] <;> rfl), z44_7 HI0.out Zb.out Zc.out, z44_9 HB.out HI0.out Zl.out Zk.out, z44_8 HK.out Zh.out Zj.out⟩
   ·rw [if_neg c8] at H
    have c8b0 : decide (0 < t303) = false := decide_eq_false c8
    clear c8
    simp only [Option.some.injEq, Prod.mk.injEq] at H
    obtain ⟨rfl, rfl, rfl, rfl, rfl, rfl⟩ := H
    go_enter Try.func44, Try.ntmps44
    try go_wp2_with (first | ((with_reducible refine gate_dst (N := 2) rfl ?_); refine box_event ?hg (N := 2) ?hd (cs := #[.int .i64 0, .int .i64 0, .int .i64 0, .int .i64 0]) (t := 39) ?hr ?_; (case hd => rfl); (case hg => rfl); (case hr => first | (go_simp; done) | (go_simp; rfl)); intro gb288 hg w34 hbox hb; have n0_ := zm44 (IsS89.below (z44_0 HI0.out) hb); have n1_ := zm44 (KeepBut.trans (z44_1 HK.out) (KeepBut.of_below hb g none) (.inl rfl)); have n2_ := zm44 (below_step (z44_2 HB.out HI0.out) hb); have n3_ := zm44 (hbox); have n4_ := zm44 ((by rw [hg]; exact (keep_size (w := w) (g := g) (row := none) (z44_1 HK.out)) : w.heap.size ≤ gb288)); have n5_ := zm44 ((Nat.le_trans HW0.out (by rw [hg]; exact (keep_size (w := w) (g := g) (row := none) (z44_1 HK.out)) : w.heap.size ≤ gb288) : w0.heap.size ≤ gb288)); have n6_ := zm44 ((by rw [hg]; exact Nat.ne_of_lt (IsS89.lt (show IsS89 w0 _ g s0_0 s0_1 s0_2 from z44_0 HI0.out)) : g ≠ gb288)); have n7_ := zm44 ((by rw [hg]; exact Nat.ne_of_gt (IsS89.lt (show IsS89 w0 _ g s0_0 s0_1 s0_2 from z44_0 HI0.out)) : gb288 ≠ g)); clear HI0; clear HK; clear HB; have HI0 := n0_; have HK := n1_; have HB := n2_; have Za := n3_; have Zh := n4_; have Zl := n5_; have Zb := n6_; have Zm := n7_; clear n0_ n1_ n2_ n3_ n4_ n5_ n6_ n7_; clear hb hbox hg))
    have pi298 : (0 ≤ (t295 : Int)) = True := eq_true (of_decide_eq_true (by first | (with_reducible assumption) | assumption))
    have qi298 : (t295 < (y292.length : Int)) = True := eq_true (of_decide_eq_true (by first | (with_reducible assumption) | assumption))
    have n0_ := zm44 (blk_drew Za.out)
    have n1_ := zm44 (IsS89.drew HI0.out)
    have n2_ := zm44 (keep_drew HK.out)
    have n3_ := zm44 (below_drew1 HB.out)
    clear Za
    clear HI0
    clear HK
    clear HB
    have Za := n0_
    have HI0 := n1_
    have HK := n2_
    have HB := n3_
    clear n0_ n1_ n2_ n3_
    refine start_ (n := 12) (S := fun w' => True) (ds := []) #[false, false, false, false, false, false, false, false, false, false, false, false] (by kernel_rfl) rfl rfl trivial (fun hHeld => ?_); refine with_tabW spec_l00Src_block.tab1 spec_l00Src_block.bits1 (fun HT_ HW_ => ?_)
    generalize w34.drew = w35 at Za HI0 HK HB hHeld ⊢
    refine pure_ (i := 0) (N := some 4) (v := ?_) (a' := ?_) #[true, false, false, false, false, false, false, false, false, false, false, false] rfl rfl (any_of HT_.out (by kernel_rfl)) (fun _ _ _ h => h) (Or.inl ⟨by rfl, ?_⟩) ?_ ?_
    rotate_left
    ·intro w'
     go_simp
     with_reducible rfl
    rotate_left
    ·simp only [Act.put, zs44, zz44, zt44, i64_w, i32_w]
     rfl
    refine pure_ (i := 3) (N := some 7) (v := ?_) (a' := ?_) #[true, false, false, true, false, false, false, false, false, false, false, false] rfl rfl (any_of HT_.out (by kernel_rfl)) (fun _ _ _ h => h) (Or.inl ⟨by rfl, ?_⟩) ?_ ?_
    rotate_left
    ·intro w'
     go_simp
     with_reducible rfl
    rotate_left
    ·simp only [Act.put, zs44, zz44, zt44, i64_w, i32_w]
     rfl
    refine pure_ (i := 7) (N := some 11) (v := ?_) (a' := ?_) #[true, false, false, true, false, false, false, true, false, false, false, false] rfl rfl (any_of HT_.out (by kernel_rfl)) (fun _ _ _ h => h) (Or.inl ⟨by rfl, ?_⟩) ?_ ?_
    rotate_left
    ·intro w'
     go_simp
     with_reducible rfl
    rotate_left
    ·simp only [Act.put, zs44, zz44, zt44, i64_w, i32_w]
     rfl
    refine join_ (σ := Value × Addr × Nat) 1 #[true, true, true, true, true, true, true, true, true, true, true, false] (fun s_ => [(5, .int .i64 t289), (6, s_.1), (8, .int .i64 t295), (10, .int .i64 (rd y292 t295)), (12, .int .i64 t299), (3, .pointer (some ⟨s_.2.2, 0, none⟩)), (9, .pointer (some (s_.2.1.add (t295).toNat))), (13, .agg #[.int .i64 (rd y292 t295), .int .i64 t299, .int .i64 0, .int .i64 0])]) (fun s_ w' => (Kd.R (Kd.int .i64) 3 w' w.heap.size (fun _ => True) s_.1 y292) ∧ (∃ c_, (s_.1 : Value) = .slice (some s_.2.1) y292.length c_) ∧ (w'.heap[gb288]? = some (.cells #[.int .i64 0, .int .i64 0, .int .i64 0, .int .i64 0] 39 (0, 0))) ∧ (w'.heap[s_.2.2]? = some (.cells #[.int .i64 0, .int .i64 0, .int .i64 0, .int .i64 0] 39 (0, 0))) ∧ (w.heap.size ≤ s_.2.2) ∧ (w0.heap.size ≤ s_.2.2) ∧ (g ≠ s_.2.2) ∧ (s_.2.2 ≠ g) ∧ (gb288 ≠ s_.2.2) ∧ (s_.2.2 ≠ gb288) ∧ (IsS89 w0 w' g s0_0 t300 t301) ∧ (KeepBut w w' g none) ∧ (Below w0.heap.size w0 w')) ?_ ?_
    rotate_left
    ·intro hJ1_2_4_6_8_10
     refine join_ (σ := Value × Addr) 2 #[true, true, true, true, true, true, true, true, true, true, false, false] (fun s_ => [(5, .int .i64 t289), (6, s_.1), (8, .int .i64 t295), (10, .int .i64 (rd y292 t295)), (12, .int .i64 t299), (9, .pointer (some (s_.2.add (t295).toNat))), (13, .agg #[.int .i64 (rd y292 t295), .int .i64 t299, .int .i64 0, .int .i64 0])]) (fun s_ w' => (Kd.R (Kd.int .i64) 3 w' w.heap.size (fun _ => True) s_.1 y292) ∧ (∃ c_, (s_.1 : Value) = .slice (some s_.2) y292.length c_) ∧ (w'.heap[gb288]? = some (.cells #[.int .i64 0, .int .i64 0, .int .i64 0, .int .i64 0] 39 (0, 0))) ∧ (IsS89 w0 w' g s0_0 t300 t301) ∧ (KeepBut w w' g none) ∧ (Below w0.heap.size w0 w')) ?_ ?_
     rotate_left
     ·intro hJ1_2_4_6_8
      refine join_ (σ := Value × Addr × Nat) 3 #[true, true, true, true, true, true, true, true, false, false, true, false] (fun s_ => [(5, .int .i64 t289), (6, s_.1), (8, .int .i64 t295), (10, .int .i64 (rd y292 t295)), (3, .pointer (some ⟨s_.2.2, 0, none⟩)), (9, .pointer (some (s_.2.1.add (t295).toNat)))]) (fun s_ w' => (Kd.R (Kd.int .i64) 3 w' w.heap.size (fun _ => True) s_.1 y292) ∧ (∃ c_, (s_.1 : Value) = .slice (some s_.2.1) y292.length c_) ∧ (w'.heap[gb288]? = some (.cells #[.int .i64 0, .int .i64 0, .int .i64 0, .int .i64 0] 39 (0, 0))) ∧ (w'.heap[s_.2.2]? = some (.cells #[.int .i64 0, .int .i64 0, .int .i64 0, .int .i64 0] 39 (0, 0))) ∧ (w.heap.size ≤ s_.2.2) ∧ (w0.heap.size ≤ s_.2.2) ∧ (g ≠ s_.2.2) ∧ (s_.2.2 ≠ g) ∧ (gb288 ≠ s_.2.2) ∧ (s_.2.2 ≠ gb288) ∧ (IsS89 w0 w' g s0_0 t296 t297) ∧ (KeepBut w w' g none) ∧ (Below w0.heap.size w0 w')) ?_ ?_
      rotate_left
      ·intro hJ1_2_4_6_10
       refine join_ (σ := Value × Addr × Nat) 3 #[true, true, true, true, true, true, false, true, true, false, true, false] (fun s_ => [(5, .int .i64 t289), (6, s_.1), (8, .int .i64 t295), (12, .int .i64 t299), (3, .pointer (some ⟨s_.2.2, 0, none⟩)), (9, .pointer (some (s_.2.1.add (t295).toNat)))]) (fun s_ w' => (Kd.R (Kd.int .i64) 3 w' w.heap.size (fun _ => True) s_.1 y292) ∧ (∃ c_, (s_.1 : Value) = .slice (some s_.2.1) y292.length c_) ∧ (w'.heap[gb288]? = some (.cells #[.int .i64 0, .int .i64 0, .int .i64 0, .int .i64 0] 39 (0, 0))) ∧ (w'.heap[s_.2.2]? = some (.cells #[.int .i64 0, .int .i64 0, .int .i64 0, .int .i64 0] 39 (0, 0))) ∧ (w.heap.size ≤ s_.2.2) ∧ (w0.heap.size ≤ s_.2.2) ∧ (g ≠ s_.2.2) ∧ (s_.2.2 ≠ g) ∧ (gb288 ≠ s_.2.2) ∧ (s_.2.2 ≠ gb288) ∧ (IsS89 w0 w' g s0_0 t300 t301) ∧ (KeepBut w w' g none) ∧ (Below w0.heap.size w0 w')) ?_ ?_
       rotate_left
       ·intro hJ1_2_4_8_10
        refine join_ (σ := Value × Addr) 4 #[true, true, true, true, true, true, true, true, false, false, false, false] (fun s_ => [(5, .int .i64 t289), (6, s_.1), (8, .int .i64 t295), (10, .int .i64 (rd y292 t295)), (9, .pointer (some (s_.2.add (t295).toNat)))]) (fun s_ w' => (Kd.R (Kd.int .i64) 3 w' w.heap.size (fun _ => True) s_.1 y292) ∧ (∃ c_, (s_.1 : Value) = .slice (some s_.2) y292.length c_) ∧ (w'.heap[gb288]? = some (.cells #[.int .i64 0, .int .i64 0, .int .i64 0, .int .i64 0] 39 (0, 0))) ∧ (IsS89 w0 w' g s0_0 t296 t297) ∧ (KeepBut w w' g none) ∧ (Below w0.heap.size w0 w')) ?_ ?_
        rotate_left
        ·intro hJ1_2_4_6
         refine join_ (σ := Value × Addr) 4 #[true, true, true, true, true, true, false, true, true, false, false, false] (fun s_ => [(5, .int .i64 t289), (6, s_.1), (8, .int .i64 t295), (12, .int .i64 t299), (9, .pointer (some (s_.2.add (t295).toNat)))]) (fun s_ w' => (Kd.R (Kd.int .i64) 3 w' w.heap.size (fun _ => True) s_.1 y292) ∧ (∃ c_, (s_.1 : Value) = .slice (some s_.2) y292.length c_) ∧ (w'.heap[gb288]? = some (.cells #[.int .i64 0, .int .i64 0, .int .i64 0, .int .i64 0] 39 (0, 0))) ∧ (IsS89 w0 w' g s0_0 t300 t301) ∧ (KeepBut w w' g none) ∧ (Below w0.heap.size w0 w')) ?_ ?_
         rotate_left
         ·intro hJ1_2_4_8
          refine join_ (σ := Value × Addr × Nat) 4 #[true, true, true, true, true, true, false, true, false, false, true, false] (fun s_ => [(5, .int .i64 t289), (6, s_.1), (8, .int .i64 t295), (3, .pointer (some ⟨s_.2.2, 0, none⟩)), (9, .pointer (some (s_.2.1.add (t295).toNat)))]) (fun s_ w' => (Kd.R (Kd.int .i64) 3 w' w.heap.size (fun _ => True) s_.1 y292) ∧ (∃ c_, (s_.1 : Value) = .slice (some s_.2.1) y292.length c_) ∧ (w'.heap[gb288]? = some (.cells #[.int .i64 0, .int .i64 0, .int .i64 0, .int .i64 0] 39 (0, 0))) ∧ (w'.heap[s_.2.2]? = some (.cells #[.int .i64 0, .int .i64 0, .int .i64 0, .int .i64 0] 39 (0, 0))) ∧ (w.heap.size ≤ s_.2.2) ∧ (w0.heap.size ≤ s_.2.2) ∧ (g ≠ s_.2.2) ∧ (s_.2.2 ≠ g) ∧ (gb288 ≠ s_.2.2) ∧ (s_.2.2 ≠ gb288) ∧ (IsS89 w0 w' g s0_0 t296 t297) ∧ (KeepBut w w' g none) ∧ (Below w0.heap.size w0 w')) ?_ ?_
          rotate_left
          ·intro hJ1_2_4_10
           refine join_ (σ := Nat) 5 #[true, true, false, true, true, false, false, true, true, false, true, false] (fun s_ => [(5, .int .i64 t289), (8, .int .i64 t295), (12, .int .i64 t299), (3, .pointer (some ⟨s_, 0, none⟩))]) (fun s_ w' => (w'.heap[gb288]? = some (.cells #[.int .i64 0, .int .i64 0, .int .i64 0, .int .i64 0] 39 (0, 0))) ∧ (w'.heap[s_]? = some (.cells #[.int .i64 0, .int .i64 0, .int .i64 0, .int .i64 0] 39 (0, 0))) ∧ (w.heap.size ≤ s_) ∧ (w0.heap.size ≤ s_) ∧ (g ≠ s_) ∧ (s_ ≠ g) ∧ (gb288 ≠ s_) ∧ (s_ ≠ gb288) ∧ (IsS89 w0 w' g s0_0 t300 t301) ∧ (KeepBut w w' g none) ∧ (Below w0.heap.size w0 w')) ?_ ?_
           rotate_left
           ·intro hJ1_4_8_10
            refine join_ (σ := Value × Addr) 5 #[true, true, true, true, true, true, false, true, false, false, false, false] (fun s_ => [(5, .int .i64 t289), (6, s_.1), (8, .int .i64 t295), (9, .pointer (some (s_.2.add (t295).toNat)))]) (fun s_ w' => (Kd.R (Kd.int .i64) 3 w' w.heap.size (fun _ => True) s_.1 y292) ∧ (∃ c_, (s_.1 : Value) = .slice (some s_.2) y292.length c_) ∧ (w'.heap[gb288]? = some (.cells #[.int .i64 0, .int .i64 0, .int .i64 0, .int .i64 0] 39 (0, 0))) ∧ (IsS89 w0 w' g s0_0 t296 t297) ∧ (KeepBut w w' g none) ∧ (Below w0.heap.size w0 w')) ?_ ?_
            rotate_left
            ·intro hJ1_2_4
             refine join_ (σ := Value × Addr × Nat) 6 #[true, true, true, true, false, false, false, true, false, false, true, false] (fun s_ => [(5, .int .i64 t289), (6, s_.1), (3, .pointer (some ⟨s_.2.2, 0, none⟩))]) (fun s_ w' => (Kd.R (Kd.int .i64) 3 w' w.heap.size (fun _ => True) s_.1 y292) ∧ (∃ c_, (s_.1 : Value) = .slice (some s_.2.1) y292.length c_) ∧ (w'.heap[gb288]? = some (.cells #[.int .i64 0, .int .i64 0, .int .i64 0, .int .i64 0] 39 (0, 0))) ∧ (w'.heap[s_.2.2]? = some (.cells #[.int .i64 0, .int .i64 0, .int .i64 0, .int .i64 0] 39 (0, 0))) ∧ (w.heap.size ≤ s_.2.2) ∧ (w0.heap.size ≤ s_.2.2) ∧ (g ≠ s_.2.2) ∧ (s_.2.2 ≠ g) ∧ (gb288 ≠ s_.2.2) ∧ (s_.2.2 ≠ gb288) ∧ (IsS89 w0 w' g s0_0 t290 t291) ∧ (KeepBut w w' g none) ∧ (Below w0.heap.size w0 w')) ?_ ?_
             rotate_left
             ·intro hJ1_2_10
              refine join_ (σ := Unit) 6 #[true, true, false, true, true, false, false, true, true, false, false, false] (fun s_ => [(5, .int .i64 t289), (8, .int .i64 t295), (12, .int .i64 t299)]) (fun s_ w' => (w'.heap[gb288]? = some (.cells #[.int .i64 0, .int .i64 0, .int .i64 0, .int .i64 0] 39 (0, 0))) ∧ (IsS89 w0 w' g s0_0 t300 t301) ∧ (KeepBut w w' g none) ∧ (Below w0.heap.size w0 w')) ?_ ?_
              rotate_left
              ·intro hJ1_4_8
               refine join_ (σ := Nat) 6 #[true, true, false, true, true, false, false, true, false, false, true, false] (fun s_ => [(5, .int .i64 t289), (8, .int .i64 t295), (3, .pointer (some ⟨s_, 0, none⟩))]) (fun s_ w' => (w'.heap[gb288]? = some (.cells #[.int .i64 0, .int .i64 0, .int .i64 0, .int .i64 0] 39 (0, 0))) ∧ (w'.heap[s_]? = some (.cells #[.int .i64 0, .int .i64 0, .int .i64 0, .int .i64 0] 39 (0, 0))) ∧ (w.heap.size ≤ s_) ∧ (w0.heap.size ≤ s_) ∧ (g ≠ s_) ∧ (s_ ≠ g) ∧ (gb288 ≠ s_) ∧ (s_ ≠ gb288) ∧ (IsS89 w0 w' g s0_0 t296 t297) ∧ (KeepBut w w' g none) ∧ (Below w0.heap.size w0 w')) ?_ ?_
               rotate_left
               ·intro hJ1_4_10
                refine join_ (σ := Value × Addr) 7 #[true, true, true, true, false, false, false, true, false, false, false, false] (fun s_ => [(5, .int .i64 t289), (6, s_.1)]) (fun s_ w' => (Kd.R (Kd.int .i64) 3 w' w.heap.size (fun _ => True) s_.1 y292) ∧ (∃ c_, (s_.1 : Value) = .slice (some s_.2) y292.length c_) ∧ (w'.heap[gb288]? = some (.cells #[.int .i64 0, .int .i64 0, .int .i64 0, .int .i64 0] 39 (0, 0))) ∧ (IsS89 w0 w' g s0_0 t290 t291) ∧ (KeepBut w w' g none) ∧ (Below w0.heap.size w0 w')) ?_ ?_
                rotate_left
                ·intro hJ1_2
                 refine join_ (σ := Unit) 7 #[true, true, false, true, true, false, false, true, false, false, false, false] (fun s_ => [(5, .int .i64 t289), (8, .int .i64 t295)]) (fun s_ w' => (w'.heap[gb288]? = some (.cells #[.int .i64 0, .int .i64 0, .int .i64 0, .int .i64 0] 39 (0, 0))) ∧ (IsS89 w0 w' g s0_0 t296 t297) ∧ (KeepBut w w' g none) ∧ (Below w0.heap.size w0 w')) ?_ ?_
                 rotate_left
                 ·intro hJ1_4
                  refine join_ (σ := Nat) 7 #[true, true, false, true, false, false, false, true, false, false, true, false] (fun s_ => [(5, .int .i64 t289), (3, .pointer (some ⟨s_, 0, none⟩))]) (fun s_ w' => (w'.heap[gb288]? = some (.cells #[.int .i64 0, .int .i64 0, .int .i64 0, .int .i64 0] 39 (0, 0))) ∧ (w'.heap[s_]? = some (.cells #[.int .i64 0, .int .i64 0, .int .i64 0, .int .i64 0] 39 (0, 0))) ∧ (w.heap.size ≤ s_) ∧ (w0.heap.size ≤ s_) ∧ (g ≠ s_) ∧ (s_ ≠ g) ∧ (gb288 ≠ s_) ∧ (s_ ≠ gb288) ∧ (IsS89 w0 w' g s0_0 t290 t291) ∧ (KeepBut w w' g none) ∧ (Below w0.heap.size w0 w')) ?_ ?_
                  rotate_left
                  ·intro hJ1_10
                   refine join_ (σ := Unit) 8 #[true, true, false, true, false, false, false, true, false, false, false, false] (fun s_ => [(5, .int .i64 t289)]) (fun s_ w' => (w'.heap[gb288]? = some (.cells #[.int .i64 0, .int .i64 0, .int .i64 0, .int .i64 0] 39 (0, 0))) ∧ (IsS89 w0 w' g s0_0 t290 t291) ∧ (KeepBut w w' g none) ∧ (Below w0.heap.size w0 w')) ?_ ?_
                   rotate_left
                   ·intro hJ1
                    refine join_ (σ := Nat) 8 #[true, false, false, true, false, false, false, true, false, false, true, false] (fun s_ => [(3, .pointer (some ⟨s_, 0, none⟩))]) (fun s_ w' => (w'.heap[gb288]? = some (.cells #[.int .i64 0, .int .i64 0, .int .i64 0, .int .i64 0] 39 (0, 0))) ∧ (w'.heap[s_]? = some (.cells #[.int .i64 0, .int .i64 0, .int .i64 0, .int .i64 0] 39 (0, 0))) ∧ (w.heap.size ≤ s_) ∧ (w0.heap.size ≤ s_) ∧ (g ≠ s_) ∧ (s_ ≠ g) ∧ (gb288 ≠ s_) ∧ (s_ ≠ gb288) ∧ (IsS89 w0 w' g s0_0 s0_1 s0_2) ∧ (KeepBut w w' g none) ∧ (Below w0.heap.size w0 w')) ?_ ?_
                    rotate_left
                    ·intro hJ10
                     refine two_ (i := 1) (j := 10) (Ni := some 5) (Nj := some 3) #[true, true, false, true, false, false, false, true, false, false, false, false] #[true, false, false, true, false, false, false, true, false, false, true, false] rfl rfl rfl rfl (two_of HT_.out (by kernel_rfl)) (by decide) (by decide) (fun K hK => ?_) (fun K hK => ?_)
                     ·skip
                      refine goes_ Try.func66 (by kernel_rfl) rfl #[.pointer (some ⟨g, 0, none⟩), .int .i64 3] (by rfl) rfl rfl (by (try simp only [List.map_toArray, List.map_cons, List.map_nil]); first | done | rfl | (simp only [List.length_drop, List.length_take]; rfl)) ?_
                      with_reducible refine (spec_l00Src_next.calls g s0_0 s0_1 s0_2 3 t289 t290 t291 w0 _ ?side1 ?side2 A2.out).mono ?_
                      (case side1 => repeat (first | (with_reducible first | exact HI0.out | apply IsS89.alloc | apply IsS89.drewN | apply IsS89.drew | apply IsS89.set_1 | apply IsS89.set_2 | refine IsS89.far ?_ Zb.out _) | exact HI0.out))
                      (case side2 => repeat (first | (with_reducible first | exact HB.out | apply below_alloc | apply pw_below_drewN | apply below_drew1 | refine below_set ?_ (IsS89.ge HI0.out) | refine below_set ?_ Zl.out) | exact HB.out))
                      rintro e w36 ⟨rfl, hi, hb, hk⟩
                      refine ⟨_, rfl, ?_⟩
                      have n0_ := zm44 (KeepBut.blk hk (g' := gb288) (o := .cells #[.int .i64 0, .int .i64 0, .int .i64 0, .int .i64 0] 39 (0, 0)) (z44_3 Za.out) Zm.out (by simp))
                      have n1_ := zm44 (KeepBut.trans (z44_4 HK.out Zh.out) hk (.inl rfl))
                      have n2_ := zm44 (hb)
                      have n3_ := zm44 (hi)
                      clear Za
                      clear HK
                      clear HB
                      clear HI0
                      have Za := n0_
                      have HK := n1_
                      have HB := n2_
                      have HI0 := n3_
                      clear n0_ n1_ n2_ n3_
                      (try clear hb)
                      (try clear hb2)
                      (try clear hk)
                      (try clear hi)
                      refine hK.out _ _ trivial (fun hHeld => ?_)
                      clear hK K
                      refine norm_ (a' := ?_) ?_ ?_
                      rotate_left
                      ·show Act.put _ (some 5) _ = _
                       simp only [Act.put, zs44, zz44, zt44, i64_w, i32_w]
                       rfl
                      exact norm_ (by first | (simp only [putAll, Act.put, zs44, zz44, zt44]; done) | (simp only [putAll, Act.put, zs44, zz44, zt44]; rfl)) (hJ1 () _ ⟨(z44_3 Za.out), (z44_5 HI0.out Zb.out), (z44_4 HK.out Zh.out), (z44_6 HB.out HI0.out Zl.out)⟩)
                     ·skip
                      refine box_step ?hg (N := 3) ?hd (cs := #[.int .i64 0, .int .i64 0, .int .i64 0, .int .i64 0]) (t := 39) ?hr ?_; (case hd => rfl); (case hg => rfl); (case hr => first | (go_simp; done) | (go_simp; rfl))
                      intro gb302 hg w36 hbox hb
                      have n0_ := zm44 (IsS89.below (z44_5 HI0.out Zb.out) hb)
                      have n1_ := zm44 (blk_below (g := gb288) (o := .cells #[.int .i64 0, .int .i64 0, .int .i64 0, .int .i64 0] 39 (0, 0)) (z44_3 Za.out) hb)
                      have n2_ := zm44 (KeepBut.trans (z44_4 HK.out Zh.out) (KeepBut.of_below hb g none) (.inl rfl))
                      have n3_ := zm44 (below_step (z44_6 HB.out HI0.out Zl.out) hb)
                      have n4_ := zm44 (hbox)
                      have n5_ := zm44 ((by rw [hg]; exact (keep_size (w := w) (g := g) (row := none) (z44_4 HK.out Zh.out)) : w.heap.size ≤ gb302))
                      have n6_ := zm44 ((Nat.le_trans HW0.out (by rw [hg]; exact (keep_size (w := w) (g := g) (row := none) (z44_4 HK.out Zh.out)) : w.heap.size ≤ gb302) : w0.heap.size ≤ gb302))
                      have n7_ := zm44 ((by rw [hg]; exact Nat.ne_of_lt (blk_lt (g := gb288) (o := .cells #[.int .i64 0, .int .i64 0, .int .i64 0, .int .i64 0] 39 (0, 0)) (z44_3 Za.out)) : gb288 ≠ gb302))
                      have n8_ := zm44 ((by rw [hg]; exact Nat.ne_of_gt (blk_lt (g := gb288) (o := .cells #[.int .i64 0, .int .i64 0, .int .i64 0, .int .i64 0] 39 (0, 0)) (z44_3 Za.out)) : gb302 ≠ gb288))
                      have n9_ := zm44 ((by rw [hg]; exact Nat.ne_of_lt (IsS89.lt (show IsS89 w0 _ g s0_0 s0_1 s0_2 from z44_5 HI0.out Zb.out)) : g ≠ gb302))
                      have n10_ := zm44 ((by rw [hg]; exact Nat.ne_of_gt (IsS89.lt (show IsS89 w0 _ g s0_0 s0_1 s0_2 from z44_5 HI0.out Zb.out)) : gb302 ≠ g))
                      clear HI0
                      clear Za
                      clear HK
                      clear HB
                      have HI0 := n0_
                      have Za := n1_
                      have HK := n2_
                      have HB := n3_
                      have Zf := n4_
                      have Zj := n5_
                      have Zk := n6_
                      have Zd := n7_
                      have Ze := n8_
                      have Zc := n9_
                      have Zi := n10_
                      clear n0_ n1_ n2_ n3_ n4_ n5_ n6_ n7_ n8_ n9_ n10_
                      clear hb hbox hg
                      refine hK.out _ _ trivial (fun hHeld => ?_)
                      clear hK K
                      refine norm_ (a' := ?_) ?_ ?_
                      rotate_left
                      ·show Act.put _ (some 3) _ = _
                       simp only [Act.put, zs44, zz44, zt44, i64_w, i32_w]
                       rfl
                      exact norm_ (by first | (simp only [putAll, Act.put, zs44, zz44, zt44]; done) | (simp only [putAll, Act.put, zs44, zz44, zt44]; rfl)) (hJ10 (gb302) _ ⟨(z44_3 Za.out), (z44_3 Zf.out), Zj.out, Zk.out, Zc.out, Zi.out, Zd.out, Ze.out, (z44_7 HI0.out Zb.out Zc.out), (z44_8 HK.out Zh.out Zj.out), (z44_9 HB.out HI0.out Zl.out Zk.out)⟩)
                    ·skip
                     rintro gb302 w37 ⟨h0_, h1_, h2_, h3_, h4_, h5_, h6_, h7_, h8_, h9_, h10_⟩
                     have n0_ : Aside0 (w37.heap[gb288]? = some (.cells #[.int .i64 0, .int .i64 0, .int .i64 0, .int .i64 0] 39 (0, 0))) := ⟨h0_⟩
                     have n1_ : Aside0 (w37.heap[gb302]? = some (.cells #[.int .i64 0, .int .i64 0, .int .i64 0, .int .i64 0] 39 (0, 0))) := ⟨h1_⟩
                     have n2_ : Aside0 (w.heap.size ≤ gb302) := ⟨h2_⟩
                     have n3_ : Aside0 (w0.heap.size ≤ gb302) := ⟨h3_⟩
                     have n4_ : Aside0 (g ≠ gb302) := ⟨h4_⟩
                     have n5_ : Aside0 (gb302 ≠ g) := ⟨h5_⟩
                     have n6_ : Aside0 (gb288 ≠ gb302) := ⟨h6_⟩
                     have n7_ : Aside0 (gb302 ≠ gb288) := ⟨h7_⟩
                     have n8_ : Aside0 (IsS89 w0 w37 g s0_0 s0_1 s0_2) := ⟨h8_⟩
                     have n9_ : Aside0 (KeepBut w w37 g none) := ⟨h9_⟩
                     have n10_ : Aside0 (Below w0.heap.size w0 w37) := ⟨h10_⟩
                     clear Za
                     clear HI0
                     clear HK
                     clear HB
                     clear h0_ h1_ h2_ h3_ h4_ h5_ h6_ h7_ h8_ h9_ h10_
                     have Za := n0_
                     have Zf := n1_
                     have Zj := n2_
                     have Zk := n3_
                     have Zc := n4_
                     have Zi := n5_
                     have Zd := n6_
                     have Ze := n7_
                     have HI0 := n8_
                     have HK := n9_
                     have HB := n10_
                     clear n0_ n1_ n2_ n3_ n4_ n5_ n6_ n7_ n8_ n9_ n10_
                     have hHeld := trivial
                     refine norm_ (a' := ?_) ?_ ?_
                     rotate_left
                     ·simp only [putAll, Act.put, zs44, zz44, zt44]
                      rfl
                     refine one_ (i := 1) (N := some 5) #[true, true, false, true, false, false, false, true, false, false, true, false] rfl rfl (one_of HT_.out (by kernel_rfl)) (by decide) (fun K hK => ?_)
                     refine goes_ Try.func66 (by kernel_rfl) rfl #[.pointer (some ⟨g, 0, none⟩), .int .i64 3] (by rfl) rfl rfl (by (try simp only [List.map_toArray, List.map_cons, List.map_nil]); first | done | rfl | (simp only [List.length_drop, List.length_take]; rfl)) ?_
                     with_reducible refine (spec_l00Src_next.calls g s0_0 s0_1 s0_2 3 t289 t290 t291 w0 _ ?side1 ?side2 A2.out).mono ?_
                     (case side1 => repeat (first | (with_reducible first | exact HI0.out | apply IsS89.alloc | apply IsS89.drewN | apply IsS89.drew | apply IsS89.set_1 | apply IsS89.set_2 | refine IsS89.far ?_ Zb.out _ | refine IsS89.far ?_ Zc.out _) | exact HI0.out))
                     (case side2 => repeat (first | (with_reducible first | exact HB.out | apply below_alloc | apply pw_below_drewN | apply below_drew1 | refine below_set ?_ (IsS89.ge HI0.out) | refine below_set ?_ Zl.out | refine below_set ?_ Zk.out) | exact HB.out))
                     rintro e w38 ⟨rfl, hi, hb, hk⟩
                     refine ⟨_, rfl, ?_⟩
                     have n0_ := zm44 (KeepBut.blk hk (g' := gb288) (o := .cells #[.int .i64 0, .int .i64 0, .int .i64 0, .int .i64 0] 39 (0, 0)) (z44_3 Za.out) Zm.out (by simp))
                     have n1_ := zm44 (KeepBut.blk hk (g' := gb302) (o := .cells #[.int .i64 0, .int .i64 0, .int .i64 0, .int .i64 0] 39 (0, 0)) (z44_3 Zf.out) Zi.out (by simp))
                     have n2_ := zm44 (KeepBut.trans (z44_8 HK.out Zh.out Zj.out) hk (.inl rfl))
                     have n3_ := zm44 (hb)
                     have n4_ := zm44 (hi)
                     clear Za
                     clear Zf
                     clear HK
                     clear HB
                     clear HI0
                     have Za := n0_
                     have Zf := n1_
                     have HK := n2_
                     have HB := n3_
                     have HI0 := n4_
                     clear n0_ n1_ n2_ n3_ n4_
                     (try clear hb)
                     (try clear hb2)
                     (try clear hk)
                     (try clear hi)
                     refine hK.out _ _ trivial (fun hHeld => ?_)
                     clear hK K
                     refine norm_ (a' := ?_) ?_ ?_
                     rotate_left
                     ·show Act.put _ (some 5) _ = _
                      simp only [Act.put, zs44, zz44, zt44, i64_w, i32_w]
                      rfl
                     exact norm_ (by first | (simp only [putAll, Act.put, zs44, zz44, zt44]; done) | (simp only [putAll, Act.put, zs44, zz44, zt44]; rfl)) (hJ1_10 (gb302) _ ⟨(z44_3 Za.out), (z44_3 Zf.out), Zj.out, Zk.out, Zc.out, Zi.out, Zd.out, Ze.out, (z44_7 HI0.out Zb.out Zc.out), (z44_8 HK.out Zh.out Zj.out), (z44_9 HB.out HI0.out Zl.out Zk.out)⟩)
                   ·skip
                    rintro _ w37 ⟨h0_, h1_, h2_, h3_⟩
                    have n0_ : Aside0 (w37.heap[gb288]? = some (.cells #[.int .i64 0, .int .i64 0, .int .i64 0, .int .i64 0] 39 (0, 0))) := ⟨h0_⟩
                    have n1_ : Aside0 (IsS89 w0 w37 g s0_0 t290 t291) := ⟨h1_⟩
                    have n2_ : Aside0 (KeepBut w w37 g none) := ⟨h2_⟩
                    have n3_ : Aside0 (Below w0.heap.size w0 w37) := ⟨h3_⟩
                    clear Za
                    clear HI0
                    clear HK
                    clear HB
                    clear h0_ h1_ h2_ h3_
                    have Za := n0_
                    have HI0 := n1_
                    have HK := n2_
                    have HB := n3_
                    clear n0_ n1_ n2_ n3_
                    have hHeld := trivial
                    refine norm_ (a' := ?_) ?_ ?_
                    rotate_left
                    ·simp only [putAll, Act.put, zs44, zz44, zt44]
                     rfl
                    refine three_ (i := 2) (j := 4) (k := 10) (Ni := some 6) (Nj := some 8) (Nk := some 3) #[true, true, true, true, false, false, false, true, false, false, false, false] #[true, true, false, true, true, false, false, true, false, false, false, false] #[true, true, false, true, false, false, false, true, false, false, true, false] rfl rfl rfl rfl rfl rfl (three_of HT_.out (by kernel_rfl)) (by decide) (by decide) (by decide) (fun K hK => ?_) (fun K hK => ?_) (fun K hK => ?_)
                    ·skip
                     refine Kd.R_lit_step (Kd.int .i64) _ 3 ?hg (N := 6) ?hd (xs := ([0, t289] : List Int)) (inner := [.int .i64 0, .int .i64 t289]) (ok := fun _ => True) (okp := fun _ => True) ?hr ?hp (fun _ hk => hk) trivial (Below.refl _ _) (Nat.le_refl _) (by simp) ?_; (case hd => rfl); (case hg => rfl); (case hr => first | (go_simp; done) | (go_simp; rfl)); (case hp => exact (Reps.one (show Kd.M (Kd.int .i64) _ _ _ 0 [.int .i64 0] from rfl) (Reps.one (show Kd.M (Kd.int .i64) _ _ _ t289 [.int .i64 t289] from rfl) (Reps.none _ _))))
                     intro v293 w38 ho39 hb hg_ hnew_
                     clear hg_ hnew_
                     (first | rw [← Ny292.out] at ho39 | (simp only [Int.reduceToNat] at ho39; rw [← Ny292.out] at ho39))
                     have n0_ := zm44 (Kd.R_lower ho39 (keep_size (w := w) (g := g) (row := none) (z44_4 HK.out Zh.out)))
                     have n1_ := zm44 (IsS89.below (z44_5 HI0.out Zb.out) hb)
                     have n2_ := zm44 (blk_below (g := gb288) (o := .cells #[.int .i64 0, .int .i64 0, .int .i64 0, .int .i64 0] 39 (0, 0)) (z44_3 Za.out) hb)
                     have n3_ := zm44 (KeepBut.trans (z44_4 HK.out Zh.out) (KeepBut.of_below hb g none) (.inl rfl))
                     have n4_ := zm44 (below_step (z44_6 HB.out HI0.out Zl.out) hb)
                     clear HI0
                     clear Za
                     clear HK
                     clear HB
                     have Zg := n0_
                     have HI0 := n1_
                     have Za := n2_
                     have HK := n3_
                     have HB := n4_
                     clear n0_ n1_ n2_ n3_ n4_
                     clear hb ho39
                     obtain ⟨Ao40, co40, eo40⟩ := Kd.R_slice Zg.out
                     subst eo40
                     obtain ⟨ado40, fo40, _⟩ := Kd.at_int (Kd.R_reads' Zg.out).2.2 0 (by decide) (by rw [Ny292.out]; simp)
                     cases fo40
                     refine hK.out _ _ trivial (fun hHeld => ?_)
                     clear hK K
                     refine norm_ (a' := ?_) ?_ ?_
                     rotate_left
                     ·show Act.put _ (some 6) _ = _
                      simp only [Act.put, zs44, zz44, zt44, i64_w, i32_w]
                      rfl
                     exact norm_ (by first | (simp only [putAll, Act.put, zs44, zz44, zt44]; done) | (simp only [putAll, Act.put, zs44, zz44, zt44]; rfl)) (hJ1_2 (.slice (some ado40) y292.length co40, ado40) _ ⟨(z44_10 Zg.out), ⟨_, rfl⟩, (z44_3 Za.out), (z44_5 HI0.out Zb.out), (z44_4 HK.out Zh.out), (z44_6 HB.out HI0.out Zl.out)⟩)
                    ·skip
                     refine goes_ Try.func66 (by kernel_rfl) rfl #[.pointer (some ⟨g, 0, none⟩), .int .i64 2] (by rfl) rfl rfl (by (try simp only [List.map_toArray, List.map_cons, List.map_nil]); first | done | rfl | (simp only [List.length_drop, List.length_take]; rfl)) ?_
                     with_reducible refine (spec_l00Src_next.calls g s0_0 t290 t291 2 t295 t296 t297 w0 _ ?side1 ?side2 A3.out).mono ?_
                     (case side1 => repeat (first | (with_reducible first | exact HI0.out | apply IsS89.alloc | apply IsS89.drewN | apply IsS89.drew | apply IsS89.set_1 | apply IsS89.set_2 | refine IsS89.far ?_ Zb.out _) | exact HI0.out))
                     (case side2 => repeat (first | (with_reducible first | exact HB.out | apply below_alloc | apply pw_below_drewN | apply below_drew1 | refine below_set ?_ (IsS89.ge HI0.out) | refine below_set ?_ Zl.out) | exact HB.out))
                     rintro e w38 ⟨rfl, hi, hb, hk⟩
                     refine ⟨_, rfl, ?_⟩
                     have n0_ := zm44 (KeepBut.blk hk (g' := gb288) (o := .cells #[.int .i64 0, .int .i64 0, .int .i64 0, .int .i64 0] 39 (0, 0)) (z44_3 Za.out) Zm.out (by simp))
                     have n1_ := zm44 (KeepBut.trans (z44_4 HK.out Zh.out) hk (.inl rfl))
                     have n2_ := zm44 (hb)
                     have n3_ := zm44 (hi)
                     clear Za
                     clear HK
                     clear HB
                     clear HI0
                     have Za := n0_
                     have HK := n1_
                     have HB := n2_
                     have HI0 := n3_
                     clear n0_ n1_ n2_ n3_
                     (try clear hb)
                     (try clear hb2)
                     (try clear hk)
                     (try clear hi)
                     refine hK.out _ _ trivial (fun hHeld => ?_)
                     clear hK K
                     refine norm_ (a' := ?_) ?_ ?_
                     rotate_left
                     ·show Act.put _ (some 8) _ = _
                      simp only [Act.put, zs44, zz44, zt44, i64_w, i32_w]
                      rfl
                     exact norm_ (by first | (simp only [putAll, Act.put, zs44, zz44, zt44]; done) | (simp only [putAll, Act.put, zs44, zz44, zt44]; rfl)) (hJ1_4 () _ ⟨(z44_3 Za.out), (z44_5 HI0.out Zb.out), (z44_4 HK.out Zh.out), (z44_6 HB.out HI0.out Zl.out)⟩)
                    ·skip
                     refine box_step ?hg (N := 3) ?hd (cs := #[.int .i64 0, .int .i64 0, .int .i64 0, .int .i64 0]) (t := 39) ?hr ?_; (case hd => rfl); (case hg => rfl); (case hr => first | (go_simp; done) | (go_simp; rfl))
                     intro gb302 hg w38 hbox hb
                     have n0_ := zm44 (IsS89.below (z44_5 HI0.out Zb.out) hb)
                     have n1_ := zm44 (blk_below (g := gb288) (o := .cells #[.int .i64 0, .int .i64 0, .int .i64 0, .int .i64 0] 39 (0, 0)) (z44_3 Za.out) hb)
                     have n2_ := zm44 (KeepBut.trans (z44_4 HK.out Zh.out) (KeepBut.of_below hb g none) (.inl rfl))
                     have n3_ := zm44 (below_step (z44_6 HB.out HI0.out Zl.out) hb)
                     have n4_ := zm44 (hbox)
                     have n5_ := zm44 ((by rw [hg]; exact (keep_size (w := w) (g := g) (row := none) (z44_4 HK.out Zh.out)) : w.heap.size ≤ gb302))
                     have n6_ := zm44 ((Nat.le_trans HW0.out (by rw [hg]; exact (keep_size (w := w) (g := g) (row := none) (z44_4 HK.out Zh.out)) : w.heap.size ≤ gb302) : w0.heap.size ≤ gb302))
                     have n7_ := zm44 ((by rw [hg]; exact Nat.ne_of_lt (blk_lt (g := gb288) (o := .cells #[.int .i64 0, .int .i64 0, .int .i64 0, .int .i64 0] 39 (0, 0)) (z44_3 Za.out)) : gb288 ≠ gb302))
                     have n8_ := zm44 ((by rw [hg]; exact Nat.ne_of_gt (blk_lt (g := gb288) (o := .cells #[.int .i64 0, .int .i64 0, .int .i64 0, .int .i64 0] 39 (0, 0)) (z44_3 Za.out)) : gb302 ≠ gb288))
                     have n9_ := zm44 ((by rw [hg]; exact Nat.ne_of_lt (IsS89.lt (show IsS89 w0 _ g s0_0 t290 t291 from z44_5 HI0.out Zb.out)) : g ≠ gb302))
                     have n10_ := zm44 ((by rw [hg]; exact Nat.ne_of_gt (IsS89.lt (show IsS89 w0 _ g s0_0 t290 t291 from z44_5 HI0.out Zb.out)) : gb302 ≠ g))
                     clear HI0
                     clear Za
                     clear HK
                     clear HB
                     have HI0 := n0_
                     have Za := n1_
                     have HK := n2_
                     have HB := n3_
                     have Zf := n4_
                     have Zj := n5_
                     have Zk := n6_
                     have Zd := n7_
                     have Ze := n8_
                     have Zc := n9_
                     have Zi := n10_
                     clear n0_ n1_ n2_ n3_ n4_ n5_ n6_ n7_ n8_ n9_ n10_
                     clear hb hbox hg
                     refine hK.out _ _ trivial (fun hHeld => ?_)
                     clear hK K
                     refine norm_ (a' := ?_) ?_ ?_
                     rotate_left
                     ·show Act.put _ (some 3) _ = _
                      simp only [Act.put, zs44, zz44, zt44, i64_w, i32_w]
                      rfl
                     exact norm_ (by first | (simp only [putAll, Act.put, zs44, zz44, zt44]; done) | (simp only [putAll, Act.put, zs44, zz44, zt44]; rfl)) (hJ1_10 (gb302) _ ⟨(z44_3 Za.out), (z44_3 Zf.out), Zj.out, Zk.out, Zc.out, Zi.out, Zd.out, Ze.out, (z44_7 HI0.out Zb.out Zc.out), (z44_8 HK.out Zh.out Zj.out), (z44_9 HB.out HI0.out Zl.out Zk.out)⟩)
                  ·skip
                   rintro gb302 w38 ⟨h0_, h1_, h2_, h3_, h4_, h5_, h6_, h7_, h8_, h9_, h10_⟩
                   have n0_ : Aside0 (w38.heap[gb288]? = some (.cells #[.int .i64 0, .int .i64 0, .int .i64 0, .int .i64 0] 39 (0, 0))) := ⟨h0_⟩
                   have n1_ : Aside0 (w38.heap[gb302]? = some (.cells #[.int .i64 0, .int .i64 0, .int .i64 0, .int .i64 0] 39 (0, 0))) := ⟨h1_⟩
                   have n2_ : Aside0 (w.heap.size ≤ gb302) := ⟨h2_⟩
                   have n3_ : Aside0 (w0.heap.size ≤ gb302) := ⟨h3_⟩
                   have n4_ : Aside0 (g ≠ gb302) := ⟨h4_⟩
                   have n5_ : Aside0 (gb302 ≠ g) := ⟨h5_⟩
                   have n6_ : Aside0 (gb288 ≠ gb302) := ⟨h6_⟩
                   have n7_ : Aside0 (gb302 ≠ gb288) := ⟨h7_⟩
                   have n8_ : Aside0 (IsS89 w0 w38 g s0_0 t290 t291) := ⟨h8_⟩
                   have n9_ : Aside0 (KeepBut w w38 g none) := ⟨h9_⟩
                   have n10_ : Aside0 (Below w0.heap.size w0 w38) := ⟨h10_⟩
                   clear Za
                   clear HI0
                   clear HK
                   clear HB
                   clear h0_ h1_ h2_ h3_ h4_ h5_ h6_ h7_ h8_ h9_ h10_
                   have Za := n0_
                   have Zf := n1_
                   have Zj := n2_
                   have Zk := n3_
                   have Zc := n4_
                   have Zi := n5_
                   have Zd := n6_
                   have Ze := n7_
                   have HI0 := n8_
                   have HK := n9_
                   have HB := n10_
                   clear n0_ n1_ n2_ n3_ n4_ n5_ n6_ n7_ n8_ n9_ n10_
                   have hHeld := trivial
                   refine norm_ (a' := ?_) ?_ ?_
                   rotate_left
                   ·simp only [putAll, Act.put, zs44, zz44, zt44]
                    rfl
                   refine two_ (i := 2) (j := 4) (Ni := some 6) (Nj := some 8) #[true, true, true, true, false, false, false, true, false, false, true, false] #[true, true, false, true, true, false, false, true, false, false, true, false] rfl rfl rfl rfl (two_of HT_.out (by kernel_rfl)) (by decide) (by decide) (fun K hK => ?_) (fun K hK => ?_)
                   ·skip
                    refine Kd.R_lit_step (Kd.int .i64) _ 3 ?hg (N := 6) ?hd (xs := ([0, t289] : List Int)) (inner := [.int .i64 0, .int .i64 t289]) (ok := fun _ => True) (okp := fun _ => True) ?hr ?hp (fun _ hk => hk) trivial (Below.refl _ _) (Nat.le_refl _) (by simp) ?_; (case hd => rfl); (case hg => rfl); (case hr => first | (go_simp; done) | (go_simp; rfl)); (case hp => exact (Reps.one (show Kd.M (Kd.int .i64) _ _ _ 0 [.int .i64 0] from rfl) (Reps.one (show Kd.M (Kd.int .i64) _ _ _ t289 [.int .i64 t289] from rfl) (Reps.none _ _))))
                    intro v293 w39 ho40 hb hg_ hnew_
                    clear hg_ hnew_
                    (first | rw [← Ny292.out] at ho40 | (simp only [Int.reduceToNat] at ho40; rw [← Ny292.out] at ho40))
                    have n0_ := zm44 (Kd.R_lower ho40 (keep_size (w := w) (g := g) (row := none) (z44_8 HK.out Zh.out Zj.out)))
                    have n1_ := zm44 (IsS89.below (z44_7 HI0.out Zb.out Zc.out) hb)
                    have n2_ := zm44 (blk_below (g := gb288) (o := .cells #[.int .i64 0, .int .i64 0, .int .i64 0, .int .i64 0] 39 (0, 0)) (z44_3 Za.out) hb)
                    have n3_ := zm44 (blk_below (g := gb302) (o := .cells #[.int .i64 0, .int .i64 0, .int .i64 0, .int .i64 0] 39 (0, 0)) (z44_3 Zf.out) hb)
                    have n4_ := zm44 (KeepBut.trans (z44_8 HK.out Zh.out Zj.out) (KeepBut.of_below hb g none) (.inl rfl))
                    have n5_ := zm44 (below_step (z44_9 HB.out HI0.out Zl.out Zk.out) hb)
                    clear HI0
                    clear Za
                    clear Zf
                    clear HK
                    clear HB
                    have Zg := n0_
                    have HI0 := n1_
                    have Za := n2_
                    have Zf := n3_
                    have HK := n4_
                    have HB := n5_
                    clear n0_ n1_ n2_ n3_ n4_ n5_
                    clear hb ho40
                    obtain ⟨Ao41, co41, eo41⟩ := Kd.R_slice Zg.out
                    subst eo41
                    obtain ⟨ado41, fo41, _⟩ := Kd.at_int (Kd.R_reads' Zg.out).2.2 0 (by decide) (by rw [Ny292.out]; simp)
                    cases fo41
                    refine hK.out _ _ trivial (fun hHeld => ?_)
                    clear hK K
                    refine norm_ (a' := ?_) ?_ ?_
                    rotate_left
                    ·show Act.put _ (some 6) _ = _
                     simp only [Act.put, zs44, zz44, zt44, i64_w, i32_w]
                     rfl
                    exact norm_ (by first | (simp only [putAll, Act.put, zs44, zz44, zt44]; done) | (simp only [putAll, Act.put, zs44, zz44, zt44]; rfl)) (hJ1_2_10 (.slice (some ado41) y292.length co41, ado41, gb302) _ ⟨(z44_10 Zg.out), ⟨_, rfl⟩, (z44_3 Za.out), (z44_3 Zf.out), Zj.out, Zk.out, Zc.out, Zi.out, Zd.out, Ze.out, (z44_7 HI0.out Zb.out Zc.out), (z44_8 HK.out Zh.out Zj.out), (z44_9 HB.out HI0.out Zl.out Zk.out)⟩)
                   ·skip
                    refine goes_ Try.func66 (by kernel_rfl) rfl #[.pointer (some ⟨g, 0, none⟩), .int .i64 2] (by rfl) rfl rfl (by (try simp only [List.map_toArray, List.map_cons, List.map_nil]); first | done | rfl | (simp only [List.length_drop, List.length_take]; rfl)) ?_
                    with_reducible refine (spec_l00Src_next.calls g s0_0 t290 t291 2 t295 t296 t297 w0 _ ?side1 ?side2 A3.out).mono ?_
                    (case side1 => repeat (first | (with_reducible first | exact HI0.out | apply IsS89.alloc | apply IsS89.drewN | apply IsS89.drew | apply IsS89.set_1 | apply IsS89.set_2 | refine IsS89.far ?_ Zb.out _ | refine IsS89.far ?_ Zc.out _) | exact HI0.out))
                    (case side2 => repeat (first | (with_reducible first | exact HB.out | apply below_alloc | apply pw_below_drewN | apply below_drew1 | refine below_set ?_ (IsS89.ge HI0.out) | refine below_set ?_ Zl.out | refine below_set ?_ Zk.out) | exact HB.out))
                    rintro e w39 ⟨rfl, hi, hb, hk⟩
                    refine ⟨_, rfl, ?_⟩
                    have n0_ := zm44 (KeepBut.blk hk (g' := gb288) (o := .cells #[.int .i64 0, .int .i64 0, .int .i64 0, .int .i64 0] 39 (0, 0)) (z44_3 Za.out) Zm.out (by simp))
                    have n1_ := zm44 (KeepBut.blk hk (g' := gb302) (o := .cells #[.int .i64 0, .int .i64 0, .int .i64 0, .int .i64 0] 39 (0, 0)) (z44_3 Zf.out) Zi.out (by simp))
                    have n2_ := zm44 (KeepBut.trans (z44_8 HK.out Zh.out Zj.out) hk (.inl rfl))
                    have n3_ := zm44 (hb)
                    have n4_ := zm44 (hi)
                    clear Za
                    clear Zf
                    clear HK
                    clear HB
                    clear HI0
                    have Za := n0_
                    have Zf := n1_
                    have HK := n2_
                    have HB := n3_
                    have HI0 := n4_
                    clear n0_ n1_ n2_ n3_ n4_
                    (try clear hb)
                    (try clear hb2)
                    (try clear hk)
                    (try clear hi)
                    refine hK.out _ _ trivial (fun hHeld => ?_)
                    clear hK K
                    refine norm_ (a' := ?_) ?_ ?_
                    rotate_left
                    ·show Act.put _ (some 8) _ = _
                     simp only [Act.put, zs44, zz44, zt44, i64_w, i32_w]
                     rfl
                    exact norm_ (by first | (simp only [putAll, Act.put, zs44, zz44, zt44]; done) | (simp only [putAll, Act.put, zs44, zz44, zt44]; rfl)) (hJ1_4_10 (gb302) _ ⟨(z44_3 Za.out), (z44_3 Zf.out), Zj.out, Zk.out, Zc.out, Zi.out, Zd.out, Ze.out, (z44_7 HI0.out Zb.out Zc.out), (z44_8 HK.out Zh.out Zj.out), (z44_9 HB.out HI0.out Zl.out Zk.out)⟩)
                 ·skip
                  rintro _ w38 ⟨h0_, h1_, h2_, h3_⟩
                  have n0_ : Aside0 (w38.heap[gb288]? = some (.cells #[.int .i64 0, .int .i64 0, .int .i64 0, .int .i64 0] 39 (0, 0))) := ⟨h0_⟩
                  have n1_ : Aside0 (IsS89 w0 w38 g s0_0 t296 t297) := ⟨h1_⟩
                  have n2_ : Aside0 (KeepBut w w38 g none) := ⟨h2_⟩
                  have n3_ : Aside0 (Below w0.heap.size w0 w38) := ⟨h3_⟩
                  clear Za
                  clear HI0
                  clear HK
                  clear HB
                  clear h0_ h1_ h2_ h3_
                  have Za := n0_
                  have HI0 := n1_
                  have HK := n2_
                  have HB := n3_
                  clear n0_ n1_ n2_ n3_
                  have hHeld := trivial
                  refine norm_ (a' := ?_) ?_ ?_
                  rotate_left
                  ·simp only [putAll, Act.put, zs44, zz44, zt44]
                   rfl
                  refine three_ (i := 2) (j := 8) (k := 10) (Ni := some 6) (Nj := some 12) (Nk := some 3) #[true, true, true, true, true, false, false, true, false, false, false, false] #[true, true, false, true, true, false, false, true, true, false, false, false] #[true, true, false, true, true, false, false, true, false, false, true, false] rfl rfl rfl rfl rfl rfl (three_of HT_.out (by kernel_rfl)) (by decide) (by decide) (by decide) (fun K hK => ?_) (fun K hK => ?_) (fun K hK => ?_)
                  ·skip
                   refine Kd.R_lit_step (Kd.int .i64) _ 3 ?hg (N := 6) ?hd (xs := ([0, t289] : List Int)) (inner := [.int .i64 0, .int .i64 t289]) (ok := fun _ => True) (okp := fun _ => True) ?hr ?hp (fun _ hk => hk) trivial (Below.refl _ _) (Nat.le_refl _) (by simp) ?_; (case hd => rfl); (case hg => rfl); (case hr => first | (go_simp; done) | (go_simp; rfl)); (case hp => exact (Reps.one (show Kd.M (Kd.int .i64) _ _ _ 0 [.int .i64 0] from rfl) (Reps.one (show Kd.M (Kd.int .i64) _ _ _ t289 [.int .i64 t289] from rfl) (Reps.none _ _))))
                   intro v293 w39 ho40 hb hg_ hnew_
                   clear hg_ hnew_
                   (first | rw [← Ny292.out] at ho40 | (simp only [Int.reduceToNat] at ho40; rw [← Ny292.out] at ho40))
                   have n0_ := zm44 (Kd.R_lower ho40 (keep_size (w := w) (g := g) (row := none) (z44_4 HK.out Zh.out)))
                   have n1_ := zm44 (IsS89.below (z44_5 HI0.out Zb.out) hb)
                   have n2_ := zm44 (blk_below (g := gb288) (o := .cells #[.int .i64 0, .int .i64 0, .int .i64 0, .int .i64 0] 39 (0, 0)) (z44_3 Za.out) hb)
                   have n3_ := zm44 (KeepBut.trans (z44_4 HK.out Zh.out) (KeepBut.of_below hb g none) (.inl rfl))
                   have n4_ := zm44 (below_step (z44_6 HB.out HI0.out Zl.out) hb)
                   clear HI0
                   clear Za
                   clear HK
                   clear HB
                   have Zg := n0_
                   have HI0 := n1_
                   have Za := n2_
                   have HK := n3_
                   have HB := n4_
                   clear n0_ n1_ n2_ n3_ n4_
                   clear hb ho40
                   obtain ⟨Ao41, co41, eo41⟩ := Kd.R_slice Zg.out
                   subst eo41
                   obtain ⟨ado41, fo41, _⟩ := Kd.at_int (Kd.R_reads' Zg.out).2.2 0 (by decide) (by rw [Ny292.out]; simp)
                   cases fo41
                   refine hK.out _ _ trivial (fun hHeld => ?_)
                   clear hK K
                   refine norm_ (a' := ?_) ?_ ?_
                   rotate_left
                   ·show Act.put _ (some 6) _ = _
                    simp only [Act.put, zs44, zz44, zt44, i64_w, i32_w]
                    rfl
                   refine pure_ (i := 5) (N := some 9) (v := ?_) (a' := ?_) #[true, true, true, true, true, true, false, true, false, false, false, false] rfl rfl (any_of HT_.out (by kernel_rfl)) (fun _ _ _ h => h) (Or.inl ⟨by rfl, ?_⟩) ?_ ?_
                   rotate_left
                   ·intro w'
                    go_simp
                    with_reducible rfl
                   rotate_left
                   ·simp only [Act.put, zs44, zz44, zt44, i64_w, i32_w]
                    rfl
                   exact norm_ (by first | (simp only [putAll, Act.put, zs44, zz44, zt44]; done) | (simp only [putAll, Act.put, zs44, zz44, zt44]; rfl)) (hJ1_2_4 (.slice (some ado41) y292.length co41, ado41) _ ⟨(z44_10 Zg.out), ⟨_, rfl⟩, (z44_3 Za.out), (z44_5 HI0.out Zb.out), (z44_4 HK.out Zh.out), (z44_6 HB.out HI0.out Zl.out)⟩)
                  ·skip
                   refine goes_ Try.func66 (by kernel_rfl) rfl #[.pointer (some ⟨g, 0, none⟩), .int .i64 12] (by rfl) rfl rfl (by (try simp only [List.map_toArray, List.map_cons, List.map_nil]); first | done | rfl | (simp only [List.length_drop, List.length_take]; rfl)) ?_
                   with_reducible refine (spec_l00Src_next.calls g s0_0 t296 t297 12 t299 t300 t301 w0 _ ?side1 ?side2 A6.out).mono ?_
                   (case side1 => repeat (first | (with_reducible first | exact HI0.out | apply IsS89.alloc | apply IsS89.drewN | apply IsS89.drew | apply IsS89.set_1 | apply IsS89.set_2 | refine IsS89.far ?_ Zb.out _) | exact HI0.out))
                   (case side2 => repeat (first | (with_reducible first | exact HB.out | apply below_alloc | apply pw_below_drewN | apply below_drew1 | refine below_set ?_ (IsS89.ge HI0.out) | refine below_set ?_ Zl.out) | exact HB.out))
                   rintro e w39 ⟨rfl, hi, hb, hk⟩
                   refine ⟨_, rfl, ?_⟩
                   have n0_ := zm44 (KeepBut.blk hk (g' := gb288) (o := .cells #[.int .i64 0, .int .i64 0, .int .i64 0, .int .i64 0] 39 (0, 0)) (z44_3 Za.out) Zm.out (by simp))
                   have n1_ := zm44 (KeepBut.trans (z44_4 HK.out Zh.out) hk (.inl rfl))
                   have n2_ := zm44 (hb)
                   have n3_ := zm44 (hi)
                   clear Za
                   clear HK
                   clear HB
                   clear HI0
                   have Za := n0_
                   have HK := n1_
                   have HB := n2_
                   have HI0 := n3_
                   clear n0_ n1_ n2_ n3_
                   (try clear hb)
                   (try clear hb2)
                   (try clear hk)
                   (try clear hi)
                   refine hK.out _ _ trivial (fun hHeld => ?_)
                   clear hK K
                   refine norm_ (a' := ?_) ?_ ?_
                   rotate_left
                   ·show Act.put _ (some 12) _ = _
                    simp only [Act.put, zs44, zz44, zt44, i64_w, i32_w]
                    rfl
                   exact norm_ (by first | (simp only [putAll, Act.put, zs44, zz44, zt44]; done) | (simp only [putAll, Act.put, zs44, zz44, zt44]; rfl)) (hJ1_4_8 () _ ⟨(z44_3 Za.out), (z44_5 HI0.out Zb.out), (z44_4 HK.out Zh.out), (z44_6 HB.out HI0.out Zl.out)⟩)
                  ·skip
                   refine box_step ?hg (N := 3) ?hd (cs := #[.int .i64 0, .int .i64 0, .int .i64 0, .int .i64 0]) (t := 39) ?hr ?_; (case hd => rfl); (case hg => rfl); (case hr => first | (go_simp; done) | (go_simp; rfl))
                   intro gb302 hg w39 hbox hb
                   have n0_ := zm44 (IsS89.below (z44_5 HI0.out Zb.out) hb)
                   have n1_ := zm44 (blk_below (g := gb288) (o := .cells #[.int .i64 0, .int .i64 0, .int .i64 0, .int .i64 0] 39 (0, 0)) (z44_3 Za.out) hb)
                   have n2_ := zm44 (KeepBut.trans (z44_4 HK.out Zh.out) (KeepBut.of_below hb g none) (.inl rfl))
                   have n3_ := zm44 (below_step (z44_6 HB.out HI0.out Zl.out) hb)
                   have n4_ := zm44 (hbox)
                   have n5_ := zm44 ((by rw [hg]; exact (keep_size (w := w) (g := g) (row := none) (z44_4 HK.out Zh.out)) : w.heap.size ≤ gb302))
                   have n6_ := zm44 ((Nat.le_trans HW0.out (by rw [hg]; exact (keep_size (w := w) (g := g) (row := none) (z44_4 HK.out Zh.out)) : w.heap.size ≤ gb302) : w0.heap.size ≤ gb302))
                   have n7_ := zm44 ((by rw [hg]; exact Nat.ne_of_lt (blk_lt (g := gb288) (o := .cells #[.int .i64 0, .int .i64 0, .int .i64 0, .int .i64 0] 39 (0, 0)) (z44_3 Za.out)) : gb288 ≠ gb302))
                   have n8_ := zm44 ((by rw [hg]; exact Nat.ne_of_gt (blk_lt (g := gb288) (o := .cells #[.int .i64 0, .int .i64 0, .int .i64 0, .int .i64 0] 39 (0, 0)) (z44_3 Za.out)) : gb302 ≠ gb288))
                   have n9_ := zm44 ((by rw [hg]; exact Nat.ne_of_lt (IsS89.lt (show IsS89 w0 _ g s0_0 t296 t297 from z44_5 HI0.out Zb.out)) : g ≠ gb302))
                   have n10_ := zm44 ((by rw [hg]; exact Nat.ne_of_gt (IsS89.lt (show IsS89 w0 _ g s0_0 t296 t297 from z44_5 HI0.out Zb.out)) : gb302 ≠ g))
                   clear HI0
                   clear Za
                   clear HK
                   clear HB
                   have HI0 := n0_
                   have Za := n1_
                   have HK := n2_
                   have HB := n3_
                   have Zf := n4_
                   have Zj := n5_
                   have Zk := n6_
                   have Zd := n7_
                   have Ze := n8_
                   have Zc := n9_
                   have Zi := n10_
                   clear n0_ n1_ n2_ n3_ n4_ n5_ n6_ n7_ n8_ n9_ n10_
                   clear hb hbox hg
                   refine hK.out _ _ trivial (fun hHeld => ?_)
                   clear hK K
                   refine norm_ (a' := ?_) ?_ ?_
                   rotate_left
                   ·show Act.put _ (some 3) _ = _
                    simp only [Act.put, zs44, zz44, zt44, i64_w, i32_w]
                    rfl
                   exact norm_ (by first | (simp only [putAll, Act.put, zs44, zz44, zt44]; done) | (simp only [putAll, Act.put, zs44, zz44, zt44]; rfl)) (hJ1_4_10 (gb302) _ ⟨(z44_3 Za.out), (z44_3 Zf.out), Zj.out, Zk.out, Zc.out, Zi.out, Zd.out, Ze.out, (z44_7 HI0.out Zb.out Zc.out), (z44_8 HK.out Zh.out Zj.out), (z44_9 HB.out HI0.out Zl.out Zk.out)⟩)
                ·skip
                 rintro ⟨v293, adz_v293⟩ w40 ⟨h0_, h1_, h2_, h3_, h4_, h5_⟩
                 have n0_ : Aside0 (Kd.R (Kd.int .i64) 3 w40 w.heap.size (fun _ => True) v293 y292) := ⟨h0_⟩
                 have n1_ : Aside0 (∃ c_, (v293 : Value) = .slice (some adz_v293) y292.length c_) := ⟨h1_⟩
                 have n2_ : Aside0 (w40.heap[gb288]? = some (.cells #[.int .i64 0, .int .i64 0, .int .i64 0, .int .i64 0] 39 (0, 0))) := ⟨h2_⟩
                 have n3_ : Aside0 (IsS89 w0 w40 g s0_0 t290 t291) := ⟨h3_⟩
                 have n4_ : Aside0 (KeepBut w w40 g none) := ⟨h4_⟩
                 have n5_ : Aside0 (Below w0.heap.size w0 w40) := ⟨h5_⟩
                 clear Za
                 clear HI0
                 clear HK
                 clear HB
                 clear h0_ h1_ h2_ h3_ h4_ h5_
                 have Zg := n0_
                 have HA_HO294 := n1_
                 have Za := n2_
                 have HI0 := n3_
                 have HK := n4_
                 have HB := n5_
                 clear n0_ n1_ n2_ n3_ n4_ n5_
                 have hHeld := trivial
                 obtain ⟨co41, eo41⟩ := HA_HO294.out
                 clear HA_HO294
                 subst eo41
                 refine norm_ (a' := ?_) ?_ ?_
                 rotate_left
                 ·simp only [putAll, Act.put, zs44, zz44, zt44]
                  rfl
                 refine two_ (i := 4) (j := 10) (Ni := some 8) (Nj := some 3) #[true, true, true, true, true, false, false, true, false, false, false, false] #[true, true, true, true, false, false, false, true, false, false, true, false] rfl rfl rfl rfl (two_of HT_.out (by kernel_rfl)) (by decide) (by decide) (fun K hK => ?_) (fun K hK => ?_)
                 ·skip
                  refine goes_ Try.func66 (by kernel_rfl) rfl #[.pointer (some ⟨g, 0, none⟩), .int .i64 2] (by rfl) rfl rfl (by (try simp only [List.map_toArray, List.map_cons, List.map_nil]); first | done | rfl | (simp only [List.length_drop, List.length_take]; rfl)) ?_
                  with_reducible refine (spec_l00Src_next.calls g s0_0 t290 t291 2 t295 t296 t297 w0 _ ?side1 ?side2 A3.out).mono ?_
                  (case side1 => repeat (first | (with_reducible first | exact HI0.out | apply IsS89.alloc | apply IsS89.drewN | apply IsS89.drew | apply IsS89.set_1 | apply IsS89.set_2 | refine IsS89.far ?_ Zb.out _) | exact HI0.out))
                  (case side2 => repeat (first | (with_reducible first | exact HB.out | apply below_alloc | apply pw_below_drewN | apply below_drew1 | refine below_set ?_ (IsS89.ge HI0.out) | refine below_set ?_ Zl.out) | exact HB.out))
                  rintro e w42 ⟨rfl, hi, hb, hk⟩
                  refine ⟨_, rfl, ?_⟩
                  have n0_ := zm44 (KeepBut.blk hk (g' := gb288) (o := .cells #[.int .i64 0, .int .i64 0, .int .i64 0, .int .i64 0] 39 (0, 0)) (z44_3 Za.out) Zm.out (by simp))
                  have n1_ := zm44 (Kd.R_mono (Kd.R_keep (IsS89.apart (show IsS89 w0 _ g s0_0 t290 t291 from z44_5 HI0.out Zb.out) (z44_10 Zg.out) (by decide)) hk (fun _ h => h.2)) (fun _ h => h.1))
                  have n2_ := zm44 (KeepBut.trans (z44_4 HK.out Zh.out) hk (.inl rfl))
                  have n3_ := zm44 (hb)
                  have n4_ := zm44 (hi)
                  clear Za
                  clear Zg
                  clear HK
                  clear HB
                  clear HI0
                  have Za := n0_
                  have Zg := n1_
                  have HK := n2_
                  have HB := n3_
                  have HI0 := n4_
                  clear n0_ n1_ n2_ n3_ n4_
                  (try clear hb)
                  (try clear hb2)
                  (try clear hk)
                  (try clear hi)
                  refine hK.out _ _ trivial (fun hHeld => ?_)
                  clear hK K
                  refine norm_ (a' := ?_) ?_ ?_
                  rotate_left
                  ·show Act.put _ (some 8) _ = _
                   simp only [Act.put, zs44, zz44, zt44, i64_w, i32_w]
                   rfl
                  refine pure_ (i := 5) (N := some 9) (v := ?_) (a' := ?_) #[true, true, true, true, true, true, false, true, false, false, false, false] rfl rfl (any_of HT_.out (by kernel_rfl)) (fun _ _ _ h => h) (Or.inl ⟨by rfl, ?_⟩) ?_ ?_
                  rotate_left
                  ·intro w'
                   go_simp
                   with_reducible rfl
                  rotate_left
                  ·simp only [Act.put, zs44, zz44, zt44, i64_w, i32_w]
                   rfl
                  exact norm_ (by first | (simp only [putAll, Act.put, zs44, zz44, zt44]; done) | (simp only [putAll, Act.put, zs44, zz44, zt44]; rfl)) (hJ1_2_4 (.slice (some adz_v293) y292.length co41, adz_v293) _ ⟨(z44_10 Zg.out), ⟨_, rfl⟩, (z44_3 Za.out), (z44_5 HI0.out Zb.out), (z44_4 HK.out Zh.out), (z44_6 HB.out HI0.out Zl.out)⟩)
                 ·skip
                  refine box_step ?hg (N := 3) ?hd (cs := #[.int .i64 0, .int .i64 0, .int .i64 0, .int .i64 0]) (t := 39) ?hr ?_; (case hd => rfl); (case hg => rfl); (case hr => first | (go_simp; done) | (go_simp; rfl))
                  intro gb302 hg w42 hbox hb
                  have n0_ := zm44 (Kd.R_below (z44_10 Zg.out) hb)
                  have n1_ := zm44 (IsS89.below (z44_5 HI0.out Zb.out) hb)
                  have n2_ := zm44 (blk_below (g := gb288) (o := .cells #[.int .i64 0, .int .i64 0, .int .i64 0, .int .i64 0] 39 (0, 0)) (z44_3 Za.out) hb)
                  have n3_ := zm44 (KeepBut.trans (z44_4 HK.out Zh.out) (KeepBut.of_below hb g none) (.inl rfl))
                  have n4_ := zm44 (below_step (z44_6 HB.out HI0.out Zl.out) hb)
                  have n5_ := zm44 (hbox)
                  have n6_ := zm44 ((by rw [hg]; exact (keep_size (w := w) (g := g) (row := none) (z44_4 HK.out Zh.out)) : w.heap.size ≤ gb302))
                  have n7_ := zm44 ((Nat.le_trans HW0.out (by rw [hg]; exact (keep_size (w := w) (g := g) (row := none) (z44_4 HK.out Zh.out)) : w.heap.size ≤ gb302) : w0.heap.size ≤ gb302))
                  have n8_ := zm44 ((by rw [hg]; exact Nat.ne_of_lt (blk_lt (g := gb288) (o := .cells #[.int .i64 0, .int .i64 0, .int .i64 0, .int .i64 0] 39 (0, 0)) (z44_3 Za.out)) : gb288 ≠ gb302))
                  have n9_ := zm44 ((by rw [hg]; exact Nat.ne_of_gt (blk_lt (g := gb288) (o := .cells #[.int .i64 0, .int .i64 0, .int .i64 0, .int .i64 0] 39 (0, 0)) (z44_3 Za.out)) : gb302 ≠ gb288))
                  have n10_ := zm44 ((by rw [hg]; exact Nat.ne_of_lt (IsS89.lt (show IsS89 w0 _ g s0_0 t290 t291 from z44_5 HI0.out Zb.out)) : g ≠ gb302))
                  have n11_ := zm44 ((by rw [hg]; exact Nat.ne_of_gt (IsS89.lt (show IsS89 w0 _ g s0_0 t290 t291 from z44_5 HI0.out Zb.out)) : gb302 ≠ g))
                  clear Zg
                  clear HI0
                  clear Za
                  clear HK
                  clear HB
                  have Zg := n0_
                  have HI0 := n1_
                  have Za := n2_
                  have HK := n3_
                  have HB := n4_
                  have Zf := n5_
                  have Zj := n6_
                  have Zk := n7_
                  have Zd := n8_
                  have Ze := n9_
                  have Zc := n10_
                  have Zi := n11_
                  clear n0_ n1_ n2_ n3_ n4_ n5_ n6_ n7_ n8_ n9_ n10_ n11_
                  clear hb hbox hg
                  refine hK.out _ _ trivial (fun hHeld => ?_)
                  clear hK K
                  refine norm_ (a' := ?_) ?_ ?_
                  rotate_left
                  ·show Act.put _ (some 3) _ = _
                   simp only [Act.put, zs44, zz44, zt44, i64_w, i32_w]
                   rfl
                  exact norm_ (by first | (simp only [putAll, Act.put, zs44, zz44, zt44]; done) | (simp only [putAll, Act.put, zs44, zz44, zt44]; rfl)) (hJ1_2_10 (.slice (some adz_v293) y292.length co41, adz_v293, gb302) _ ⟨(z44_10 Zg.out), ⟨_, rfl⟩, (z44_3 Za.out), (z44_3 Zf.out), Zj.out, Zk.out, Zc.out, Zi.out, Zd.out, Ze.out, (z44_7 HI0.out Zb.out Zc.out), (z44_8 HK.out Zh.out Zj.out), (z44_9 HB.out HI0.out Zl.out Zk.out)⟩)
               ·skip
                rintro gb302 w39 ⟨h0_, h1_, h2_, h3_, h4_, h5_, h6_, h7_, h8_, h9_, h10_⟩
                have n0_ : Aside0 (w39.heap[gb288]? = some (.cells #[.int .i64 0, .int .i64 0, .int .i64 0, .int .i64 0] 39 (0, 0))) := ⟨h0_⟩
                have n1_ : Aside0 (w39.heap[gb302]? = some (.cells #[.int .i64 0, .int .i64 0, .int .i64 0, .int .i64 0] 39 (0, 0))) := ⟨h1_⟩
                have n2_ : Aside0 (w.heap.size ≤ gb302) := ⟨h2_⟩
                have n3_ : Aside0 (w0.heap.size ≤ gb302) := ⟨h3_⟩
                have n4_ : Aside0 (g ≠ gb302) := ⟨h4_⟩
                have n5_ : Aside0 (gb302 ≠ g) := ⟨h5_⟩
                have n6_ : Aside0 (gb288 ≠ gb302) := ⟨h6_⟩
                have n7_ : Aside0 (gb302 ≠ gb288) := ⟨h7_⟩
                have n8_ : Aside0 (IsS89 w0 w39 g s0_0 t296 t297) := ⟨h8_⟩
                have n9_ : Aside0 (KeepBut w w39 g none) := ⟨h9_⟩
                have n10_ : Aside0 (Below w0.heap.size w0 w39) := ⟨h10_⟩
                clear Za
                clear HI0
                clear HK
                clear HB
                clear h0_ h1_ h2_ h3_ h4_ h5_ h6_ h7_ h8_ h9_ h10_
                have Za := n0_
                have Zf := n1_
                have Zj := n2_
                have Zk := n3_
                have Zc := n4_
                have Zi := n5_
                have Zd := n6_
                have Ze := n7_
                have HI0 := n8_
                have HK := n9_
                have HB := n10_
                clear n0_ n1_ n2_ n3_ n4_ n5_ n6_ n7_ n8_ n9_ n10_
                have hHeld := trivial
                refine norm_ (a' := ?_) ?_ ?_
                rotate_left
                ·simp only [putAll, Act.put, zs44, zz44, zt44]
                 rfl
                refine two_ (i := 2) (j := 8) (Ni := some 6) (Nj := some 12) #[true, true, true, true, true, false, false, true, false, false, true, false] #[true, true, false, true, true, false, false, true, true, false, true, false] rfl rfl rfl rfl (two_of HT_.out (by kernel_rfl)) (by decide) (by decide) (fun K hK => ?_) (fun K hK => ?_)
                ·skip
                 refine Kd.R_lit_step (Kd.int .i64) _ 3 ?hg (N := 6) ?hd (xs := ([0, t289] : List Int)) (inner := [.int .i64 0, .int .i64 t289]) (ok := fun _ => True) (okp := fun _ => True) ?hr ?hp (fun _ hk => hk) trivial (Below.refl _ _) (Nat.le_refl _) (by simp) ?_; (case hd => rfl); (case hg => rfl); (case hr => first | (go_simp; done) | (go_simp; rfl)); (case hp => exact (Reps.one (show Kd.M (Kd.int .i64) _ _ _ 0 [.int .i64 0] from rfl) (Reps.one (show Kd.M (Kd.int .i64) _ _ _ t289 [.int .i64 t289] from rfl) (Reps.none _ _))))
                 intro v293 w40 ho41 hb hg_ hnew_
                 clear hg_ hnew_
                 (first | rw [← Ny292.out] at ho41 | (simp only [Int.reduceToNat] at ho41; rw [← Ny292.out] at ho41))
                 have n0_ := zm44 (Kd.R_lower ho41 (keep_size (w := w) (g := g) (row := none) (z44_8 HK.out Zh.out Zj.out)))
                 have n1_ := zm44 (IsS89.below (z44_7 HI0.out Zb.out Zc.out) hb)
                 have n2_ := zm44 (blk_below (g := gb288) (o := .cells #[.int .i64 0, .int .i64 0, .int .i64 0, .int .i64 0] 39 (0, 0)) (z44_3 Za.out) hb)
                 have n3_ := zm44 (blk_below (g := gb302) (o := .cells #[.int .i64 0, .int .i64 0, .int .i64 0, .int .i64 0] 39 (0, 0)) (z44_3 Zf.out) hb)
                 have n4_ := zm44 (KeepBut.trans (z44_8 HK.out Zh.out Zj.out) (KeepBut.of_below hb g none) (.inl rfl))
                 have n5_ := zm44 (below_step (z44_9 HB.out HI0.out Zl.out Zk.out) hb)
                 clear HI0
                 clear Za
                 clear Zf
                 clear HK
                 clear HB
                 have Zg := n0_
                 have HI0 := n1_
                 have Za := n2_
                 have Zf := n3_
                 have HK := n4_
                 have HB := n5_
                 clear n0_ n1_ n2_ n3_ n4_ n5_
                 clear hb ho41
                 obtain ⟨Ao42, co42, eo42⟩ := Kd.R_slice Zg.out
                 subst eo42
                 obtain ⟨ado42, fo42, _⟩ := Kd.at_int (Kd.R_reads' Zg.out).2.2 0 (by decide) (by rw [Ny292.out]; simp)
                 cases fo42
                 refine hK.out _ _ trivial (fun hHeld => ?_)
                 clear hK K
                 refine norm_ (a' := ?_) ?_ ?_
                 rotate_left
                 ·show Act.put _ (some 6) _ = _
                  simp only [Act.put, zs44, zz44, zt44, i64_w, i32_w]
                  rfl
                 refine pure_ (i := 5) (N := some 9) (v := ?_) (a' := ?_) #[true, true, true, true, true, true, false, true, false, false, true, false] rfl rfl (any_of HT_.out (by kernel_rfl)) (fun _ _ _ h => h) (Or.inl ⟨by rfl, ?_⟩) ?_ ?_
                 rotate_left
                 ·intro w'
                  go_simp
                  with_reducible rfl
                 rotate_left
                 ·simp only [Act.put, zs44, zz44, zt44, i64_w, i32_w]
                  rfl
                 exact norm_ (by first | (simp only [putAll, Act.put, zs44, zz44, zt44]; done) | (simp only [putAll, Act.put, zs44, zz44, zt44]; rfl)) (hJ1_2_4_10 (.slice (some ado42) y292.length co42, ado42, gb302) _ ⟨(z44_10 Zg.out), ⟨_, rfl⟩, (z44_3 Za.out), (z44_3 Zf.out), Zj.out, Zk.out, Zc.out, Zi.out, Zd.out, Ze.out, (z44_7 HI0.out Zb.out Zc.out), (z44_8 HK.out Zh.out Zj.out), (z44_9 HB.out HI0.out Zl.out Zk.out)⟩)
                ·skip
                 refine goes_ Try.func66 (by kernel_rfl) rfl #[.pointer (some ⟨g, 0, none⟩), .int .i64 12] (by rfl) rfl rfl (by (try simp only [List.map_toArray, List.map_cons, List.map_nil]); first | done | rfl | (simp only [List.length_drop, List.length_take]; rfl)) ?_
                 with_reducible refine (spec_l00Src_next.calls g s0_0 t296 t297 12 t299 t300 t301 w0 _ ?side1 ?side2 A6.out).mono ?_
                 (case side1 => repeat (first | (with_reducible first | exact HI0.out | apply IsS89.alloc | apply IsS89.drewN | apply IsS89.drew | apply IsS89.set_1 | apply IsS89.set_2 | refine IsS89.far ?_ Zb.out _ | refine IsS89.far ?_ Zc.out _) | exact HI0.out))
                 (case side2 => repeat (first | (with_reducible first | exact HB.out | apply below_alloc | apply pw_below_drewN | apply below_drew1 | refine below_set ?_ (IsS89.ge HI0.out) | refine below_set ?_ Zl.out | refine below_set ?_ Zk.out) | exact HB.out))
                 rintro e w40 ⟨rfl, hi, hb, hk⟩
                 refine ⟨_, rfl, ?_⟩
                 have n0_ := zm44 (KeepBut.blk hk (g' := gb288) (o := .cells #[.int .i64 0, .int .i64 0, .int .i64 0, .int .i64 0] 39 (0, 0)) (z44_3 Za.out) Zm.out (by simp))
                 have n1_ := zm44 (KeepBut.blk hk (g' := gb302) (o := .cells #[.int .i64 0, .int .i64 0, .int .i64 0, .int .i64 0] 39 (0, 0)) (z44_3 Zf.out) Zi.out (by simp))
                 have n2_ := zm44 (KeepBut.trans (z44_8 HK.out Zh.out Zj.out) hk (.inl rfl))
                 have n3_ := zm44 (hb)
                 have n4_ := zm44 (hi)
                 clear Za
                 clear Zf
                 clear HK
                 clear HB
                 clear HI0
                 have Za := n0_
                 have Zf := n1_
                 have HK := n2_
                 have HB := n3_
                 have HI0 := n4_
                 clear n0_ n1_ n2_ n3_ n4_
                 (try clear hb)
                 (try clear hb2)
                 (try clear hk)
                 (try clear hi)
                 refine hK.out _ _ trivial (fun hHeld => ?_)
                 clear hK K
                 refine norm_ (a' := ?_) ?_ ?_
                 rotate_left
                 ·show Act.put _ (some 12) _ = _
                  simp only [Act.put, zs44, zz44, zt44, i64_w, i32_w]
                  rfl
                 exact norm_ (by first | (simp only [putAll, Act.put, zs44, zz44, zt44]; done) | (simp only [putAll, Act.put, zs44, zz44, zt44]; rfl)) (hJ1_4_8_10 (gb302) _ ⟨(z44_3 Za.out), (z44_3 Zf.out), Zj.out, Zk.out, Zc.out, Zi.out, Zd.out, Ze.out, (z44_7 HI0.out Zb.out Zc.out), (z44_8 HK.out Zh.out Zj.out), (z44_9 HB.out HI0.out Zl.out Zk.out)⟩)
              ·skip
               rintro _ w39 ⟨h0_, h1_, h2_, h3_⟩
               have n0_ : Aside0 (w39.heap[gb288]? = some (.cells #[.int .i64 0, .int .i64 0, .int .i64 0, .int .i64 0] 39 (0, 0))) := ⟨h0_⟩
               have n1_ : Aside0 (IsS89 w0 w39 g s0_0 t300 t301) := ⟨h1_⟩
               have n2_ : Aside0 (KeepBut w w39 g none) := ⟨h2_⟩
               have n3_ : Aside0 (Below w0.heap.size w0 w39) := ⟨h3_⟩
               clear Za
               clear HI0
               clear HK
               clear HB
               clear h0_ h1_ h2_ h3_
               have Za := n0_
               have HI0 := n1_
               have HK := n2_
               have HB := n3_
               clear n0_ n1_ n2_ n3_
               have hHeld := trivial
               refine norm_ (a' := ?_) ?_ ?_
               rotate_left
               ·simp only [putAll, Act.put, zs44, zz44, zt44]
                rfl
               refine two_ (i := 2) (j := 10) (Ni := some 6) (Nj := some 3) #[true, true, true, true, true, false, false, true, true, false, false, false] #[true, true, false, true, true, false, false, true, true, false, true, false] rfl rfl rfl rfl (two_of HT_.out (by kernel_rfl)) (by decide) (by decide) (fun K hK => ?_) (fun K hK => ?_)
               ·skip
                refine Kd.R_lit_step (Kd.int .i64) _ 3 ?hg (N := 6) ?hd (xs := ([0, t289] : List Int)) (inner := [.int .i64 0, .int .i64 t289]) (ok := fun _ => True) (okp := fun _ => True) ?hr ?hp (fun _ hk => hk) trivial (Below.refl _ _) (Nat.le_refl _) (by simp) ?_; (case hd => rfl); (case hg => rfl); (case hr => first | (go_simp; done) | (go_simp; rfl)); (case hp => exact (Reps.one (show Kd.M (Kd.int .i64) _ _ _ 0 [.int .i64 0] from rfl) (Reps.one (show Kd.M (Kd.int .i64) _ _ _ t289 [.int .i64 t289] from rfl) (Reps.none _ _))))
                intro v293 w40 ho41 hb hg_ hnew_
                clear hg_ hnew_
                (first | rw [← Ny292.out] at ho41 | (simp only [Int.reduceToNat] at ho41; rw [← Ny292.out] at ho41))
                have n0_ := zm44 (Kd.R_lower ho41 (keep_size (w := w) (g := g) (row := none) (z44_4 HK.out Zh.out)))
                have n1_ := zm44 (IsS89.below (z44_5 HI0.out Zb.out) hb)
                have n2_ := zm44 (blk_below (g := gb288) (o := .cells #[.int .i64 0, .int .i64 0, .int .i64 0, .int .i64 0] 39 (0, 0)) (z44_3 Za.out) hb)
                have n3_ := zm44 (KeepBut.trans (z44_4 HK.out Zh.out) (KeepBut.of_below hb g none) (.inl rfl))
                have n4_ := zm44 (below_step (z44_6 HB.out HI0.out Zl.out) hb)
                clear HI0
                clear Za
                clear HK
                clear HB
                have Zg := n0_
                have HI0 := n1_
                have Za := n2_
                have HK := n3_
                have HB := n4_
                clear n0_ n1_ n2_ n3_ n4_
                clear hb ho41
                obtain ⟨Ao42, co42, eo42⟩ := Kd.R_slice Zg.out
                subst eo42
                obtain ⟨ado42, fo42, _⟩ := Kd.at_int (Kd.R_reads' Zg.out).2.2 0 (by decide) (by rw [Ny292.out]; simp)
                cases fo42
                refine hK.out _ _ trivial (fun hHeld => ?_)
                clear hK K
                refine norm_ (a' := ?_) ?_ ?_
                rotate_left
                ·show Act.put _ (some 6) _ = _
                 simp only [Act.put, zs44, zz44, zt44, i64_w, i32_w]
                 rfl
                refine pure_ (i := 5) (N := some 9) (v := ?_) (a' := ?_) #[true, true, true, true, true, true, false, true, true, false, false, false] rfl rfl (any_of HT_.out (by kernel_rfl)) (fun _ _ _ h => h) (Or.inl ⟨by rfl, ?_⟩) ?_ ?_
                rotate_left
                ·intro w'
                 go_simp
                 with_reducible rfl
                rotate_left
                ·simp only [Act.put, zs44, zz44, zt44, i64_w, i32_w]
                 rfl
                exact norm_ (by first | (simp only [putAll, Act.put, zs44, zz44, zt44]; done) | (simp only [putAll, Act.put, zs44, zz44, zt44]; rfl)) (hJ1_2_4_8 (.slice (some ado42) y292.length co42, ado42) _ ⟨(z44_10 Zg.out), ⟨_, rfl⟩, (z44_3 Za.out), (z44_5 HI0.out Zb.out), (z44_4 HK.out Zh.out), (z44_6 HB.out HI0.out Zl.out)⟩)
               ·skip
                refine box_step ?hg (N := 3) ?hd (cs := #[.int .i64 0, .int .i64 0, .int .i64 0, .int .i64 0]) (t := 39) ?hr ?_; (case hd => rfl); (case hg => rfl); (case hr => first | (go_simp; done) | (go_simp; rfl))
                intro gb302 hg w40 hbox hb
                have n0_ := zm44 (IsS89.below (z44_5 HI0.out Zb.out) hb)
                have n1_ := zm44 (blk_below (g := gb288) (o := .cells #[.int .i64 0, .int .i64 0, .int .i64 0, .int .i64 0] 39 (0, 0)) (z44_3 Za.out) hb)
                have n2_ := zm44 (KeepBut.trans (z44_4 HK.out Zh.out) (KeepBut.of_below hb g none) (.inl rfl))
                have n3_ := zm44 (below_step (z44_6 HB.out HI0.out Zl.out) hb)
                have n4_ := zm44 (hbox)
                have n5_ := zm44 ((by rw [hg]; exact (keep_size (w := w) (g := g) (row := none) (z44_4 HK.out Zh.out)) : w.heap.size ≤ gb302))
                have n6_ := zm44 ((Nat.le_trans HW0.out (by rw [hg]; exact (keep_size (w := w) (g := g) (row := none) (z44_4 HK.out Zh.out)) : w.heap.size ≤ gb302) : w0.heap.size ≤ gb302))
                have n7_ := zm44 ((by rw [hg]; exact Nat.ne_of_lt (blk_lt (g := gb288) (o := .cells #[.int .i64 0, .int .i64 0, .int .i64 0, .int .i64 0] 39 (0, 0)) (z44_3 Za.out)) : gb288 ≠ gb302))
                have n8_ := zm44 ((by rw [hg]; exact Nat.ne_of_gt (blk_lt (g := gb288) (o := .cells #[.int .i64 0, .int .i64 0, .int .i64 0, .int .i64 0] 39 (0, 0)) (z44_3 Za.out)) : gb302 ≠ gb288))
                have n9_ := zm44 ((by rw [hg]; exact Nat.ne_of_lt (IsS89.lt (show IsS89 w0 _ g s0_0 t300 t301 from z44_5 HI0.out Zb.out)) : g ≠ gb302))
                have n10_ := zm44 ((by rw [hg]; exact Nat.ne_of_gt (IsS89.lt (show IsS89 w0 _ g s0_0 t300 t301 from z44_5 HI0.out Zb.out)) : gb302 ≠ g))
                clear HI0
                clear Za
                clear HK
                clear HB
                have HI0 := n0_
                have Za := n1_
                have HK := n2_
                have HB := n3_
                have Zf := n4_
                have Zj := n5_
                have Zk := n6_
                have Zd := n7_
                have Ze := n8_
                have Zc := n9_
                have Zi := n10_
                clear n0_ n1_ n2_ n3_ n4_ n5_ n6_ n7_ n8_ n9_ n10_
                clear hb hbox hg
                refine hK.out _ _ trivial (fun hHeld => ?_)
                clear hK K
                refine norm_ (a' := ?_) ?_ ?_
                rotate_left
                ·show Act.put _ (some 3) _ = _
                 simp only [Act.put, zs44, zz44, zt44, i64_w, i32_w]
                 rfl
                exact norm_ (by first | (simp only [putAll, Act.put, zs44, zz44, zt44]; done) | (simp only [putAll, Act.put, zs44, zz44, zt44]; rfl)) (hJ1_4_8_10 (gb302) _ ⟨(z44_3 Za.out), (z44_3 Zf.out), Zj.out, Zk.out, Zc.out, Zi.out, Zd.out, Ze.out, (z44_7 HI0.out Zb.out Zc.out), (z44_8 HK.out Zh.out Zj.out), (z44_9 HB.out HI0.out Zl.out Zk.out)⟩)
             ·skip
              rintro ⟨v293, adz_v293, gb302⟩ w41 ⟨h0_, h1_, h2_, h3_, h4_, h5_, h6_, h7_, h8_, h9_, h10_, h11_, h12_⟩
              have n0_ : Aside0 (Kd.R (Kd.int .i64) 3 w41 w.heap.size (fun _ => True) v293 y292) := ⟨h0_⟩
              have n1_ : Aside0 (∃ c_, (v293 : Value) = .slice (some adz_v293) y292.length c_) := ⟨h1_⟩
              have n2_ : Aside0 (w41.heap[gb288]? = some (.cells #[.int .i64 0, .int .i64 0, .int .i64 0, .int .i64 0] 39 (0, 0))) := ⟨h2_⟩
              have n3_ : Aside0 (w41.heap[gb302]? = some (.cells #[.int .i64 0, .int .i64 0, .int .i64 0, .int .i64 0] 39 (0, 0))) := ⟨h3_⟩
              have n4_ : Aside0 (w.heap.size ≤ gb302) := ⟨h4_⟩
              have n5_ : Aside0 (w0.heap.size ≤ gb302) := ⟨h5_⟩
              have n6_ : Aside0 (g ≠ gb302) := ⟨h6_⟩
              have n7_ : Aside0 (gb302 ≠ g) := ⟨h7_⟩
              have n8_ : Aside0 (gb288 ≠ gb302) := ⟨h8_⟩
              have n9_ : Aside0 (gb302 ≠ gb288) := ⟨h9_⟩
              have n10_ : Aside0 (IsS89 w0 w41 g s0_0 t290 t291) := ⟨h10_⟩
              have n11_ : Aside0 (KeepBut w w41 g none) := ⟨h11_⟩
              have n12_ : Aside0 (Below w0.heap.size w0 w41) := ⟨h12_⟩
              clear Za
              clear HI0
              clear HK
              clear HB
              clear h0_ h1_ h2_ h3_ h4_ h5_ h6_ h7_ h8_ h9_ h10_ h11_ h12_
              have Zg := n0_
              have HA_HO294 := n1_
              have Za := n2_
              have Zf := n3_
              have Zj := n4_
              have Zk := n5_
              have Zc := n6_
              have Zi := n7_
              have Zd := n8_
              have Ze := n9_
              have HI0 := n10_
              have HK := n11_
              have HB := n12_
              clear n0_ n1_ n2_ n3_ n4_ n5_ n6_ n7_ n8_ n9_ n10_ n11_ n12_
              have hHeld := trivial
              obtain ⟨co42, eo42⟩ := HA_HO294.out
              clear HA_HO294
              subst eo42
              refine norm_ (a' := ?_) ?_ ?_
              rotate_left
              ·simp only [putAll, Act.put, zs44, zz44, zt44]
               rfl
              refine one_ (i := 4) (N := some 8) #[true, true, true, true, true, false, false, true, false, false, true, false] rfl rfl (one_of HT_.out (by kernel_rfl)) (by decide) (fun K hK => ?_)
              refine goes_ Try.func66 (by kernel_rfl) rfl #[.pointer (some ⟨g, 0, none⟩), .int .i64 2] (by rfl) rfl rfl (by (try simp only [List.map_toArray, List.map_cons, List.map_nil]); first | done | rfl | (simp only [List.length_drop, List.length_take]; rfl)) ?_
              with_reducible refine (spec_l00Src_next.calls g s0_0 t290 t291 2 t295 t296 t297 w0 _ ?side1 ?side2 A3.out).mono ?_
              (case side1 => repeat (first | (with_reducible first | exact HI0.out | apply IsS89.alloc | apply IsS89.drewN | apply IsS89.drew | apply IsS89.set_1 | apply IsS89.set_2 | refine IsS89.far ?_ Zb.out _ | refine IsS89.far ?_ Zc.out _) | exact HI0.out))
              (case side2 => repeat (first | (with_reducible first | exact HB.out | apply below_alloc | apply pw_below_drewN | apply below_drew1 | refine below_set ?_ (IsS89.ge HI0.out) | refine below_set ?_ Zl.out | refine below_set ?_ Zk.out) | exact HB.out))
              rintro e w43 ⟨rfl, hi, hb, hk⟩
              refine ⟨_, rfl, ?_⟩
              have n0_ := zm44 (KeepBut.blk hk (g' := gb288) (o := .cells #[.int .i64 0, .int .i64 0, .int .i64 0, .int .i64 0] 39 (0, 0)) (z44_3 Za.out) Zm.out (by simp))
              have n1_ := zm44 (Kd.R_mono (Kd.R_keep (IsS89.apart (show IsS89 w0 _ g s0_0 t290 t291 from z44_7 HI0.out Zb.out Zc.out) (z44_10 Zg.out) (by decide)) hk (fun _ h => h.2)) (fun _ h => h.1))
              have n2_ := zm44 (KeepBut.blk hk (g' := gb302) (o := .cells #[.int .i64 0, .int .i64 0, .int .i64 0, .int .i64 0] 39 (0, 0)) (z44_3 Zf.out) Zi.out (by simp))
              have n3_ := zm44 (KeepBut.trans (z44_8 HK.out Zh.out Zj.out) hk (.inl rfl))
              have n4_ := zm44 (hb)
              have n5_ := zm44 (hi)
              clear Za
              clear Zg
              clear Zf
              clear HK
              clear HB
              clear HI0
              have Za := n0_
              have Zg := n1_
              have Zf := n2_
              have HK := n3_
              have HB := n4_
              have HI0 := n5_
              clear n0_ n1_ n2_ n3_ n4_ n5_
              (try clear hb)
              (try clear hb2)
              (try clear hk)
              (try clear hi)
              refine hK.out _ _ trivial (fun hHeld => ?_)
              clear hK K
              refine norm_ (a' := ?_) ?_ ?_
              rotate_left
              ·show Act.put _ (some 8) _ = _
               simp only [Act.put, zs44, zz44, zt44, i64_w, i32_w]
               rfl
              refine pure_ (i := 5) (N := some 9) (v := ?_) (a' := ?_) #[true, true, true, true, true, true, false, true, false, false, true, false] rfl rfl (any_of HT_.out (by kernel_rfl)) (fun _ _ _ h => h) (Or.inl ⟨by rfl, ?_⟩) ?_ ?_
              rotate_left
              ·intro w'
               go_simp
               with_reducible rfl
              rotate_left
              ·simp only [Act.put, zs44, zz44, zt44, i64_w, i32_w]
               rfl
              exact norm_ (by first | (simp only [putAll, Act.put, zs44, zz44, zt44]; done) | (simp only [putAll, Act.put, zs44, zz44, zt44]; rfl)) (hJ1_2_4_10 (.slice (some adz_v293) y292.length co42, adz_v293, gb302) _ ⟨(z44_10 Zg.out), ⟨_, rfl⟩, (z44_3 Za.out), (z44_3 Zf.out), Zj.out, Zk.out, Zc.out, Zi.out, Zd.out, Ze.out, (z44_7 HI0.out Zb.out Zc.out), (z44_8 HK.out Zh.out Zj.out), (z44_9 HB.out HI0.out Zl.out Zk.out)⟩)
            ·skip
             rintro ⟨v293, adz_v293⟩ w41 ⟨h0_, h1_, h2_, h3_, h4_, h5_⟩
             have n0_ : Aside0 (Kd.R (Kd.int .i64) 3 w41 w.heap.size (fun _ => True) v293 y292) := ⟨h0_⟩
             have n1_ : Aside0 (∃ c_, (v293 : Value) = .slice (some adz_v293) y292.length c_) := ⟨h1_⟩
             have n2_ : Aside0 (w41.heap[gb288]? = some (.cells #[.int .i64 0, .int .i64 0, .int .i64 0, .int .i64 0] 39 (0, 0))) := ⟨h2_⟩
             have n3_ : Aside0 (IsS89 w0 w41 g s0_0 t296 t297) := ⟨h3_⟩
             have n4_ : Aside0 (KeepBut w w41 g none) := ⟨h4_⟩
             have n5_ : Aside0 (Below w0.heap.size w0 w41) := ⟨h5_⟩
             clear Za
             clear HI0
             clear HK
             clear HB
             clear h0_ h1_ h2_ h3_ h4_ h5_
             have Zg := n0_
             have HA_HO294 := n1_
             have Za := n2_
             have HI0 := n3_
             have HK := n4_
             have HB := n5_
             clear n0_ n1_ n2_ n3_ n4_ n5_
             have hHeld := trivial
             obtain ⟨co42, eo42⟩ := HA_HO294.out
             clear HA_HO294
             subst eo42
             refine norm_ (a' := ?_) ?_ ?_
             rotate_left
             ·simp only [putAll, Act.put, zs44, zz44, zt44]
              rfl
             refine three_ (i := 6) (j := 8) (k := 10) (Ni := some 10) (Nj := some 12) (Nk := some 3) #[true, true, true, true, true, true, true, true, false, false, false, false] #[true, true, true, true, true, true, false, true, true, false, false, false] #[true, true, true, true, true, true, false, true, false, false, true, false] rfl rfl rfl rfl rfl rfl (three_of HT_.out (by kernel_rfl)) (by decide) (by decide) (by decide) (fun K hK => ?_) (fun K hK => ?_) (fun K hK => ?_)
             ·skip
              (have p298 : 0 ≤ (t295 : Int) := of_decide_eq_true (by first | (with_reducible assumption) | assumption); have q298 : t295 < (y292.length : Int) := of_decide_eq_true (by first | (with_reducible assumption) | assumption); obtain ⟨ad298, e298, hx298_0⟩ := Kd.at_int (Kd.R_reads' Zg.out).2.2 t295 p298 q298; obtain rfl : adz_v293 = ad298 := (by injection e298))
              refine value_ (w1 := ?_) (v := ?_) (by rfl) rfl ?_ ?_
              rotate_left 2
              ·go_simp
               constructor
               ·rfl
               ·rfl
              clear hx298_0
              refine hK.out _ _ trivial (fun hHeld => ?_)
              clear hK K
              refine norm_ (a' := ?_) ?_ ?_
              rotate_left
              ·show Act.put _ (some 10) _ = _
               simp only [Act.put, zs44, zz44, zt44, i64_w, i32_w]
               rfl
              exact norm_ (by first | (simp only [putAll, Act.put, zs44, zz44, zt44]; done) | (simp only [putAll, Act.put, zs44, zz44, zt44]; rfl)) (hJ1_2_4_6 (.slice (some adz_v293) y292.length co42, adz_v293) _ ⟨(z44_10 Zg.out), ⟨_, rfl⟩, (z44_3 Za.out), (z44_5 HI0.out Zb.out), (z44_4 HK.out Zh.out), (z44_6 HB.out HI0.out Zl.out)⟩)
             ·skip
              refine goes_ Try.func66 (by kernel_rfl) rfl #[.pointer (some ⟨g, 0, none⟩), .int .i64 12] (by rfl) rfl rfl (by (try simp only [List.map_toArray, List.map_cons, List.map_nil]); first | done | rfl | (simp only [List.length_drop, List.length_take]; rfl)) ?_
              with_reducible refine (spec_l00Src_next.calls g s0_0 t296 t297 12 t299 t300 t301 w0 _ ?side1 ?side2 A6.out).mono ?_
              (case side1 => repeat (first | (with_reducible first | exact HI0.out | apply IsS89.alloc | apply IsS89.drewN | apply IsS89.drew | apply IsS89.set_1 | apply IsS89.set_2 | refine IsS89.far ?_ Zb.out _) | exact HI0.out))
              (case side2 => repeat (first | (with_reducible first | exact HB.out | apply below_alloc | apply pw_below_drewN | apply below_drew1 | refine below_set ?_ (IsS89.ge HI0.out) | refine below_set ?_ Zl.out) | exact HB.out))
              rintro e w43 ⟨rfl, hi, hb, hk⟩
              refine ⟨_, rfl, ?_⟩
              have n0_ := zm44 (KeepBut.blk hk (g' := gb288) (o := .cells #[.int .i64 0, .int .i64 0, .int .i64 0, .int .i64 0] 39 (0, 0)) (z44_3 Za.out) Zm.out (by simp))
              have n1_ := zm44 (Kd.R_mono (Kd.R_keep (IsS89.apart (show IsS89 w0 _ g s0_0 t296 t297 from z44_5 HI0.out Zb.out) (z44_10 Zg.out) (by decide)) hk (fun _ h => h.2)) (fun _ h => h.1))
              have n2_ := zm44 (KeepBut.trans (z44_4 HK.out Zh.out) hk (.inl rfl))
              have n3_ := zm44 (hb)
              have n4_ := zm44 (hi)
              clear Za
              clear Zg
              clear HK
              clear HB
              clear HI0
              have Za := n0_
              have Zg := n1_
              have HK := n2_
              have HB := n3_
              have HI0 := n4_
              clear n0_ n1_ n2_ n3_ n4_
              (try clear hb)
              (try clear hb2)
              (try clear hk)
              (try clear hi)
              refine hK.out _ _ trivial (fun hHeld => ?_)
              clear hK K
              refine norm_ (a' := ?_) ?_ ?_
              rotate_left
              ·show Act.put _ (some 12) _ = _
               simp only [Act.put, zs44, zz44, zt44, i64_w, i32_w]
               rfl
              exact norm_ (by first | (simp only [putAll, Act.put, zs44, zz44, zt44]; done) | (simp only [putAll, Act.put, zs44, zz44, zt44]; rfl)) (hJ1_2_4_8 (.slice (some adz_v293) y292.length co42, adz_v293) _ ⟨(z44_10 Zg.out), ⟨_, rfl⟩, (z44_3 Za.out), (z44_5 HI0.out Zb.out), (z44_4 HK.out Zh.out), (z44_6 HB.out HI0.out Zl.out)⟩)
             ·skip
              refine box_step ?hg (N := 3) ?hd (cs := #[.int .i64 0, .int .i64 0, .int .i64 0, .int .i64 0]) (t := 39) ?hr ?_; (case hd => rfl); (case hg => rfl); (case hr => first | (go_simp; done) | (go_simp; rfl))
              intro gb302 hg w43 hbox hb
              have n0_ := zm44 (Kd.R_below (z44_10 Zg.out) hb)
              have n1_ := zm44 (IsS89.below (z44_5 HI0.out Zb.out) hb)
              have n2_ := zm44 (blk_below (g := gb288) (o := .cells #[.int .i64 0, .int .i64 0, .int .i64 0, .int .i64 0] 39 (0, 0)) (z44_3 Za.out) hb)
              have n3_ := zm44 (KeepBut.trans (z44_4 HK.out Zh.out) (KeepBut.of_below hb g none) (.inl rfl))
              have n4_ := zm44 (below_step (z44_6 HB.out HI0.out Zl.out) hb)
              have n5_ := zm44 (hbox)
              have n6_ := zm44 ((by rw [hg]; exact (keep_size (w := w) (g := g) (row := none) (z44_4 HK.out Zh.out)) : w.heap.size ≤ gb302))
              have n7_ := zm44 ((Nat.le_trans HW0.out (by rw [hg]; exact (keep_size (w := w) (g := g) (row := none) (z44_4 HK.out Zh.out)) : w.heap.size ≤ gb302) : w0.heap.size ≤ gb302))
              have n8_ := zm44 ((by rw [hg]; exact Nat.ne_of_lt (blk_lt (g := gb288) (o := .cells #[.int .i64 0, .int .i64 0, .int .i64 0, .int .i64 0] 39 (0, 0)) (z44_3 Za.out)) : gb288 ≠ gb302))
              have n9_ := zm44 ((by rw [hg]; exact Nat.ne_of_gt (blk_lt (g := gb288) (o := .cells #[.int .i64 0, .int .i64 0, .int .i64 0, .int .i64 0] 39 (0, 0)) (z44_3 Za.out)) : gb302 ≠ gb288))
              have n10_ := zm44 ((by rw [hg]; exact Nat.ne_of_lt (IsS89.lt (show IsS89 w0 _ g s0_0 t296 t297 from z44_5 HI0.out Zb.out)) : g ≠ gb302))
              have n11_ := zm44 ((by rw [hg]; exact Nat.ne_of_gt (IsS89.lt (show IsS89 w0 _ g s0_0 t296 t297 from z44_5 HI0.out Zb.out)) : gb302 ≠ g))
              clear Zg
              clear HI0
              clear Za
              clear HK
              clear HB
              have Zg := n0_
              have HI0 := n1_
              have Za := n2_
              have HK := n3_
              have HB := n4_
              have Zf := n5_
              have Zj := n6_
              have Zk := n7_
              have Zd := n8_
              have Ze := n9_
              have Zc := n10_
              have Zi := n11_
              clear n0_ n1_ n2_ n3_ n4_ n5_ n6_ n7_ n8_ n9_ n10_ n11_
              clear hb hbox hg
              refine hK.out _ _ trivial (fun hHeld => ?_)
              clear hK K
              refine norm_ (a' := ?_) ?_ ?_
              rotate_left
              ·show Act.put _ (some 3) _ = _
               simp only [Act.put, zs44, zz44, zt44, i64_w, i32_w]
               rfl
              exact norm_ (by first | (simp only [putAll, Act.put, zs44, zz44, zt44]; done) | (simp only [putAll, Act.put, zs44, zz44, zt44]; rfl)) (hJ1_2_4_10 (.slice (some adz_v293) y292.length co42, adz_v293, gb302) _ ⟨(z44_10 Zg.out), ⟨_, rfl⟩, (z44_3 Za.out), (z44_3 Zf.out), Zj.out, Zk.out, Zc.out, Zi.out, Zd.out, Ze.out, (z44_7 HI0.out Zb.out Zc.out), (z44_8 HK.out Zh.out Zj.out), (z44_9 HB.out HI0.out Zl.out Zk.out)⟩)
           ·skip
            rintro gb302 w40 ⟨h0_, h1_, h2_, h3_, h4_, h5_, h6_, h7_, h8_, h9_, h10_⟩
            have n0_ : Aside0 (w40.heap[gb288]? = some (.cells #[.int .i64 0, .int .i64 0, .int .i64 0, .int .i64 0] 39 (0, 0))) := ⟨h0_⟩
            have n1_ : Aside0 (w40.heap[gb302]? = some (.cells #[.int .i64 0, .int .i64 0, .int .i64 0, .int .i64 0] 39 (0, 0))) := ⟨h1_⟩
            have n2_ : Aside0 (w.heap.size ≤ gb302) := ⟨h2_⟩
            have n3_ : Aside0 (w0.heap.size ≤ gb302) := ⟨h3_⟩
            have n4_ : Aside0 (g ≠ gb302) := ⟨h4_⟩
            have n5_ : Aside0 (gb302 ≠ g) := ⟨h5_⟩
            have n6_ : Aside0 (gb288 ≠ gb302) := ⟨h6_⟩
            have n7_ : Aside0 (gb302 ≠ gb288) := ⟨h7_⟩
            have n8_ : Aside0 (IsS89 w0 w40 g s0_0 t300 t301) := ⟨h8_⟩
            have n9_ : Aside0 (KeepBut w w40 g none) := ⟨h9_⟩
            have n10_ : Aside0 (Below w0.heap.size w0 w40) := ⟨h10_⟩
            clear Za
            clear HI0
            clear HK
            clear HB
            clear h0_ h1_ h2_ h3_ h4_ h5_ h6_ h7_ h8_ h9_ h10_
            have Za := n0_
            have Zf := n1_
            have Zj := n2_
            have Zk := n3_
            have Zc := n4_
            have Zi := n5_
            have Zd := n6_
            have Ze := n7_
            have HI0 := n8_
            have HK := n9_
            have HB := n10_
            clear n0_ n1_ n2_ n3_ n4_ n5_ n6_ n7_ n8_ n9_ n10_
            have hHeld := trivial
            refine norm_ (a' := ?_) ?_ ?_
            rotate_left
            ·simp only [putAll, Act.put, zs44, zz44, zt44]
             rfl
            refine one_ (i := 2) (N := some 6) #[true, true, true, true, true, false, false, true, true, false, true, false] rfl rfl (one_of HT_.out (by kernel_rfl)) (by decide) (fun K hK => ?_)
            refine Kd.R_lit_step (Kd.int .i64) _ 3 ?hg (N := 6) ?hd (xs := ([0, t289] : List Int)) (inner := [.int .i64 0, .int .i64 t289]) (ok := fun _ => True) (okp := fun _ => True) ?hr ?hp (fun _ hk => hk) trivial (Below.refl _ _) (Nat.le_refl _) (by simp) ?_; (case hd => rfl); (case hg => rfl); (case hr => first | (go_simp; done) | (go_simp; rfl)); (case hp => exact (Reps.one (show Kd.M (Kd.int .i64) _ _ _ 0 [.int .i64 0] from rfl) (Reps.one (show Kd.M (Kd.int .i64) _ _ _ t289 [.int .i64 t289] from rfl) (Reps.none _ _))))
            intro v293 w41 ho42 hb hg_ hnew_
            clear hg_ hnew_
            (first | rw [← Ny292.out] at ho42 | (simp only [Int.reduceToNat] at ho42; rw [← Ny292.out] at ho42))
            have n0_ := zm44 (Kd.R_lower ho42 (keep_size (w := w) (g := g) (row := none) (z44_8 HK.out Zh.out Zj.out)))
            have n1_ := zm44 (IsS89.below (z44_7 HI0.out Zb.out Zc.out) hb)
            have n2_ := zm44 (blk_below (g := gb288) (o := .cells #[.int .i64 0, .int .i64 0, .int .i64 0, .int .i64 0] 39 (0, 0)) (z44_3 Za.out) hb)
            have n3_ := zm44 (blk_below (g := gb302) (o := .cells #[.int .i64 0, .int .i64 0, .int .i64 0, .int .i64 0] 39 (0, 0)) (z44_3 Zf.out) hb)
            have n4_ := zm44 (KeepBut.trans (z44_8 HK.out Zh.out Zj.out) (KeepBut.of_below hb g none) (.inl rfl))
            have n5_ := zm44 (below_step (z44_9 HB.out HI0.out Zl.out Zk.out) hb)
            clear HI0
            clear Za
            clear Zf
            clear HK
            clear HB
            have Zg := n0_
            have HI0 := n1_
            have Za := n2_
            have Zf := n3_
            have HK := n4_
            have HB := n5_
            clear n0_ n1_ n2_ n3_ n4_ n5_
            clear hb ho42
            obtain ⟨Ao43, co43, eo43⟩ := Kd.R_slice Zg.out
            subst eo43
            obtain ⟨ado43, fo43, _⟩ := Kd.at_int (Kd.R_reads' Zg.out).2.2 0 (by decide) (by rw [Ny292.out]; simp)
            cases fo43
            refine hK.out _ _ trivial (fun hHeld => ?_)
            clear hK K
            refine norm_ (a' := ?_) ?_ ?_
            rotate_left
            ·show Act.put _ (some 6) _ = _
             simp only [Act.put, zs44, zz44, zt44, i64_w, i32_w]
             rfl
            refine pure_ (i := 5) (N := some 9) (v := ?_) (a' := ?_) #[true, true, true, true, true, true, false, true, true, false, true, false] rfl rfl (any_of HT_.out (by kernel_rfl)) (fun _ _ _ h => h) (Or.inl ⟨by rfl, ?_⟩) ?_ ?_
            rotate_left
            ·intro w'
             go_simp
             with_reducible rfl
            rotate_left
            ·simp only [Act.put, zs44, zz44, zt44, i64_w, i32_w]
             rfl
            exact norm_ (by first | (simp only [putAll, Act.put, zs44, zz44, zt44]; done) | (simp only [putAll, Act.put, zs44, zz44, zt44]; rfl)) (hJ1_2_4_8_10 (.slice (some ado43) y292.length co43, ado43, gb302) _ ⟨(z44_10 Zg.out), ⟨_, rfl⟩, (z44_3 Za.out), (z44_3 Zf.out), Zj.out, Zk.out, Zc.out, Zi.out, Zd.out, Ze.out, (z44_7 HI0.out Zb.out Zc.out), (z44_8 HK.out Zh.out Zj.out), (z44_9 HB.out HI0.out Zl.out Zk.out)⟩)
          ·skip
           rintro ⟨v293, adz_v293, gb302⟩ w42 ⟨h0_, h1_, h2_, h3_, h4_, h5_, h6_, h7_, h8_, h9_, h10_, h11_, h12_⟩
           have n0_ : Aside0 (Kd.R (Kd.int .i64) 3 w42 w.heap.size (fun _ => True) v293 y292) := ⟨h0_⟩
           have n1_ : Aside0 (∃ c_, (v293 : Value) = .slice (some adz_v293) y292.length c_) := ⟨h1_⟩
           have n2_ : Aside0 (w42.heap[gb288]? = some (.cells #[.int .i64 0, .int .i64 0, .int .i64 0, .int .i64 0] 39 (0, 0))) := ⟨h2_⟩
           have n3_ : Aside0 (w42.heap[gb302]? = some (.cells #[.int .i64 0, .int .i64 0, .int .i64 0, .int .i64 0] 39 (0, 0))) := ⟨h3_⟩
           have n4_ : Aside0 (w.heap.size ≤ gb302) := ⟨h4_⟩
           have n5_ : Aside0 (w0.heap.size ≤ gb302) := ⟨h5_⟩
           have n6_ : Aside0 (g ≠ gb302) := ⟨h6_⟩
           have n7_ : Aside0 (gb302 ≠ g) := ⟨h7_⟩
           have n8_ : Aside0 (gb288 ≠ gb302) := ⟨h8_⟩
           have n9_ : Aside0 (gb302 ≠ gb288) := ⟨h9_⟩
           have n10_ : Aside0 (IsS89 w0 w42 g s0_0 t296 t297) := ⟨h10_⟩
           have n11_ : Aside0 (KeepBut w w42 g none) := ⟨h11_⟩
           have n12_ : Aside0 (Below w0.heap.size w0 w42) := ⟨h12_⟩
           clear Za
           clear HI0
           clear HK
           clear HB
           clear h0_ h1_ h2_ h3_ h4_ h5_ h6_ h7_ h8_ h9_ h10_ h11_ h12_
           have Zg := n0_
           have HA_HO294 := n1_
           have Za := n2_
           have Zf := n3_
           have Zj := n4_
           have Zk := n5_
           have Zc := n6_
           have Zi := n7_
           have Zd := n8_
           have Ze := n9_
           have HI0 := n10_
           have HK := n11_
           have HB := n12_
           clear n0_ n1_ n2_ n3_ n4_ n5_ n6_ n7_ n8_ n9_ n10_ n11_ n12_
           have hHeld := trivial
           obtain ⟨co43, eo43⟩ := HA_HO294.out
           clear HA_HO294
           subst eo43
           refine norm_ (a' := ?_) ?_ ?_
           rotate_left
           ·simp only [putAll, Act.put, zs44, zz44, zt44]
            rfl
           refine two_ (i := 6) (j := 8) (Ni := some 10) (Nj := some 12) #[true, true, true, true, true, true, true, true, false, false, true, false] #[true, true, true, true, true, true, false, true, true, false, true, false] rfl rfl rfl rfl (two_of HT_.out (by kernel_rfl)) (by decide) (by decide) (fun K hK => ?_) (fun K hK => ?_)
           ·skip
            (have p298 : 0 ≤ (t295 : Int) := of_decide_eq_true (by first | (with_reducible assumption) | assumption); have q298 : t295 < (y292.length : Int) := of_decide_eq_true (by first | (with_reducible assumption) | assumption); obtain ⟨ad298, e298, hx298_0⟩ := Kd.at_int (Kd.R_reads' Zg.out).2.2 t295 p298 q298; obtain rfl : adz_v293 = ad298 := (by injection e298))
            refine value_ (w1 := ?_) (v := ?_) (by rfl) rfl ?_ ?_
            rotate_left 2
            ·go_simp
             constructor
             ·rfl
             ·rfl
            clear hx298_0
            refine hK.out _ _ trivial (fun hHeld => ?_)
            clear hK K
            refine norm_ (a' := ?_) ?_ ?_
            rotate_left
            ·show Act.put _ (some 10) _ = _
             simp only [Act.put, zs44, zz44, zt44, i64_w, i32_w]
             rfl
            exact norm_ (by first | (simp only [putAll, Act.put, zs44, zz44, zt44]; done) | (simp only [putAll, Act.put, zs44, zz44, zt44]; rfl)) (hJ1_2_4_6_10 (.slice (some adz_v293) y292.length co43, adz_v293, gb302) _ ⟨(z44_10 Zg.out), ⟨_, rfl⟩, (z44_3 Za.out), (z44_3 Zf.out), Zj.out, Zk.out, Zc.out, Zi.out, Zd.out, Ze.out, (z44_7 HI0.out Zb.out Zc.out), (z44_8 HK.out Zh.out Zj.out), (z44_9 HB.out HI0.out Zl.out Zk.out)⟩)
           ·skip
            refine goes_ Try.func66 (by kernel_rfl) rfl #[.pointer (some ⟨g, 0, none⟩), .int .i64 12] (by rfl) rfl rfl (by (try simp only [List.map_toArray, List.map_cons, List.map_nil]); first | done | rfl | (simp only [List.length_drop, List.length_take]; rfl)) ?_
            with_reducible refine (spec_l00Src_next.calls g s0_0 t296 t297 12 t299 t300 t301 w0 _ ?side1 ?side2 A6.out).mono ?_
            (case side1 => repeat (first | (with_reducible first | exact HI0.out | apply IsS89.alloc | apply IsS89.drewN | apply IsS89.drew | apply IsS89.set_1 | apply IsS89.set_2 | refine IsS89.far ?_ Zb.out _ | refine IsS89.far ?_ Zc.out _) | exact HI0.out))
            (case side2 => repeat (first | (with_reducible first | exact HB.out | apply below_alloc | apply pw_below_drewN | apply below_drew1 | refine below_set ?_ (IsS89.ge HI0.out) | refine below_set ?_ Zl.out | refine below_set ?_ Zk.out) | exact HB.out))
            rintro e w44 ⟨rfl, hi, hb, hk⟩
            refine ⟨_, rfl, ?_⟩
            have n0_ := zm44 (KeepBut.blk hk (g' := gb288) (o := .cells #[.int .i64 0, .int .i64 0, .int .i64 0, .int .i64 0] 39 (0, 0)) (z44_3 Za.out) Zm.out (by simp))
            have n1_ := zm44 (Kd.R_mono (Kd.R_keep (IsS89.apart (show IsS89 w0 _ g s0_0 t296 t297 from z44_7 HI0.out Zb.out Zc.out) (z44_10 Zg.out) (by decide)) hk (fun _ h => h.2)) (fun _ h => h.1))
            have n2_ := zm44 (KeepBut.blk hk (g' := gb302) (o := .cells #[.int .i64 0, .int .i64 0, .int .i64 0, .int .i64 0] 39 (0, 0)) (z44_3 Zf.out) Zi.out (by simp))
            have n3_ := zm44 (KeepBut.trans (z44_8 HK.out Zh.out Zj.out) hk (.inl rfl))
            have n4_ := zm44 (hb)
            have n5_ := zm44 (hi)
            clear Za
            clear Zg
            clear Zf
            clear HK
            clear HB
            clear HI0
            have Za := n0_
            have Zg := n1_
            have Zf := n2_
            have HK := n3_
            have HB := n4_
            have HI0 := n5_
            clear n0_ n1_ n2_ n3_ n4_ n5_
            (try clear hb)
            (try clear hb2)
            (try clear hk)
            (try clear hi)
            refine hK.out _ _ trivial (fun hHeld => ?_)
            clear hK K
            refine norm_ (a' := ?_) ?_ ?_
            rotate_left
            ·show Act.put _ (some 12) _ = _
             simp only [Act.put, zs44, zz44, zt44, i64_w, i32_w]
             rfl
            exact norm_ (by first | (simp only [putAll, Act.put, zs44, zz44, zt44]; done) | (simp only [putAll, Act.put, zs44, zz44, zt44]; rfl)) (hJ1_2_4_8_10 (.slice (some adz_v293) y292.length co43, adz_v293, gb302) _ ⟨(z44_10 Zg.out), ⟨_, rfl⟩, (z44_3 Za.out), (z44_3 Zf.out), Zj.out, Zk.out, Zc.out, Zi.out, Zd.out, Ze.out, (z44_7 HI0.out Zb.out Zc.out), (z44_8 HK.out Zh.out Zj.out), (z44_9 HB.out HI0.out Zl.out Zk.out)⟩)
         ·skip
          rintro ⟨v293, adz_v293⟩ w42 ⟨h0_, h1_, h2_, h3_, h4_, h5_⟩
          have n0_ : Aside0 (Kd.R (Kd.int .i64) 3 w42 w.heap.size (fun _ => True) v293 y292) := ⟨h0_⟩
          have n1_ : Aside0 (∃ c_, (v293 : Value) = .slice (some adz_v293) y292.length c_) := ⟨h1_⟩
          have n2_ : Aside0 (w42.heap[gb288]? = some (.cells #[.int .i64 0, .int .i64 0, .int .i64 0, .int .i64 0] 39 (0, 0))) := ⟨h2_⟩
          have n3_ : Aside0 (IsS89 w0 w42 g s0_0 t300 t301) := ⟨h3_⟩
          have n4_ : Aside0 (KeepBut w w42 g none) := ⟨h4_⟩
          have n5_ : Aside0 (Below w0.heap.size w0 w42) := ⟨h5_⟩
          clear Za
          clear HI0
          clear HK
          clear HB
          clear h0_ h1_ h2_ h3_ h4_ h5_
          have Zg := n0_
          have HA_HO294 := n1_
          have Za := n2_
          have HI0 := n3_
          have HK := n4_
          have HB := n5_
          clear n0_ n1_ n2_ n3_ n4_ n5_
          have hHeld := trivial
          obtain ⟨co43, eo43⟩ := HA_HO294.out
          clear HA_HO294
          subst eo43
          refine norm_ (a' := ?_) ?_ ?_
          rotate_left
          ·simp only [putAll, Act.put, zs44, zz44, zt44]
           rfl
          refine two_ (i := 6) (j := 10) (Ni := some 10) (Nj := some 3) #[true, true, true, true, true, true, true, true, true, false, false, false] #[true, true, true, true, true, true, false, true, true, false, true, false] rfl rfl rfl rfl (two_of HT_.out (by kernel_rfl)) (by decide) (by decide) (fun K hK => ?_) (fun K hK => ?_)
          ·skip
           (have p298 : 0 ≤ (t295 : Int) := of_decide_eq_true (by first | (with_reducible assumption) | assumption); have q298 : t295 < (y292.length : Int) := of_decide_eq_true (by first | (with_reducible assumption) | assumption); obtain ⟨ad298, e298, hx298_0⟩ := Kd.at_int (Kd.R_reads' Zg.out).2.2 t295 p298 q298; obtain rfl : adz_v293 = ad298 := (by injection e298))
           refine value_ (w1 := ?_) (v := ?_) (by rfl) rfl ?_ ?_
           rotate_left 2
           ·go_simp
            constructor
            ·rfl
            ·rfl
           clear hx298_0
           refine hK.out _ _ trivial (fun hHeld => ?_)
           clear hK K
           refine norm_ (a' := ?_) ?_ ?_
           rotate_left
           ·show Act.put _ (some 10) _ = _
            simp only [Act.put, zs44, zz44, zt44, i64_w, i32_w]
            rfl
           refine pure_ (i := 9) (N := some 13) (v := ?_) (a' := ?_) #[true, true, true, true, true, true, true, true, true, true, false, false] rfl rfl (any_of HT_.out (by kernel_rfl)) (fun _ _ _ h => h) (Or.inl ⟨by rfl, ?_⟩) ?_ ?_
           rotate_left
           ·intro w'
            go_simp
            with_reducible rfl
           rotate_left
           ·simp only [Act.put, zs44, zz44, zt44, i64_w, i32_w]
            rfl
           exact norm_ (by first | (simp only [putAll, Act.put, zs44, zz44, zt44]; done) | (simp only [putAll, Act.put, zs44, zz44, zt44]; rfl)) (hJ1_2_4_6_8 (.slice (some adz_v293) y292.length co43, adz_v293) _ ⟨(z44_10 Zg.out), ⟨_, rfl⟩, (z44_3 Za.out), (z44_5 HI0.out Zb.out), (z44_4 HK.out Zh.out), (z44_6 HB.out HI0.out Zl.out)⟩)
          ·skip
           refine box_step ?hg (N := 3) ?hd (cs := #[.int .i64 0, .int .i64 0, .int .i64 0, .int .i64 0]) (t := 39) ?hr ?_; (case hd => rfl); (case hg => rfl); (case hr => first | (go_simp; done) | (go_simp; rfl))
           intro gb302 hg w44 hbox hb
           have n0_ := zm44 (Kd.R_below (z44_10 Zg.out) hb)
           have n1_ := zm44 (IsS89.below (z44_5 HI0.out Zb.out) hb)
           have n2_ := zm44 (blk_below (g := gb288) (o := .cells #[.int .i64 0, .int .i64 0, .int .i64 0, .int .i64 0] 39 (0, 0)) (z44_3 Za.out) hb)
           have n3_ := zm44 (KeepBut.trans (z44_4 HK.out Zh.out) (KeepBut.of_below hb g none) (.inl rfl))
           have n4_ := zm44 (below_step (z44_6 HB.out HI0.out Zl.out) hb)
           have n5_ := zm44 (hbox)
           have n6_ := zm44 ((by rw [hg]; exact (keep_size (w := w) (g := g) (row := none) (z44_4 HK.out Zh.out)) : w.heap.size ≤ gb302))
           have n7_ := zm44 ((Nat.le_trans HW0.out (by rw [hg]; exact (keep_size (w := w) (g := g) (row := none) (z44_4 HK.out Zh.out)) : w.heap.size ≤ gb302) : w0.heap.size ≤ gb302))
           have n8_ := zm44 ((by rw [hg]; exact Nat.ne_of_lt (blk_lt (g := gb288) (o := .cells #[.int .i64 0, .int .i64 0, .int .i64 0, .int .i64 0] 39 (0, 0)) (z44_3 Za.out)) : gb288 ≠ gb302))
           have n9_ := zm44 ((by rw [hg]; exact Nat.ne_of_gt (blk_lt (g := gb288) (o := .cells #[.int .i64 0, .int .i64 0, .int .i64 0, .int .i64 0] 39 (0, 0)) (z44_3 Za.out)) : gb302 ≠ gb288))
           have n10_ := zm44 ((by rw [hg]; exact Nat.ne_of_lt (IsS89.lt (show IsS89 w0 _ g s0_0 t300 t301 from z44_5 HI0.out Zb.out)) : g ≠ gb302))
           have n11_ := zm44 ((by rw [hg]; exact Nat.ne_of_gt (IsS89.lt (show IsS89 w0 _ g s0_0 t300 t301 from z44_5 HI0.out Zb.out)) : gb302 ≠ g))
           clear Zg
           clear HI0
           clear Za
           clear HK
           clear HB
           have Zg := n0_
           have HI0 := n1_
           have Za := n2_
           have HK := n3_
           have HB := n4_
           have Zf := n5_
           have Zj := n6_
           have Zk := n7_
           have Zd := n8_
           have Ze := n9_
           have Zc := n10_
           have Zi := n11_
           clear n0_ n1_ n2_ n3_ n4_ n5_ n6_ n7_ n8_ n9_ n10_ n11_
           clear hb hbox hg
           refine hK.out _ _ trivial (fun hHeld => ?_)
           clear hK K
           refine norm_ (a' := ?_) ?_ ?_
           rotate_left
           ·show Act.put _ (some 3) _ = _
            simp only [Act.put, zs44, zz44, zt44, i64_w, i32_w]
            rfl
           exact norm_ (by first | (simp only [putAll, Act.put, zs44, zz44, zt44]; done) | (simp only [putAll, Act.put, zs44, zz44, zt44]; rfl)) (hJ1_2_4_8_10 (.slice (some adz_v293) y292.length co43, adz_v293, gb302) _ ⟨(z44_10 Zg.out), ⟨_, rfl⟩, (z44_3 Za.out), (z44_3 Zf.out), Zj.out, Zk.out, Zc.out, Zi.out, Zd.out, Ze.out, (z44_7 HI0.out Zb.out Zc.out), (z44_8 HK.out Zh.out Zj.out), (z44_9 HB.out HI0.out Zl.out Zk.out)⟩)
        ·skip
         rintro ⟨v293, adz_v293⟩ w41 ⟨h0_, h1_, h2_, h3_, h4_, h5_⟩
         have n0_ : Aside0 (Kd.R (Kd.int .i64) 3 w41 w.heap.size (fun _ => True) v293 y292) := ⟨h0_⟩
         have n1_ : Aside0 (∃ c_, (v293 : Value) = .slice (some adz_v293) y292.length c_) := ⟨h1_⟩
         have n2_ : Aside0 (w41.heap[gb288]? = some (.cells #[.int .i64 0, .int .i64 0, .int .i64 0, .int .i64 0] 39 (0, 0))) := ⟨h2_⟩
         have n3_ : Aside0 (IsS89 w0 w41 g s0_0 t296 t297) := ⟨h3_⟩
         have n4_ : Aside0 (KeepBut w w41 g none) := ⟨h4_⟩
         have n5_ : Aside0 (Below w0.heap.size w0 w41) := ⟨h5_⟩
         clear Za
         clear HI0
         clear HK
         clear HB
         clear h0_ h1_ h2_ h3_ h4_ h5_
         have Zg := n0_
         have HA_HO294 := n1_
         have Za := n2_
         have HI0 := n3_
         have HK := n4_
         have HB := n5_
         clear n0_ n1_ n2_ n3_ n4_ n5_
         have hHeld := trivial
         obtain ⟨co42, eo42⟩ := HA_HO294.out
         clear HA_HO294
         subst eo42
         refine norm_ (a' := ?_) ?_ ?_
         rotate_left
         ·simp only [putAll, Act.put, zs44, zz44, zt44]
          rfl
         refine two_ (i := 8) (j := 10) (Ni := some 12) (Nj := some 3) #[true, true, true, true, true, true, true, true, true, false, false, false] #[true, true, true, true, true, true, true, true, false, false, true, false] rfl rfl rfl rfl (two_of HT_.out (by kernel_rfl)) (by decide) (by decide) (fun K hK => ?_) (fun K hK => ?_)
         ·skip
          refine goes_ Try.func66 (by kernel_rfl) rfl #[.pointer (some ⟨g, 0, none⟩), .int .i64 12] (by rfl) rfl rfl (by (try simp only [List.map_toArray, List.map_cons, List.map_nil]); first | done | rfl | (simp only [List.length_drop, List.length_take]; rfl)) ?_
          with_reducible refine (spec_l00Src_next.calls g s0_0 t296 t297 12 t299 t300 t301 w0 _ ?side1 ?side2 A6.out).mono ?_
          (case side1 => repeat (first | (with_reducible first | exact HI0.out | apply IsS89.alloc | apply IsS89.drewN | apply IsS89.drew | apply IsS89.set_1 | apply IsS89.set_2 | refine IsS89.far ?_ Zb.out _) | exact HI0.out))
          (case side2 => repeat (first | (with_reducible first | exact HB.out | apply below_alloc | apply pw_below_drewN | apply below_drew1 | refine below_set ?_ (IsS89.ge HI0.out) | refine below_set ?_ Zl.out) | exact HB.out))
          rintro e w43 ⟨rfl, hi, hb, hk⟩
          refine ⟨_, rfl, ?_⟩
          have n0_ := zm44 (KeepBut.blk hk (g' := gb288) (o := .cells #[.int .i64 0, .int .i64 0, .int .i64 0, .int .i64 0] 39 (0, 0)) (z44_3 Za.out) Zm.out (by simp))
          have n1_ := zm44 (Kd.R_mono (Kd.R_keep (IsS89.apart (show IsS89 w0 _ g s0_0 t296 t297 from z44_5 HI0.out Zb.out) (z44_10 Zg.out) (by decide)) hk (fun _ h => h.2)) (fun _ h => h.1))
          have n2_ := zm44 (KeepBut.trans (z44_4 HK.out Zh.out) hk (.inl rfl))
          have n3_ := zm44 (hb)
          have n4_ := zm44 (hi)
          clear Za
          clear Zg
          clear HK
          clear HB
          clear HI0
          have Za := n0_
          have Zg := n1_
          have HK := n2_
          have HB := n3_
          have HI0 := n4_
          clear n0_ n1_ n2_ n3_ n4_
          (try clear hb)
          (try clear hb2)
          (try clear hk)
          (try clear hi)
          refine hK.out _ _ trivial (fun hHeld => ?_)
          clear hK K
          refine norm_ (a' := ?_) ?_ ?_
          rotate_left
          ·show Act.put _ (some 12) _ = _
           simp only [Act.put, zs44, zz44, zt44, i64_w, i32_w]
           rfl
          refine pure_ (i := 9) (N := some 13) (v := ?_) (a' := ?_) #[true, true, true, true, true, true, true, true, true, true, false, false] rfl rfl (any_of HT_.out (by kernel_rfl)) (fun _ _ _ h => h) (Or.inl ⟨by rfl, ?_⟩) ?_ ?_
          rotate_left
          ·intro w'
           go_simp
           with_reducible rfl
          rotate_left
          ·simp only [Act.put, zs44, zz44, zt44, i64_w, i32_w]
           rfl
          exact norm_ (by first | (simp only [putAll, Act.put, zs44, zz44, zt44]; done) | (simp only [putAll, Act.put, zs44, zz44, zt44]; rfl)) (hJ1_2_4_6_8 (.slice (some adz_v293) y292.length co42, adz_v293) _ ⟨(z44_10 Zg.out), ⟨_, rfl⟩, (z44_3 Za.out), (z44_5 HI0.out Zb.out), (z44_4 HK.out Zh.out), (z44_6 HB.out HI0.out Zl.out)⟩)
         ·skip
          refine box_step ?hg (N := 3) ?hd (cs := #[.int .i64 0, .int .i64 0, .int .i64 0, .int .i64 0]) (t := 39) ?hr ?_; (case hd => rfl); (case hg => rfl); (case hr => first | (go_simp; done) | (go_simp; rfl))
          intro gb302 hg w43 hbox hb
          have n0_ := zm44 (Kd.R_below (z44_10 Zg.out) hb)
          have n1_ := zm44 (IsS89.below (z44_5 HI0.out Zb.out) hb)
          have n2_ := zm44 (blk_below (g := gb288) (o := .cells #[.int .i64 0, .int .i64 0, .int .i64 0, .int .i64 0] 39 (0, 0)) (z44_3 Za.out) hb)
          have n3_ := zm44 (KeepBut.trans (z44_4 HK.out Zh.out) (KeepBut.of_below hb g none) (.inl rfl))
          have n4_ := zm44 (below_step (z44_6 HB.out HI0.out Zl.out) hb)
          have n5_ := zm44 (hbox)
          have n6_ := zm44 ((by rw [hg]; exact (keep_size (w := w) (g := g) (row := none) (z44_4 HK.out Zh.out)) : w.heap.size ≤ gb302))
          have n7_ := zm44 ((Nat.le_trans HW0.out (by rw [hg]; exact (keep_size (w := w) (g := g) (row := none) (z44_4 HK.out Zh.out)) : w.heap.size ≤ gb302) : w0.heap.size ≤ gb302))
          have n8_ := zm44 ((by rw [hg]; exact Nat.ne_of_lt (blk_lt (g := gb288) (o := .cells #[.int .i64 0, .int .i64 0, .int .i64 0, .int .i64 0] 39 (0, 0)) (z44_3 Za.out)) : gb288 ≠ gb302))
          have n9_ := zm44 ((by rw [hg]; exact Nat.ne_of_gt (blk_lt (g := gb288) (o := .cells #[.int .i64 0, .int .i64 0, .int .i64 0, .int .i64 0] 39 (0, 0)) (z44_3 Za.out)) : gb302 ≠ gb288))
          have n10_ := zm44 ((by rw [hg]; exact Nat.ne_of_lt (IsS89.lt (show IsS89 w0 _ g s0_0 t296 t297 from z44_5 HI0.out Zb.out)) : g ≠ gb302))
          have n11_ := zm44 ((by rw [hg]; exact Nat.ne_of_gt (IsS89.lt (show IsS89 w0 _ g s0_0 t296 t297 from z44_5 HI0.out Zb.out)) : gb302 ≠ g))
          clear Zg
          clear HI0
          clear Za
          clear HK
          clear HB
          have Zg := n0_
          have HI0 := n1_
          have Za := n2_
          have HK := n3_
          have HB := n4_
          have Zf := n5_
          have Zj := n6_
          have Zk := n7_
          have Zd := n8_
          have Ze := n9_
          have Zc := n10_
          have Zi := n11_
          clear n0_ n1_ n2_ n3_ n4_ n5_ n6_ n7_ n8_ n9_ n10_ n11_
          clear hb hbox hg
          refine hK.out _ _ trivial (fun hHeld => ?_)
          clear hK K
          refine norm_ (a' := ?_) ?_ ?_
          rotate_left
          ·show Act.put _ (some 3) _ = _
           simp only [Act.put, zs44, zz44, zt44, i64_w, i32_w]
           rfl
          exact norm_ (by first | (simp only [putAll, Act.put, zs44, zz44, zt44]; done) | (simp only [putAll, Act.put, zs44, zz44, zt44]; rfl)) (hJ1_2_4_6_10 (.slice (some adz_v293) y292.length co42, adz_v293, gb302) _ ⟨(z44_10 Zg.out), ⟨_, rfl⟩, (z44_3 Za.out), (z44_3 Zf.out), Zj.out, Zk.out, Zc.out, Zi.out, Zd.out, Ze.out, (z44_7 HI0.out Zb.out Zc.out), (z44_8 HK.out Zh.out Zj.out), (z44_9 HB.out HI0.out Zl.out Zk.out)⟩)
       ·skip
        rintro ⟨v293, adz_v293, gb302⟩ w43 ⟨h0_, h1_, h2_, h3_, h4_, h5_, h6_, h7_, h8_, h9_, h10_, h11_, h12_⟩
        have n0_ : Aside0 (Kd.R (Kd.int .i64) 3 w43 w.heap.size (fun _ => True) v293 y292) := ⟨h0_⟩
        have n1_ : Aside0 (∃ c_, (v293 : Value) = .slice (some adz_v293) y292.length c_) := ⟨h1_⟩
        have n2_ : Aside0 (w43.heap[gb288]? = some (.cells #[.int .i64 0, .int .i64 0, .int .i64 0, .int .i64 0] 39 (0, 0))) := ⟨h2_⟩
        have n3_ : Aside0 (w43.heap[gb302]? = some (.cells #[.int .i64 0, .int .i64 0, .int .i64 0, .int .i64 0] 39 (0, 0))) := ⟨h3_⟩
        have n4_ : Aside0 (w.heap.size ≤ gb302) := ⟨h4_⟩
        have n5_ : Aside0 (w0.heap.size ≤ gb302) := ⟨h5_⟩
        have n6_ : Aside0 (g ≠ gb302) := ⟨h6_⟩
        have n7_ : Aside0 (gb302 ≠ g) := ⟨h7_⟩
        have n8_ : Aside0 (gb288 ≠ gb302) := ⟨h8_⟩
        have n9_ : Aside0 (gb302 ≠ gb288) := ⟨h9_⟩
        have n10_ : Aside0 (IsS89 w0 w43 g s0_0 t300 t301) := ⟨h10_⟩
        have n11_ : Aside0 (KeepBut w w43 g none) := ⟨h11_⟩
        have n12_ : Aside0 (Below w0.heap.size w0 w43) := ⟨h12_⟩
        clear Za
        clear HI0
        clear HK
        clear HB
        clear h0_ h1_ h2_ h3_ h4_ h5_ h6_ h7_ h8_ h9_ h10_ h11_ h12_
        have Zg := n0_
        have HA_HO294 := n1_
        have Za := n2_
        have Zf := n3_
        have Zj := n4_
        have Zk := n5_
        have Zc := n6_
        have Zi := n7_
        have Zd := n8_
        have Ze := n9_
        have HI0 := n10_
        have HK := n11_
        have HB := n12_
        clear n0_ n1_ n2_ n3_ n4_ n5_ n6_ n7_ n8_ n9_ n10_ n11_ n12_
        have hHeld := trivial
        obtain ⟨co44, eo44⟩ := HA_HO294.out
        clear HA_HO294
        subst eo44
        refine norm_ (a' := ?_) ?_ ?_
        rotate_left
        ·simp only [putAll, Act.put, zs44, zz44, zt44]
         rfl
        refine one_ (i := 6) (N := some 10) #[true, true, true, true, true, true, true, true, true, false, true, false] rfl rfl (one_of HT_.out (by kernel_rfl)) (by decide) (fun K hK => ?_)
        (have p298 : 0 ≤ (t295 : Int) := of_decide_eq_true (by first | (with_reducible assumption) | assumption); have q298 : t295 < (y292.length : Int) := of_decide_eq_true (by first | (with_reducible assumption) | assumption); obtain ⟨ad298, e298, hx298_0⟩ := Kd.at_int (Kd.R_reads' Zg.out).2.2 t295 p298 q298; obtain rfl : adz_v293 = ad298 := (by injection e298))
        refine value_ (w1 := ?_) (v := ?_) (by rfl) rfl ?_ ?_
        rotate_left 2
        ·go_simp
         constructor
         ·rfl
         ·rfl
        clear hx298_0
        refine hK.out _ _ trivial (fun hHeld => ?_)
        clear hK K
        refine norm_ (a' := ?_) ?_ ?_
        rotate_left
        ·show Act.put _ (some 10) _ = _
         simp only [Act.put, zs44, zz44, zt44, i64_w, i32_w]
         rfl
        refine pure_ (i := 9) (N := some 13) (v := ?_) (a' := ?_) #[true, true, true, true, true, true, true, true, true, true, true, false] rfl rfl (any_of HT_.out (by kernel_rfl)) (fun _ _ _ h => h) (Or.inl ⟨by rfl, ?_⟩) ?_ ?_
        rotate_left
        ·intro w'
         go_simp
         with_reducible rfl
        rotate_left
        ·simp only [Act.put, zs44, zz44, zt44, i64_w, i32_w]
         rfl
        exact norm_ (by first | (simp only [putAll, Act.put, zs44, zz44, zt44]; done) | (simp only [putAll, Act.put, zs44, zz44, zt44]; rfl)) (hJ1_2_4_6_8_10 (.slice (some adz_v293) y292.length co44, adz_v293, gb302) _ ⟨(z44_10 Zg.out), ⟨_, rfl⟩, (z44_3 Za.out), (z44_3 Zf.out), Zj.out, Zk.out, Zc.out, Zi.out, Zd.out, Ze.out, (z44_7 HI0.out Zb.out Zc.out), (z44_8 HK.out Zh.out Zj.out), (z44_9 HB.out HI0.out Zl.out Zk.out)⟩)
      ·skip
       rintro ⟨v293, adz_v293, gb302⟩ w42 ⟨h0_, h1_, h2_, h3_, h4_, h5_, h6_, h7_, h8_, h9_, h10_, h11_, h12_⟩
       have n0_ : Aside0 (Kd.R (Kd.int .i64) 3 w42 w.heap.size (fun _ => True) v293 y292) := ⟨h0_⟩
       have n1_ : Aside0 (∃ c_, (v293 : Value) = .slice (some adz_v293) y292.length c_) := ⟨h1_⟩
       have n2_ : Aside0 (w42.heap[gb288]? = some (.cells #[.int .i64 0, .int .i64 0, .int .i64 0, .int .i64 0] 39 (0, 0))) := ⟨h2_⟩
       have n3_ : Aside0 (w42.heap[gb302]? = some (.cells #[.int .i64 0, .int .i64 0, .int .i64 0, .int .i64 0] 39 (0, 0))) := ⟨h3_⟩
       have n4_ : Aside0 (w.heap.size ≤ gb302) := ⟨h4_⟩
       have n5_ : Aside0 (w0.heap.size ≤ gb302) := ⟨h5_⟩
       have n6_ : Aside0 (g ≠ gb302) := ⟨h6_⟩
       have n7_ : Aside0 (gb302 ≠ g) := ⟨h7_⟩
       have n8_ : Aside0 (gb288 ≠ gb302) := ⟨h8_⟩
       have n9_ : Aside0 (gb302 ≠ gb288) := ⟨h9_⟩
       have n10_ : Aside0 (IsS89 w0 w42 g s0_0 t296 t297) := ⟨h10_⟩
       have n11_ : Aside0 (KeepBut w w42 g none) := ⟨h11_⟩
       have n12_ : Aside0 (Below w0.heap.size w0 w42) := ⟨h12_⟩
       clear Za
       clear HI0
       clear HK
       clear HB
       clear h0_ h1_ h2_ h3_ h4_ h5_ h6_ h7_ h8_ h9_ h10_ h11_ h12_
       have Zg := n0_
       have HA_HO294 := n1_
       have Za := n2_
       have Zf := n3_
       have Zj := n4_
       have Zk := n5_
       have Zc := n6_
       have Zi := n7_
       have Zd := n8_
       have Ze := n9_
       have HI0 := n10_
       have HK := n11_
       have HB := n12_
       clear n0_ n1_ n2_ n3_ n4_ n5_ n6_ n7_ n8_ n9_ n10_ n11_ n12_
       have hHeld := trivial
       obtain ⟨co43, eo43⟩ := HA_HO294.out
       clear HA_HO294
       subst eo43
       refine norm_ (a' := ?_) ?_ ?_
       rotate_left
       ·simp only [putAll, Act.put, zs44, zz44, zt44]
        rfl
       refine one_ (i := 8) (N := some 12) #[true, true, true, true, true, true, true, true, true, false, true, false] rfl rfl (one_of HT_.out (by kernel_rfl)) (by decide) (fun K hK => ?_)
       refine goes_ Try.func66 (by kernel_rfl) rfl #[.pointer (some ⟨g, 0, none⟩), .int .i64 12] (by rfl) rfl rfl (by (try simp only [List.map_toArray, List.map_cons, List.map_nil]); first | done | rfl | (simp only [List.length_drop, List.length_take]; rfl)) ?_
       with_reducible refine (spec_l00Src_next.calls g s0_0 t296 t297 12 t299 t300 t301 w0 _ ?side1 ?side2 A6.out).mono ?_
       (case side1 => repeat (first | (with_reducible first | exact HI0.out | apply IsS89.alloc | apply IsS89.drewN | apply IsS89.drew | apply IsS89.set_1 | apply IsS89.set_2 | refine IsS89.far ?_ Zb.out _ | refine IsS89.far ?_ Zc.out _) | exact HI0.out))
       (case side2 => repeat (first | (with_reducible first | exact HB.out | apply below_alloc | apply pw_below_drewN | apply below_drew1 | refine below_set ?_ (IsS89.ge HI0.out) | refine below_set ?_ Zl.out | refine below_set ?_ Zk.out) | exact HB.out))
       rintro e w44 ⟨rfl, hi, hb, hk⟩
       refine ⟨_, rfl, ?_⟩
       have n0_ := zm44 (KeepBut.blk hk (g' := gb288) (o := .cells #[.int .i64 0, .int .i64 0, .int .i64 0, .int .i64 0] 39 (0, 0)) (z44_3 Za.out) Zm.out (by simp))
       have n1_ := zm44 (Kd.R_mono (Kd.R_keep (IsS89.apart (show IsS89 w0 _ g s0_0 t296 t297 from z44_7 HI0.out Zb.out Zc.out) (z44_10 Zg.out) (by decide)) hk (fun _ h => h.2)) (fun _ h => h.1))
       have n2_ := zm44 (KeepBut.blk hk (g' := gb302) (o := .cells #[.int .i64 0, .int .i64 0, .int .i64 0, .int .i64 0] 39 (0, 0)) (z44_3 Zf.out) Zi.out (by simp))
       have n3_ := zm44 (KeepBut.trans (z44_8 HK.out Zh.out Zj.out) hk (.inl rfl))
       have n4_ := zm44 (hb)
       have n5_ := zm44 (hi)
       clear Za
       clear Zg
       clear Zf
       clear HK
       clear HB
       clear HI0
       have Za := n0_
       have Zg := n1_
       have Zf := n2_
       have HK := n3_
       have HB := n4_
       have HI0 := n5_
       clear n0_ n1_ n2_ n3_ n4_ n5_
       (try clear hb)
       (try clear hb2)
       (try clear hk)
       (try clear hi)
       refine hK.out _ _ trivial (fun hHeld => ?_)
       clear hK K
       refine norm_ (a' := ?_) ?_ ?_
       rotate_left
       ·show Act.put _ (some 12) _ = _
        simp only [Act.put, zs44, zz44, zt44, i64_w, i32_w]
        rfl
       refine pure_ (i := 9) (N := some 13) (v := ?_) (a' := ?_) #[true, true, true, true, true, true, true, true, true, true, true, false] rfl rfl (any_of HT_.out (by kernel_rfl)) (fun _ _ _ h => h) (Or.inl ⟨by rfl, ?_⟩) ?_ ?_
       rotate_left
       ·intro w'
        go_simp
        with_reducible rfl
       rotate_left
       ·simp only [Act.put, zs44, zz44, zt44, i64_w, i32_w]
        rfl
       exact norm_ (by first | (simp only [putAll, Act.put, zs44, zz44, zt44]; done) | (simp only [putAll, Act.put, zs44, zz44, zt44]; rfl)) (hJ1_2_4_6_8_10 (.slice (some adz_v293) y292.length co43, adz_v293, gb302) _ ⟨(z44_10 Zg.out), ⟨_, rfl⟩, (z44_3 Za.out), (z44_3 Zf.out), Zj.out, Zk.out, Zc.out, Zi.out, Zd.out, Ze.out, (z44_7 HI0.out Zb.out Zc.out), (z44_8 HK.out Zh.out Zj.out), (z44_9 HB.out HI0.out Zl.out Zk.out)⟩)
     ·skip
      rintro ⟨v293, adz_v293⟩ w42 ⟨h0_, h1_, h2_, h3_, h4_, h5_⟩
      have n0_ : Aside0 (Kd.R (Kd.int .i64) 3 w42 w.heap.size (fun _ => True) v293 y292) := ⟨h0_⟩
      have n1_ : Aside0 (∃ c_, (v293 : Value) = .slice (some adz_v293) y292.length c_) := ⟨h1_⟩
      have n2_ : Aside0 (w42.heap[gb288]? = some (.cells #[.int .i64 0, .int .i64 0, .int .i64 0, .int .i64 0] 39 (0, 0))) := ⟨h2_⟩
      have n3_ : Aside0 (IsS89 w0 w42 g s0_0 t300 t301) := ⟨h3_⟩
      have n4_ : Aside0 (KeepBut w w42 g none) := ⟨h4_⟩
      have n5_ : Aside0 (Below w0.heap.size w0 w42) := ⟨h5_⟩
      clear Za
      clear HI0
      clear HK
      clear HB
      clear h0_ h1_ h2_ h3_ h4_ h5_
      have Zg := n0_
      have HA_HO294 := n1_
      have Za := n2_
      have HI0 := n3_
      have HK := n4_
      have HB := n5_
      clear n0_ n1_ n2_ n3_ n4_ n5_
      have hHeld := trivial
      obtain ⟨co43, eo43⟩ := HA_HO294.out
      clear HA_HO294
      subst eo43
      refine norm_ (a' := ?_) ?_ ?_
      rotate_left
      ·simp only [putAll, Act.put, zs44, zz44, zt44]
       rfl
      refine one_ (i := 10) (N := some 3) #[true, true, true, true, true, true, true, true, true, true, true, false] rfl rfl (one_of HT_.out (by kernel_rfl)) (by decide) (fun K hK => ?_)
      refine box_step ?hg (N := 3) ?hd (cs := #[.int .i64 0, .int .i64 0, .int .i64 0, .int .i64 0]) (t := 39) ?hr ?_; (case hd => rfl); (case hg => rfl); (case hr => first | (go_simp; done) | (go_simp; rfl))
      intro gb302 hg w44 hbox hb
      have n0_ := zm44 (Kd.R_below (z44_10 Zg.out) hb)
      have n1_ := zm44 (IsS89.below (z44_5 HI0.out Zb.out) hb)
      have n2_ := zm44 (blk_below (g := gb288) (o := .cells #[.int .i64 0, .int .i64 0, .int .i64 0, .int .i64 0] 39 (0, 0)) (z44_3 Za.out) hb)
      have n3_ := zm44 (KeepBut.trans (z44_4 HK.out Zh.out) (KeepBut.of_below hb g none) (.inl rfl))
      have n4_ := zm44 (below_step (z44_6 HB.out HI0.out Zl.out) hb)
      have n5_ := zm44 (hbox)
      have n6_ := zm44 ((by rw [hg]; exact (keep_size (w := w) (g := g) (row := none) (z44_4 HK.out Zh.out)) : w.heap.size ≤ gb302))
      have n7_ := zm44 ((Nat.le_trans HW0.out (by rw [hg]; exact (keep_size (w := w) (g := g) (row := none) (z44_4 HK.out Zh.out)) : w.heap.size ≤ gb302) : w0.heap.size ≤ gb302))
      have n8_ := zm44 ((by rw [hg]; exact Nat.ne_of_lt (blk_lt (g := gb288) (o := .cells #[.int .i64 0, .int .i64 0, .int .i64 0, .int .i64 0] 39 (0, 0)) (z44_3 Za.out)) : gb288 ≠ gb302))
      have n9_ := zm44 ((by rw [hg]; exact Nat.ne_of_gt (blk_lt (g := gb288) (o := .cells #[.int .i64 0, .int .i64 0, .int .i64 0, .int .i64 0] 39 (0, 0)) (z44_3 Za.out)) : gb302 ≠ gb288))
      have n10_ := zm44 ((by rw [hg]; exact Nat.ne_of_lt (IsS89.lt (show IsS89 w0 _ g s0_0 t300 t301 from z44_5 HI0.out Zb.out)) : g ≠ gb302))
      have n11_ := zm44 ((by rw [hg]; exact Nat.ne_of_gt (IsS89.lt (show IsS89 w0 _ g s0_0 t300 t301 from z44_5 HI0.out Zb.out)) : gb302 ≠ g))
      clear Zg
      clear HI0
      clear Za
      clear HK
      clear HB
      have Zg := n0_
      have HI0 := n1_
      have Za := n2_
      have HK := n3_
      have HB := n4_
      have Zf := n5_
      have Zj := n6_
      have Zk := n7_
      have Zd := n8_
      have Ze := n9_
      have Zc := n10_
      have Zi := n11_
      clear n0_ n1_ n2_ n3_ n4_ n5_ n6_ n7_ n8_ n9_ n10_ n11_
      clear hb hbox hg
      refine hK.out _ _ trivial (fun hHeld => ?_)
      clear hK K
      refine norm_ (a' := ?_) ?_ ?_
      rotate_left
      ·show Act.put _ (some 3) _ = _
       simp only [Act.put, zs44, zz44, zt44, i64_w, i32_w]
       rfl
      exact norm_ (by first | (simp only [putAll, Act.put, zs44, zz44, zt44]; done) | (simp only [putAll, Act.put, zs44, zz44, zt44]; rfl)) (hJ1_2_4_6_8_10 (.slice (some adz_v293) y292.length co43, adz_v293, gb302) _ ⟨(z44_10 Zg.out), ⟨_, rfl⟩, (z44_3 Za.out), (z44_3 Zf.out), Zj.out, Zk.out, Zc.out, Zi.out, Zd.out, Ze.out, (z44_7 HI0.out Zb.out Zc.out), (z44_8 HK.out Zh.out Zj.out), (z44_9 HB.out HI0.out Zl.out Zk.out)⟩)
    rintro ⟨v293, adz_v293, gb302⟩ w43 ⟨h0_, h1_, h2_, h3_, h4_, h5_, h6_, h7_, h8_, h9_, h10_, h11_, h12_⟩
    have n0_ : Aside0 (Kd.R (Kd.int .i64) 3 w43 w.heap.size (fun _ => True) v293 y292) := ⟨h0_⟩
    have n1_ : Aside0 (∃ c_, (v293 : Value) = .slice (some adz_v293) y292.length c_) := ⟨h1_⟩
    have n2_ : Aside0 (w43.heap[gb288]? = some (.cells #[.int .i64 0, .int .i64 0, .int .i64 0, .int .i64 0] 39 (0, 0))) := ⟨h2_⟩
    have n3_ : Aside0 (w43.heap[gb302]? = some (.cells #[.int .i64 0, .int .i64 0, .int .i64 0, .int .i64 0] 39 (0, 0))) := ⟨h3_⟩
    have n4_ : Aside0 (w.heap.size ≤ gb302) := ⟨h4_⟩
    have n5_ : Aside0 (w0.heap.size ≤ gb302) := ⟨h5_⟩
    have n6_ : Aside0 (g ≠ gb302) := ⟨h6_⟩
    have n7_ : Aside0 (gb302 ≠ g) := ⟨h7_⟩
    have n8_ : Aside0 (gb288 ≠ gb302) := ⟨h8_⟩
    have n9_ : Aside0 (gb302 ≠ gb288) := ⟨h9_⟩
    have n10_ : Aside0 (IsS89 w0 w43 g s0_0 t300 t301) := ⟨h10_⟩
    have n11_ : Aside0 (KeepBut w w43 g none) := ⟨h11_⟩
    have n12_ : Aside0 (Below w0.heap.size w0 w43) := ⟨h12_⟩
    clear Za
    clear HI0
    clear HK
    clear HB
    clear h0_ h1_ h2_ h3_ h4_ h5_ h6_ h7_ h8_ h9_ h10_ h11_ h12_
    have Zg := n0_
    have HA_HO294 := n1_
    have Za := n2_
    have Zf := n3_
    have Zj := n4_
    have Zk := n5_
    have Zc := n6_
    have Zi := n7_
    have Zd := n8_
    have Ze := n9_
    have HI0 := n10_
    have HK := n11_
    have HB := n12_
    clear n0_ n1_ n2_ n3_ n4_ n5_ n6_ n7_ n8_ n9_ n10_ n11_ n12_
    have hHeld := trivial
    obtain ⟨co44, eo44⟩ := HA_HO294.out
    clear HA_HO294
    subst eo44
    refine norm_ (a' := ?_) ?_ ?_
    rotate_left
    ·simp only [putAll, Act.put, zs44, zz44, zt44]
     rfl
    refine one_ (i := 11) (N := none) #[true, true, true, true, true, true, true, true, true, true, true, true] rfl rfl (one_of HT_.out (by kernel_rfl)) (by decide) (fun K hK => ?_)
    have hs45 : w43.cell? ⟨gb302, 0, none⟩ = some (.int .i64 0) := (blk_cell Zf.out 0).trans rfl
    have hfs45 := blk_frozen Zf.out 0
    have hns45_0 := Zd.out
    have hms45_0 := Ze.out
    have hs46 : w43.cell? ⟨gb302, 1, none⟩ = some (.int .i64 0) := (blk_cell Zf.out 1).trans rfl
    have hfs46 := blk_frozen Zf.out 1
    have hns46_0 := Zd.out
    have hms46_0 := Ze.out
    have hs47 : w43.cell? ⟨gb302, 2, none⟩ = some (.int .i64 0) := (blk_cell Zf.out 2).trans rfl
    have hfs47 := blk_frozen Zf.out 2
    have hns47_0 := Zd.out
    have hms47_0 := Ze.out
    have hs48 : w43.cell? ⟨gb302, 3, none⟩ = some (.int .i64 0) := (blk_cell Zf.out 3).trans rfl
    have hfs48 := blk_frozen Zf.out 3
    have hns48_0 := Zd.out
    have hms48_0 := Ze.out
    refine skip_ (w1 := ?_) (by rfl) rfl ?_ ?_
    rotate_left
    ·go_simp
     rfl
    refine hK.out _ _ trivial (fun hHeld => ?_)
    clear hK K
    refine done_ (done_of HT_.out (by kernel_rfl)) ?_
    have hnb49 := Ze.out
    have hnc49 := Zd.out
    have hnb50 := Zi.out
    have hnc50 := Zc.out
    have hcz51_0 : w43.cell? ⟨gb302, 0, none⟩ = some (.int .i64 0) := (blk_cell Zf.out 0).trans rfl
    have hcz51_1 : w43.cell? ⟨gb302, 1, none⟩ = some (.int .i64 0) := (blk_cell Zf.out 1).trans rfl
    have hcz51_2 : w43.cell? ⟨gb302, 2, none⟩ = some (.int .i64 0) := (blk_cell Zf.out 2).trans rfl
    have hcz51_3 : w43.cell? ⟨gb302, 3, none⟩ = some (.int .i64 0) := (blk_cell Zf.out 3).trans rfl
    have hfz51_0 := blk_frozen Zf.out 0
    have hfz51_1 := blk_frozen Zf.out 1
    have hfz51_2 := blk_frozen Zf.out 2
    have hfz51_3 := blk_frozen Zf.out 3
    try go_wp2_with (first | ((with_reducible refine gate_callee (f := 66) rfl ?_); refine goesL_ (some 18) rfl rfl Try.func66 (by kernel_rfl) rfl #[.pointer (some ⟨g, 0, none⟩), .int .i64 (wrap64 (t299 + 1))] rfl (by (try simp only [List.map_toArray, List.map_cons, List.map_nil]); first | done | rfl | (simp only [List.length_drop, List.length_take]; rfl)) ?_; (with_reducible refine (spec_l00Src_next.calls g s0_0 t300 t301 (wrap64 (t299 + 1)) t303 t304 t305 w0 _ ?side1 ?side2 A7.out).mono ?_); (case side1 => repeat (first | (with_reducible first | exact HI0.out | apply IsS89.alloc | apply IsS89.drewN | apply IsS89.drew | apply IsS89.set_1 | apply IsS89.set_2 | refine IsS89.far ?_ Zb.out _ | refine IsS89.far ?_ Zc.out _) | exact HI0.out)); (case side2 => repeat (first | (with_reducible first | exact HB.out | apply below_alloc | apply pw_below_drewN | apply below_drew1 | refine below_set ?_ (IsS89.ge HI0.out) | refine below_set ?_ Zl.out | refine below_set ?_ Zk.out) | exact HB.out)); rintro e w52 ⟨rfl, hi, hb, hk⟩; refine ⟨_, rfl, ?_⟩; have n0_ := zm44 (KeepBut.blk hk (g' := gb288) (o := .cells #[.int .i64 0, .int .i64 0, .int .i64 0, .int .i64 0] 39 (0, 0)) (by (with_reducible repeat (first | refine blk_drewN ?_ _ | refine blk_drew ?_ | refine blk_alloc ?_ _)); refine blk_far ?_ Zd.out _; (with_reducible repeat (first | refine blk_drewN ?_ _ | refine blk_drew ?_ | refine blk_alloc ?_ _)); refine blk_far ?_ Zd.out _; (with_reducible repeat (first | refine blk_drewN ?_ _ | refine blk_drew ?_ | refine blk_alloc ?_ _)); refine blk_far ?_ Zd.out _; (with_reducible repeat (first | refine blk_drewN ?_ _ | refine blk_drew ?_ | refine blk_alloc ?_ _)); refine blk_far ?_ Zd.out _; (with_reducible repeat (first | refine blk_drewN ?_ _ | refine blk_drew ?_ | refine blk_alloc ?_ _)); exact Za.out) Zm.out (by simp)); have n1_ := zm44 (Kd.R_mono (Kd.R_keep (IsS89.apart (show IsS89 w0 _ g s0_0 t300 t301 from z44_7 HI0.out Zb.out Zc.out) (by (with_reducible repeat (first | apply Kd.R_alloc | apply Kd.R_drewN | apply Kd.R_drew)); exact (Kd.R_mono (Kd.R_far (p := ⟨gb302, 3, none⟩) (Kd.R_far (p := ⟨gb302, 2, none⟩) (Kd.R_far (p := ⟨gb302, 1, none⟩) (Kd.R_far (p := ⟨gb302, 0, none⟩) (Kd.R_types Zg.out Zf.out (by decide)) (fun _ hk => hk.2) (.int .i64 (rd y292 t295))) (fun _ hk => hk.2) (.int .i64 t299)) (fun _ hk => hk.2) (.int .i64 0)) (fun _ hk => hk.2) (.int .i64 0)) (fun _ h_ => h_.1))) (by decide)) hk (fun _ h => h.2)) (fun _ h => h.1)); have n2_ := zm44 (KeepBut.blk hk (g' := gb302) (o := .cells #[.int .i64 (rd y292 t295), .int .i64 t299, .int .i64 0, .int .i64 0] 39 (0, 0)) (by (with_reducible repeat (first | refine blk_drewN ?_ _ | refine blk_drew ?_ | refine blk_alloc ?_ _)); refine blk_put (cs := #[.int .i64 (rd y292 t295), .int .i64 t299, .int .i64 0, .int .i64 0]) ?_ 3 _ rfl; (with_reducible repeat (first | refine blk_drewN ?_ _ | refine blk_drew ?_ | refine blk_alloc ?_ _)); refine blk_put (cs := #[.int .i64 (rd y292 t295), .int .i64 t299, .int .i64 0, .int .i64 0]) ?_ 2 _ rfl; (with_reducible repeat (first | refine blk_drewN ?_ _ | refine blk_drew ?_ | refine blk_alloc ?_ _)); refine blk_put (cs := #[.int .i64 (rd y292 t295), .int .i64 0, .int .i64 0, .int .i64 0]) ?_ 1 _ rfl; (with_reducible repeat (first | refine blk_drewN ?_ _ | refine blk_drew ?_ | refine blk_alloc ?_ _)); refine blk_put (cs := #[.int .i64 0, .int .i64 0, .int .i64 0, .int .i64 0]) ?_ 0 _ rfl; (with_reducible repeat (first | refine blk_drewN ?_ _ | refine blk_drew ?_ | refine blk_alloc ?_ _)); exact Zf.out) Zi.out (by simp)); have n3_ := zm44 (KeepBut.trans (z44_8 HK.out Zh.out Zj.out) hk (.inl rfl)); have n4_ := zm44 (hb); have n5_ := zm44 (hi); clear Za; clear Zg; clear Zf; clear HK; clear HB; clear HI0; have Za := n0_; have Zg := n1_; have Zf := n2_; have HK := n3_; have HB := n4_; have HI0 := n5_; clear n0_ n1_ n2_ n3_ n4_ n5_; (try clear hb); (try clear hb2); (try clear hk); (try clear hi); have hcz53_0 : w52.cell? ⟨gb302, 0, none⟩ = some (.int .i64 (rd y292 t295)) := (blk_cell Zf.out 0).trans rfl; have hcz53_1 : w52.cell? ⟨gb302, 1, none⟩ = some (.int .i64 t299) := (blk_cell Zf.out 1).trans rfl; have hcz53_2 : w52.cell? ⟨gb302, 2, none⟩ = some (.int .i64 0) := (blk_cell Zf.out 2).trans rfl; have hcz53_3 : w52.cell? ⟨gb302, 3, none⟩ = some (.int .i64 0) := (blk_cell Zf.out 3).trans rfl; have hfz53_0 := blk_frozen Zf.out 0; have hfz53_1 := blk_frozen Zf.out 1; have hfz53_2 := blk_frozen Zf.out 2; have hfz53_3 := blk_frozen Zf.out 3; have hnb54 := Zm.out; have hnc54 := Zb.out; have hcz55_0 : w52.cell? ⟨gb288, 0, none⟩ = some (.int .i64 0) := (blk_cell Za.out 0).trans rfl; have hcz55_1 : w52.cell? ⟨gb288, 1, none⟩ = some (.int .i64 0) := (blk_cell Za.out 1).trans rfl; have hcz55_2 : w52.cell? ⟨gb288, 2, none⟩ = some (.int .i64 0) := (blk_cell Za.out 2).trans rfl; have hcz55_3 : w52.cell? ⟨gb288, 3, none⟩ = some (.int .i64 0) := (blk_cell Za.out 3).trans rfl; have hfz55_0 := blk_frozen Za.out 0; have hfz55_1 := blk_frozen Za.out 1; have hfz55_2 := blk_frozen Za.out 2; have hfz55_3 := blk_frozen Za.out 3))
    refine bodyPost_ret (results_cell_row rfl _ _ gb288 39 #[.int .i64 (rd y292 t295), .int .i64 t299, .int .i64 t303, .int .i64 0] (0, 0) _ rfl (by (with_reducible repeat (first | refine blk_drewN ?_ _ | refine blk_drew ?_ | refine blk_alloc ?_ _)); refine blk_put (cs := #[.int .i64 (rd y292 t295), .int .i64 t299, .int .i64 t303, .int .i64 0]) ?_ 3 _ rfl; (with_reducible repeat (first | refine blk_drewN ?_ _ | refine blk_drew ?_ | refine blk_alloc ?_ _)); refine blk_put (cs := #[.int .i64 (rd y292 t295), .int .i64 t299, .int .i64 0, .int .i64 0]) ?_ 2 _ rfl; (with_reducible repeat (first | refine blk_drewN ?_ _ | refine blk_drew ?_ | refine blk_alloc ?_ _)); refine blk_put (cs := #[.int .i64 (rd y292 t295), .int .i64 0, .int .i64 0, .int .i64 0]) ?_ 1 _ rfl; (with_reducible repeat (first | refine blk_drewN ?_ _ | refine blk_drew ?_ | refine blk_alloc ?_ _)); refine blk_put (cs := #[.int .i64 0, .int .i64 0, .int .i64 0, .int .i64 0]) ?_ 0 _ rfl; (with_reducible repeat (first | refine blk_drewN ?_ _ | refine blk_drew ?_ | refine blk_alloc ?_ _)); refine blk_far ?_ Zd.out _; (with_reducible repeat (first | refine blk_drewN ?_ _ | refine blk_drew ?_ | refine blk_alloc ?_ _)); exact Za.out) Try.underlying39 rfl (by kernel_rfl)) rfl ?_
    exact ⟨by first | rfl | (simp [errW_none, errW_some] <;> rfl) | (simp [*, errW_none, errW_some] <;> rfl), z44_7 HI0.out Zb.out Zc.out, z44_9 HB.out HI0.out Zl.out Zk.out, z44_8 HK.out Zh.out Zj.out⟩
  ·rw [if_neg c5] at H
   exact absurd H (by simp)
 ·rw [if_neg c4] at H
  exact absurd H (by simp)
end Go.Proofs.Ytnehachhddfblaa.Q
