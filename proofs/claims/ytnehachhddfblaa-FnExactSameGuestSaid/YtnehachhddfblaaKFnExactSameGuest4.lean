/- What laws.FnExactSameGuest reaches, part 4: the functions as Lean functions, the proofs that the program's functions answer so, and plain laws about them. -/
import Derived.Test.YtnehachhddfblaaKFnExactSameGuest1
import Derived.Test.YtnehachhddfblaaKFnExactSameGuest2
import Derived.Test.YtnehachhddfblaaKFnExactSameGuest3
namespace Go.Proofs.Ytnehachhddfblaa.Q
open Go.RowKit Go.Proofs.Ytnehachhddfblaa.Ext Go.Proofs.YtnehachhddfblaaW.PrintWords Go.Proofs.YtnehachhddfblaaW.PrintLast Go.Proofs.YtnehachhddfblaaW.PrintMore
attribute [local go_sem] max2_int min2_int max_two min_two max_three min_three max_four min_four   -- for this text's walks alone
set_option linter.unusedVariables false
set_option linter.unusedSimpArgs false

set_option linter.unusedVariables false
set_option linter.unusedSimpArgs false
/-! ### laws_FnExactSameGuest: function 4 -/
def laws_FnExactSameGuest.f (k : Nat) (l0_0 : List Int) (l0_1 : List (S86)) (l1_0 : List Int) (l1_1 : List (S86)) : Option (Bool) := (laws_szGuest.f k l0_0 l0_1 1048576).bind fun t231 => (if t231 < 0 then (some true) else ((laws_szGuest.f k l1_0 l1_1 t231).bind fun t232 => (if t232 < 0 then (some true) else ((laws_toGuest.f k l0_0 l0_1).bind fun bt233 => ((laws_toGuest.f k l1_0 l1_1).bind fun bt239 => ((spec_SameGuest.f k bt233.1 bt233.2 bt239.1 bt239.2).bind fun t245 => ((laws_toGuest.f k l0_0 l0_1).bind fun bt246 => ((laws_toGuest.f k l1_0 l1_1).bind fun bt253 => ((impl_SameGuest.f k bt246.1 bt246.2 bt253.1 bt253.2).bind fun t260 => (if (t260 != t245) = true then (some false) else ((laws_toGuest.f k l0_0 l0_1).bind fun bt261 => ((laws_eqGuest.f k bt246.1 bt246.2 bt261.1 bt261.2).bind fun t267 => (if t267 = true then ((laws_toGuest.f k l1_0 l1_1).bind fun bt268 => ((laws_eqGuest.f k bt253.1 bt253.2 bt268.1 bt268.2).bind fun t274 => (if t274 = true then (some true) else (some false)))) else (some false))))))))))))))
theorem laws_FnExactSameGuest.mono : ∀ a0 a1 a2 a3 k, LeO (laws_FnExactSameGuest.f k a0 a1 a2 a3) (laws_FnExactSameGuest.f (k + 1) a0 a1 a2 a3) := by
  intro a0 a1 a2 a3 k
  unfold laws_FnExactSameGuest.f
  repeat' first
      | (with_reducible exact impl_SameGuest.mono _ _ _ _ _)
      | (with_reducible exact laws_eqGuest.mono _ _ _ _ _)
      | (with_reducible exact laws_szGuest.mono _ _ _ _)
      | (with_reducible exact laws_toGuest.mono _ _ _)
      | (with_reducible exact spec_SameGuest.mono _ _ _ _ _)
      | (with_reducible exact LeO.refl _)
      | (with_reducible exact LeO.none _)
      | (with_reducible refine LeO.ite ?_ ?_)
      | (with_reducible refine LeO.bind ?_ (fun _ => ?_))
      | exact impl_SameGuest.mono _ _ _ _ _
      | exact laws_eqGuest.mono _ _ _ _ _
      | exact laws_szGuest.mono _ _ _ _
      | exact laws_toGuest.mono _ _ _
      | exact spec_SameGuest.mono _ _ _ _ _
      | exact LeO.none _
      | refine LeO.ite ?_ ?_
      | refine LeO.bind ?_ (fun _ => ?_)
theorem z4_0 {P Q  : Prop} (h_ : P)  (q : P → Q := by intro h_ ; repeat (first | (with_reducible first | exact h_ | apply below_alloc | apply pw_below_drewN | apply below_drew1) | exact h_)) : Q := q h_ 
theorem z4_1 {P Q : Prop} (h_ : P) (q : P → Q := by intro h_; (with_reducible repeat (first | refine blk_drewN ?_ _ | refine blk_drew ?_ | refine blk_alloc ?_ _)); exact h_) : Q := q h_
theorem z4_2 {P Q A0 : Prop} (h_ : P) (a0_ : A0) (q : P → A0 → Q := by intro h_ a0_; repeat (first | (with_reducible first | exact h_ | apply below_alloc | apply pw_below_drewN | apply below_drew1 | refine below_set ?_ a0_) | exact h_)) : Q := q h_ a0_
theorem z4_3 {P Q A0 A1 : Prop} (h_ : P) (a0_ : A0) (a1_ : A1) (q : P → A0 → A1 → Q := by intro h_ a0_ a1_; repeat (first | (with_reducible first | exact h_ | apply below_alloc | apply pw_below_drewN | apply below_drew1 | refine below_set ?_ a0_ | refine below_set ?_ a1_) | exact h_)) : Q := q h_ a0_ a1_
theorem z4_4 {P Q : Prop} (h_ : P) (q : P → Q := by intro h_; (with_reducible repeat (first | apply Kd.R_alloc | apply Kd.R_drewN | apply Kd.R_drew)); exact h_) : Q := q h_
theorem z4_5 {P Q : Prop} (h_ : P) (q : P → Q := by intro h_; (with_reducible repeat (first | apply Kd.S_alloc | apply Kd.S_drewN | apply Kd.S_drew)); exact h_) : Q := q h_
theorem z4_6 {P Q A0 A1 A2 : Prop} (h_ : P) (a0_ : A0) (a1_ : A1) (a2_ : A2) (q : P → A0 → A1 → A2 → Q := by intro h_ a0_ a1_ a2_; repeat (first | (with_reducible first | exact h_ | apply below_alloc | apply pw_below_drewN | apply below_drew1 | refine below_set ?_ a0_ | refine below_set ?_ a1_ | refine below_set ?_ a2_) | exact h_)) : Q := q h_ a0_ a1_ a2_
theorem z4_7 {P Q A0 A1 A2 A3 : Prop} (h_ : P) (a0_ : A0) (a1_ : A1) (a2_ : A2) (a3_ : A3) (q : P → A0 → A1 → A2 → A3 → Q := by intro h_ a0_ a1_ a2_ a3_; repeat (first | (with_reducible first | exact h_ | apply below_alloc | apply pw_below_drewN | apply below_drew1 | refine below_set ?_ a0_ | refine below_set ?_ a1_ | refine below_set ?_ a2_ | refine below_set ?_ a3_) | exact h_)) : Q := q h_ a0_ a1_ a2_ a3_
theorem zm4 {p : Prop} (h : p) : Aside0 p := ⟨h⟩
set_option maxHeartbeats 8000000 in
set_option maxRecDepth 100000 in
theorem laws_FnExactSameGuest.calls (k : Nat) (A0_0 : Option Addr) (c0_0 : Nat) (l0_0 : List Int) (A0_1 : Option Addr) (c0_1 : Nat) (l0_1 : List (S86)) (A1_0 : Option Addr) (c1_0 : Nat) (l1_0 : List Int) (A1_1 : Option Addr) (c1_1 : Nat) (l1_1 : List (S86)) (r : Bool) (w : World) (hr0_0 : Kd.C (Kd.int .i64) w A0_0 l0_0.length l0_0) (hc0_0 : l0_0.length ≤ c0_0) (hr0_1 : Kd.C k86 w A0_1 l0_1.length l0_1) (hc0_1 : l0_1.length ≤ c0_1) (hr1_0 : Kd.C (Kd.int .i64) w A1_0 l1_0.length l1_0) (hc1_0 : l1_0.length ≤ c1_0) (hr1_1 : Kd.C k86 w A1_1 l1_1.length l1_1) (hc1_1 : l1_1.length ≤ c1_1) (h : laws_FnExactSameGuest.f k l0_0 l0_1 l1_0 l1_1 = some r) :
    Calls Try.prog 4 #[.agg #[.slice A0_0 l0_0.length c0_0, .slice A0_1 l0_1.length c0_1], .agg #[.slice A1_0 l1_0.length c1_0, .slice A1_1 l1_1.length c1_1]] w fun e w' => e = .returned (.bool r) ∧ Below w.heap.size w w' := by
 have hu33 := Try.underlying33
 have hu25 := Try.underlying25
 have HR0_0 := zm4 hr0_0
 have HC0_0 := zm4 hc0_0
 clear hr0_0 hc0_0
 have HR0_1 := zm4 hr0_1
 have HC0_1 := zm4 hc0_1
 clear hr0_1 hc0_1
 have HR1_0 := zm4 hr1_0
 have HC1_0 := zm4 hc1_0
 clear hr1_0 hc1_0
 have HR1_1 := zm4 hr1_1
 have HC1_1 := zm4 hc1_1
 clear hr1_1 hc1_1
 have HB := zm4 (Below.refl w.heap.size w)
 have H : ((laws_szGuest.f k l0_0 l0_1 1048576).bind fun t231 => (if t231 < 0 then (some true) else ((laws_szGuest.f k l1_0 l1_1 t231).bind fun t232 => (if t232 < 0 then (some true) else ((laws_toGuest.f k l0_0 l0_1).bind fun bt233 => ((laws_toGuest.f k l1_0 l1_1).bind fun bt239 => ((spec_SameGuest.f k bt233.1 bt233.2 bt239.1 bt239.2).bind fun t245 => ((laws_toGuest.f k l0_0 l0_1).bind fun bt246 => ((laws_toGuest.f k l1_0 l1_1).bind fun bt253 => ((impl_SameGuest.f k bt246.1 bt246.2 bt253.1 bt253.2).bind fun t260 => (if (t260 != t245) = true then (some false) else ((laws_toGuest.f k l0_0 l0_1).bind fun bt261 => ((laws_eqGuest.f k bt246.1 bt246.2 bt261.1 bt261.2).bind fun t267 => (if t267 = true then ((laws_toGuest.f k l1_0 l1_1).bind fun bt268 => ((laws_eqGuest.f k bt253.1 bt253.2 bt268.1 bt268.2).bind fun t274 => (if t274 = true then (some true) else (some false)))) else (some false))))))))))))))) = some r := h
 clear h
 replace H := Option.bind_eq_some_iff.mp H
 obtain ⟨t231, A30, H⟩ := H
 replace H : (if t231 < 0 then (some true) else ((laws_szGuest.f k l1_0 l1_1 t231).bind fun t232 => (if t232 < 0 then (some true) else ((laws_toGuest.f k l0_0 l0_1).bind fun bt233 => ((laws_toGuest.f k l1_0 l1_1).bind fun bt239 => ((spec_SameGuest.f k bt233.1 bt233.2 bt239.1 bt239.2).bind fun t245 => ((laws_toGuest.f k l0_0 l0_1).bind fun bt246 => ((laws_toGuest.f k l1_0 l1_1).bind fun bt253 => ((impl_SameGuest.f k bt246.1 bt246.2 bt253.1 bt253.2).bind fun t260 => (if (t260 != t245) = true then (some false) else ((laws_toGuest.f k l0_0 l0_1).bind fun bt261 => ((laws_eqGuest.f k bt246.1 bt246.2 bt261.1 bt261.2).bind fun t267 => (if t267 = true then ((laws_toGuest.f k l1_0 l1_1).bind fun bt268 => ((laws_eqGuest.f k bt253.1 bt253.2 bt268.1 bt268.2).bind fun t274 => (if t274 = true then (some true) else (some false)))) else (some false)))))))))))))) = some r := H
 have A3 := zm4 A30
 clear A30
 by_cases c4 : t231 < 0
 ·rw [if_pos c4] at H
  have c4b0 : decide (t231 < 0) = true := decide_eq_true c4
  clear c4
  obtain rfl := Option.some.inj H
  go_enter Try.func4, Try.ntmps4
  go_wp2_with (first | ((with_reducible refine gate_dst (N := 2) rfl ?_); refine box_event ?hg (N := 2) ?hd (cs := #[.slice A0_0 l0_0.length c0_0, .slice A0_1 l0_1.length c0_1]) (t := 33) ?hr ?_; (case hd => rfl); (case hg => rfl); (case hr => first | (go_simp; done) | (go_simp; rfl)); intro gb229 hg w5 hbox hb; have n0_ := zm4 (below_step (z4_0 HB.out) hb); have n1_ := zm4 (hbox); have n2_ := zm4 ((by rw [hg]; exact (below_size (z4_0 HB.out)) : w.heap.size ≤ gb229)); have n3_ := zm4 ((by rw [hg]; exact (below_size (z4_0 HB.out)) : w.heap.size ≤ gb229)); clear HB; have HB := n0_; have BK229 := n1_; have GW229 := n2_; have GE229 := n3_; clear n0_ n1_ n2_ n3_; clear hb hbox hg) | ((with_reducible refine gate_dst (N := 3) rfl ?_); refine box_event ?hg (N := 3) ?hd (cs := #[.slice A1_0 l1_0.length c1_0, .slice A1_1 l1_1.length c1_1]) (t := 33) ?hr ?_; (case hd => rfl); (case hg => rfl); (case hr => first | (go_simp; done) | (go_simp; rfl)); intro gb230 hg w6 hbox hb; have n0_ := zm4 (blk_below (g := gb229) (o := .cells #[.slice A0_0 l0_0.length c0_0, .slice A0_1 l0_1.length c0_1] 33 (0, 0)) (z4_1 BK229.out) hb); have n1_ := zm4 (below_step (z4_2 HB.out GE229.out) hb); have n2_ := zm4 (hbox); have n3_ := zm4 ((by rw [hg]; exact (below_size (z4_2 HB.out GE229.out)) : w.heap.size ≤ gb230)); have n4_ := zm4 ((by rw [hg]; exact (below_size (z4_2 HB.out GE229.out)) : w.heap.size ≤ gb230)); have n5_ := zm4 ((by rw [hg]; exact Nat.ne_of_lt (blk_lt (g := gb229) (o := .cells #[.slice A0_0 l0_0.length c0_0, .slice A0_1 l0_1.length c0_1] 33 (0, 0)) (z4_1 BK229.out)) : gb229 ≠ gb230)); have n6_ := zm4 ((by rw [hg]; exact Nat.ne_of_gt (blk_lt (g := gb229) (o := .cells #[.slice A0_0 l0_0.length c0_0, .slice A0_1 l0_1.length c0_1] 33 (0, 0)) (z4_1 BK229.out)) : gb230 ≠ gb229)); clear BK229; clear HB; have BK229 := n0_; have HB := n1_; have BK230 := n2_; have GW230 := n3_; have GE230 := n4_; have NB229_230 := n5_; have NB230_229 := n6_; clear n0_ n1_ n2_ n3_ n4_ n5_ n6_; clear hb hbox hg; have hnb7 := NB229_230.out; have hnc7 := NB230_229.out; have hcz8_0 : w6.cell? ⟨gb229, 0, none⟩ = some (.slice A0_0 l0_0.length c0_0) := (blk_cell BK229.out 0).trans rfl; have hcz8_1 : w6.cell? ⟨gb229, 1, none⟩ = some (.slice A0_1 l0_1.length c0_1) := (blk_cell BK229.out 1).trans rfl; have hfz8_0 := blk_frozen BK229.out 0; have hfz8_1 := blk_frozen BK229.out 1) | ((with_reducible refine gate_callee (f := 12) rfl ?_); refine goesL_ (some 12) rfl rfl Try.func12 (by kernel_rfl) rfl #[.agg #[.slice A0_0 l0_0.length c0_0, .slice A0_1 l0_1.length c0_1], .int .i64 1048576] rfl (by (try simp only [List.map_toArray, List.map_cons, List.map_nil]); first | done | rfl | (simp only [List.length_drop, List.length_take]; rfl)) ?_; (with_reducible refine (laws_szGuest.calls k _ _ l0_0 _ _ l0_1 1048576 t231 _ ?side1 ?side2 ?side3 ?side4 A3.out).mono ?_); (case side1 => repeat (first | exact (Kd.C_below HR0_0.out HB.out) | (with_reducible refine Kd.C_alloc ?_ _) | (with_reducible refine Kd.C_drewN ?_ _) | (with_reducible refine Kd.C_drew ?_))); (case side2 => exact HC0_0.out); (case side3 => repeat (first | exact (Kd.C_below HR0_1.out HB.out) | (with_reducible refine Kd.C_alloc ?_ _) | (with_reducible refine Kd.C_drewN ?_ _) | (with_reducible refine Kd.C_drew ?_))); (case side4 => exact HC0_1.out); rintro e w9 ⟨rfl, hb⟩; refine ⟨_, rfl, ?_⟩; have n0_ := zm4 (blk_below (g := gb229) (o := .cells #[.slice A0_0 l0_0.length c0_0, .slice A0_1 l0_1.length c0_1] 33 (0, 0)) (z4_1 BK229.out) hb); have n1_ := zm4 (blk_below (g := gb230) (o := .cells #[.slice A1_0 l1_0.length c1_0, .slice A1_1 l1_1.length c1_1] 33 (0, 0)) (z4_1 BK230.out) hb); have n2_ := zm4 (below_step (z4_3 HB.out GE229.out GE230.out) hb); clear BK229; clear BK230; clear HB; have BK229 := n0_; have BK230 := n1_; have HB := n2_; clear n0_ n1_ n2_; (try clear hb); (try clear hb2); (try clear hk); (try clear hi)))
  go_ret
  exact ⟨by first | rfl | (simp [errW_none, errW_some] <;> rfl) | (simp [*, errW_none, errW_some] <;> rfl), z4_3 HB.out GE229.out GE230.out⟩
 ·rw [if_neg c4] at H
  have c4b0 : decide (t231 < 0) = false := decide_eq_false c4
  clear c4
  replace H := Option.bind_eq_some_iff.mp H
  obtain ⟨t232, A100, H⟩ := H
  replace H : (if t232 < 0 then (some true) else ((laws_toGuest.f k l0_0 l0_1).bind fun bt233 => ((laws_toGuest.f k l1_0 l1_1).bind fun bt239 => ((spec_SameGuest.f k bt233.1 bt233.2 bt239.1 bt239.2).bind fun t245 => ((laws_toGuest.f k l0_0 l0_1).bind fun bt246 => ((laws_toGuest.f k l1_0 l1_1).bind fun bt253 => ((impl_SameGuest.f k bt246.1 bt246.2 bt253.1 bt253.2).bind fun t260 => (if (t260 != t245) = true then (some false) else ((laws_toGuest.f k l0_0 l0_1).bind fun bt261 => ((laws_eqGuest.f k bt246.1 bt246.2 bt261.1 bt261.2).bind fun t267 => (if t267 = true then ((laws_toGuest.f k l1_0 l1_1).bind fun bt268 => ((laws_eqGuest.f k bt253.1 bt253.2 bt268.1 bt268.2).bind fun t274 => (if t274 = true then (some true) else (some false)))) else (some false)))))))))))) = some r := H
  have A10 := zm4 A100
  clear A100
  by_cases c11 : t232 < 0
  ·rw [if_pos c11] at H
   have c11b0 : decide (t232 < 0) = true := decide_eq_true c11
   clear c11
   obtain rfl := Option.some.inj H
   go_enter Try.func4, Try.ntmps4
   go_wp2_with (first | ((with_reducible refine gate_dst (N := 2) rfl ?_); refine box_event ?hg (N := 2) ?hd (cs := #[.slice A0_0 l0_0.length c0_0, .slice A0_1 l0_1.length c0_1]) (t := 33) ?hr ?_; (case hd => rfl); (case hg => rfl); (case hr => first | (go_simp; done) | (go_simp; rfl)); intro gb229 hg w12 hbox hb; have n0_ := zm4 (below_step (z4_0 HB.out) hb); have n1_ := zm4 (hbox); have n2_ := zm4 ((by rw [hg]; exact (below_size (z4_0 HB.out)) : w.heap.size ≤ gb229)); have n3_ := zm4 ((by rw [hg]; exact (below_size (z4_0 HB.out)) : w.heap.size ≤ gb229)); clear HB; have HB := n0_; have BK229 := n1_; have GW229 := n2_; have GE229 := n3_; clear n0_ n1_ n2_ n3_; clear hb hbox hg) | ((with_reducible refine gate_dst (N := 3) rfl ?_); refine box_event ?hg (N := 3) ?hd (cs := #[.slice A1_0 l1_0.length c1_0, .slice A1_1 l1_1.length c1_1]) (t := 33) ?hr ?_; (case hd => rfl); (case hg => rfl); (case hr => first | (go_simp; done) | (go_simp; rfl)); intro gb230 hg w13 hbox hb; have n0_ := zm4 (blk_below (g := gb229) (o := .cells #[.slice A0_0 l0_0.length c0_0, .slice A0_1 l0_1.length c0_1] 33 (0, 0)) (z4_1 BK229.out) hb); have n1_ := zm4 (below_step (z4_2 HB.out GE229.out) hb); have n2_ := zm4 (hbox); have n3_ := zm4 ((by rw [hg]; exact (below_size (z4_2 HB.out GE229.out)) : w.heap.size ≤ gb230)); have n4_ := zm4 ((by rw [hg]; exact (below_size (z4_2 HB.out GE229.out)) : w.heap.size ≤ gb230)); have n5_ := zm4 ((by rw [hg]; exact Nat.ne_of_lt (blk_lt (g := gb229) (o := .cells #[.slice A0_0 l0_0.length c0_0, .slice A0_1 l0_1.length c0_1] 33 (0, 0)) (z4_1 BK229.out)) : gb229 ≠ gb230)); have n6_ := zm4 ((by rw [hg]; exact Nat.ne_of_gt (blk_lt (g := gb229) (o := .cells #[.slice A0_0 l0_0.length c0_0, .slice A0_1 l0_1.length c0_1] 33 (0, 0)) (z4_1 BK229.out)) : gb230 ≠ gb229)); clear BK229; clear HB; have BK229 := n0_; have HB := n1_; have BK230 := n2_; have GW230 := n3_; have GE230 := n4_; have NB229_230 := n5_; have NB230_229 := n6_; clear n0_ n1_ n2_ n3_ n4_ n5_ n6_; clear hb hbox hg; have hnb14 := NB229_230.out; have hnc14 := NB230_229.out; have hcz15_0 : w13.cell? ⟨gb229, 0, none⟩ = some (.slice A0_0 l0_0.length c0_0) := (blk_cell BK229.out 0).trans rfl; have hcz15_1 : w13.cell? ⟨gb229, 1, none⟩ = some (.slice A0_1 l0_1.length c0_1) := (blk_cell BK229.out 1).trans rfl; have hfz15_0 := blk_frozen BK229.out 0; have hfz15_1 := blk_frozen BK229.out 1) | ((with_reducible refine gate_callee (f := 12) rfl ?_); refine goesL_ (some 12) rfl rfl Try.func12 (by kernel_rfl) rfl #[.agg #[.slice A0_0 l0_0.length c0_0, .slice A0_1 l0_1.length c0_1], .int .i64 1048576] rfl (by (try simp only [List.map_toArray, List.map_cons, List.map_nil]); first | done | rfl | (simp only [List.length_drop, List.length_take]; rfl)) ?_; (with_reducible refine (laws_szGuest.calls k _ _ l0_0 _ _ l0_1 1048576 t231 _ ?side1 ?side2 ?side3 ?side4 A3.out).mono ?_); (case side1 => repeat (first | exact (Kd.C_below HR0_0.out HB.out) | (with_reducible refine Kd.C_alloc ?_ _) | (with_reducible refine Kd.C_drewN ?_ _) | (with_reducible refine Kd.C_drew ?_))); (case side2 => exact HC0_0.out); (case side3 => repeat (first | exact (Kd.C_below HR0_1.out HB.out) | (with_reducible refine Kd.C_alloc ?_ _) | (with_reducible refine Kd.C_drewN ?_ _) | (with_reducible refine Kd.C_drew ?_))); (case side4 => exact HC0_1.out); rintro e w16 ⟨rfl, hb⟩; refine ⟨_, rfl, ?_⟩; have n0_ := zm4 (blk_below (g := gb229) (o := .cells #[.slice A0_0 l0_0.length c0_0, .slice A0_1 l0_1.length c0_1] 33 (0, 0)) (z4_1 BK229.out) hb); have n1_ := zm4 (blk_below (g := gb230) (o := .cells #[.slice A1_0 l1_0.length c1_0, .slice A1_1 l1_1.length c1_1] 33 (0, 0)) (z4_1 BK230.out) hb); have n2_ := zm4 (below_step (z4_3 HB.out GE229.out GE230.out) hb); clear BK229; clear BK230; clear HB; have BK229 := n0_; have BK230 := n1_; have HB := n2_; clear n0_ n1_ n2_; (try clear hb); (try clear hb2); (try clear hk); (try clear hi); have hcz17_0 : w16.cell? ⟨gb230, 0, none⟩ = some (.slice A1_0 l1_0.length c1_0) := (blk_cell BK230.out 0).trans rfl; have hcz17_1 : w16.cell? ⟨gb230, 1, none⟩ = some (.slice A1_1 l1_1.length c1_1) := (blk_cell BK230.out 1).trans rfl; have hfz17_0 := blk_frozen BK230.out 0; have hfz17_1 := blk_frozen BK230.out 1) | ((with_reducible refine gate_callee (f := 12) rfl ?_); refine goesL_ (some 17) rfl rfl Try.func12 (by kernel_rfl) rfl #[.agg #[.slice A1_0 l1_0.length c1_0, .slice A1_1 l1_1.length c1_1], .int .i64 t231] rfl (by (try simp only [List.map_toArray, List.map_cons, List.map_nil]); first | done | rfl | (simp only [List.length_drop, List.length_take]; rfl)) ?_; (with_reducible refine (laws_szGuest.calls k _ _ l1_0 _ _ l1_1 t231 t232 _ ?side1 ?side2 ?side3 ?side4 A10.out).mono ?_); (case side1 => repeat (first | exact (Kd.C_below HR1_0.out HB.out) | (with_reducible refine Kd.C_alloc ?_ _) | (with_reducible refine Kd.C_drewN ?_ _) | (with_reducible refine Kd.C_drew ?_))); (case side2 => exact HC1_0.out); (case side3 => repeat (first | exact (Kd.C_below HR1_1.out HB.out) | (with_reducible refine Kd.C_alloc ?_ _) | (with_reducible refine Kd.C_drewN ?_ _) | (with_reducible refine Kd.C_drew ?_))); (case side4 => exact HC1_1.out); rintro e w18 ⟨rfl, hb⟩; refine ⟨_, rfl, ?_⟩; have n0_ := zm4 (blk_below (g := gb229) (o := .cells #[.slice A0_0 l0_0.length c0_0, .slice A0_1 l0_1.length c0_1] 33 (0, 0)) (z4_1 BK229.out) hb); have n1_ := zm4 (blk_below (g := gb230) (o := .cells #[.slice A1_0 l1_0.length c1_0, .slice A1_1 l1_1.length c1_1] 33 (0, 0)) (z4_1 BK230.out) hb); have n2_ := zm4 (below_step (z4_3 HB.out GE229.out GE230.out) hb); clear BK229; clear BK230; clear HB; have BK229 := n0_; have BK230 := n1_; have HB := n2_; clear n0_ n1_ n2_; (try clear hb); (try clear hb2); (try clear hk); (try clear hi)))
   go_ret
   exact ⟨by first | rfl | (simp [errW_none, errW_some] <;> rfl) | (simp [*, errW_none, errW_some] <;> rfl), z4_3 HB.out GE229.out GE230.out⟩
  ·rw [if_neg c11] at H
   have c11b0 : decide (t232 < 0) = false := decide_eq_false c11
   clear c11
   replace H := Option.bind_eq_some_iff.mp H
   obtain ⟨⟨t233, t236⟩, A190, H⟩ := H
   replace H : ((laws_toGuest.f k l1_0 l1_1).bind fun bt239 => ((spec_SameGuest.f k t233 t236 bt239.1 bt239.2).bind fun t245 => ((laws_toGuest.f k l0_0 l0_1).bind fun bt246 => ((laws_toGuest.f k l1_0 l1_1).bind fun bt253 => ((impl_SameGuest.f k bt246.1 bt246.2 bt253.1 bt253.2).bind fun t260 => (if (t260 != t245) = true then (some false) else ((laws_toGuest.f k l0_0 l0_1).bind fun bt261 => ((laws_eqGuest.f k bt246.1 bt246.2 bt261.1 bt261.2).bind fun t267 => (if t267 = true then ((laws_toGuest.f k l1_0 l1_1).bind fun bt268 => ((laws_eqGuest.f k bt253.1 bt253.2 bt268.1 bt268.2).bind fun t274 => (if t274 = true then (some true) else (some false)))) else (some false)))))))))) = some r := H
   have A19 := zm4 A190
   clear A190
   replace H := Option.bind_eq_some_iff.mp H
   obtain ⟨⟨t239, t242⟩, A200, H⟩ := H
   replace H : ((spec_SameGuest.f k t233 t236 t239 t242).bind fun t245 => ((laws_toGuest.f k l0_0 l0_1).bind fun bt246 => ((laws_toGuest.f k l1_0 l1_1).bind fun bt253 => ((impl_SameGuest.f k bt246.1 bt246.2 bt253.1 bt253.2).bind fun t260 => (if (t260 != t245) = true then (some false) else ((laws_toGuest.f k l0_0 l0_1).bind fun bt261 => ((laws_eqGuest.f k bt246.1 bt246.2 bt261.1 bt261.2).bind fun t267 => (if t267 = true then ((laws_toGuest.f k l1_0 l1_1).bind fun bt268 => ((laws_eqGuest.f k bt253.1 bt253.2 bt268.1 bt268.2).bind fun t274 => (if t274 = true then (some true) else (some false)))) else (some false))))))))) = some r := H
   have A20 := zm4 A200
   clear A200
   replace H := Option.bind_eq_some_iff.mp H
   obtain ⟨t245, A210, H⟩ := H
   replace H : ((laws_toGuest.f k l0_0 l0_1).bind fun bt246 => ((laws_toGuest.f k l1_0 l1_1).bind fun bt253 => ((impl_SameGuest.f k bt246.1 bt246.2 bt253.1 bt253.2).bind fun t260 => (if (t260 != t245) = true then (some false) else ((laws_toGuest.f k l0_0 l0_1).bind fun bt261 => ((laws_eqGuest.f k bt246.1 bt246.2 bt261.1 bt261.2).bind fun t267 => (if t267 = true then ((laws_toGuest.f k l1_0 l1_1).bind fun bt268 => ((laws_eqGuest.f k bt253.1 bt253.2 bt268.1 bt268.2).bind fun t274 => (if t274 = true then (some true) else (some false)))) else (some false)))))))) = some r := H
   have A21 := zm4 A210
   clear A210
   replace H := Option.bind_eq_some_iff.mp H
   obtain ⟨⟨t246, t249⟩, A220, H⟩ := H
   replace H : ((laws_toGuest.f k l1_0 l1_1).bind fun bt253 => ((impl_SameGuest.f k t246 t249 bt253.1 bt253.2).bind fun t260 => (if (t260 != t245) = true then (some false) else ((laws_toGuest.f k l0_0 l0_1).bind fun bt261 => ((laws_eqGuest.f k t246 t249 bt261.1 bt261.2).bind fun t267 => (if t267 = true then ((laws_toGuest.f k l1_0 l1_1).bind fun bt268 => ((laws_eqGuest.f k bt253.1 bt253.2 bt268.1 bt268.2).bind fun t274 => (if t274 = true then (some true) else (some false)))) else (some false))))))) = some r := H
   have A22 := zm4 A220
   clear A220
   replace H := Option.bind_eq_some_iff.mp H
   obtain ⟨⟨t253, t256⟩, A230, H⟩ := H
   replace H : ((impl_SameGuest.f k t246 t249 t253 t256).bind fun t260 => (if (t260 != t245) = true then (some false) else ((laws_toGuest.f k l0_0 l0_1).bind fun bt261 => ((laws_eqGuest.f k t246 t249 bt261.1 bt261.2).bind fun t267 => (if t267 = true then ((laws_toGuest.f k l1_0 l1_1).bind fun bt268 => ((laws_eqGuest.f k t253 t256 bt268.1 bt268.2).bind fun t274 => (if t274 = true then (some true) else (some false)))) else (some false)))))) = some r := H
   have A23 := zm4 A230
   clear A230
   replace H := Option.bind_eq_some_iff.mp H
   obtain ⟨t260, A240, H⟩ := H
   replace H : (if (t260 != t245) = true then (some false) else ((laws_toGuest.f k l0_0 l0_1).bind fun bt261 => ((laws_eqGuest.f k t246 t249 bt261.1 bt261.2).bind fun t267 => (if t267 = true then ((laws_toGuest.f k l1_0 l1_1).bind fun bt268 => ((laws_eqGuest.f k t253 t256 bt268.1 bt268.2).bind fun t274 => (if t274 = true then (some true) else (some false)))) else (some false))))) = some r := H
   have A24 := zm4 A240
   clear A240
   by_cases c25 : (t260 != t245) = true
   ·rw [if_pos c25] at H
    have c25b0 : (t260 != t245) = true := c25
    (try (have c25b1 : decide (t260 = t245) = false := by simpa using c25))
    (try (have c25b2 : (t260 == t245) = false := by simpa using c25))
    (try (have c25b3 : ¬ (t260 = t245) := by simpa using c25))
    clear c25
    obtain rfl := Option.some.inj H
    go_enter Try.func4, Try.ntmps4
    try go_wp2_with (first | ((with_reducible refine gate_dst (N := 2) rfl ?_); refine box_event ?hg (N := 2) ?hd (cs := #[.slice A0_0 l0_0.length c0_0, .slice A0_1 l0_1.length c0_1]) (t := 33) ?hr ?_; (case hd => rfl); (case hg => rfl); (case hr => first | (go_simp; done) | (go_simp; rfl)); intro gb229 hg w26 hbox hb; have n0_ := zm4 (below_step (z4_0 HB.out) hb); have n1_ := zm4 (hbox); have n2_ := zm4 ((by rw [hg]; exact (below_size (z4_0 HB.out)) : w.heap.size ≤ gb229)); have n3_ := zm4 ((by rw [hg]; exact (below_size (z4_0 HB.out)) : w.heap.size ≤ gb229)); clear HB; have HB := n0_; have BK229 := n1_; have GW229 := n2_; have GE229 := n3_; clear n0_ n1_ n2_ n3_; clear hb hbox hg) | ((with_reducible refine gate_dst (N := 3) rfl ?_); refine box_event ?hg (N := 3) ?hd (cs := #[.slice A1_0 l1_0.length c1_0, .slice A1_1 l1_1.length c1_1]) (t := 33) ?hr ?_; (case hd => rfl); (case hg => rfl); (case hr => first | (go_simp; done) | (go_simp; rfl)); intro gb230 hg w27 hbox hb; have n0_ := zm4 (blk_below (g := gb229) (o := .cells #[.slice A0_0 l0_0.length c0_0, .slice A0_1 l0_1.length c0_1] 33 (0, 0)) (z4_1 BK229.out) hb); have n1_ := zm4 (below_step (z4_2 HB.out GE229.out) hb); have n2_ := zm4 (hbox); have n3_ := zm4 ((by rw [hg]; exact (below_size (z4_2 HB.out GE229.out)) : w.heap.size ≤ gb230)); have n4_ := zm4 ((by rw [hg]; exact (below_size (z4_2 HB.out GE229.out)) : w.heap.size ≤ gb230)); have n5_ := zm4 ((by rw [hg]; exact Nat.ne_of_lt (blk_lt (g := gb229) (o := .cells #[.slice A0_0 l0_0.length c0_0, .slice A0_1 l0_1.length c0_1] 33 (0, 0)) (z4_1 BK229.out)) : gb229 ≠ gb230)); have n6_ := zm4 ((by rw [hg]; exact Nat.ne_of_gt (blk_lt (g := gb229) (o := .cells #[.slice A0_0 l0_0.length c0_0, .slice A0_1 l0_1.length c0_1] 33 (0, 0)) (z4_1 BK229.out)) : gb230 ≠ gb229)); clear BK229; clear HB; have BK229 := n0_; have HB := n1_; have BK230 := n2_; have GW230 := n3_; have GE230 := n4_; have NB229_230 := n5_; have NB230_229 := n6_; clear n0_ n1_ n2_ n3_ n4_ n5_ n6_; clear hb hbox hg; have hnb28 := NB229_230.out; have hnc28 := NB230_229.out; have hcz29_0 : w27.cell? ⟨gb229, 0, none⟩ = some (.slice A0_0 l0_0.length c0_0) := (blk_cell BK229.out 0).trans rfl; have hcz29_1 : w27.cell? ⟨gb229, 1, none⟩ = some (.slice A0_1 l0_1.length c0_1) := (blk_cell BK229.out 1).trans rfl; have hfz29_0 := blk_frozen BK229.out 0; have hfz29_1 := blk_frozen BK229.out 1) | ((with_reducible refine gate_callee (f := 12) rfl ?_); refine goesL_ (some 12) rfl rfl Try.func12 (by kernel_rfl) rfl #[.agg #[.slice A0_0 l0_0.length c0_0, .slice A0_1 l0_1.length c0_1], .int .i64 1048576] rfl (by (try simp only [List.map_toArray, List.map_cons, List.map_nil]); first | done | rfl | (simp only [List.length_drop, List.length_take]; rfl)) ?_; (with_reducible refine (laws_szGuest.calls k _ _ l0_0 _ _ l0_1 1048576 t231 _ ?side1 ?side2 ?side3 ?side4 A3.out).mono ?_); (case side1 => repeat (first | exact (Kd.C_below HR0_0.out HB.out) | (with_reducible refine Kd.C_alloc ?_ _) | (with_reducible refine Kd.C_drewN ?_ _) | (with_reducible refine Kd.C_drew ?_))); (case side2 => exact HC0_0.out); (case side3 => repeat (first | exact (Kd.C_below HR0_1.out HB.out) | (with_reducible refine Kd.C_alloc ?_ _) | (with_reducible refine Kd.C_drewN ?_ _) | (with_reducible refine Kd.C_drew ?_))); (case side4 => exact HC0_1.out); rintro e w30 ⟨rfl, hb⟩; refine ⟨_, rfl, ?_⟩; have n0_ := zm4 (blk_below (g := gb229) (o := .cells #[.slice A0_0 l0_0.length c0_0, .slice A0_1 l0_1.length c0_1] 33 (0, 0)) (z4_1 BK229.out) hb); have n1_ := zm4 (blk_below (g := gb230) (o := .cells #[.slice A1_0 l1_0.length c1_0, .slice A1_1 l1_1.length c1_1] 33 (0, 0)) (z4_1 BK230.out) hb); have n2_ := zm4 (below_step (z4_3 HB.out GE229.out GE230.out) hb); clear BK229; clear BK230; clear HB; have BK229 := n0_; have BK230 := n1_; have HB := n2_; clear n0_ n1_ n2_; (try clear hb); (try clear hb2); (try clear hk); (try clear hi); have hcz31_0 : w30.cell? ⟨gb230, 0, none⟩ = some (.slice A1_0 l1_0.length c1_0) := (blk_cell BK230.out 0).trans rfl; have hcz31_1 : w30.cell? ⟨gb230, 1, none⟩ = some (.slice A1_1 l1_1.length c1_1) := (blk_cell BK230.out 1).trans rfl; have hfz31_0 := blk_frozen BK230.out 0; have hfz31_1 := blk_frozen BK230.out 1) | ((with_reducible refine gate_callee (f := 12) rfl ?_); refine goesL_ (some 17) rfl rfl Try.func12 (by kernel_rfl) rfl #[.agg #[.slice A1_0 l1_0.length c1_0, .slice A1_1 l1_1.length c1_1], .int .i64 t231] rfl (by (try simp only [List.map_toArray, List.map_cons, List.map_nil]); first | done | rfl | (simp only [List.length_drop, List.length_take]; rfl)) ?_; (with_reducible refine (laws_szGuest.calls k _ _ l1_0 _ _ l1_1 t231 t232 _ ?side1 ?side2 ?side3 ?side4 A10.out).mono ?_); (case side1 => repeat (first | exact (Kd.C_below HR1_0.out HB.out) | (with_reducible refine Kd.C_alloc ?_ _) | (with_reducible refine Kd.C_drewN ?_ _) | (with_reducible refine Kd.C_drew ?_))); (case side2 => exact HC1_0.out); (case side3 => repeat (first | exact (Kd.C_below HR1_1.out HB.out) | (with_reducible refine Kd.C_alloc ?_ _) | (with_reducible refine Kd.C_drewN ?_ _) | (with_reducible refine Kd.C_drew ?_))); (case side4 => exact HC1_1.out); rintro e w32 ⟨rfl, hb⟩; refine ⟨_, rfl, ?_⟩; have n0_ := zm4 (blk_below (g := gb229) (o := .cells #[.slice A0_0 l0_0.length c0_0, .slice A0_1 l0_1.length c0_1] 33 (0, 0)) (z4_1 BK229.out) hb); have n1_ := zm4 (blk_below (g := gb230) (o := .cells #[.slice A1_0 l1_0.length c1_0, .slice A1_1 l1_1.length c1_1] 33 (0, 0)) (z4_1 BK230.out) hb); have n2_ := zm4 (below_step (z4_3 HB.out GE229.out GE230.out) hb); clear BK229; clear BK230; clear HB; have BK229 := n0_; have BK230 := n1_; have HB := n2_; clear n0_ n1_ n2_; (try clear hb); (try clear hb2); (try clear hk); (try clear hi)))
    have n0_ := zm4 (blk_drew BK229.out)
    have n1_ := zm4 (blk_drew BK230.out)
    have n2_ := zm4 (below_drew1 HB.out)
    clear BK229
    clear BK230
    clear HB
    have BK229 := n0_
    have BK230 := n1_
    have HB := n2_
    clear n0_ n1_ n2_
    refine start_ (n := 6) (S := fun w' => w'.cell? ⟨gb229, 0, none⟩ = some (.slice A0_0 l0_0.length c0_0) ∧ w'.cell? ⟨gb229, 1, none⟩ = some (.slice A0_1 l0_1.length c0_1) ∧ w'.cell? ⟨gb230, 0, none⟩ = some (.slice A1_0 l1_0.length c1_0) ∧ w'.cell? ⟨gb230, 1, none⟩ = some (.slice A1_1 l1_1.length c1_1)) (ds := []) #[false, false, false, false, false, false] (by kernel_rfl) rfl rfl ⟨(blk_cell BK229.out 0).trans rfl, (blk_cell BK229.out 1).trans rfl, (blk_cell BK230.out 0).trans rfl, (blk_cell BK230.out 1).trans rfl⟩ (fun hHeld => ?_)
    generalize w32.drew = w33 at BK229 BK230 HB hHeld ⊢
    refine take_ (i := 0) (N := some 20) (v := ?_) (a' := ?_) #[true, false, false, false, false, false] rfl rfl (by kernel_rfl) (fun _ _ _ h => h) (Or.inl ⟨by rfl, ?_⟩) hHeld ?_ ?_
    rotate_left
    ·rintro w' ⟨s0, s1, s2, s3⟩
     go_simp
     with_reducible rfl
    rotate_left
    ·simp only [Act.put, List.setIfInBounds_toArray, List.set_cons_zero, List.set_cons_succ, i64_w, i32_w]
     rfl
    refine take_ (i := 2) (N := some 22) (v := ?_) (a' := ?_) #[true, false, true, false, false, false] rfl rfl (by kernel_rfl) (fun _ _ _ h => h) (Or.inl ⟨by rfl, ?_⟩) hHeld ?_ ?_
    rotate_left
    ·rintro w' ⟨s0, s1, s2, s3⟩
     go_simp
     with_reducible rfl
    rotate_left
    ·simp only [Act.put, List.setIfInBounds_toArray, List.set_cons_zero, List.set_cons_succ, i64_w, i32_w]
     rfl
    refine one_ (i := 1) (N := some 21) #[true, true, true, false, false, false] rfl rfl (by kernel_rfl) (by decide) (fun K hK => ?_)
    refine goes_ Try.func14 (by kernel_rfl) rfl #[.agg #[.slice A0_0 l0_0.length c0_0, .slice A0_1 l0_1.length c0_1]] (by rfl) rfl rfl (by (try simp only [List.map_toArray, List.map_cons, List.map_nil]); first | done | rfl | (simp only [List.length_drop, List.length_take]; rfl)) ?_
    with_reducible refine (laws_toGuest.calls k _ _ l0_0 _ _ l0_1 t233 t236 _ ?side1 ?side2 ?side3 ?side4 A19.out).mono ?_
    (case side1 => repeat (first | exact (Kd.C_below HR0_0.out HB.out) | (with_reducible refine Kd.C_alloc ?_ _) | (with_reducible refine Kd.C_drewN ?_ _) | (with_reducible refine Kd.C_drew ?_)))
    (case side2 => exact HC0_0.out)
    (case side3 => repeat (first | exact (Kd.C_below HR0_1.out HB.out) | (with_reducible refine Kd.C_alloc ?_ _) | (with_reducible refine Kd.C_drewN ?_ _) | (with_reducible refine Kd.C_drew ?_)))
    (case side4 => exact HC0_1.out)
    rintro e w34 ⟨v234, v237, rfl, ho0, ho1, hb⟩
    refine ⟨_, rfl, ?_⟩
    have n0_ := zm4 (Kd.R_lower ho0 (below_size (z4_3 HB.out GE229.out GE230.out)))
    have n1_ := zm4 (Kd.S_lower ho1 (below_size (z4_3 HB.out GE229.out GE230.out)))
    have n2_ := zm4 (blk_below (g := gb229) (o := .cells #[.slice A0_0 l0_0.length c0_0, .slice A0_1 l0_1.length c0_1] 33 (0, 0)) (z4_1 BK229.out) hb)
    have n3_ := zm4 (blk_below (g := gb230) (o := .cells #[.slice A1_0 l1_0.length c1_0, .slice A1_1 l1_1.length c1_1] 33 (0, 0)) (z4_1 BK230.out) hb)
    have n4_ := zm4 (below_step (z4_3 HB.out GE229.out GE230.out) hb)
    clear BK229
    clear BK230
    clear HB
    have HO235 := n0_
    have HO238 := n1_
    have BK229 := n2_
    have BK230 := n3_
    have HB := n4_
    clear n0_ n1_ n2_ n3_ n4_
    (try clear hb)
    (try clear hb2)
    (try clear hk)
    (try clear hi)
    (try clear ho0)
    (try clear ho1)
    refine hK.out _ _ ⟨(blk_cell BK229.out 0).trans rfl, (blk_cell BK229.out 1).trans rfl, (blk_cell BK230.out 0).trans rfl, (blk_cell BK230.out 1).trans rfl⟩ (fun hHeld => ?_)
    clear hK K
    refine norm_ (a' := ?_) ?_ ?_
    rotate_left
    ·show Act.put _ (some 21) _ = _
     simp only [Act.put, List.setIfInBounds_toArray, List.set_cons_zero, List.set_cons_succ, i64_w, i32_w]
     rfl
    refine one_ (i := 3) (N := some 23) #[true, true, true, true, false, false] rfl rfl (by kernel_rfl) (by decide) (fun K hK => ?_)
    refine goes_ Try.func14 (by kernel_rfl) rfl #[.agg #[.slice A1_0 l1_0.length c1_0, .slice A1_1 l1_1.length c1_1]] (by rfl) rfl rfl (by (try simp only [List.map_toArray, List.map_cons, List.map_nil]); first | done | rfl | (simp only [List.length_drop, List.length_take]; rfl)) ?_
    with_reducible refine (laws_toGuest.calls k _ _ l1_0 _ _ l1_1 t239 t242 _ ?side1 ?side2 ?side3 ?side4 A20.out).mono ?_
    (case side1 => repeat (first | exact (Kd.C_below HR1_0.out HB.out) | (with_reducible refine Kd.C_alloc ?_ _) | (with_reducible refine Kd.C_drewN ?_ _) | (with_reducible refine Kd.C_drew ?_)))
    (case side2 => exact HC1_0.out)
    (case side3 => repeat (first | exact (Kd.C_below HR1_1.out HB.out) | (with_reducible refine Kd.C_alloc ?_ _) | (with_reducible refine Kd.C_drewN ?_ _) | (with_reducible refine Kd.C_drew ?_)))
    (case side4 => exact HC1_1.out)
    rintro e w35 ⟨v240, v243, rfl, ho0, ho1, hb⟩
    refine ⟨_, rfl, ?_⟩
    have n0_ := zm4 (Kd.R_elder' (z4_4 HO235.out) (Kd.R_base ho0) hb)
    have n1_ := zm4 (Kd.S_mono (Kd.S_told (Kd.S_told (Kd.S_old (z4_5 HO238.out) hb) (Kd.R_base ho0)) (Kd.S_base ho1)) (fun _ h_ => h_.1))
    have n2_ := zm4 (Kd.R_lower (Kd.R_new' ho0 (Kd.R_lt (z4_4 HO235.out))) (below_size (z4_3 HB.out GE229.out GE230.out)))
    have n3_ := zm4 (Kd.S_lower (Kd.S_new' (Kd.S_new' ho1 (Kd.R_lt (z4_4 HO235.out))) (Kd.S_lt (z4_5 HO238.out))) (below_size (z4_3 HB.out GE229.out GE230.out)))
    have n4_ := zm4 (blk_below (g := gb229) (o := .cells #[.slice A0_0 l0_0.length c0_0, .slice A0_1 l0_1.length c0_1] 33 (0, 0)) (z4_1 BK229.out) hb)
    have n5_ := zm4 (blk_below (g := gb230) (o := .cells #[.slice A1_0 l1_0.length c1_0, .slice A1_1 l1_1.length c1_1] 33 (0, 0)) (z4_1 BK230.out) hb)
    have n6_ := zm4 (below_step (z4_3 HB.out GE229.out GE230.out) hb)
    clear HO235
    clear HO238
    clear BK229
    clear BK230
    clear HB
    have HO235 := n0_
    have HO238 := n1_
    have HO241 := n2_
    have HO244 := n3_
    have BK229 := n4_
    have BK230 := n5_
    have HB := n6_
    clear n0_ n1_ n2_ n3_ n4_ n5_ n6_
    (try clear hb)
    (try clear hb2)
    (try clear hk)
    (try clear hi)
    (try clear ho0)
    (try clear ho1)
    obtain ⟨Ao36, co36, eo36⟩ := Kd.R_slice HO235.out
    (first | subst eo36 | (injection eo36 with f1_ f2_ f3_; have f4_ := f1_.symm; have f5_ := f3_.symm; clear f1_ f2_ f3_; subst f4_; subst f5_))
    obtain ⟨Ao37, co37, eo37⟩ := Kd.S_slice HO238.out
    (first | subst eo37 | (injection eo37 with f1_ f2_ f3_; have f4_ := f1_.symm; have f5_ := f3_.symm; clear f1_ f2_ f3_; subst f4_; subst f5_))
    obtain ⟨Ao38, co38, eo38⟩ := Kd.R_slice HO241.out
    (first | subst eo38 | (injection eo38 with f1_ f2_ f3_; have f4_ := f1_.symm; have f5_ := f3_.symm; clear f1_ f2_ f3_; subst f4_; subst f5_))
    obtain ⟨Ao39, co39, eo39⟩ := Kd.S_slice HO244.out
    (first | subst eo39 | (injection eo39 with f1_ f2_ f3_; have f4_ := f1_.symm; have f5_ := f3_.symm; clear f1_ f2_ f3_; subst f4_; subst f5_))
    refine hK.out _ _ ⟨(blk_cell BK229.out 0).trans rfl, (blk_cell BK229.out 1).trans rfl, (blk_cell BK230.out 0).trans rfl, (blk_cell BK230.out 1).trans rfl⟩ (fun hHeld => ?_)
    clear hK K
    refine norm_ (a' := ?_) ?_ ?_
    rotate_left
    ·show Act.put _ (some 23) _ = _
     simp only [Act.put, List.setIfInBounds_toArray, List.set_cons_zero, List.set_cons_succ, i64_w, i32_w]
     rfl
    refine one_ (i := 4) (N := some 24) #[true, true, true, true, true, false] rfl rfl (by kernel_rfl) (by decide) (fun K hK => ?_)
    refine goes_ Try.func13 (by kernel_rfl) rfl #[.agg #[.slice Ao36 t233.length co36, .slice Ao37 t236.length co37], .agg #[.slice Ao38 t239.length co38, .slice Ao39 t242.length co39]] (by rfl) rfl rfl (by (try simp only [List.map_toArray, List.map_cons, List.map_nil]); first | done | rfl | (simp only [List.length_drop, List.length_take]; rfl)) ?_
    with_reducible refine (spec_SameGuest.calls k _ _ t233 _ _ t236 _ _ t239 _ _ t242 t245 _ ?side1 ?side2 ?side3 ?side4 ?side5 ?side6 ?side7 ?side8 A21.out).mono ?_
    (case side1 => repeat (first | exact (Kd.R_reads' HO235.out).2.2 | (with_reducible refine Kd.C_alloc ?_ _) | (with_reducible refine Kd.C_drewN ?_ _) | (with_reducible refine Kd.C_drew ?_)))
    (case side2 => exact (Kd.R_reads' HO235.out).2.1)
    (case side3 => repeat (first | exact (Kd.S_reads' HO238.out).2.2 | (with_reducible refine Kd.C_alloc ?_ _) | (with_reducible refine Kd.C_drewN ?_ _) | (with_reducible refine Kd.C_drew ?_)))
    (case side4 => exact (Kd.S_reads' HO238.out).2.1)
    (case side5 => repeat (first | exact (Kd.R_reads' HO241.out).2.2 | (with_reducible refine Kd.C_alloc ?_ _) | (with_reducible refine Kd.C_drewN ?_ _) | (with_reducible refine Kd.C_drew ?_)))
    (case side6 => exact (Kd.R_reads' HO241.out).2.1)
    (case side7 => repeat (first | exact (Kd.S_reads' HO244.out).2.2 | (with_reducible refine Kd.C_alloc ?_ _) | (with_reducible refine Kd.C_drewN ?_ _) | (with_reducible refine Kd.C_drew ?_)))
    (case side8 => exact (Kd.S_reads' HO244.out).2.1)
    rintro e w40 ⟨rfl, hb⟩
    refine ⟨_, rfl, ?_⟩
    have n0_ := zm4 (Kd.R_below (z4_4 HO235.out) hb)
    have n1_ := zm4 (Kd.S_below (z4_5 HO238.out) hb)
    have n2_ := zm4 (Kd.R_below (z4_4 HO241.out) hb)
    have n3_ := zm4 (Kd.S_below (z4_5 HO244.out) hb)
    have n4_ := zm4 (blk_below (g := gb229) (o := .cells #[.slice A0_0 l0_0.length c0_0, .slice A0_1 l0_1.length c0_1] 33 (0, 0)) (z4_1 BK229.out) hb)
    have n5_ := zm4 (blk_below (g := gb230) (o := .cells #[.slice A1_0 l1_0.length c1_0, .slice A1_1 l1_1.length c1_1] 33 (0, 0)) (z4_1 BK230.out) hb)
    have n6_ := zm4 (below_step (z4_3 HB.out GE229.out GE230.out) hb)
    clear HO235
    clear HO238
    clear HO241
    clear HO244
    clear BK229
    clear BK230
    clear HB
    have HO235 := n0_
    have HO238 := n1_
    have HO241 := n2_
    have HO244 := n3_
    have BK229 := n4_
    have BK230 := n5_
    have HB := n6_
    clear n0_ n1_ n2_ n3_ n4_ n5_ n6_
    (try clear hb)
    (try clear hb2)
    (try clear hk)
    (try clear hi)
    refine hK.out _ _ ⟨(blk_cell BK229.out 0).trans rfl, (blk_cell BK229.out 1).trans rfl, (blk_cell BK230.out 0).trans rfl, (blk_cell BK230.out 1).trans rfl⟩ (fun hHeld => ?_)
    clear hK K
    refine norm_ (a' := ?_) ?_ ?_
    rotate_left
    ·show Act.put _ (some 24) _ = _
     simp only [Act.put, List.setIfInBounds_toArray, List.set_cons_zero, List.set_cons_succ, i64_w, i32_w]
     rfl
    refine pure_ (i := 5) (N := some 6) (v := ?_) (a' := ?_) #[true, true, true, true, true, true] rfl rfl (by kernel_rfl) (fun _ _ _ h => h) (Or.inl ⟨by rfl, ?_⟩) ?_ ?_
    rotate_left
    ·intro w'
     go_simp
     with_reducible rfl
    rotate_left
    ·simp only [Act.put, List.setIfInBounds_toArray, List.set_cons_zero, List.set_cons_succ, i64_w, i32_w]
     rfl
    refine done_ (by kernel_rfl) ?_
    have hcz41_0 : w40.cell? ⟨gb229, 0, none⟩ = some (.slice A0_0 l0_0.length c0_0) := (blk_cell BK229.out 0).trans rfl
    have hcz41_1 : w40.cell? ⟨gb229, 1, none⟩ = some (.slice A0_1 l0_1.length c0_1) := (blk_cell BK229.out 1).trans rfl
    have hfz41_0 := blk_frozen BK229.out 0
    have hfz41_1 := blk_frozen BK229.out 1
    try go_wp2_with (first | ((with_reducible refine gate_callee (f := 14) rfl ?_); refine goesL_ (some 26) rfl rfl Try.func14 (by kernel_rfl) rfl #[.agg #[.slice A0_0 l0_0.length c0_0, .slice A0_1 l0_1.length c0_1]] rfl (by (try simp only [List.map_toArray, List.map_cons, List.map_nil]); first | done | rfl | (simp only [List.length_drop, List.length_take]; rfl)) ?_; (with_reducible refine (laws_toGuest.calls k _ _ l0_0 _ _ l0_1 t246 t249 _ ?side1 ?side2 ?side3 ?side4 A22.out).mono ?_); (case side1 => repeat (first | exact (Kd.C_below HR0_0.out HB.out) | (with_reducible refine Kd.C_alloc ?_ _) | (with_reducible refine Kd.C_drewN ?_ _) | (with_reducible refine Kd.C_drew ?_))); (case side2 => exact HC0_0.out); (case side3 => repeat (first | exact (Kd.C_below HR0_1.out HB.out) | (with_reducible refine Kd.C_alloc ?_ _) | (with_reducible refine Kd.C_drewN ?_ _) | (with_reducible refine Kd.C_drew ?_))); (case side4 => exact HC0_1.out); rintro e w42 ⟨v247, v250, rfl, ho0, ho1, hb⟩; refine ⟨_, rfl, ?_⟩; have n0_ := zm4 (Kd.R_elder' (z4_4 HO235.out) (Kd.R_base ho0) hb); have n1_ := zm4 (Kd.S_mono (Kd.S_told (Kd.S_told (Kd.S_old (z4_5 HO238.out) hb) (Kd.R_base ho0)) (Kd.S_base ho1)) (fun _ h_ => h_.1)); have n2_ := zm4 (Kd.R_elder' (z4_4 HO241.out) (Kd.R_base ho0) hb); have n3_ := zm4 (Kd.S_mono (Kd.S_told (Kd.S_told (Kd.S_old (z4_5 HO244.out) hb) (Kd.R_base ho0)) (Kd.S_base ho1)) (fun _ h_ => h_.1)); have n4_ := zm4 (Kd.R_lower (Kd.R_new' (Kd.R_new' ho0 (Kd.R_lt (z4_4 HO235.out))) (Kd.R_lt (z4_4 HO241.out))) (below_size (z4_3 HB.out GE229.out GE230.out))); have n5_ := zm4 (Kd.S_lower (Kd.S_new' (Kd.S_new' (Kd.S_new' (Kd.S_new' ho1 (Kd.R_lt (z4_4 HO235.out))) (Kd.S_lt (z4_5 HO238.out))) (Kd.R_lt (z4_4 HO241.out))) (Kd.S_lt (z4_5 HO244.out))) (below_size (z4_3 HB.out GE229.out GE230.out))); have n6_ := zm4 (blk_below (g := gb229) (o := .cells #[.slice A0_0 l0_0.length c0_0, .slice A0_1 l0_1.length c0_1] 33 (0, 0)) (z4_1 BK229.out) hb); have n7_ := zm4 (blk_below (g := gb230) (o := .cells #[.slice A1_0 l1_0.length c1_0, .slice A1_1 l1_1.length c1_1] 33 (0, 0)) (z4_1 BK230.out) hb); have n8_ := zm4 (below_step (z4_3 HB.out GE229.out GE230.out) hb); clear HO235; clear HO238; clear HO241; clear HO244; clear BK229; clear BK230; clear HB; have HO235 := n0_; have HO238 := n1_; have HO241 := n2_; have HO244 := n3_; have HO248 := n4_; have HO251 := n5_; have BK229 := n6_; have BK230 := n7_; have HB := n8_; clear n0_ n1_ n2_ n3_ n4_ n5_ n6_ n7_ n8_; (try clear hb); (try clear hb2); (try clear hk); (try clear hi); (try clear ho0); (try clear ho1)) | ((with_reducible refine gate_dst (N := 7) rfl ?_); refine box_event ?hg (N := 7) ?hd (cs := #[.slice none 0 0, .slice none 0 0]) (t := 25) ?hr ?_; (case hd => rfl); (case hg => rfl); (case hr => first | (go_simp; done) | (go_simp; rfl)); intro gb252 hg w43 hbox hb; have n0_ := zm4 (Kd.R_below (z4_4 HO235.out) hb); have n1_ := zm4 (Kd.S_below (z4_5 HO238.out) hb); have n2_ := zm4 (Kd.R_below (z4_4 HO241.out) hb); have n3_ := zm4 (Kd.S_below (z4_5 HO244.out) hb); have n4_ := zm4 (Kd.R_below (z4_4 HO248.out) hb); have n5_ := zm4 (Kd.S_below (z4_5 HO251.out) hb); have n6_ := zm4 (blk_below (g := gb229) (o := .cells #[.slice A0_0 l0_0.length c0_0, .slice A0_1 l0_1.length c0_1] 33 (0, 0)) (z4_1 BK229.out) hb); have n7_ := zm4 (blk_below (g := gb230) (o := .cells #[.slice A1_0 l1_0.length c1_0, .slice A1_1 l1_1.length c1_1] 33 (0, 0)) (z4_1 BK230.out) hb); have n8_ := zm4 (below_step (z4_3 HB.out GE229.out GE230.out) hb); have n9_ := zm4 (hbox); have n10_ := zm4 ((by rw [hg]; exact (below_size (z4_3 HB.out GE229.out GE230.out)) : w.heap.size ≤ gb252)); have n11_ := zm4 ((by rw [hg]; exact (below_size (z4_3 HB.out GE229.out GE230.out)) : w.heap.size ≤ gb252)); have n12_ := zm4 ((by rw [hg]; exact Nat.ne_of_lt (blk_lt (g := gb229) (o := .cells #[.slice A0_0 l0_0.length c0_0, .slice A0_1 l0_1.length c0_1] 33 (0, 0)) (z4_1 BK229.out)) : gb229 ≠ gb252)); have n13_ := zm4 ((by rw [hg]; exact Nat.ne_of_gt (blk_lt (g := gb229) (o := .cells #[.slice A0_0 l0_0.length c0_0, .slice A0_1 l0_1.length c0_1] 33 (0, 0)) (z4_1 BK229.out)) : gb252 ≠ gb229)); have n14_ := zm4 ((by rw [hg]; exact Nat.ne_of_lt (blk_lt (g := gb230) (o := .cells #[.slice A1_0 l1_0.length c1_0, .slice A1_1 l1_1.length c1_1] 33 (0, 0)) (z4_1 BK230.out)) : gb230 ≠ gb252)); have n15_ := zm4 ((by rw [hg]; exact Nat.ne_of_gt (blk_lt (g := gb230) (o := .cells #[.slice A1_0 l1_0.length c1_0, .slice A1_1 l1_1.length c1_1] 33 (0, 0)) (z4_1 BK230.out)) : gb252 ≠ gb230)); clear HO235; clear HO238; clear HO241; clear HO244; clear HO248; clear HO251; clear BK229; clear BK230; clear HB; have HO235 := n0_; have HO238 := n1_; have HO241 := n2_; have HO244 := n3_; have HO248 := n4_; have HO251 := n5_; have BK229 := n6_; have BK230 := n7_; have HB := n8_; have BK252 := n9_; have GW252 := n10_; have GE252 := n11_; have NB229_252 := n12_; have NB252_229 := n13_; have NB230_252 := n14_; have NB252_230 := n15_; clear n0_ n1_ n2_ n3_ n4_ n5_ n6_ n7_ n8_ n9_ n10_ n11_ n12_ n13_ n14_ n15_; clear hb hbox hg; obtain ⟨Ao44, co44, eo44⟩ := Kd.R_slice HO248.out; subst eo44; have hnb45 := NB252_229.out; have hnc45 := NB229_252.out; have hnb46 := NB252_230.out; have hnc46 := NB230_252.out; have hcz47_0 : w43.cell? ⟨gb252, 0, none⟩ = some (.slice none 0 0) := (blk_cell BK252.out 0).trans rfl; have hcz47_1 : w43.cell? ⟨gb252, 1, none⟩ = some (.slice none 0 0) := (blk_cell BK252.out 1).trans rfl; have hfz47_0 := blk_frozen BK252.out 0; have hfz47_1 := blk_frozen BK252.out 1; obtain ⟨Ao48, co48, eo48⟩ := Kd.S_slice HO251.out; subst eo48; have hcz49_0 : w43.cell? ⟨gb230, 0, none⟩ = some (.slice A1_0 l1_0.length c1_0) := (blk_cell BK230.out 0).trans rfl; have hcz49_1 : w43.cell? ⟨gb230, 1, none⟩ = some (.slice A1_1 l1_1.length c1_1) := (blk_cell BK230.out 1).trans rfl; have hfz49_0 := blk_frozen BK230.out 0; have hfz49_1 := blk_frozen BK230.out 1) | ((with_reducible refine gate_callee (f := 14) rfl ?_); refine goesL_ (some 28) rfl rfl Try.func14 (by kernel_rfl) rfl #[.agg #[.slice A1_0 l1_0.length c1_0, .slice A1_1 l1_1.length c1_1]] rfl (by (try simp only [List.map_toArray, List.map_cons, List.map_nil]); first | done | rfl | (simp only [List.length_drop, List.length_take]; rfl)) ?_; (with_reducible refine (laws_toGuest.calls k _ _ l1_0 _ _ l1_1 t253 t256 _ ?side1 ?side2 ?side3 ?side4 A23.out).mono ?_); (case side1 => exact Kd.C_below HR1_0.out (z4_6 HB.out GE229.out GE230.out GE252.out)); (case side2 => exact HC1_0.out); (case side3 => exact Kd.C_below HR1_1.out (z4_6 HB.out GE229.out GE230.out GE252.out)); (case side4 => exact HC1_1.out); rintro e w50 ⟨v254, v257, rfl, ho0, ho1, hb⟩; refine ⟨_, rfl, ?_⟩; have n0_ := zm4 (Kd.R_elder' (by (with_reducible repeat (first | apply Kd.R_alloc | apply Kd.R_drewN | apply Kd.R_drew)); exact (Kd.R_mono (Kd.R_far (p := ⟨gb252, 1, none⟩) (Kd.R_far (p := ⟨gb252, 0, none⟩) (Kd.R_types HO235.out BK252.out (by decide)) (fun _ hk => hk.2) (.slice Ao44 t246.length co44)) (fun _ hk => hk.2) (.slice Ao48 t249.length co48)) (fun _ h_ => h_.1))) (Kd.R_base ho0) hb); have n1_ := zm4 (Kd.S_mono (Kd.S_told (Kd.S_told (Kd.S_old (by (with_reducible repeat (first | apply Kd.S_alloc | apply Kd.S_drewN | apply Kd.S_drew)); exact (Kd.S_mono (Kd.S_far (p := ⟨gb252, 1, none⟩) (Kd.S_far (p := ⟨gb252, 0, none⟩) (Kd.S_types HO238.out BK252.out (by decide)) (fun _ hk => hk.2) (.slice Ao44 t246.length co44)) (fun _ hk => hk.2) (.slice Ao48 t249.length co48)) (fun _ h_ => h_.1))) hb) (Kd.R_base ho0)) (Kd.S_base ho1)) (fun _ h_ => h_.1)); have n2_ := zm4 (Kd.R_elder' (by (with_reducible repeat (first | apply Kd.R_alloc | apply Kd.R_drewN | apply Kd.R_drew)); exact (Kd.R_mono (Kd.R_far (p := ⟨gb252, 1, none⟩) (Kd.R_far (p := ⟨gb252, 0, none⟩) (Kd.R_types HO241.out BK252.out (by decide)) (fun _ hk => hk.2) (.slice Ao44 t246.length co44)) (fun _ hk => hk.2) (.slice Ao48 t249.length co48)) (fun _ h_ => h_.1))) (Kd.R_base ho0) hb); have n3_ := zm4 (Kd.S_mono (Kd.S_told (Kd.S_told (Kd.S_old (by (with_reducible repeat (first | apply Kd.S_alloc | apply Kd.S_drewN | apply Kd.S_drew)); exact (Kd.S_mono (Kd.S_far (p := ⟨gb252, 1, none⟩) (Kd.S_far (p := ⟨gb252, 0, none⟩) (Kd.S_types HO244.out BK252.out (by decide)) (fun _ hk => hk.2) (.slice Ao44 t246.length co44)) (fun _ hk => hk.2) (.slice Ao48 t249.length co48)) (fun _ h_ => h_.1))) hb) (Kd.R_base ho0)) (Kd.S_base ho1)) (fun _ h_ => h_.1)); have n4_ := zm4 (Kd.R_elder' (by (with_reducible repeat (first | apply Kd.R_alloc | apply Kd.R_drewN | apply Kd.R_drew)); exact (Kd.R_mono (Kd.R_far (p := ⟨gb252, 1, none⟩) (Kd.R_far (p := ⟨gb252, 0, none⟩) (Kd.R_types HO248.out BK252.out (by decide)) (fun _ hk => hk.2) (.slice Ao44 t246.length co44)) (fun _ hk => hk.2) (.slice Ao48 t249.length co48)) (fun _ h_ => h_.1))) (Kd.R_base ho0) hb); have n5_ := zm4 (Kd.S_mono (Kd.S_told (Kd.S_told (Kd.S_old (by (with_reducible repeat (first | apply Kd.S_alloc | apply Kd.S_drewN | apply Kd.S_drew)); exact (Kd.S_mono (Kd.S_far (p := ⟨gb252, 1, none⟩) (Kd.S_far (p := ⟨gb252, 0, none⟩) (Kd.S_types HO251.out BK252.out (by decide)) (fun _ hk => hk.2) (.slice Ao44 t246.length co44)) (fun _ hk => hk.2) (.slice Ao48 t249.length co48)) (fun _ h_ => h_.1))) hb) (Kd.R_base ho0)) (Kd.S_base ho1)) (fun _ h_ => h_.1)); have n6_ := zm4 (Kd.R_lower (Kd.R_new' (Kd.R_new' (Kd.R_new' ho0 (Kd.R_lt (by (with_reducible repeat (first | apply Kd.R_alloc | apply Kd.R_drewN | apply Kd.R_drew)); exact (Kd.R_mono (Kd.R_far (p := ⟨gb252, 1, none⟩) (Kd.R_far (p := ⟨gb252, 0, none⟩) (Kd.R_types HO235.out BK252.out (by decide)) (fun _ hk => hk.2) (.slice Ao44 t246.length co44)) (fun _ hk => hk.2) (.slice Ao48 t249.length co48)) (fun _ h_ => h_.1))))) (Kd.R_lt (by (with_reducible repeat (first | apply Kd.R_alloc | apply Kd.R_drewN | apply Kd.R_drew)); exact (Kd.R_mono (Kd.R_far (p := ⟨gb252, 1, none⟩) (Kd.R_far (p := ⟨gb252, 0, none⟩) (Kd.R_types HO241.out BK252.out (by decide)) (fun _ hk => hk.2) (.slice Ao44 t246.length co44)) (fun _ hk => hk.2) (.slice Ao48 t249.length co48)) (fun _ h_ => h_.1))))) (Kd.R_lt (by (with_reducible repeat (first | apply Kd.R_alloc | apply Kd.R_drewN | apply Kd.R_drew)); exact (Kd.R_mono (Kd.R_far (p := ⟨gb252, 1, none⟩) (Kd.R_far (p := ⟨gb252, 0, none⟩) (Kd.R_types HO248.out BK252.out (by decide)) (fun _ hk => hk.2) (.slice Ao44 t246.length co44)) (fun _ hk => hk.2) (.slice Ao48 t249.length co48)) (fun _ h_ => h_.1))))) (below_size (z4_6 HB.out GE229.out GE230.out GE252.out))); have n7_ := zm4 (Kd.S_lower (Kd.S_new' (Kd.S_new' (Kd.S_new' (Kd.S_new' (Kd.S_new' (Kd.S_new' ho1 (Kd.R_lt (by (with_reducible repeat (first | apply Kd.R_alloc | apply Kd.R_drewN | apply Kd.R_drew)); exact (Kd.R_mono (Kd.R_far (p := ⟨gb252, 1, none⟩) (Kd.R_far (p := ⟨gb252, 0, none⟩) (Kd.R_types HO235.out BK252.out (by decide)) (fun _ hk => hk.2) (.slice Ao44 t246.length co44)) (fun _ hk => hk.2) (.slice Ao48 t249.length co48)) (fun _ h_ => h_.1))))) (Kd.S_lt (by (with_reducible repeat (first | apply Kd.S_alloc | apply Kd.S_drewN | apply Kd.S_drew)); exact (Kd.S_mono (Kd.S_far (p := ⟨gb252, 1, none⟩) (Kd.S_far (p := ⟨gb252, 0, none⟩) (Kd.S_types HO238.out BK252.out (by decide)) (fun _ hk => hk.2) (.slice Ao44 t246.length co44)) (fun _ hk => hk.2) (.slice Ao48 t249.length co48)) (fun _ h_ => h_.1))))) (Kd.R_lt (by (with_reducible repeat (first | apply Kd.R_alloc | apply Kd.R_drewN | apply Kd.R_drew)); exact (Kd.R_mono (Kd.R_far (p := ⟨gb252, 1, none⟩) (Kd.R_far (p := ⟨gb252, 0, none⟩) (Kd.R_types HO241.out BK252.out (by decide)) (fun _ hk => hk.2) (.slice Ao44 t246.length co44)) (fun _ hk => hk.2) (.slice Ao48 t249.length co48)) (fun _ h_ => h_.1))))) (Kd.S_lt (by (with_reducible repeat (first | apply Kd.S_alloc | apply Kd.S_drewN | apply Kd.S_drew)); exact (Kd.S_mono (Kd.S_far (p := ⟨gb252, 1, none⟩) (Kd.S_far (p := ⟨gb252, 0, none⟩) (Kd.S_types HO244.out BK252.out (by decide)) (fun _ hk => hk.2) (.slice Ao44 t246.length co44)) (fun _ hk => hk.2) (.slice Ao48 t249.length co48)) (fun _ h_ => h_.1))))) (Kd.R_lt (by (with_reducible repeat (first | apply Kd.R_alloc | apply Kd.R_drewN | apply Kd.R_drew)); exact (Kd.R_mono (Kd.R_far (p := ⟨gb252, 1, none⟩) (Kd.R_far (p := ⟨gb252, 0, none⟩) (Kd.R_types HO248.out BK252.out (by decide)) (fun _ hk => hk.2) (.slice Ao44 t246.length co44)) (fun _ hk => hk.2) (.slice Ao48 t249.length co48)) (fun _ h_ => h_.1))))) (Kd.S_lt (by (with_reducible repeat (first | apply Kd.S_alloc | apply Kd.S_drewN | apply Kd.S_drew)); exact (Kd.S_mono (Kd.S_far (p := ⟨gb252, 1, none⟩) (Kd.S_far (p := ⟨gb252, 0, none⟩) (Kd.S_types HO251.out BK252.out (by decide)) (fun _ hk => hk.2) (.slice Ao44 t246.length co44)) (fun _ hk => hk.2) (.slice Ao48 t249.length co48)) (fun _ h_ => h_.1))))) (below_size (z4_6 HB.out GE229.out GE230.out GE252.out))); have n8_ := zm4 (blk_below (g := gb229) (o := .cells #[.slice A0_0 l0_0.length c0_0, .slice A0_1 l0_1.length c0_1] 33 (0, 0)) (by (with_reducible repeat (first | refine blk_drewN ?_ _ | refine blk_drew ?_ | refine blk_alloc ?_ _)); refine blk_far ?_ NB229_252.out _; (with_reducible repeat (first | refine blk_drewN ?_ _ | refine blk_drew ?_ | refine blk_alloc ?_ _)); refine blk_far ?_ NB229_252.out _; (with_reducible repeat (first | refine blk_drewN ?_ _ | refine blk_drew ?_ | refine blk_alloc ?_ _)); exact BK229.out) hb); have n9_ := zm4 (blk_below (g := gb230) (o := .cells #[.slice A1_0 l1_0.length c1_0, .slice A1_1 l1_1.length c1_1] 33 (0, 0)) (by (with_reducible repeat (first | refine blk_drewN ?_ _ | refine blk_drew ?_ | refine blk_alloc ?_ _)); refine blk_far ?_ NB230_252.out _; (with_reducible repeat (first | refine blk_drewN ?_ _ | refine blk_drew ?_ | refine blk_alloc ?_ _)); refine blk_far ?_ NB230_252.out _; (with_reducible repeat (first | refine blk_drewN ?_ _ | refine blk_drew ?_ | refine blk_alloc ?_ _)); exact BK230.out) hb); have n10_ := zm4 (blk_below (g := gb252) (o := .cells #[.slice Ao44 t246.length co44, .slice Ao48 t249.length co48] 25 (0, 0)) (by (with_reducible repeat (first | refine blk_drewN ?_ _ | refine blk_drew ?_ | refine blk_alloc ?_ _)); refine blk_put (cs := #[.slice Ao44 t246.length co44, .slice none 0 0]) ?_ 1 _ rfl; (with_reducible repeat (first | refine blk_drewN ?_ _ | refine blk_drew ?_ | refine blk_alloc ?_ _)); refine blk_put (cs := #[.slice none 0 0, .slice none 0 0]) ?_ 0 _ rfl; (with_reducible repeat (first | refine blk_drewN ?_ _ | refine blk_drew ?_ | refine blk_alloc ?_ _)); exact BK252.out) hb); have n11_ := zm4 (below_step (z4_6 HB.out GE229.out GE230.out GE252.out) hb); clear HO235; clear HO238; clear HO241; clear HO244; clear HO248; clear HO251; clear BK229; clear BK230; clear BK252; clear HB; have HO235 := n0_; have HO238 := n1_; have HO241 := n2_; have HO244 := n3_; have HO248 := n4_; have HO251 := n5_; have HO255 := n6_; have HO258 := n7_; have BK229 := n8_; have BK230 := n9_; have BK252 := n10_; have HB := n11_; clear n0_ n1_ n2_ n3_ n4_ n5_ n6_ n7_ n8_ n9_ n10_ n11_; (try clear hb); (try clear hb2); (try clear hk); (try clear hi); (try clear ho0); (try clear ho1)) | ((with_reducible refine gate_dst (N := 8) rfl ?_); refine box_event ?hg (N := 8) ?hd (cs := #[.slice none 0 0, .slice none 0 0]) (t := 25) ?hr ?_; (case hd => rfl); (case hg => rfl); (case hr => first | (go_simp; done) | (go_simp; rfl)); intro gb259 hg w51 hbox hb; have n0_ := zm4 (Kd.R_below (z4_4 HO235.out) hb); have n1_ := zm4 (Kd.S_below (z4_5 HO238.out) hb); have n2_ := zm4 (Kd.R_below (z4_4 HO241.out) hb); have n3_ := zm4 (Kd.S_below (z4_5 HO244.out) hb); have n4_ := zm4 (Kd.R_below (z4_4 HO248.out) hb); have n5_ := zm4 (Kd.S_below (z4_5 HO251.out) hb); have n6_ := zm4 (Kd.R_below (z4_4 HO255.out) hb); have n7_ := zm4 (Kd.S_below (z4_5 HO258.out) hb); have n8_ := zm4 (blk_below (g := gb229) (o := .cells #[.slice A0_0 l0_0.length c0_0, .slice A0_1 l0_1.length c0_1] 33 (0, 0)) (z4_1 BK229.out) hb); have n9_ := zm4 (blk_below (g := gb230) (o := .cells #[.slice A1_0 l1_0.length c1_0, .slice A1_1 l1_1.length c1_1] 33 (0, 0)) (z4_1 BK230.out) hb); have n10_ := zm4 (blk_below (g := gb252) (o := .cells #[.slice Ao44 t246.length co44, .slice Ao48 t249.length co48] 25 (0, 0)) (z4_1 BK252.out) hb); have n11_ := zm4 (below_step (z4_6 HB.out GE229.out GE230.out GE252.out) hb); have n12_ := zm4 (hbox); have n13_ := zm4 ((by rw [hg]; exact (below_size (z4_6 HB.out GE229.out GE230.out GE252.out)) : w.heap.size ≤ gb259)); have n14_ := zm4 ((by rw [hg]; exact (below_size (z4_6 HB.out GE229.out GE230.out GE252.out)) : w.heap.size ≤ gb259)); have n15_ := zm4 ((by rw [hg]; exact Nat.ne_of_lt (blk_lt (g := gb229) (o := .cells #[.slice A0_0 l0_0.length c0_0, .slice A0_1 l0_1.length c0_1] 33 (0, 0)) (z4_1 BK229.out)) : gb229 ≠ gb259)); have n16_ := zm4 ((by rw [hg]; exact Nat.ne_of_gt (blk_lt (g := gb229) (o := .cells #[.slice A0_0 l0_0.length c0_0, .slice A0_1 l0_1.length c0_1] 33 (0, 0)) (z4_1 BK229.out)) : gb259 ≠ gb229)); have n17_ := zm4 ((by rw [hg]; exact Nat.ne_of_lt (blk_lt (g := gb230) (o := .cells #[.slice A1_0 l1_0.length c1_0, .slice A1_1 l1_1.length c1_1] 33 (0, 0)) (z4_1 BK230.out)) : gb230 ≠ gb259)); have n18_ := zm4 ((by rw [hg]; exact Nat.ne_of_gt (blk_lt (g := gb230) (o := .cells #[.slice A1_0 l1_0.length c1_0, .slice A1_1 l1_1.length c1_1] 33 (0, 0)) (z4_1 BK230.out)) : gb259 ≠ gb230)); have n19_ := zm4 ((by rw [hg]; exact Nat.ne_of_lt (blk_lt (g := gb252) (o := .cells #[.slice Ao44 t246.length co44, .slice Ao48 t249.length co48] 25 (0, 0)) (z4_1 BK252.out)) : gb252 ≠ gb259)); have n20_ := zm4 ((by rw [hg]; exact Nat.ne_of_gt (blk_lt (g := gb252) (o := .cells #[.slice Ao44 t246.length co44, .slice Ao48 t249.length co48] 25 (0, 0)) (z4_1 BK252.out)) : gb259 ≠ gb252)); clear HO235; clear HO238; clear HO241; clear HO244; clear HO248; clear HO251; clear HO255; clear HO258; clear BK229; clear BK230; clear BK252; clear HB; have HO235 := n0_; have HO238 := n1_; have HO241 := n2_; have HO244 := n3_; have HO248 := n4_; have HO251 := n5_; have HO255 := n6_; have HO258 := n7_; have BK229 := n8_; have BK230 := n9_; have BK252 := n10_; have HB := n11_; have BK259 := n12_; have GW259 := n13_; have GE259 := n14_; have NB229_259 := n15_; have NB259_229 := n16_; have NB230_259 := n17_; have NB259_230 := n18_; have NB252_259 := n19_; have NB259_252 := n20_; clear n0_ n1_ n2_ n3_ n4_ n5_ n6_ n7_ n8_ n9_ n10_ n11_ n12_ n13_ n14_ n15_ n16_ n17_ n18_ n19_ n20_; clear hb hbox hg; obtain ⟨Ao52, co52, eo52⟩ := Kd.R_slice HO255.out; subst eo52; have hnb53 := NB259_229.out; have hnc53 := NB229_259.out; have hnb54 := NB259_230.out; have hnc54 := NB230_259.out; have hnb55 := NB259_252.out; have hnc55 := NB252_259.out; have hcz56_0 : w51.cell? ⟨gb259, 0, none⟩ = some (.slice none 0 0) := (blk_cell BK259.out 0).trans rfl; have hcz56_1 : w51.cell? ⟨gb259, 1, none⟩ = some (.slice none 0 0) := (blk_cell BK259.out 1).trans rfl; have hfz56_0 := blk_frozen BK259.out 0; have hfz56_1 := blk_frozen BK259.out 1; obtain ⟨Ao57, co57, eo57⟩ := Kd.S_slice HO258.out; subst eo57; have hcz58_0 : w51.cell? ⟨gb252, 0, none⟩ = some (.slice Ao44 t246.length co44) := (blk_cell BK252.out 0).trans rfl; have hcz58_1 : w51.cell? ⟨gb252, 1, none⟩ = some (.slice Ao48 t249.length co48) := (blk_cell BK252.out 1).trans rfl; have hfz58_0 := blk_frozen BK252.out 0; have hfz58_1 := blk_frozen BK252.out 1) | ((with_reducible refine gate_callee (f := 15) rfl ?_); refine goesL_ (some 31) rfl rfl Try.func15 (by kernel_rfl) rfl #[.agg #[.slice Ao44 t246.length co44, .slice Ao48 t249.length co48], .agg #[.slice Ao52 t253.length co52, .slice Ao57 t256.length co57]] rfl (by (try simp only [List.map_toArray, List.map_cons, List.map_nil]); first | done | rfl | (simp only [List.length_drop, List.length_take]; rfl)) ?_; (with_reducible refine (impl_SameGuest.calls k _ _ t246 _ _ t249 _ _ t253 _ _ t256 t260 _ ?side1 ?side2 ?side3 ?side4 ?side5 ?side6 ?side7 ?side8 A24.out).mono ?_); (case side1 => refine (Kd.R_reads' (e := 3) (base := w.heap.size) (ok := fun k_ => (((True ∧ some k_ ≠ (.slice Ao36 t233.length co36 : Value).ownBlock) ∧ some k_ ≠ (.slice Ao38 t239.length co38 : Value).ownBlock) ∧ some k_ ≠ (.slice Ao52 t253.length co52 : Value).ownBlock)) (n := t246.length) (c := co44) ?_).2.2; exact (by (with_reducible repeat (first | apply Kd.R_alloc | apply Kd.R_drewN | apply Kd.R_drew)); exact (Kd.R_mono (Kd.R_far (p := ⟨gb259, 1, none⟩) (Kd.R_far (p := ⟨gb259, 0, none⟩) (Kd.R_types HO248.out BK259.out (by decide)) (fun _ hk => hk.2) (.slice Ao52 t253.length co52)) (fun _ hk => hk.2) (.slice Ao57 t256.length co57)) (fun _ h_ => h_.1)))); (case side2 => exact (Kd.R_reads' HO248.out).2.1); (case side3 => refine (Kd.S_reads' (e := 64) (base := w.heap.size) (ok := fun k_ => ((((((some k_ ≠ (.slice Ao44 t246.length co44 : Value).ownBlock ∧ some k_ ≠ (.slice Ao36 t233.length co36 : Value).ownBlock) ∧ some k_ ≠ (.slice Ao37 t236.length co37 : Value).ownBlock) ∧ some k_ ≠ (.slice Ao38 t239.length co38 : Value).ownBlock) ∧ some k_ ≠ (.slice Ao39 t242.length co39 : Value).ownBlock) ∧ some k_ ≠ (.slice Ao52 t253.length co52 : Value).ownBlock) ∧ some k_ ≠ (.slice Ao57 t256.length co57 : Value).ownBlock)) (n := t249.length) (c := co48) ?_).2.2; exact (by (with_reducible repeat (first | apply Kd.S_alloc | apply Kd.S_drewN | apply Kd.S_drew)); exact (Kd.S_mono (Kd.S_far (p := ⟨gb259, 1, none⟩) (Kd.S_far (p := ⟨gb259, 0, none⟩) (Kd.S_types HO251.out BK259.out (by decide)) (fun _ hk => hk.2) (.slice Ao52 t253.length co52)) (fun _ hk => hk.2) (.slice Ao57 t256.length co57)) (fun _ h_ => h_.1)))); (case side4 => exact (Kd.S_reads' HO251.out).2.1); (case side5 => refine (Kd.R_reads' (e := 3) (base := w.heap.size) (ok := fun k_ => (((True ∧ some k_ ≠ (.slice Ao36 t233.length co36 : Value).ownBlock) ∧ some k_ ≠ (.slice Ao38 t239.length co38 : Value).ownBlock) ∧ some k_ ≠ (.slice Ao44 t246.length co44 : Value).ownBlock)) (n := t253.length) (c := co52) ?_).2.2; exact (by (with_reducible repeat (first | apply Kd.R_alloc | apply Kd.R_drewN | apply Kd.R_drew)); exact (Kd.R_mono (Kd.R_far (p := ⟨gb259, 1, none⟩) (Kd.R_far (p := ⟨gb259, 0, none⟩) (Kd.R_types HO255.out BK259.out (by decide)) (fun _ hk => hk.2) (.slice Ao52 t253.length co52)) (fun _ hk => hk.2) (.slice Ao57 t256.length co57)) (fun _ h_ => h_.1)))); (case side6 => exact (Kd.R_reads' HO255.out).2.1); (case side7 => refine (Kd.S_reads' (e := 64) (base := w.heap.size) (ok := fun k_ => ((((((some k_ ≠ (.slice Ao52 t253.length co52 : Value).ownBlock ∧ some k_ ≠ (.slice Ao36 t233.length co36 : Value).ownBlock) ∧ some k_ ≠ (.slice Ao37 t236.length co37 : Value).ownBlock) ∧ some k_ ≠ (.slice Ao38 t239.length co38 : Value).ownBlock) ∧ some k_ ≠ (.slice Ao39 t242.length co39 : Value).ownBlock) ∧ some k_ ≠ (.slice Ao44 t246.length co44 : Value).ownBlock) ∧ some k_ ≠ (.slice Ao48 t249.length co48 : Value).ownBlock)) (n := t256.length) (c := co57) ?_).2.2; exact (by (with_reducible repeat (first | apply Kd.S_alloc | apply Kd.S_drewN | apply Kd.S_drew)); exact (Kd.S_mono (Kd.S_far (p := ⟨gb259, 1, none⟩) (Kd.S_far (p := ⟨gb259, 0, none⟩) (Kd.S_types HO258.out BK259.out (by decide)) (fun _ hk => hk.2) (.slice Ao52 t253.length co52)) (fun _ hk => hk.2) (.slice Ao57 t256.length co57)) (fun _ h_ => h_.1)))); (case side8 => exact (Kd.S_reads' HO258.out).2.1); rintro e w59 ⟨rfl, hb⟩; refine ⟨_, rfl, ?_⟩; have n0_ := zm4 (Kd.R_below (by (with_reducible repeat (first | apply Kd.R_alloc | apply Kd.R_drewN | apply Kd.R_drew)); exact (Kd.R_mono (Kd.R_far (p := ⟨gb259, 1, none⟩) (Kd.R_far (p := ⟨gb259, 0, none⟩) (Kd.R_types HO235.out BK259.out (by decide)) (fun _ hk => hk.2) (.slice Ao52 t253.length co52)) (fun _ hk => hk.2) (.slice Ao57 t256.length co57)) (fun _ h_ => h_.1))) hb); have n1_ := zm4 (Kd.S_below (by (with_reducible repeat (first | apply Kd.S_alloc | apply Kd.S_drewN | apply Kd.S_drew)); exact (Kd.S_mono (Kd.S_far (p := ⟨gb259, 1, none⟩) (Kd.S_far (p := ⟨gb259, 0, none⟩) (Kd.S_types HO238.out BK259.out (by decide)) (fun _ hk => hk.2) (.slice Ao52 t253.length co52)) (fun _ hk => hk.2) (.slice Ao57 t256.length co57)) (fun _ h_ => h_.1))) hb); have n2_ := zm4 (Kd.R_below (by (with_reducible repeat (first | apply Kd.R_alloc | apply Kd.R_drewN | apply Kd.R_drew)); exact (Kd.R_mono (Kd.R_far (p := ⟨gb259, 1, none⟩) (Kd.R_far (p := ⟨gb259, 0, none⟩) (Kd.R_types HO241.out BK259.out (by decide)) (fun _ hk => hk.2) (.slice Ao52 t253.length co52)) (fun _ hk => hk.2) (.slice Ao57 t256.length co57)) (fun _ h_ => h_.1))) hb); have n3_ := zm4 (Kd.S_below (by (with_reducible repeat (first | apply Kd.S_alloc | apply Kd.S_drewN | apply Kd.S_drew)); exact (Kd.S_mono (Kd.S_far (p := ⟨gb259, 1, none⟩) (Kd.S_far (p := ⟨gb259, 0, none⟩) (Kd.S_types HO244.out BK259.out (by decide)) (fun _ hk => hk.2) (.slice Ao52 t253.length co52)) (fun _ hk => hk.2) (.slice Ao57 t256.length co57)) (fun _ h_ => h_.1))) hb); have n4_ := zm4 (Kd.R_below (by (with_reducible repeat (first | apply Kd.R_alloc | apply Kd.R_drewN | apply Kd.R_drew)); exact (Kd.R_mono (Kd.R_far (p := ⟨gb259, 1, none⟩) (Kd.R_far (p := ⟨gb259, 0, none⟩) (Kd.R_types HO248.out BK259.out (by decide)) (fun _ hk => hk.2) (.slice Ao52 t253.length co52)) (fun _ hk => hk.2) (.slice Ao57 t256.length co57)) (fun _ h_ => h_.1))) hb); have n5_ := zm4 (Kd.S_below (by (with_reducible repeat (first | apply Kd.S_alloc | apply Kd.S_drewN | apply Kd.S_drew)); exact (Kd.S_mono (Kd.S_far (p := ⟨gb259, 1, none⟩) (Kd.S_far (p := ⟨gb259, 0, none⟩) (Kd.S_types HO251.out BK259.out (by decide)) (fun _ hk => hk.2) (.slice Ao52 t253.length co52)) (fun _ hk => hk.2) (.slice Ao57 t256.length co57)) (fun _ h_ => h_.1))) hb); have n6_ := zm4 (Kd.R_below (by (with_reducible repeat (first | apply Kd.R_alloc | apply Kd.R_drewN | apply Kd.R_drew)); exact (Kd.R_mono (Kd.R_far (p := ⟨gb259, 1, none⟩) (Kd.R_far (p := ⟨gb259, 0, none⟩) (Kd.R_types HO255.out BK259.out (by decide)) (fun _ hk => hk.2) (.slice Ao52 t253.length co52)) (fun _ hk => hk.2) (.slice Ao57 t256.length co57)) (fun _ h_ => h_.1))) hb); have n7_ := zm4 (Kd.S_below (by (with_reducible repeat (first | apply Kd.S_alloc | apply Kd.S_drewN | apply Kd.S_drew)); exact (Kd.S_mono (Kd.S_far (p := ⟨gb259, 1, none⟩) (Kd.S_far (p := ⟨gb259, 0, none⟩) (Kd.S_types HO258.out BK259.out (by decide)) (fun _ hk => hk.2) (.slice Ao52 t253.length co52)) (fun _ hk => hk.2) (.slice Ao57 t256.length co57)) (fun _ h_ => h_.1))) hb); have n8_ := zm4 (blk_below (g := gb229) (o := .cells #[.slice A0_0 l0_0.length c0_0, .slice A0_1 l0_1.length c0_1] 33 (0, 0)) (by (with_reducible repeat (first | refine blk_drewN ?_ _ | refine blk_drew ?_ | refine blk_alloc ?_ _)); refine blk_far ?_ NB229_259.out _; (with_reducible repeat (first | refine blk_drewN ?_ _ | refine blk_drew ?_ | refine blk_alloc ?_ _)); refine blk_far ?_ NB229_259.out _; (with_reducible repeat (first | refine blk_drewN ?_ _ | refine blk_drew ?_ | refine blk_alloc ?_ _)); exact BK229.out) hb); have n9_ := zm4 (blk_below (g := gb230) (o := .cells #[.slice A1_0 l1_0.length c1_0, .slice A1_1 l1_1.length c1_1] 33 (0, 0)) (by (with_reducible repeat (first | refine blk_drewN ?_ _ | refine blk_drew ?_ | refine blk_alloc ?_ _)); refine blk_far ?_ NB230_259.out _; (with_reducible repeat (first | refine blk_drewN ?_ _ | refine blk_drew ?_ | refine blk_alloc ?_ _)); refine blk_far ?_ NB230_259.out _; (with_reducible repeat (first | refine blk_drewN ?_ _ | refine blk_drew ?_ | refine blk_alloc ?_ _)); exact BK230.out) hb); have n10_ := zm4 (blk_below (g := gb252) (o := .cells #[.slice Ao44 t246.length co44, .slice Ao48 t249.length co48] 25 (0, 0)) (by (with_reducible repeat (first | refine blk_drewN ?_ _ | refine blk_drew ?_ | refine blk_alloc ?_ _)); refine blk_far ?_ NB252_259.out _; (with_reducible repeat (first | refine blk_drewN ?_ _ | refine blk_drew ?_ | refine blk_alloc ?_ _)); refine blk_far ?_ NB252_259.out _; (with_reducible repeat (first | refine blk_drewN ?_ _ | refine blk_drew ?_ | refine blk_alloc ?_ _)); exact BK252.out) hb); have n11_ := zm4 (blk_below (g := gb259) (o := .cells #[.slice Ao52 t253.length co52, .slice Ao57 t256.length co57] 25 (0, 0)) (by (with_reducible repeat (first | refine blk_drewN ?_ _ | refine blk_drew ?_ | refine blk_alloc ?_ _)); refine blk_put (cs := #[.slice Ao52 t253.length co52, .slice none 0 0]) ?_ 1 _ rfl; (with_reducible repeat (first | refine blk_drewN ?_ _ | refine blk_drew ?_ | refine blk_alloc ?_ _)); refine blk_put (cs := #[.slice none 0 0, .slice none 0 0]) ?_ 0 _ rfl; (with_reducible repeat (first | refine blk_drewN ?_ _ | refine blk_drew ?_ | refine blk_alloc ?_ _)); exact BK259.out) hb); have n12_ := zm4 (below_step (z4_7 HB.out GE229.out GE230.out GE252.out GE259.out) hb); clear HO235; clear HO238; clear HO241; clear HO244; clear HO248; clear HO251; clear HO255; clear HO258; clear BK229; clear BK230; clear BK252; clear BK259; clear HB; have HO235 := n0_; have HO238 := n1_; have HO241 := n2_; have HO244 := n3_; have HO248 := n4_; have HO251 := n5_; have HO255 := n6_; have HO258 := n7_; have BK229 := n8_; have BK230 := n9_; have BK252 := n10_; have BK259 := n11_; have HB := n12_; clear n0_ n1_ n2_ n3_ n4_ n5_ n6_ n7_ n8_ n9_ n10_ n11_ n12_; (try clear hb); (try clear hb2); (try clear hk); (try clear hi)))
    go_ret
    exact ⟨by first | rfl | (simp [errW_none, errW_some] <;> rfl) | (simp [*, errW_none, errW_some] <;> rfl), z4_7 HB.out GE229.out GE230.out GE252.out GE259.out⟩
   ·rw [if_neg c25] at H
    have c25b0 : (t260 != t245) = false := by simpa using c25
    (try (have c25b1 : decide (t260 = t245) = true := by simpa using c25))
    (try (have c25b2 : (t260 == t245) = true := by simpa using c25))
    clear c25
    replace H := Option.bind_eq_some_iff.mp H
    obtain ⟨⟨t261, t264⟩, A600, H⟩ := H
    replace H : ((laws_eqGuest.f k t246 t249 t261 t264).bind fun t267 => (if t267 = true then ((laws_toGuest.f k l1_0 l1_1).bind fun bt268 => ((laws_eqGuest.f k t253 t256 bt268.1 bt268.2).bind fun t274 => (if t274 = true then (some true) else (some false)))) else (some false))) = some r := H
    have A60 := zm4 A600
    clear A600
    replace H := Option.bind_eq_some_iff.mp H
    obtain ⟨t267, A610, H⟩ := H
    replace H : (if t267 = true then ((laws_toGuest.f k l1_0 l1_1).bind fun bt268 => ((laws_eqGuest.f k t253 t256 bt268.1 bt268.2).bind fun t274 => (if t274 = true then (some true) else (some false)))) else (some false)) = some r := H
    have A61 := zm4 A610
    clear A610
    by_cases c62 : t267 = true
    ·subst c62
     have H1 : ((laws_toGuest.f k l1_0 l1_1).bind fun bt268 => ((laws_eqGuest.f k t253 t256 bt268.1 bt268.2).bind fun t274 => (if t274 = true then (some true) else (some false)))) = some r := by rw [if_pos rfl] at H; exact H
     clear H
     have H := H1
     clear H1
     replace H := Option.bind_eq_some_iff.mp H
     obtain ⟨⟨t268, t271⟩, A630, H⟩ := H
     replace H : ((laws_eqGuest.f k t253 t256 t268 t271).bind fun t274 => (if t274 = true then (some true) else (some false))) = some r := H
     have A63 := zm4 A630
     clear A630
     replace H := Option.bind_eq_some_iff.mp H
     obtain ⟨t274, A640, H⟩ := H
     replace H : (if t274 = true then (some true) else (some false)) = some r := H
     have A64 := zm4 A640
     clear A640
     by_cases c65 : t274 = true
     ·subst c65
      have H1 : (some true) = some r := by rw [if_pos rfl] at H; exact H
      clear H
      have H := H1
      clear H1
      obtain rfl := Option.some.inj H
      go_enter Try.func4, Try.ntmps4
      try go_wp2_with (first | ((with_reducible refine gate_dst (N := 2) rfl ?_); refine box_event ?hg (N := 2) ?hd (cs := #[.slice A0_0 l0_0.length c0_0, .slice A0_1 l0_1.length c0_1]) (t := 33) ?hr ?_; (case hd => rfl); (case hg => rfl); (case hr => first | (go_simp; done) | (go_simp; rfl)); intro gb229 hg w66 hbox hb; have n0_ := zm4 (below_step (z4_0 HB.out) hb); have n1_ := zm4 (hbox); have n2_ := zm4 ((by rw [hg]; exact (below_size (z4_0 HB.out)) : w.heap.size ≤ gb229)); have n3_ := zm4 ((by rw [hg]; exact (below_size (z4_0 HB.out)) : w.heap.size ≤ gb229)); clear HB; have HB := n0_; have BK229 := n1_; have GW229 := n2_; have GE229 := n3_; clear n0_ n1_ n2_ n3_; clear hb hbox hg) | ((with_reducible refine gate_dst (N := 3) rfl ?_); refine box_event ?hg (N := 3) ?hd (cs := #[.slice A1_0 l1_0.length c1_0, .slice A1_1 l1_1.length c1_1]) (t := 33) ?hr ?_; (case hd => rfl); (case hg => rfl); (case hr => first | (go_simp; done) | (go_simp; rfl)); intro gb230 hg w67 hbox hb; have n0_ := zm4 (blk_below (g := gb229) (o := .cells #[.slice A0_0 l0_0.length c0_0, .slice A0_1 l0_1.length c0_1] 33 (0, 0)) (z4_1 BK229.out) hb); have n1_ := zm4 (below_step (z4_2 HB.out GE229.out) hb); have n2_ := zm4 (hbox); have n3_ := zm4 ((by rw [hg]; exact (below_size (z4_2 HB.out GE229.out)) : w.heap.size ≤ gb230)); have n4_ := zm4 ((by rw [hg]; exact (below_size (z4_2 HB.out GE229.out)) : w.heap.size ≤ gb230)); have n5_ := zm4 ((by rw [hg]; exact Nat.ne_of_lt (blk_lt (g := gb229) (o := .cells #[.slice A0_0 l0_0.length c0_0, .slice A0_1 l0_1.length c0_1] 33 (0, 0)) (z4_1 BK229.out)) : gb229 ≠ gb230)); have n6_ := zm4 ((by rw [hg]; exact Nat.ne_of_gt (blk_lt (g := gb229) (o := .cells #[.slice A0_0 l0_0.length c0_0, .slice A0_1 l0_1.length c0_1] 33 (0, 0)) (z4_1 BK229.out)) : gb230 ≠ gb229)); clear BK229; clear HB; have BK229 := n0_; have HB := n1_; have BK230 := n2_; have GW230 := n3_; have GE230 := n4_; have NB229_230 := n5_; have NB230_229 := n6_; clear n0_ n1_ n2_ n3_ n4_ n5_ n6_; clear hb hbox hg; have hnb68 := NB229_230.out; have hnc68 := NB230_229.out; have hcz69_0 : w67.cell? ⟨gb229, 0, none⟩ = some (.slice A0_0 l0_0.length c0_0) := (blk_cell BK229.out 0).trans rfl; have hcz69_1 : w67.cell? ⟨gb229, 1, none⟩ = some (.slice A0_1 l0_1.length c0_1) := (blk_cell BK229.out 1).trans rfl; have hfz69_0 := blk_frozen BK229.out 0; have hfz69_1 := blk_frozen BK229.out 1) | ((with_reducible refine gate_callee (f := 12) rfl ?_); refine goesL_ (some 12) rfl rfl Try.func12 (by kernel_rfl) rfl #[.agg #[.slice A0_0 l0_0.length c0_0, .slice A0_1 l0_1.length c0_1], .int .i64 1048576] rfl (by (try simp only [List.map_toArray, List.map_cons, List.map_nil]); first | done | rfl | (simp only [List.length_drop, List.length_take]; rfl)) ?_; (with_reducible refine (laws_szGuest.calls k _ _ l0_0 _ _ l0_1 1048576 t231 _ ?side1 ?side2 ?side3 ?side4 A3.out).mono ?_); (case side1 => repeat (first | exact (Kd.C_below HR0_0.out HB.out) | (with_reducible refine Kd.C_alloc ?_ _) | (with_reducible refine Kd.C_drewN ?_ _) | (with_reducible refine Kd.C_drew ?_))); (case side2 => exact HC0_0.out); (case side3 => repeat (first | exact (Kd.C_below HR0_1.out HB.out) | (with_reducible refine Kd.C_alloc ?_ _) | (with_reducible refine Kd.C_drewN ?_ _) | (with_reducible refine Kd.C_drew ?_))); (case side4 => exact HC0_1.out); rintro e w70 ⟨rfl, hb⟩; refine ⟨_, rfl, ?_⟩; have n0_ := zm4 (blk_below (g := gb229) (o := .cells #[.slice A0_0 l0_0.length c0_0, .slice A0_1 l0_1.length c0_1] 33 (0, 0)) (z4_1 BK229.out) hb); have n1_ := zm4 (blk_below (g := gb230) (o := .cells #[.slice A1_0 l1_0.length c1_0, .slice A1_1 l1_1.length c1_1] 33 (0, 0)) (z4_1 BK230.out) hb); have n2_ := zm4 (below_step (z4_3 HB.out GE229.out GE230.out) hb); clear BK229; clear BK230; clear HB; have BK229 := n0_; have BK230 := n1_; have HB := n2_; clear n0_ n1_ n2_; (try clear hb); (try clear hb2); (try clear hk); (try clear hi); have hcz71_0 : w70.cell? ⟨gb230, 0, none⟩ = some (.slice A1_0 l1_0.length c1_0) := (blk_cell BK230.out 0).trans rfl; have hcz71_1 : w70.cell? ⟨gb230, 1, none⟩ = some (.slice A1_1 l1_1.length c1_1) := (blk_cell BK230.out 1).trans rfl; have hfz71_0 := blk_frozen BK230.out 0; have hfz71_1 := blk_frozen BK230.out 1) | ((with_reducible refine gate_callee (f := 12) rfl ?_); refine goesL_ (some 17) rfl rfl Try.func12 (by kernel_rfl) rfl #[.agg #[.slice A1_0 l1_0.length c1_0, .slice A1_1 l1_1.length c1_1], .int .i64 t231] rfl (by (try simp only [List.map_toArray, List.map_cons, List.map_nil]); first | done | rfl | (simp only [List.length_drop, List.length_take]; rfl)) ?_; (with_reducible refine (laws_szGuest.calls k _ _ l1_0 _ _ l1_1 t231 t232 _ ?side1 ?side2 ?side3 ?side4 A10.out).mono ?_); (case side1 => repeat (first | exact (Kd.C_below HR1_0.out HB.out) | (with_reducible refine Kd.C_alloc ?_ _) | (with_reducible refine Kd.C_drewN ?_ _) | (with_reducible refine Kd.C_drew ?_))); (case side2 => exact HC1_0.out); (case side3 => repeat (first | exact (Kd.C_below HR1_1.out HB.out) | (with_reducible refine Kd.C_alloc ?_ _) | (with_reducible refine Kd.C_drewN ?_ _) | (with_reducible refine Kd.C_drew ?_))); (case side4 => exact HC1_1.out); rintro e w72 ⟨rfl, hb⟩; refine ⟨_, rfl, ?_⟩; have n0_ := zm4 (blk_below (g := gb229) (o := .cells #[.slice A0_0 l0_0.length c0_0, .slice A0_1 l0_1.length c0_1] 33 (0, 0)) (z4_1 BK229.out) hb); have n1_ := zm4 (blk_below (g := gb230) (o := .cells #[.slice A1_0 l1_0.length c1_0, .slice A1_1 l1_1.length c1_1] 33 (0, 0)) (z4_1 BK230.out) hb); have n2_ := zm4 (below_step (z4_3 HB.out GE229.out GE230.out) hb); clear BK229; clear BK230; clear HB; have BK229 := n0_; have BK230 := n1_; have HB := n2_; clear n0_ n1_ n2_; (try clear hb); (try clear hb2); (try clear hk); (try clear hi)))
      have n0_ := zm4 (blk_drew BK229.out)
      have n1_ := zm4 (blk_drew BK230.out)
      have n2_ := zm4 (below_drew1 HB.out)
      clear BK229
      clear BK230
      clear HB
      have BK229 := n0_
      have BK230 := n1_
      have HB := n2_
      clear n0_ n1_ n2_
      refine start_ (n := 6) (S := fun w' => w'.cell? ⟨gb229, 0, none⟩ = some (.slice A0_0 l0_0.length c0_0) ∧ w'.cell? ⟨gb229, 1, none⟩ = some (.slice A0_1 l0_1.length c0_1) ∧ w'.cell? ⟨gb230, 0, none⟩ = some (.slice A1_0 l1_0.length c1_0) ∧ w'.cell? ⟨gb230, 1, none⟩ = some (.slice A1_1 l1_1.length c1_1)) (ds := []) #[false, false, false, false, false, false] (by kernel_rfl) rfl rfl ⟨(blk_cell BK229.out 0).trans rfl, (blk_cell BK229.out 1).trans rfl, (blk_cell BK230.out 0).trans rfl, (blk_cell BK230.out 1).trans rfl⟩ (fun hHeld => ?_)
      generalize w72.drew = w73 at BK229 BK230 HB hHeld ⊢
      refine take_ (i := 0) (N := some 20) (v := ?_) (a' := ?_) #[true, false, false, false, false, false] rfl rfl (by kernel_rfl) (fun _ _ _ h => h) (Or.inl ⟨by rfl, ?_⟩) hHeld ?_ ?_
      rotate_left
      ·rintro w' ⟨s0, s1, s2, s3⟩
       go_simp
       with_reducible rfl
      rotate_left
      ·simp only [Act.put, List.setIfInBounds_toArray, List.set_cons_zero, List.set_cons_succ, i64_w, i32_w]
       rfl
      refine take_ (i := 2) (N := some 22) (v := ?_) (a' := ?_) #[true, false, true, false, false, false] rfl rfl (by kernel_rfl) (fun _ _ _ h => h) (Or.inl ⟨by rfl, ?_⟩) hHeld ?_ ?_
      rotate_left
      ·rintro w' ⟨s0, s1, s2, s3⟩
       go_simp
       with_reducible rfl
      rotate_left
      ·simp only [Act.put, List.setIfInBounds_toArray, List.set_cons_zero, List.set_cons_succ, i64_w, i32_w]
       rfl
      refine one_ (i := 1) (N := some 21) #[true, true, true, false, false, false] rfl rfl (by kernel_rfl) (by decide) (fun K hK => ?_)
      refine goes_ Try.func14 (by kernel_rfl) rfl #[.agg #[.slice A0_0 l0_0.length c0_0, .slice A0_1 l0_1.length c0_1]] (by rfl) rfl rfl (by (try simp only [List.map_toArray, List.map_cons, List.map_nil]); first | done | rfl | (simp only [List.length_drop, List.length_take]; rfl)) ?_
      with_reducible refine (laws_toGuest.calls k _ _ l0_0 _ _ l0_1 t233 t236 _ ?side1 ?side2 ?side3 ?side4 A19.out).mono ?_
      (case side1 => repeat (first | exact (Kd.C_below HR0_0.out HB.out) | (with_reducible refine Kd.C_alloc ?_ _) | (with_reducible refine Kd.C_drewN ?_ _) | (with_reducible refine Kd.C_drew ?_)))
      (case side2 => exact HC0_0.out)
      (case side3 => repeat (first | exact (Kd.C_below HR0_1.out HB.out) | (with_reducible refine Kd.C_alloc ?_ _) | (with_reducible refine Kd.C_drewN ?_ _) | (with_reducible refine Kd.C_drew ?_)))
      (case side4 => exact HC0_1.out)
      rintro e w74 ⟨v234, v237, rfl, ho0, ho1, hb⟩
      refine ⟨_, rfl, ?_⟩
      have n0_ := zm4 (Kd.R_lower ho0 (below_size (z4_3 HB.out GE229.out GE230.out)))
      have n1_ := zm4 (Kd.S_lower ho1 (below_size (z4_3 HB.out GE229.out GE230.out)))
      have n2_ := zm4 (blk_below (g := gb229) (o := .cells #[.slice A0_0 l0_0.length c0_0, .slice A0_1 l0_1.length c0_1] 33 (0, 0)) (z4_1 BK229.out) hb)
      have n3_ := zm4 (blk_below (g := gb230) (o := .cells #[.slice A1_0 l1_0.length c1_0, .slice A1_1 l1_1.length c1_1] 33 (0, 0)) (z4_1 BK230.out) hb)
      have n4_ := zm4 (below_step (z4_3 HB.out GE229.out GE230.out) hb)
      clear BK229
      clear BK230
      clear HB
      have HO235 := n0_
      have HO238 := n1_
      have BK229 := n2_
      have BK230 := n3_
      have HB := n4_
      clear n0_ n1_ n2_ n3_ n4_
      (try clear hb)
      (try clear hb2)
      (try clear hk)
      (try clear hi)
      (try clear ho0)
      (try clear ho1)
      refine hK.out _ _ ⟨(blk_cell BK229.out 0).trans rfl, (blk_cell BK229.out 1).trans rfl, (blk_cell BK230.out 0).trans rfl, (blk_cell BK230.out 1).trans rfl⟩ (fun hHeld => ?_)
      clear hK K
      refine norm_ (a' := ?_) ?_ ?_
      rotate_left
      ·show Act.put _ (some 21) _ = _
       simp only [Act.put, List.setIfInBounds_toArray, List.set_cons_zero, List.set_cons_succ, i64_w, i32_w]
       rfl
      refine one_ (i := 3) (N := some 23) #[true, true, true, true, false, false] rfl rfl (by kernel_rfl) (by decide) (fun K hK => ?_)
      refine goes_ Try.func14 (by kernel_rfl) rfl #[.agg #[.slice A1_0 l1_0.length c1_0, .slice A1_1 l1_1.length c1_1]] (by rfl) rfl rfl (by (try simp only [List.map_toArray, List.map_cons, List.map_nil]); first | done | rfl | (simp only [List.length_drop, List.length_take]; rfl)) ?_
      with_reducible refine (laws_toGuest.calls k _ _ l1_0 _ _ l1_1 t239 t242 _ ?side1 ?side2 ?side3 ?side4 A20.out).mono ?_
      (case side1 => repeat (first | exact (Kd.C_below HR1_0.out HB.out) | (with_reducible refine Kd.C_alloc ?_ _) | (with_reducible refine Kd.C_drewN ?_ _) | (with_reducible refine Kd.C_drew ?_)))
      (case side2 => exact HC1_0.out)
      (case side3 => repeat (first | exact (Kd.C_below HR1_1.out HB.out) | (with_reducible refine Kd.C_alloc ?_ _) | (with_reducible refine Kd.C_drewN ?_ _) | (with_reducible refine Kd.C_drew ?_)))
      (case side4 => exact HC1_1.out)
      rintro e w75 ⟨v240, v243, rfl, ho0, ho1, hb⟩
      refine ⟨_, rfl, ?_⟩
      have n0_ := zm4 (Kd.R_elder' (z4_4 HO235.out) (Kd.R_base ho0) hb)
      have n1_ := zm4 (Kd.S_mono (Kd.S_told (Kd.S_told (Kd.S_old (z4_5 HO238.out) hb) (Kd.R_base ho0)) (Kd.S_base ho1)) (fun _ h_ => h_.1))
      have n2_ := zm4 (Kd.R_lower (Kd.R_new' ho0 (Kd.R_lt (z4_4 HO235.out))) (below_size (z4_3 HB.out GE229.out GE230.out)))
      have n3_ := zm4 (Kd.S_lower (Kd.S_new' (Kd.S_new' ho1 (Kd.R_lt (z4_4 HO235.out))) (Kd.S_lt (z4_5 HO238.out))) (below_size (z4_3 HB.out GE229.out GE230.out)))
      have n4_ := zm4 (blk_below (g := gb229) (o := .cells #[.slice A0_0 l0_0.length c0_0, .slice A0_1 l0_1.length c0_1] 33 (0, 0)) (z4_1 BK229.out) hb)
      have n5_ := zm4 (blk_below (g := gb230) (o := .cells #[.slice A1_0 l1_0.length c1_0, .slice A1_1 l1_1.length c1_1] 33 (0, 0)) (z4_1 BK230.out) hb)
      have n6_ := zm4 (below_step (z4_3 HB.out GE229.out GE230.out) hb)
      clear HO235
      clear HO238
      clear BK229
      clear BK230
      clear HB
      have HO235 := n0_
      have HO238 := n1_
      have HO241 := n2_
      have HO244 := n3_
      have BK229 := n4_
      have BK230 := n5_
      have HB := n6_
      clear n0_ n1_ n2_ n3_ n4_ n5_ n6_
      (try clear hb)
      (try clear hb2)
      (try clear hk)
      (try clear hi)
      (try clear ho0)
      (try clear ho1)
      obtain ⟨Ao76, co76, eo76⟩ := Kd.R_slice HO235.out
      (first | subst eo76 | (injection eo76 with f1_ f2_ f3_; have f4_ := f1_.symm; have f5_ := f3_.symm; clear f1_ f2_ f3_; subst f4_; subst f5_))
      obtain ⟨Ao77, co77, eo77⟩ := Kd.S_slice HO238.out
      (first | subst eo77 | (injection eo77 with f1_ f2_ f3_; have f4_ := f1_.symm; have f5_ := f3_.symm; clear f1_ f2_ f3_; subst f4_; subst f5_))
      obtain ⟨Ao78, co78, eo78⟩ := Kd.R_slice HO241.out
      (first | subst eo78 | (injection eo78 with f1_ f2_ f3_; have f4_ := f1_.symm; have f5_ := f3_.symm; clear f1_ f2_ f3_; subst f4_; subst f5_))
      obtain ⟨Ao79, co79, eo79⟩ := Kd.S_slice HO244.out
      (first | subst eo79 | (injection eo79 with f1_ f2_ f3_; have f4_ := f1_.symm; have f5_ := f3_.symm; clear f1_ f2_ f3_; subst f4_; subst f5_))
      refine hK.out _ _ ⟨(blk_cell BK229.out 0).trans rfl, (blk_cell BK229.out 1).trans rfl, (blk_cell BK230.out 0).trans rfl, (blk_cell BK230.out 1).trans rfl⟩ (fun hHeld => ?_)
      clear hK K
      refine norm_ (a' := ?_) ?_ ?_
      rotate_left
      ·show Act.put _ (some 23) _ = _
       simp only [Act.put, List.setIfInBounds_toArray, List.set_cons_zero, List.set_cons_succ, i64_w, i32_w]
       rfl
      refine one_ (i := 4) (N := some 24) #[true, true, true, true, true, false] rfl rfl (by kernel_rfl) (by decide) (fun K hK => ?_)
      refine goes_ Try.func13 (by kernel_rfl) rfl #[.agg #[.slice Ao76 t233.length co76, .slice Ao77 t236.length co77], .agg #[.slice Ao78 t239.length co78, .slice Ao79 t242.length co79]] (by rfl) rfl rfl (by (try simp only [List.map_toArray, List.map_cons, List.map_nil]); first | done | rfl | (simp only [List.length_drop, List.length_take]; rfl)) ?_
      with_reducible refine (spec_SameGuest.calls k _ _ t233 _ _ t236 _ _ t239 _ _ t242 t245 _ ?side1 ?side2 ?side3 ?side4 ?side5 ?side6 ?side7 ?side8 A21.out).mono ?_
      (case side1 => repeat (first | exact (Kd.R_reads' HO235.out).2.2 | (with_reducible refine Kd.C_alloc ?_ _) | (with_reducible refine Kd.C_drewN ?_ _) | (with_reducible refine Kd.C_drew ?_)))
      (case side2 => exact (Kd.R_reads' HO235.out).2.1)
      (case side3 => repeat (first | exact (Kd.S_reads' HO238.out).2.2 | (with_reducible refine Kd.C_alloc ?_ _) | (with_reducible refine Kd.C_drewN ?_ _) | (with_reducible refine Kd.C_drew ?_)))
      (case side4 => exact (Kd.S_reads' HO238.out).2.1)
      (case side5 => repeat (first | exact (Kd.R_reads' HO241.out).2.2 | (with_reducible refine Kd.C_alloc ?_ _) | (with_reducible refine Kd.C_drewN ?_ _) | (with_reducible refine Kd.C_drew ?_)))
      (case side6 => exact (Kd.R_reads' HO241.out).2.1)
      (case side7 => repeat (first | exact (Kd.S_reads' HO244.out).2.2 | (with_reducible refine Kd.C_alloc ?_ _) | (with_reducible refine Kd.C_drewN ?_ _) | (with_reducible refine Kd.C_drew ?_)))
      (case side8 => exact (Kd.S_reads' HO244.out).2.1)
      rintro e w80 ⟨rfl, hb⟩
      refine ⟨_, rfl, ?_⟩
      have n0_ := zm4 (Kd.R_below (z4_4 HO235.out) hb)
      have n1_ := zm4 (Kd.S_below (z4_5 HO238.out) hb)
      have n2_ := zm4 (Kd.R_below (z4_4 HO241.out) hb)
      have n3_ := zm4 (Kd.S_below (z4_5 HO244.out) hb)
      have n4_ := zm4 (blk_below (g := gb229) (o := .cells #[.slice A0_0 l0_0.length c0_0, .slice A0_1 l0_1.length c0_1] 33 (0, 0)) (z4_1 BK229.out) hb)
      have n5_ := zm4 (blk_below (g := gb230) (o := .cells #[.slice A1_0 l1_0.length c1_0, .slice A1_1 l1_1.length c1_1] 33 (0, 0)) (z4_1 BK230.out) hb)
      have n6_ := zm4 (below_step (z4_3 HB.out GE229.out GE230.out) hb)
      clear HO235
      clear HO238
      clear HO241
      clear HO244
      clear BK229
      clear BK230
      clear HB
      have HO235 := n0_
      have HO238 := n1_
      have HO241 := n2_
      have HO244 := n3_
      have BK229 := n4_
      have BK230 := n5_
      have HB := n6_
      clear n0_ n1_ n2_ n3_ n4_ n5_ n6_
      (try clear hb)
      (try clear hb2)
      (try clear hk)
      (try clear hi)
      refine hK.out _ _ ⟨(blk_cell BK229.out 0).trans rfl, (blk_cell BK229.out 1).trans rfl, (blk_cell BK230.out 0).trans rfl, (blk_cell BK230.out 1).trans rfl⟩ (fun hHeld => ?_)
      clear hK K
      refine norm_ (a' := ?_) ?_ ?_
      rotate_left
      ·show Act.put _ (some 24) _ = _
       simp only [Act.put, List.setIfInBounds_toArray, List.set_cons_zero, List.set_cons_succ, i64_w, i32_w]
       rfl
      refine pure_ (i := 5) (N := some 6) (v := ?_) (a' := ?_) #[true, true, true, true, true, true] rfl rfl (by kernel_rfl) (fun _ _ _ h => h) (Or.inl ⟨by rfl, ?_⟩) ?_ ?_
      rotate_left
      ·intro w'
       go_simp
       with_reducible rfl
      rotate_left
      ·simp only [Act.put, List.setIfInBounds_toArray, List.set_cons_zero, List.set_cons_succ, i64_w, i32_w]
       rfl
      refine done_ (by kernel_rfl) ?_
      have hcz81_0 : w80.cell? ⟨gb229, 0, none⟩ = some (.slice A0_0 l0_0.length c0_0) := (blk_cell BK229.out 0).trans rfl
      have hcz81_1 : w80.cell? ⟨gb229, 1, none⟩ = some (.slice A0_1 l0_1.length c0_1) := (blk_cell BK229.out 1).trans rfl
      have hfz81_0 := blk_frozen BK229.out 0
      have hfz81_1 := blk_frozen BK229.out 1
      try go_wp2_with (first | ((with_reducible refine gate_callee (f := 14) rfl ?_); refine goesL_ (some 26) rfl rfl Try.func14 (by kernel_rfl) rfl #[.agg #[.slice A0_0 l0_0.length c0_0, .slice A0_1 l0_1.length c0_1]] rfl (by (try simp only [List.map_toArray, List.map_cons, List.map_nil]); first | done | rfl | (simp only [List.length_drop, List.length_take]; rfl)) ?_; (with_reducible refine (laws_toGuest.calls k _ _ l0_0 _ _ l0_1 t246 t249 _ ?side1 ?side2 ?side3 ?side4 A22.out).mono ?_); (case side1 => repeat (first | exact (Kd.C_below HR0_0.out HB.out) | (with_reducible refine Kd.C_alloc ?_ _) | (with_reducible refine Kd.C_drewN ?_ _) | (with_reducible refine Kd.C_drew ?_))); (case side2 => exact HC0_0.out); (case side3 => repeat (first | exact (Kd.C_below HR0_1.out HB.out) | (with_reducible refine Kd.C_alloc ?_ _) | (with_reducible refine Kd.C_drewN ?_ _) | (with_reducible refine Kd.C_drew ?_))); (case side4 => exact HC0_1.out); rintro e w82 ⟨v247, v250, rfl, ho0, ho1, hb⟩; refine ⟨_, rfl, ?_⟩; have n0_ := zm4 (Kd.R_elder' (z4_4 HO235.out) (Kd.R_base ho0) hb); have n1_ := zm4 (Kd.S_mono (Kd.S_told (Kd.S_told (Kd.S_old (z4_5 HO238.out) hb) (Kd.R_base ho0)) (Kd.S_base ho1)) (fun _ h_ => h_.1)); have n2_ := zm4 (Kd.R_elder' (z4_4 HO241.out) (Kd.R_base ho0) hb); have n3_ := zm4 (Kd.S_mono (Kd.S_told (Kd.S_told (Kd.S_old (z4_5 HO244.out) hb) (Kd.R_base ho0)) (Kd.S_base ho1)) (fun _ h_ => h_.1)); have n4_ := zm4 (Kd.R_lower (Kd.R_new' (Kd.R_new' ho0 (Kd.R_lt (z4_4 HO235.out))) (Kd.R_lt (z4_4 HO241.out))) (below_size (z4_3 HB.out GE229.out GE230.out))); have n5_ := zm4 (Kd.S_lower (Kd.S_new' (Kd.S_new' (Kd.S_new' (Kd.S_new' ho1 (Kd.R_lt (z4_4 HO235.out))) (Kd.S_lt (z4_5 HO238.out))) (Kd.R_lt (z4_4 HO241.out))) (Kd.S_lt (z4_5 HO244.out))) (below_size (z4_3 HB.out GE229.out GE230.out))); have n6_ := zm4 (blk_below (g := gb229) (o := .cells #[.slice A0_0 l0_0.length c0_0, .slice A0_1 l0_1.length c0_1] 33 (0, 0)) (z4_1 BK229.out) hb); have n7_ := zm4 (blk_below (g := gb230) (o := .cells #[.slice A1_0 l1_0.length c1_0, .slice A1_1 l1_1.length c1_1] 33 (0, 0)) (z4_1 BK230.out) hb); have n8_ := zm4 (below_step (z4_3 HB.out GE229.out GE230.out) hb); clear HO235; clear HO238; clear HO241; clear HO244; clear BK229; clear BK230; clear HB; have HO235 := n0_; have HO238 := n1_; have HO241 := n2_; have HO244 := n3_; have HO248 := n4_; have HO251 := n5_; have BK229 := n6_; have BK230 := n7_; have HB := n8_; clear n0_ n1_ n2_ n3_ n4_ n5_ n6_ n7_ n8_; (try clear hb); (try clear hb2); (try clear hk); (try clear hi); (try clear ho0); (try clear ho1)) | ((with_reducible refine gate_dst (N := 7) rfl ?_); refine box_event ?hg (N := 7) ?hd (cs := #[.slice none 0 0, .slice none 0 0]) (t := 25) ?hr ?_; (case hd => rfl); (case hg => rfl); (case hr => first | (go_simp; done) | (go_simp; rfl)); intro gb252 hg w83 hbox hb; have n0_ := zm4 (Kd.R_below (z4_4 HO235.out) hb); have n1_ := zm4 (Kd.S_below (z4_5 HO238.out) hb); have n2_ := zm4 (Kd.R_below (z4_4 HO241.out) hb); have n3_ := zm4 (Kd.S_below (z4_5 HO244.out) hb); have n4_ := zm4 (Kd.R_below (z4_4 HO248.out) hb); have n5_ := zm4 (Kd.S_below (z4_5 HO251.out) hb); have n6_ := zm4 (blk_below (g := gb229) (o := .cells #[.slice A0_0 l0_0.length c0_0, .slice A0_1 l0_1.length c0_1] 33 (0, 0)) (z4_1 BK229.out) hb); have n7_ := zm4 (blk_below (g := gb230) (o := .cells #[.slice A1_0 l1_0.length c1_0, .slice A1_1 l1_1.length c1_1] 33 (0, 0)) (z4_1 BK230.out) hb); have n8_ := zm4 (below_step (z4_3 HB.out GE229.out GE230.out) hb); have n9_ := zm4 (hbox); have n10_ := zm4 ((by rw [hg]; exact (below_size (z4_3 HB.out GE229.out GE230.out)) : w.heap.size ≤ gb252)); have n11_ := zm4 ((by rw [hg]; exact (below_size (z4_3 HB.out GE229.out GE230.out)) : w.heap.size ≤ gb252)); have n12_ := zm4 ((by rw [hg]; exact Nat.ne_of_lt (blk_lt (g := gb229) (o := .cells #[.slice A0_0 l0_0.length c0_0, .slice A0_1 l0_1.length c0_1] 33 (0, 0)) (z4_1 BK229.out)) : gb229 ≠ gb252)); have n13_ := zm4 ((by rw [hg]; exact Nat.ne_of_gt (blk_lt (g := gb229) (o := .cells #[.slice A0_0 l0_0.length c0_0, .slice A0_1 l0_1.length c0_1] 33 (0, 0)) (z4_1 BK229.out)) : gb252 ≠ gb229)); have n14_ := zm4 ((by rw [hg]; exact Nat.ne_of_lt (blk_lt (g := gb230) (o := .cells #[.slice A1_0 l1_0.length c1_0, .slice A1_1 l1_1.length c1_1] 33 (0, 0)) (z4_1 BK230.out)) : gb230 ≠ gb252)); have n15_ := zm4 ((by rw [hg]; exact Nat.ne_of_gt (blk_lt (g := gb230) (o := .cells #[.slice A1_0 l1_0.length c1_0, .slice A1_1 l1_1.length c1_1] 33 (0, 0)) (z4_1 BK230.out)) : gb252 ≠ gb230)); clear HO235; clear HO238; clear HO241; clear HO244; clear HO248; clear HO251; clear BK229; clear BK230; clear HB; have HO235 := n0_; have HO238 := n1_; have HO241 := n2_; have HO244 := n3_; have HO248 := n4_; have HO251 := n5_; have BK229 := n6_; have BK230 := n7_; have HB := n8_; have BK252 := n9_; have GW252 := n10_; have GE252 := n11_; have NB229_252 := n12_; have NB252_229 := n13_; have NB230_252 := n14_; have NB252_230 := n15_; clear n0_ n1_ n2_ n3_ n4_ n5_ n6_ n7_ n8_ n9_ n10_ n11_ n12_ n13_ n14_ n15_; clear hb hbox hg; obtain ⟨Ao84, co84, eo84⟩ := Kd.R_slice HO248.out; subst eo84; have hnb85 := NB252_229.out; have hnc85 := NB229_252.out; have hnb86 := NB252_230.out; have hnc86 := NB230_252.out; have hcz87_0 : w83.cell? ⟨gb252, 0, none⟩ = some (.slice none 0 0) := (blk_cell BK252.out 0).trans rfl; have hcz87_1 : w83.cell? ⟨gb252, 1, none⟩ = some (.slice none 0 0) := (blk_cell BK252.out 1).trans rfl; have hfz87_0 := blk_frozen BK252.out 0; have hfz87_1 := blk_frozen BK252.out 1; obtain ⟨Ao88, co88, eo88⟩ := Kd.S_slice HO251.out; subst eo88; have hcz89_0 : w83.cell? ⟨gb230, 0, none⟩ = some (.slice A1_0 l1_0.length c1_0) := (blk_cell BK230.out 0).trans rfl; have hcz89_1 : w83.cell? ⟨gb230, 1, none⟩ = some (.slice A1_1 l1_1.length c1_1) := (blk_cell BK230.out 1).trans rfl; have hfz89_0 := blk_frozen BK230.out 0; have hfz89_1 := blk_frozen BK230.out 1) | ((with_reducible refine gate_callee (f := 14) rfl ?_); refine goesL_ (some 28) rfl rfl Try.func14 (by kernel_rfl) rfl #[.agg #[.slice A1_0 l1_0.length c1_0, .slice A1_1 l1_1.length c1_1]] rfl (by (try simp only [List.map_toArray, List.map_cons, List.map_nil]); first | done | rfl | (simp only [List.length_drop, List.length_take]; rfl)) ?_; (with_reducible refine (laws_toGuest.calls k _ _ l1_0 _ _ l1_1 t253 t256 _ ?side1 ?side2 ?side3 ?side4 A23.out).mono ?_); (case side1 => exact Kd.C_below HR1_0.out (z4_6 HB.out GE229.out GE230.out GE252.out)); (case side2 => exact HC1_0.out); (case side3 => exact Kd.C_below HR1_1.out (z4_6 HB.out GE229.out GE230.out GE252.out)); (case side4 => exact HC1_1.out); rintro e w90 ⟨v254, v257, rfl, ho0, ho1, hb⟩; refine ⟨_, rfl, ?_⟩; have n0_ := zm4 (Kd.R_elder' (by (with_reducible repeat (first | apply Kd.R_alloc | apply Kd.R_drewN | apply Kd.R_drew)); exact (Kd.R_mono (Kd.R_far (p := ⟨gb252, 1, none⟩) (Kd.R_far (p := ⟨gb252, 0, none⟩) (Kd.R_types HO235.out BK252.out (by decide)) (fun _ hk => hk.2) (.slice Ao84 t246.length co84)) (fun _ hk => hk.2) (.slice Ao88 t249.length co88)) (fun _ h_ => h_.1))) (Kd.R_base ho0) hb); have n1_ := zm4 (Kd.S_mono (Kd.S_told (Kd.S_told (Kd.S_old (by (with_reducible repeat (first | apply Kd.S_alloc | apply Kd.S_drewN | apply Kd.S_drew)); exact (Kd.S_mono (Kd.S_far (p := ⟨gb252, 1, none⟩) (Kd.S_far (p := ⟨gb252, 0, none⟩) (Kd.S_types HO238.out BK252.out (by decide)) (fun _ hk => hk.2) (.slice Ao84 t246.length co84)) (fun _ hk => hk.2) (.slice Ao88 t249.length co88)) (fun _ h_ => h_.1))) hb) (Kd.R_base ho0)) (Kd.S_base ho1)) (fun _ h_ => h_.1)); have n2_ := zm4 (Kd.R_elder' (by (with_reducible repeat (first | apply Kd.R_alloc | apply Kd.R_drewN | apply Kd.R_drew)); exact (Kd.R_mono (Kd.R_far (p := ⟨gb252, 1, none⟩) (Kd.R_far (p := ⟨gb252, 0, none⟩) (Kd.R_types HO241.out BK252.out (by decide)) (fun _ hk => hk.2) (.slice Ao84 t246.length co84)) (fun _ hk => hk.2) (.slice Ao88 t249.length co88)) (fun _ h_ => h_.1))) (Kd.R_base ho0) hb); have n3_ := zm4 (Kd.S_mono (Kd.S_told (Kd.S_told (Kd.S_old (by (with_reducible repeat (first | apply Kd.S_alloc | apply Kd.S_drewN | apply Kd.S_drew)); exact (Kd.S_mono (Kd.S_far (p := ⟨gb252, 1, none⟩) (Kd.S_far (p := ⟨gb252, 0, none⟩) (Kd.S_types HO244.out BK252.out (by decide)) (fun _ hk => hk.2) (.slice Ao84 t246.length co84)) (fun _ hk => hk.2) (.slice Ao88 t249.length co88)) (fun _ h_ => h_.1))) hb) (Kd.R_base ho0)) (Kd.S_base ho1)) (fun _ h_ => h_.1)); have n4_ := zm4 (Kd.R_elder' (by (with_reducible repeat (first | apply Kd.R_alloc | apply Kd.R_drewN | apply Kd.R_drew)); exact (Kd.R_mono (Kd.R_far (p := ⟨gb252, 1, none⟩) (Kd.R_far (p := ⟨gb252, 0, none⟩) (Kd.R_types HO248.out BK252.out (by decide)) (fun _ hk => hk.2) (.slice Ao84 t246.length co84)) (fun _ hk => hk.2) (.slice Ao88 t249.length co88)) (fun _ h_ => h_.1))) (Kd.R_base ho0) hb); have n5_ := zm4 (Kd.S_mono (Kd.S_told (Kd.S_told (Kd.S_old (by (with_reducible repeat (first | apply Kd.S_alloc | apply Kd.S_drewN | apply Kd.S_drew)); exact (Kd.S_mono (Kd.S_far (p := ⟨gb252, 1, none⟩) (Kd.S_far (p := ⟨gb252, 0, none⟩) (Kd.S_types HO251.out BK252.out (by decide)) (fun _ hk => hk.2) (.slice Ao84 t246.length co84)) (fun _ hk => hk.2) (.slice Ao88 t249.length co88)) (fun _ h_ => h_.1))) hb) (Kd.R_base ho0)) (Kd.S_base ho1)) (fun _ h_ => h_.1)); have n6_ := zm4 (Kd.R_lower (Kd.R_new' (Kd.R_new' (Kd.R_new' ho0 (Kd.R_lt (by (with_reducible repeat (first | apply Kd.R_alloc | apply Kd.R_drewN | apply Kd.R_drew)); exact (Kd.R_mono (Kd.R_far (p := ⟨gb252, 1, none⟩) (Kd.R_far (p := ⟨gb252, 0, none⟩) (Kd.R_types HO235.out BK252.out (by decide)) (fun _ hk => hk.2) (.slice Ao84 t246.length co84)) (fun _ hk => hk.2) (.slice Ao88 t249.length co88)) (fun _ h_ => h_.1))))) (Kd.R_lt (by (with_reducible repeat (first | apply Kd.R_alloc | apply Kd.R_drewN | apply Kd.R_drew)); exact (Kd.R_mono (Kd.R_far (p := ⟨gb252, 1, none⟩) (Kd.R_far (p := ⟨gb252, 0, none⟩) (Kd.R_types HO241.out BK252.out (by decide)) (fun _ hk => hk.2) (.slice Ao84 t246.length co84)) (fun _ hk => hk.2) (.slice Ao88 t249.length co88)) (fun _ h_ => h_.1))))) (Kd.R_lt (by (with_reducible repeat (first | apply Kd.R_alloc | apply Kd.R_drewN | apply Kd.R_drew)); exact (Kd.R_mono (Kd.R_far (p := ⟨gb252, 1, none⟩) (Kd.R_far (p := ⟨gb252, 0, none⟩) (Kd.R_types HO248.out BK252.out (by decide)) (fun _ hk => hk.2) (.slice Ao84 t246.length co84)) (fun _ hk => hk.2) (.slice Ao88 t249.length co88)) (fun _ h_ => h_.1))))) (below_size (z4_6 HB.out GE229.out GE230.out GE252.out))); have n7_ := zm4 (Kd.S_lower (Kd.S_new' (Kd.S_new' (Kd.S_new' (Kd.S_new' (Kd.S_new' (Kd.S_new' ho1 (Kd.R_lt (by (with_reducible repeat (first | apply Kd.R_alloc | apply Kd.R_drewN | apply Kd.R_drew)); exact (Kd.R_mono (Kd.R_far (p := ⟨gb252, 1, none⟩) (Kd.R_far (p := ⟨gb252, 0, none⟩) (Kd.R_types HO235.out BK252.out (by decide)) (fun _ hk => hk.2) (.slice Ao84 t246.length co84)) (fun _ hk => hk.2) (.slice Ao88 t249.length co88)) (fun _ h_ => h_.1))))) (Kd.S_lt (by (with_reducible repeat (first | apply Kd.S_alloc | apply Kd.S_drewN | apply Kd.S_drew)); exact (Kd.S_mono (Kd.S_far (p := ⟨gb252, 1, none⟩) (Kd.S_far (p := ⟨gb252, 0, none⟩) (Kd.S_types HO238.out BK252.out (by decide)) (fun _ hk => hk.2) (.slice Ao84 t246.length co84)) (fun _ hk => hk.2) (.slice Ao88 t249.length co88)) (fun _ h_ => h_.1))))) (Kd.R_lt (by (with_reducible repeat (first | apply Kd.R_alloc | apply Kd.R_drewN | apply Kd.R_drew)); exact (Kd.R_mono (Kd.R_far (p := ⟨gb252, 1, none⟩) (Kd.R_far (p := ⟨gb252, 0, none⟩) (Kd.R_types HO241.out BK252.out (by decide)) (fun _ hk => hk.2) (.slice Ao84 t246.length co84)) (fun _ hk => hk.2) (.slice Ao88 t249.length co88)) (fun _ h_ => h_.1))))) (Kd.S_lt (by (with_reducible repeat (first | apply Kd.S_alloc | apply Kd.S_drewN | apply Kd.S_drew)); exact (Kd.S_mono (Kd.S_far (p := ⟨gb252, 1, none⟩) (Kd.S_far (p := ⟨gb252, 0, none⟩) (Kd.S_types HO244.out BK252.out (by decide)) (fun _ hk => hk.2) (.slice Ao84 t246.length co84)) (fun _ hk => hk.2) (.slice Ao88 t249.length co88)) (fun _ h_ => h_.1))))) (Kd.R_lt (by (with_reducible repeat (first | apply Kd.R_alloc | apply Kd.R_drewN | apply Kd.R_drew)); exact (Kd.R_mono (Kd.R_far (p := ⟨gb252, 1, none⟩) (Kd.R_far (p := ⟨gb252, 0, none⟩) (Kd.R_types HO248.out BK252.out (by decide)) (fun _ hk => hk.2) (.slice Ao84 t246.length co84)) (fun _ hk => hk.2) (.slice Ao88 t249.length co88)) (fun _ h_ => h_.1))))) (Kd.S_lt (by (with_reducible repeat (first | apply Kd.S_alloc | apply Kd.S_drewN | apply Kd.S_drew)); exact (Kd.S_mono (Kd.S_far (p := ⟨gb252, 1, none⟩) (Kd.S_far (p := ⟨gb252, 0, none⟩) (Kd.S_types HO251.out BK252.out (by decide)) (fun _ hk => hk.2) (.slice Ao84 t246.length co84)) (fun _ hk => hk.2) (.slice Ao88 t249.length co88)) (fun _ h_ => h_.1))))) (below_size (z4_6 HB.out GE229.out GE230.out GE252.out))); have n8_ := zm4 (blk_below (g := gb229) (o := .cells #[.slice A0_0 l0_0.length c0_0, .slice A0_1 l0_1.length c0_1] 33 (0, 0)) (by (with_reducible repeat (first | refine blk_drewN ?_ _ | refine blk_drew ?_ | refine blk_alloc ?_ _)); refine blk_far ?_ NB229_252.out _; (with_reducible repeat (first | refine blk_drewN ?_ _ | refine blk_drew ?_ | refine blk_alloc ?_ _)); refine blk_far ?_ NB229_252.out _; (with_reducible repeat (first | refine blk_drewN ?_ _ | refine blk_drew ?_ | refine blk_alloc ?_ _)); exact BK229.out) hb); have n9_ := zm4 (blk_below (g := gb230) (o := .cells #[.slice A1_0 l1_0.length c1_0, .slice A1_1 l1_1.length c1_1] 33 (0, 0)) (by (with_reducible repeat (first | refine blk_drewN ?_ _ | refine blk_drew ?_ | refine blk_alloc ?_ _)); refine blk_far ?_ NB230_252.out _; (with_reducible repeat (first | refine blk_drewN ?_ _ | refine blk_drew ?_ | refine blk_alloc ?_ _)); refine blk_far ?_ NB230_252.out _; (with_reducible repeat (first | refine blk_drewN ?_ _ | refine blk_drew ?_ | refine blk_alloc ?_ _)); exact BK230.out) hb); have n10_ := zm4 (blk_below (g := gb252) (o := .cells #[.slice Ao84 t246.length co84, .slice Ao88 t249.length co88] 25 (0, 0)) (by (with_reducible repeat (first | refine blk_drewN ?_ _ | refine blk_drew ?_ | refine blk_alloc ?_ _)); refine blk_put (cs := #[.slice Ao84 t246.length co84, .slice none 0 0]) ?_ 1 _ rfl; (with_reducible repeat (first | refine blk_drewN ?_ _ | refine blk_drew ?_ | refine blk_alloc ?_ _)); refine blk_put (cs := #[.slice none 0 0, .slice none 0 0]) ?_ 0 _ rfl; (with_reducible repeat (first | refine blk_drewN ?_ _ | refine blk_drew ?_ | refine blk_alloc ?_ _)); exact BK252.out) hb); have n11_ := zm4 (below_step (z4_6 HB.out GE229.out GE230.out GE252.out) hb); clear HO235; clear HO238; clear HO241; clear HO244; clear HO248; clear HO251; clear BK229; clear BK230; clear BK252; clear HB; have HO235 := n0_; have HO238 := n1_; have HO241 := n2_; have HO244 := n3_; have HO248 := n4_; have HO251 := n5_; have HO255 := n6_; have HO258 := n7_; have BK229 := n8_; have BK230 := n9_; have BK252 := n10_; have HB := n11_; clear n0_ n1_ n2_ n3_ n4_ n5_ n6_ n7_ n8_ n9_ n10_ n11_; (try clear hb); (try clear hb2); (try clear hk); (try clear hi); (try clear ho0); (try clear ho1)) | ((with_reducible refine gate_dst (N := 8) rfl ?_); refine box_event ?hg (N := 8) ?hd (cs := #[.slice none 0 0, .slice none 0 0]) (t := 25) ?hr ?_; (case hd => rfl); (case hg => rfl); (case hr => first | (go_simp; done) | (go_simp; rfl)); intro gb259 hg w91 hbox hb; have n0_ := zm4 (Kd.R_below (z4_4 HO235.out) hb); have n1_ := zm4 (Kd.S_below (z4_5 HO238.out) hb); have n2_ := zm4 (Kd.R_below (z4_4 HO241.out) hb); have n3_ := zm4 (Kd.S_below (z4_5 HO244.out) hb); have n4_ := zm4 (Kd.R_below (z4_4 HO248.out) hb); have n5_ := zm4 (Kd.S_below (z4_5 HO251.out) hb); have n6_ := zm4 (Kd.R_below (z4_4 HO255.out) hb); have n7_ := zm4 (Kd.S_below (z4_5 HO258.out) hb); have n8_ := zm4 (blk_below (g := gb229) (o := .cells #[.slice A0_0 l0_0.length c0_0, .slice A0_1 l0_1.length c0_1] 33 (0, 0)) (z4_1 BK229.out) hb); have n9_ := zm4 (blk_below (g := gb230) (o := .cells #[.slice A1_0 l1_0.length c1_0, .slice A1_1 l1_1.length c1_1] 33 (0, 0)) (z4_1 BK230.out) hb); have n10_ := zm4 (blk_below (g := gb252) (o := .cells #[.slice Ao84 t246.length co84, .slice Ao88 t249.length co88] 25 (0, 0)) (z4_1 BK252.out) hb); have n11_ := zm4 (below_step (z4_6 HB.out GE229.out GE230.out GE252.out) hb); have n12_ := zm4 (hbox); have n13_ := zm4 ((by rw [hg]; exact (below_size (z4_6 HB.out GE229.out GE230.out GE252.out)) : w.heap.size ≤ gb259)); have n14_ := zm4 ((by rw [hg]; exact (below_size (z4_6 HB.out GE229.out GE230.out GE252.out)) : w.heap.size ≤ gb259)); have n15_ := zm4 ((by rw [hg]; exact Nat.ne_of_lt (blk_lt (g := gb229) (o := .cells #[.slice A0_0 l0_0.length c0_0, .slice A0_1 l0_1.length c0_1] 33 (0, 0)) (z4_1 BK229.out)) : gb229 ≠ gb259)); have n16_ := zm4 ((by rw [hg]; exact Nat.ne_of_gt (blk_lt (g := gb229) (o := .cells #[.slice A0_0 l0_0.length c0_0, .slice A0_1 l0_1.length c0_1] 33 (0, 0)) (z4_1 BK229.out)) : gb259 ≠ gb229)); have n17_ := zm4 ((by rw [hg]; exact Nat.ne_of_lt (blk_lt (g := gb230) (o := .cells #[.slice A1_0 l1_0.length c1_0, .slice A1_1 l1_1.length c1_1] 33 (0, 0)) (z4_1 BK230.out)) : gb230 ≠ gb259)); have n18_ := zm4 ((by rw [hg]; exact Nat.ne_of_gt (blk_lt (g := gb230) (o := .cells #[.slice A1_0 l1_0.length c1_0, .slice A1_1 l1_1.length c1_1] 33 (0, 0)) (z4_1 BK230.out)) : gb259 ≠ gb230)); have n19_ := zm4 ((by rw [hg]; exact Nat.ne_of_lt (blk_lt (g := gb252) (o := .cells #[.slice Ao84 t246.length co84, .slice Ao88 t249.length co88] 25 (0, 0)) (z4_1 BK252.out)) : gb252 ≠ gb259)); have n20_ := zm4 ((by rw [hg]; exact Nat.ne_of_gt (blk_lt (g := gb252) (o := .cells #[.slice Ao84 t246.length co84, .slice Ao88 t249.length co88] 25 (0, 0)) (z4_1 BK252.out)) : gb259 ≠ gb252)); clear HO235; clear HO238; clear HO241; clear HO244; clear HO248; clear HO251; clear HO255; clear HO258; clear BK229; clear BK230; clear BK252; clear HB; have HO235 := n0_; have HO238 := n1_; have HO241 := n2_; have HO244 := n3_; have HO248 := n4_; have HO251 := n5_; have HO255 := n6_; have HO258 := n7_; have BK229 := n8_; have BK230 := n9_; have BK252 := n10_; have HB := n11_; have BK259 := n12_; have GW259 := n13_; have GE259 := n14_; have NB229_259 := n15_; have NB259_229 := n16_; have NB230_259 := n17_; have NB259_230 := n18_; have NB252_259 := n19_; have NB259_252 := n20_; clear n0_ n1_ n2_ n3_ n4_ n5_ n6_ n7_ n8_ n9_ n10_ n11_ n12_ n13_ n14_ n15_ n16_ n17_ n18_ n19_ n20_; clear hb hbox hg; obtain ⟨Ao92, co92, eo92⟩ := Kd.R_slice HO255.out; subst eo92; have hnb93 := NB259_229.out; have hnc93 := NB229_259.out; have hnb94 := NB259_230.out; have hnc94 := NB230_259.out; have hnb95 := NB259_252.out; have hnc95 := NB252_259.out; have hcz96_0 : w91.cell? ⟨gb259, 0, none⟩ = some (.slice none 0 0) := (blk_cell BK259.out 0).trans rfl; have hcz96_1 : w91.cell? ⟨gb259, 1, none⟩ = some (.slice none 0 0) := (blk_cell BK259.out 1).trans rfl; have hfz96_0 := blk_frozen BK259.out 0; have hfz96_1 := blk_frozen BK259.out 1; obtain ⟨Ao97, co97, eo97⟩ := Kd.S_slice HO258.out; subst eo97; have hcz98_0 : w91.cell? ⟨gb252, 0, none⟩ = some (.slice Ao84 t246.length co84) := (blk_cell BK252.out 0).trans rfl; have hcz98_1 : w91.cell? ⟨gb252, 1, none⟩ = some (.slice Ao88 t249.length co88) := (blk_cell BK252.out 1).trans rfl; have hfz98_0 := blk_frozen BK252.out 0; have hfz98_1 := blk_frozen BK252.out 1) | ((with_reducible refine gate_callee (f := 15) rfl ?_); refine goesL_ (some 31) rfl rfl Try.func15 (by kernel_rfl) rfl #[.agg #[.slice Ao84 t246.length co84, .slice Ao88 t249.length co88], .agg #[.slice Ao92 t253.length co92, .slice Ao97 t256.length co97]] rfl (by (try simp only [List.map_toArray, List.map_cons, List.map_nil]); first | done | rfl | (simp only [List.length_drop, List.length_take]; rfl)) ?_; (with_reducible refine (impl_SameGuest.calls k _ _ t246 _ _ t249 _ _ t253 _ _ t256 t260 _ ?side1 ?side2 ?side3 ?side4 ?side5 ?side6 ?side7 ?side8 A24.out).mono ?_); (case side1 => refine (Kd.R_reads' (e := 3) (base := w.heap.size) (ok := fun k_ => (((True ∧ some k_ ≠ (.slice Ao76 t233.length co76 : Value).ownBlock) ∧ some k_ ≠ (.slice Ao78 t239.length co78 : Value).ownBlock) ∧ some k_ ≠ (.slice Ao92 t253.length co92 : Value).ownBlock)) (n := t246.length) (c := co84) ?_).2.2; exact (by (with_reducible repeat (first | apply Kd.R_alloc | apply Kd.R_drewN | apply Kd.R_drew)); exact (Kd.R_mono (Kd.R_far (p := ⟨gb259, 1, none⟩) (Kd.R_far (p := ⟨gb259, 0, none⟩) (Kd.R_types HO248.out BK259.out (by decide)) (fun _ hk => hk.2) (.slice Ao92 t253.length co92)) (fun _ hk => hk.2) (.slice Ao97 t256.length co97)) (fun _ h_ => h_.1)))); (case side2 => exact (Kd.R_reads' HO248.out).2.1); (case side3 => refine (Kd.S_reads' (e := 64) (base := w.heap.size) (ok := fun k_ => ((((((some k_ ≠ (.slice Ao84 t246.length co84 : Value).ownBlock ∧ some k_ ≠ (.slice Ao76 t233.length co76 : Value).ownBlock) ∧ some k_ ≠ (.slice Ao77 t236.length co77 : Value).ownBlock) ∧ some k_ ≠ (.slice Ao78 t239.length co78 : Value).ownBlock) ∧ some k_ ≠ (.slice Ao79 t242.length co79 : Value).ownBlock) ∧ some k_ ≠ (.slice Ao92 t253.length co92 : Value).ownBlock) ∧ some k_ ≠ (.slice Ao97 t256.length co97 : Value).ownBlock)) (n := t249.length) (c := co88) ?_).2.2; exact (by (with_reducible repeat (first | apply Kd.S_alloc | apply Kd.S_drewN | apply Kd.S_drew)); exact (Kd.S_mono (Kd.S_far (p := ⟨gb259, 1, none⟩) (Kd.S_far (p := ⟨gb259, 0, none⟩) (Kd.S_types HO251.out BK259.out (by decide)) (fun _ hk => hk.2) (.slice Ao92 t253.length co92)) (fun _ hk => hk.2) (.slice Ao97 t256.length co97)) (fun _ h_ => h_.1)))); (case side4 => exact (Kd.S_reads' HO251.out).2.1); (case side5 => refine (Kd.R_reads' (e := 3) (base := w.heap.size) (ok := fun k_ => (((True ∧ some k_ ≠ (.slice Ao76 t233.length co76 : Value).ownBlock) ∧ some k_ ≠ (.slice Ao78 t239.length co78 : Value).ownBlock) ∧ some k_ ≠ (.slice Ao84 t246.length co84 : Value).ownBlock)) (n := t253.length) (c := co92) ?_).2.2; exact (by (with_reducible repeat (first | apply Kd.R_alloc | apply Kd.R_drewN | apply Kd.R_drew)); exact (Kd.R_mono (Kd.R_far (p := ⟨gb259, 1, none⟩) (Kd.R_far (p := ⟨gb259, 0, none⟩) (Kd.R_types HO255.out BK259.out (by decide)) (fun _ hk => hk.2) (.slice Ao92 t253.length co92)) (fun _ hk => hk.2) (.slice Ao97 t256.length co97)) (fun _ h_ => h_.1)))); (case side6 => exact (Kd.R_reads' HO255.out).2.1); (case side7 => refine (Kd.S_reads' (e := 64) (base := w.heap.size) (ok := fun k_ => ((((((some k_ ≠ (.slice Ao92 t253.length co92 : Value).ownBlock ∧ some k_ ≠ (.slice Ao76 t233.length co76 : Value).ownBlock) ∧ some k_ ≠ (.slice Ao77 t236.length co77 : Value).ownBlock) ∧ some k_ ≠ (.slice Ao78 t239.length co78 : Value).ownBlock) ∧ some k_ ≠ (.slice Ao79 t242.length co79 : Value).ownBlock) ∧ some k_ ≠ (.slice Ao84 t246.length co84 : Value).ownBlock) ∧ some k_ ≠ (.slice Ao88 t249.length co88 : Value).ownBlock)) (n := t256.length) (c := co97) ?_).2.2; exact (by (with_reducible repeat (first | apply Kd.S_alloc | apply Kd.S_drewN | apply Kd.S_drew)); exact (Kd.S_mono (Kd.S_far (p := ⟨gb259, 1, none⟩) (Kd.S_far (p := ⟨gb259, 0, none⟩) (Kd.S_types HO258.out BK259.out (by decide)) (fun _ hk => hk.2) (.slice Ao92 t253.length co92)) (fun _ hk => hk.2) (.slice Ao97 t256.length co97)) (fun _ h_ => h_.1)))); (case side8 => exact (Kd.S_reads' HO258.out).2.1); rintro e w99 ⟨rfl, hb⟩; refine ⟨_, rfl, ?_⟩; have n0_ := zm4 (Kd.R_below (by (with_reducible repeat (first | apply Kd.R_alloc | apply Kd.R_drewN | apply Kd.R_drew)); exact (Kd.R_mono (Kd.R_far (p := ⟨gb259, 1, none⟩) (Kd.R_far (p := ⟨gb259, 0, none⟩) (Kd.R_types HO235.out BK259.out (by decide)) (fun _ hk => hk.2) (.slice Ao92 t253.length co92)) (fun _ hk => hk.2) (.slice Ao97 t256.length co97)) (fun _ h_ => h_.1))) hb); have n1_ := zm4 (Kd.S_below (by (with_reducible repeat (first | apply Kd.S_alloc | apply Kd.S_drewN | apply Kd.S_drew)); exact (Kd.S_mono (Kd.S_far (p := ⟨gb259, 1, none⟩) (Kd.S_far (p := ⟨gb259, 0, none⟩) (Kd.S_types HO238.out BK259.out (by decide)) (fun _ hk => hk.2) (.slice Ao92 t253.length co92)) (fun _ hk => hk.2) (.slice Ao97 t256.length co97)) (fun _ h_ => h_.1))) hb); have n2_ := zm4 (Kd.R_below (by (with_reducible repeat (first | apply Kd.R_alloc | apply Kd.R_drewN | apply Kd.R_drew)); exact (Kd.R_mono (Kd.R_far (p := ⟨gb259, 1, none⟩) (Kd.R_far (p := ⟨gb259, 0, none⟩) (Kd.R_types HO241.out BK259.out (by decide)) (fun _ hk => hk.2) (.slice Ao92 t253.length co92)) (fun _ hk => hk.2) (.slice Ao97 t256.length co97)) (fun _ h_ => h_.1))) hb); have n3_ := zm4 (Kd.S_below (by (with_reducible repeat (first | apply Kd.S_alloc | apply Kd.S_drewN | apply Kd.S_drew)); exact (Kd.S_mono (Kd.S_far (p := ⟨gb259, 1, none⟩) (Kd.S_far (p := ⟨gb259, 0, none⟩) (Kd.S_types HO244.out BK259.out (by decide)) (fun _ hk => hk.2) (.slice Ao92 t253.length co92)) (fun _ hk => hk.2) (.slice Ao97 t256.length co97)) (fun _ h_ => h_.1))) hb); have n4_ := zm4 (Kd.R_below (by (with_reducible repeat (first | apply Kd.R_alloc | apply Kd.R_drewN | apply Kd.R_drew)); exact (Kd.R_mono (Kd.R_far (p := ⟨gb259, 1, none⟩) (Kd.R_far (p := ⟨gb259, 0, none⟩) (Kd.R_types HO248.out BK259.out (by decide)) (fun _ hk => hk.2) (.slice Ao92 t253.length co92)) (fun _ hk => hk.2) (.slice Ao97 t256.length co97)) (fun _ h_ => h_.1))) hb); have n5_ := zm4 (Kd.S_below (by (with_reducible repeat (first | apply Kd.S_alloc | apply Kd.S_drewN | apply Kd.S_drew)); exact (Kd.S_mono (Kd.S_far (p := ⟨gb259, 1, none⟩) (Kd.S_far (p := ⟨gb259, 0, none⟩) (Kd.S_types HO251.out BK259.out (by decide)) (fun _ hk => hk.2) (.slice Ao92 t253.length co92)) (fun _ hk => hk.2) (.slice Ao97 t256.length co97)) (fun _ h_ => h_.1))) hb); have n6_ := zm4 (Kd.R_below (by (with_reducible repeat (first | apply Kd.R_alloc | apply Kd.R_drewN | apply Kd.R_drew)); exact (Kd.R_mono (Kd.R_far (p := ⟨gb259, 1, none⟩) (Kd.R_far (p := ⟨gb259, 0, none⟩) (Kd.R_types HO255.out BK259.out (by decide)) (fun _ hk => hk.2) (.slice Ao92 t253.length co92)) (fun _ hk => hk.2) (.slice Ao97 t256.length co97)) (fun _ h_ => h_.1))) hb); have n7_ := zm4 (Kd.S_below (by (with_reducible repeat (first | apply Kd.S_alloc | apply Kd.S_drewN | apply Kd.S_drew)); exact (Kd.S_mono (Kd.S_far (p := ⟨gb259, 1, none⟩) (Kd.S_far (p := ⟨gb259, 0, none⟩) (Kd.S_types HO258.out BK259.out (by decide)) (fun _ hk => hk.2) (.slice Ao92 t253.length co92)) (fun _ hk => hk.2) (.slice Ao97 t256.length co97)) (fun _ h_ => h_.1))) hb); have n8_ := zm4 (blk_below (g := gb229) (o := .cells #[.slice A0_0 l0_0.length c0_0, .slice A0_1 l0_1.length c0_1] 33 (0, 0)) (by (with_reducible repeat (first | refine blk_drewN ?_ _ | refine blk_drew ?_ | refine blk_alloc ?_ _)); refine blk_far ?_ NB229_259.out _; (with_reducible repeat (first | refine blk_drewN ?_ _ | refine blk_drew ?_ | refine blk_alloc ?_ _)); refine blk_far ?_ NB229_259.out _; (with_reducible repeat (first | refine blk_drewN ?_ _ | refine blk_drew ?_ | refine blk_alloc ?_ _)); exact BK229.out) hb); have n9_ := zm4 (blk_below (g := gb230) (o := .cells #[.slice A1_0 l1_0.length c1_0, .slice A1_1 l1_1.length c1_1] 33 (0, 0)) (by (with_reducible repeat (first | refine blk_drewN ?_ _ | refine blk_drew ?_ | refine blk_alloc ?_ _)); refine blk_far ?_ NB230_259.out _; (with_reducible repeat (first | refine blk_drewN ?_ _ | refine blk_drew ?_ | refine blk_alloc ?_ _)); refine blk_far ?_ NB230_259.out _; (with_reducible repeat (first | refine blk_drewN ?_ _ | refine blk_drew ?_ | refine blk_alloc ?_ _)); exact BK230.out) hb); have n10_ := zm4 (blk_below (g := gb252) (o := .cells #[.slice Ao84 t246.length co84, .slice Ao88 t249.length co88] 25 (0, 0)) (by (with_reducible repeat (first | refine blk_drewN ?_ _ | refine blk_drew ?_ | refine blk_alloc ?_ _)); refine blk_far ?_ NB252_259.out _; (with_reducible repeat (first | refine blk_drewN ?_ _ | refine blk_drew ?_ | refine blk_alloc ?_ _)); refine blk_far ?_ NB252_259.out _; (with_reducible repeat (first | refine blk_drewN ?_ _ | refine blk_drew ?_ | refine blk_alloc ?_ _)); exact BK252.out) hb); have n11_ := zm4 (blk_below (g := gb259) (o := .cells #[.slice Ao92 t253.length co92, .slice Ao97 t256.length co97] 25 (0, 0)) (by (with_reducible repeat (first | refine blk_drewN ?_ _ | refine blk_drew ?_ | refine blk_alloc ?_ _)); refine blk_put (cs := #[.slice Ao92 t253.length co92, .slice none 0 0]) ?_ 1 _ rfl; (with_reducible repeat (first | refine blk_drewN ?_ _ | refine blk_drew ?_ | refine blk_alloc ?_ _)); refine blk_put (cs := #[.slice none 0 0, .slice none 0 0]) ?_ 0 _ rfl; (with_reducible repeat (first | refine blk_drewN ?_ _ | refine blk_drew ?_ | refine blk_alloc ?_ _)); exact BK259.out) hb); have n12_ := zm4 (below_step (z4_7 HB.out GE229.out GE230.out GE252.out GE259.out) hb); clear HO235; clear HO238; clear HO241; clear HO244; clear HO248; clear HO251; clear HO255; clear HO258; clear BK229; clear BK230; clear BK252; clear BK259; clear HB; have HO235 := n0_; have HO238 := n1_; have HO241 := n2_; have HO244 := n3_; have HO248 := n4_; have HO251 := n5_; have HO255 := n6_; have HO258 := n7_; have BK229 := n8_; have BK230 := n9_; have BK252 := n10_; have BK259 := n11_; have HB := n12_; clear n0_ n1_ n2_ n3_ n4_ n5_ n6_ n7_ n8_ n9_ n10_ n11_ n12_; (try clear hb); (try clear hb2); (try clear hk); (try clear hi)))
      have n0_ := zm4 (Kd.R_drew HO235.out)
      have n1_ := zm4 (Kd.S_drew HO238.out)
      have n2_ := zm4 (Kd.R_drew HO241.out)
      have n3_ := zm4 (Kd.S_drew HO244.out)
      have n4_ := zm4 (Kd.R_drew HO248.out)
      have n5_ := zm4 (Kd.S_drew HO251.out)
      have n6_ := zm4 (Kd.R_drew HO255.out)
      have n7_ := zm4 (Kd.S_drew HO258.out)
      have n8_ := zm4 (blk_drew BK229.out)
      have n9_ := zm4 (blk_drew BK230.out)
      have n10_ := zm4 (blk_drew BK252.out)
      have n11_ := zm4 (blk_drew BK259.out)
      have n12_ := zm4 (below_drew1 HB.out)
      clear HO235
      clear HO238
      clear HO241
      clear HO244
      clear HO248
      clear HO251
      clear HO255
      clear HO258
      clear BK229
      clear BK230
      clear BK252
      clear BK259
      clear HB
      have HO235 := n0_
      have HO238 := n1_
      have HO241 := n2_
      have HO244 := n3_
      have HO248 := n4_
      have HO251 := n5_
      have HO255 := n6_
      have HO258 := n7_
      have BK229 := n8_
      have BK230 := n9_
      have BK252 := n10_
      have BK259 := n11_
      have HB := n12_
      clear n0_ n1_ n2_ n3_ n4_ n5_ n6_ n7_ n8_ n9_ n10_ n11_ n12_
      refine start_ (n := 5) (S := fun w' => w'.cell? ⟨gb252, 0, none⟩ = some (.slice Ao84 t246.length co84) ∧ w'.cell? ⟨gb252, 1, none⟩ = some (.slice Ao88 t249.length co88) ∧ w'.cell? ⟨gb229, 0, none⟩ = some (.slice A0_0 l0_0.length c0_0) ∧ w'.cell? ⟨gb229, 1, none⟩ = some (.slice A0_1 l0_1.length c0_1)) (ds := []) #[false, false, false, false, false] (by kernel_rfl) rfl rfl ⟨(blk_cell BK252.out 0).trans rfl, (blk_cell BK252.out 1).trans rfl, (blk_cell BK229.out 0).trans rfl, (blk_cell BK229.out 1).trans rfl⟩ (fun hHeld => ?_)
      generalize w99.drew = w100 at HO235 HO238 HO241 HO244 HO248 HO251 HO255 HO258 BK229 BK230 BK252 BK259 HB hHeld ⊢
      refine take_ (i := 0) (N := some 35) (v := ?_) (a' := ?_) #[true, false, false, false, false] rfl rfl (by kernel_rfl) (fun _ _ _ h => h) (Or.inl ⟨by rfl, ?_⟩) hHeld ?_ ?_
      rotate_left
      ·rintro w' ⟨s0, s1, s2, s3⟩
       go_simp
       with_reducible rfl
      rotate_left
      ·simp only [Act.put, List.setIfInBounds_toArray, List.set_cons_zero, List.set_cons_succ, i64_w, i32_w]
       rfl
      refine take_ (i := 1) (N := some 36) (v := ?_) (a' := ?_) #[true, true, false, false, false] rfl rfl (by kernel_rfl) (fun _ _ _ h => h) (Or.inl ⟨by rfl, ?_⟩) hHeld ?_ ?_
      rotate_left
      ·rintro w' ⟨s0, s1, s2, s3⟩
       go_simp
       with_reducible rfl
      rotate_left
      ·simp only [Act.put, List.setIfInBounds_toArray, List.set_cons_zero, List.set_cons_succ, i64_w, i32_w]
       rfl
      refine one_ (i := 2) (N := some 37) #[true, true, true, false, false] rfl rfl (by kernel_rfl) (by decide) (fun K hK => ?_)
      refine goes_ Try.func14 (by kernel_rfl) rfl #[.agg #[.slice A0_0 l0_0.length c0_0, .slice A0_1 l0_1.length c0_1]] (by rfl) rfl rfl (by (try simp only [List.map_toArray, List.map_cons, List.map_nil]); first | done | rfl | (simp only [List.length_drop, List.length_take]; rfl)) ?_
      with_reducible refine (laws_toGuest.calls k _ _ l0_0 _ _ l0_1 t261 t264 _ ?side1 ?side2 ?side3 ?side4 A60.out).mono ?_
      (case side1 => repeat (first | exact (Kd.C_below HR0_0.out HB.out) | (with_reducible refine Kd.C_alloc ?_ _) | (with_reducible refine Kd.C_drewN ?_ _) | (with_reducible refine Kd.C_drew ?_)))
      (case side2 => exact HC0_0.out)
      (case side3 => repeat (first | exact (Kd.C_below HR0_1.out HB.out) | (with_reducible refine Kd.C_alloc ?_ _) | (with_reducible refine Kd.C_drewN ?_ _) | (with_reducible refine Kd.C_drew ?_)))
      (case side4 => exact HC0_1.out)
      rintro e w101 ⟨v262, v265, rfl, ho0, ho1, hb⟩
      refine ⟨_, rfl, ?_⟩
      have n0_ := zm4 (Kd.R_elder' (z4_4 HO235.out) (Kd.R_base ho0) hb)
      have n1_ := zm4 (Kd.S_mono (Kd.S_told (Kd.S_told (Kd.S_old (z4_5 HO238.out) hb) (Kd.R_base ho0)) (Kd.S_base ho1)) (fun _ h_ => h_.1))
      have n2_ := zm4 (Kd.R_elder' (z4_4 HO241.out) (Kd.R_base ho0) hb)
      have n3_ := zm4 (Kd.S_mono (Kd.S_told (Kd.S_told (Kd.S_old (z4_5 HO244.out) hb) (Kd.R_base ho0)) (Kd.S_base ho1)) (fun _ h_ => h_.1))
      have n4_ := zm4 (Kd.R_elder' (z4_4 HO248.out) (Kd.R_base ho0) hb)
      have n5_ := zm4 (Kd.S_mono (Kd.S_told (Kd.S_told (Kd.S_old (z4_5 HO251.out) hb) (Kd.R_base ho0)) (Kd.S_base ho1)) (fun _ h_ => h_.1))
      have n6_ := zm4 (Kd.R_elder' (z4_4 HO255.out) (Kd.R_base ho0) hb)
      have n7_ := zm4 (Kd.S_mono (Kd.S_told (Kd.S_told (Kd.S_old (z4_5 HO258.out) hb) (Kd.R_base ho0)) (Kd.S_base ho1)) (fun _ h_ => h_.1))
      have n8_ := zm4 (Kd.R_lower (Kd.R_new' (Kd.R_new' (Kd.R_new' (Kd.R_new' ho0 (Kd.R_lt (z4_4 HO235.out))) (Kd.R_lt (z4_4 HO241.out))) (Kd.R_lt (z4_4 HO248.out))) (Kd.R_lt (z4_4 HO255.out))) (below_size (z4_7 HB.out GE229.out GE230.out GE252.out GE259.out)))
      have n9_ := zm4 (Kd.S_lower (Kd.S_new' (Kd.S_new' (Kd.S_new' (Kd.S_new' (Kd.S_new' (Kd.S_new' (Kd.S_new' (Kd.S_new' ho1 (Kd.R_lt (z4_4 HO235.out))) (Kd.S_lt (z4_5 HO238.out))) (Kd.R_lt (z4_4 HO241.out))) (Kd.S_lt (z4_5 HO244.out))) (Kd.R_lt (z4_4 HO248.out))) (Kd.S_lt (z4_5 HO251.out))) (Kd.R_lt (z4_4 HO255.out))) (Kd.S_lt (z4_5 HO258.out))) (below_size (z4_7 HB.out GE229.out GE230.out GE252.out GE259.out)))
      have n10_ := zm4 (blk_below (g := gb229) (o := .cells #[.slice A0_0 l0_0.length c0_0, .slice A0_1 l0_1.length c0_1] 33 (0, 0)) (z4_1 BK229.out) hb)
      have n11_ := zm4 (blk_below (g := gb230) (o := .cells #[.slice A1_0 l1_0.length c1_0, .slice A1_1 l1_1.length c1_1] 33 (0, 0)) (z4_1 BK230.out) hb)
      have n12_ := zm4 (blk_below (g := gb252) (o := .cells #[.slice Ao84 t246.length co84, .slice Ao88 t249.length co88] 25 (0, 0)) (z4_1 BK252.out) hb)
      have n13_ := zm4 (blk_below (g := gb259) (o := .cells #[.slice Ao92 t253.length co92, .slice Ao97 t256.length co97] 25 (0, 0)) (z4_1 BK259.out) hb)
      have n14_ := zm4 (below_step (z4_7 HB.out GE229.out GE230.out GE252.out GE259.out) hb)
      clear HO235
      clear HO238
      clear HO241
      clear HO244
      clear HO248
      clear HO251
      clear HO255
      clear HO258
      clear BK229
      clear BK230
      clear BK252
      clear BK259
      clear HB
      have HO235 := n0_
      have HO238 := n1_
      have HO241 := n2_
      have HO244 := n3_
      have HO248 := n4_
      have HO251 := n5_
      have HO255 := n6_
      have HO258 := n7_
      have HO263 := n8_
      have HO266 := n9_
      have BK229 := n10_
      have BK230 := n11_
      have BK252 := n12_
      have BK259 := n13_
      have HB := n14_
      clear n0_ n1_ n2_ n3_ n4_ n5_ n6_ n7_ n8_ n9_ n10_ n11_ n12_ n13_ n14_
      (try clear hb)
      (try clear hb2)
      (try clear hk)
      (try clear hi)
      (try clear ho0)
      (try clear ho1)
      obtain ⟨Ao102, co102, eo102⟩ := Kd.R_slice HO263.out
      (first | subst eo102 | (injection eo102 with f1_ f2_ f3_; have f4_ := f1_.symm; have f5_ := f3_.symm; clear f1_ f2_ f3_; subst f4_; subst f5_))
      obtain ⟨Ao103, co103, eo103⟩ := Kd.S_slice HO266.out
      (first | subst eo103 | (injection eo103 with f1_ f2_ f3_; have f4_ := f1_.symm; have f5_ := f3_.symm; clear f1_ f2_ f3_; subst f4_; subst f5_))
      refine hK.out _ _ ⟨(blk_cell BK252.out 0).trans rfl, (blk_cell BK252.out 1).trans rfl, (blk_cell BK229.out 0).trans rfl, (blk_cell BK229.out 1).trans rfl⟩ (fun hHeld => ?_)
      clear hK K
      refine norm_ (a' := ?_) ?_ ?_
      rotate_left
      ·show Act.put _ (some 37) _ = _
       simp only [Act.put, List.setIfInBounds_toArray, List.set_cons_zero, List.set_cons_succ, i64_w, i32_w]
       rfl
      refine one_ (i := 3) (N := some 38) #[true, true, true, true, false] rfl rfl (by kernel_rfl) (by decide) (fun K hK => ?_)
      refine goes_ Try.func9 (by kernel_rfl) rfl #[.agg #[.slice Ao84 t246.length co84, .slice Ao88 t249.length co88], .agg #[.slice Ao102 t261.length co102, .slice Ao103 t264.length co103]] (by rfl) rfl rfl (by (try simp only [List.map_toArray, List.map_cons, List.map_nil]); first | done | rfl | (simp only [List.length_drop, List.length_take]; rfl)) ?_
      with_reducible refine (laws_eqGuest.calls k _ _ t246 _ _ t249 _ _ t261 _ _ t264 true _ ?side1 ?side2 ?side3 ?side4 ?side5 ?side6 ?side7 ?side8 A61.out).mono ?_
      (case side1 => repeat (first | exact (Kd.R_reads' HO248.out).2.2 | (with_reducible refine Kd.C_alloc ?_ _) | (with_reducible refine Kd.C_drewN ?_ _) | (with_reducible refine Kd.C_drew ?_)))
      (case side2 => exact (Kd.R_reads' HO248.out).2.1)
      (case side3 => repeat (first | exact (Kd.S_reads' HO251.out).2.2 | (with_reducible refine Kd.C_alloc ?_ _) | (with_reducible refine Kd.C_drewN ?_ _) | (with_reducible refine Kd.C_drew ?_)))
      (case side4 => exact (Kd.S_reads' HO251.out).2.1)
      (case side5 => repeat (first | exact (Kd.R_reads' HO263.out).2.2 | (with_reducible refine Kd.C_alloc ?_ _) | (with_reducible refine Kd.C_drewN ?_ _) | (with_reducible refine Kd.C_drew ?_)))
      (case side6 => exact (Kd.R_reads' HO263.out).2.1)
      (case side7 => repeat (first | exact (Kd.S_reads' HO266.out).2.2 | (with_reducible refine Kd.C_alloc ?_ _) | (with_reducible refine Kd.C_drewN ?_ _) | (with_reducible refine Kd.C_drew ?_)))
      (case side8 => exact (Kd.S_reads' HO266.out).2.1)
      rintro e w104 ⟨rfl, hb⟩
      refine ⟨_, rfl, ?_⟩
      have n0_ := zm4 (Kd.R_below (z4_4 HO235.out) hb)
      have n1_ := zm4 (Kd.S_below (z4_5 HO238.out) hb)
      have n2_ := zm4 (Kd.R_below (z4_4 HO241.out) hb)
      have n3_ := zm4 (Kd.S_below (z4_5 HO244.out) hb)
      have n4_ := zm4 (Kd.R_below (z4_4 HO248.out) hb)
      have n5_ := zm4 (Kd.S_below (z4_5 HO251.out) hb)
      have n6_ := zm4 (Kd.R_below (z4_4 HO255.out) hb)
      have n7_ := zm4 (Kd.S_below (z4_5 HO258.out) hb)
      have n8_ := zm4 (Kd.R_below (z4_4 HO263.out) hb)
      have n9_ := zm4 (Kd.S_below (z4_5 HO266.out) hb)
      have n10_ := zm4 (blk_below (g := gb229) (o := .cells #[.slice A0_0 l0_0.length c0_0, .slice A0_1 l0_1.length c0_1] 33 (0, 0)) (z4_1 BK229.out) hb)
      have n11_ := zm4 (blk_below (g := gb230) (o := .cells #[.slice A1_0 l1_0.length c1_0, .slice A1_1 l1_1.length c1_1] 33 (0, 0)) (z4_1 BK230.out) hb)
      have n12_ := zm4 (blk_below (g := gb252) (o := .cells #[.slice Ao84 t246.length co84, .slice Ao88 t249.length co88] 25 (0, 0)) (z4_1 BK252.out) hb)
      have n13_ := zm4 (blk_below (g := gb259) (o := .cells #[.slice Ao92 t253.length co92, .slice Ao97 t256.length co97] 25 (0, 0)) (z4_1 BK259.out) hb)
      have n14_ := zm4 (below_step (z4_7 HB.out GE229.out GE230.out GE252.out GE259.out) hb)
      clear HO235
      clear HO238
      clear HO241
      clear HO244
      clear HO248
      clear HO251
      clear HO255
      clear HO258
      clear HO263
      clear HO266
      clear BK229
      clear BK230
      clear BK252
      clear BK259
      clear HB
      have HO235 := n0_
      have HO238 := n1_
      have HO241 := n2_
      have HO244 := n3_
      have HO248 := n4_
      have HO251 := n5_
      have HO255 := n6_
      have HO258 := n7_
      have HO263 := n8_
      have HO266 := n9_
      have BK229 := n10_
      have BK230 := n11_
      have BK252 := n12_
      have BK259 := n13_
      have HB := n14_
      clear n0_ n1_ n2_ n3_ n4_ n5_ n6_ n7_ n8_ n9_ n10_ n11_ n12_ n13_ n14_
      (try clear hb)
      (try clear hb2)
      (try clear hk)
      (try clear hi)
      refine hK.out _ _ ⟨(blk_cell BK252.out 0).trans rfl, (blk_cell BK252.out 1).trans rfl, (blk_cell BK229.out 0).trans rfl, (blk_cell BK229.out 1).trans rfl⟩ (fun hHeld => ?_)
      clear hK K
      refine norm_ (a' := ?_) ?_ ?_
      rotate_left
      ·show Act.put _ (some 38) _ = _
       simp only [Act.put, List.setIfInBounds_toArray, List.set_cons_zero, List.set_cons_succ, i64_w, i32_w]
       rfl
      refine pure_ (i := 4) (N := some 39) (v := ?_) (a' := ?_) #[true, true, true, true, true] rfl rfl (by kernel_rfl) (fun _ _ _ h => h) (Or.inl ⟨by rfl, ?_⟩) ?_ ?_
      rotate_left
      ·intro w'
       go_simp
       with_reducible rfl
      rotate_left
      ·simp only [Act.put, List.setIfInBounds_toArray, List.set_cons_zero, List.set_cons_succ, i64_w, i32_w]
       rfl
      refine done_ (by kernel_rfl) ?_
      try go_wp2
      have n0_ := zm4 (Kd.R_drew HO235.out)
      have n1_ := zm4 (Kd.S_drew HO238.out)
      have n2_ := zm4 (Kd.R_drew HO241.out)
      have n3_ := zm4 (Kd.S_drew HO244.out)
      have n4_ := zm4 (Kd.R_drew HO248.out)
      have n5_ := zm4 (Kd.S_drew HO251.out)
      have n6_ := zm4 (Kd.R_drew HO255.out)
      have n7_ := zm4 (Kd.S_drew HO258.out)
      have n8_ := zm4 (Kd.R_drew HO263.out)
      have n9_ := zm4 (Kd.S_drew HO266.out)
      have n10_ := zm4 (blk_drew BK229.out)
      have n11_ := zm4 (blk_drew BK230.out)
      have n12_ := zm4 (blk_drew BK252.out)
      have n13_ := zm4 (blk_drew BK259.out)
      have n14_ := zm4 (below_drew1 HB.out)
      clear HO235
      clear HO238
      clear HO241
      clear HO244
      clear HO248
      clear HO251
      clear HO255
      clear HO258
      clear HO263
      clear HO266
      clear BK229
      clear BK230
      clear BK252
      clear BK259
      clear HB
      have HO235 := n0_
      have HO238 := n1_
      have HO241 := n2_
      have HO244 := n3_
      have HO248 := n4_
      have HO251 := n5_
      have HO255 := n6_
      have HO258 := n7_
      have HO263 := n8_
      have HO266 := n9_
      have BK229 := n10_
      have BK230 := n11_
      have BK252 := n12_
      have BK259 := n13_
      have HB := n14_
      clear n0_ n1_ n2_ n3_ n4_ n5_ n6_ n7_ n8_ n9_ n10_ n11_ n12_ n13_ n14_
      refine start_ (n := 5) (S := fun w' => w'.cell? ⟨gb259, 0, none⟩ = some (.slice Ao92 t253.length co92) ∧ w'.cell? ⟨gb259, 1, none⟩ = some (.slice Ao97 t256.length co97) ∧ w'.cell? ⟨gb230, 0, none⟩ = some (.slice A1_0 l1_0.length c1_0) ∧ w'.cell? ⟨gb230, 1, none⟩ = some (.slice A1_1 l1_1.length c1_1)) (ds := []) #[false, false, false, false, false] (by kernel_rfl) rfl rfl ⟨(blk_cell BK259.out 0).trans rfl, (blk_cell BK259.out 1).trans rfl, (blk_cell BK230.out 0).trans rfl, (blk_cell BK230.out 1).trans rfl⟩ (fun hHeld => ?_)
      generalize w104.drew = w105 at HO235 HO238 HO241 HO244 HO248 HO251 HO255 HO258 HO263 HO266 BK229 BK230 BK252 BK259 HB hHeld ⊢
      refine take_ (i := 0) (N := some 40) (v := ?_) (a' := ?_) #[true, false, false, false, false] rfl rfl (by kernel_rfl) (fun _ _ _ h => h) (Or.inl ⟨by rfl, ?_⟩) hHeld ?_ ?_
      rotate_left
      ·rintro w' ⟨s0, s1, s2, s3⟩
       go_simp
       with_reducible rfl
      rotate_left
      ·simp only [Act.put, List.setIfInBounds_toArray, List.set_cons_zero, List.set_cons_succ, i64_w, i32_w]
       rfl
      refine take_ (i := 1) (N := some 41) (v := ?_) (a' := ?_) #[true, true, false, false, false] rfl rfl (by kernel_rfl) (fun _ _ _ h => h) (Or.inl ⟨by rfl, ?_⟩) hHeld ?_ ?_
      rotate_left
      ·rintro w' ⟨s0, s1, s2, s3⟩
       go_simp
       with_reducible rfl
      rotate_left
      ·simp only [Act.put, List.setIfInBounds_toArray, List.set_cons_zero, List.set_cons_succ, i64_w, i32_w]
       rfl
      refine one_ (i := 2) (N := some 42) #[true, true, true, false, false] rfl rfl (by kernel_rfl) (by decide) (fun K hK => ?_)
      refine goes_ Try.func14 (by kernel_rfl) rfl #[.agg #[.slice A1_0 l1_0.length c1_0, .slice A1_1 l1_1.length c1_1]] (by rfl) rfl rfl (by (try simp only [List.map_toArray, List.map_cons, List.map_nil]); first | done | rfl | (simp only [List.length_drop, List.length_take]; rfl)) ?_
      with_reducible refine (laws_toGuest.calls k _ _ l1_0 _ _ l1_1 t268 t271 _ ?side1 ?side2 ?side3 ?side4 A63.out).mono ?_
      (case side1 => repeat (first | exact (Kd.C_below HR1_0.out HB.out) | (with_reducible refine Kd.C_alloc ?_ _) | (with_reducible refine Kd.C_drewN ?_ _) | (with_reducible refine Kd.C_drew ?_)))
      (case side2 => exact HC1_0.out)
      (case side3 => repeat (first | exact (Kd.C_below HR1_1.out HB.out) | (with_reducible refine Kd.C_alloc ?_ _) | (with_reducible refine Kd.C_drewN ?_ _) | (with_reducible refine Kd.C_drew ?_)))
      (case side4 => exact HC1_1.out)
      rintro e w106 ⟨v269, v272, rfl, ho0, ho1, hb⟩
      refine ⟨_, rfl, ?_⟩
      have n0_ := zm4 (Kd.R_elder' (z4_4 HO235.out) (Kd.R_base ho0) hb)
      have n1_ := zm4 (Kd.S_mono (Kd.S_told (Kd.S_told (Kd.S_old (z4_5 HO238.out) hb) (Kd.R_base ho0)) (Kd.S_base ho1)) (fun _ h_ => h_.1))
      have n2_ := zm4 (Kd.R_elder' (z4_4 HO241.out) (Kd.R_base ho0) hb)
      have n3_ := zm4 (Kd.S_mono (Kd.S_told (Kd.S_told (Kd.S_old (z4_5 HO244.out) hb) (Kd.R_base ho0)) (Kd.S_base ho1)) (fun _ h_ => h_.1))
      have n4_ := zm4 (Kd.R_elder' (z4_4 HO248.out) (Kd.R_base ho0) hb)
      have n5_ := zm4 (Kd.S_mono (Kd.S_told (Kd.S_told (Kd.S_old (z4_5 HO251.out) hb) (Kd.R_base ho0)) (Kd.S_base ho1)) (fun _ h_ => h_.1))
      have n6_ := zm4 (Kd.R_elder' (z4_4 HO255.out) (Kd.R_base ho0) hb)
      have n7_ := zm4 (Kd.S_mono (Kd.S_told (Kd.S_told (Kd.S_old (z4_5 HO258.out) hb) (Kd.R_base ho0)) (Kd.S_base ho1)) (fun _ h_ => h_.1))
      have n8_ := zm4 (Kd.R_elder' (z4_4 HO263.out) (Kd.R_base ho0) hb)
      have n9_ := zm4 (Kd.S_mono (Kd.S_told (Kd.S_told (Kd.S_old (z4_5 HO266.out) hb) (Kd.R_base ho0)) (Kd.S_base ho1)) (fun _ h_ => h_.1))
      have n10_ := zm4 (Kd.R_lower (Kd.R_new' (Kd.R_new' (Kd.R_new' (Kd.R_new' (Kd.R_new' ho0 (Kd.R_lt (z4_4 HO235.out))) (Kd.R_lt (z4_4 HO241.out))) (Kd.R_lt (z4_4 HO248.out))) (Kd.R_lt (z4_4 HO255.out))) (Kd.R_lt (z4_4 HO263.out))) (below_size (z4_7 HB.out GE229.out GE230.out GE252.out GE259.out)))
      have n11_ := zm4 (Kd.S_lower (Kd.S_new' (Kd.S_new' (Kd.S_new' (Kd.S_new' (Kd.S_new' (Kd.S_new' (Kd.S_new' (Kd.S_new' (Kd.S_new' (Kd.S_new' ho1 (Kd.R_lt (z4_4 HO235.out))) (Kd.S_lt (z4_5 HO238.out))) (Kd.R_lt (z4_4 HO241.out))) (Kd.S_lt (z4_5 HO244.out))) (Kd.R_lt (z4_4 HO248.out))) (Kd.S_lt (z4_5 HO251.out))) (Kd.R_lt (z4_4 HO255.out))) (Kd.S_lt (z4_5 HO258.out))) (Kd.R_lt (z4_4 HO263.out))) (Kd.S_lt (z4_5 HO266.out))) (below_size (z4_7 HB.out GE229.out GE230.out GE252.out GE259.out)))
      have n12_ := zm4 (blk_below (g := gb229) (o := .cells #[.slice A0_0 l0_0.length c0_0, .slice A0_1 l0_1.length c0_1] 33 (0, 0)) (z4_1 BK229.out) hb)
      have n13_ := zm4 (blk_below (g := gb230) (o := .cells #[.slice A1_0 l1_0.length c1_0, .slice A1_1 l1_1.length c1_1] 33 (0, 0)) (z4_1 BK230.out) hb)
      have n14_ := zm4 (blk_below (g := gb252) (o := .cells #[.slice Ao84 t246.length co84, .slice Ao88 t249.length co88] 25 (0, 0)) (z4_1 BK252.out) hb)
      have n15_ := zm4 (blk_below (g := gb259) (o := .cells #[.slice Ao92 t253.length co92, .slice Ao97 t256.length co97] 25 (0, 0)) (z4_1 BK259.out) hb)
      have n16_ := zm4 (below_step (z4_7 HB.out GE229.out GE230.out GE252.out GE259.out) hb)
      clear HO235
      clear HO238
      clear HO241
      clear HO244
      clear HO248
      clear HO251
      clear HO255
      clear HO258
      clear HO263
      clear HO266
      clear BK229
      clear BK230
      clear BK252
      clear BK259
      clear HB
      have HO235 := n0_
      have HO238 := n1_
      have HO241 := n2_
      have HO244 := n3_
      have HO248 := n4_
      have HO251 := n5_
      have HO255 := n6_
      have HO258 := n7_
      have HO263 := n8_
      have HO266 := n9_
      have HO270 := n10_
      have HO273 := n11_
      have BK229 := n12_
      have BK230 := n13_
      have BK252 := n14_
      have BK259 := n15_
      have HB := n16_
      clear n0_ n1_ n2_ n3_ n4_ n5_ n6_ n7_ n8_ n9_ n10_ n11_ n12_ n13_ n14_ n15_ n16_
      (try clear hb)
      (try clear hb2)
      (try clear hk)
      (try clear hi)
      (try clear ho0)
      (try clear ho1)
      obtain ⟨Ao107, co107, eo107⟩ := Kd.R_slice HO270.out
      (first | subst eo107 | (injection eo107 with f1_ f2_ f3_; have f4_ := f1_.symm; have f5_ := f3_.symm; clear f1_ f2_ f3_; subst f4_; subst f5_))
      obtain ⟨Ao108, co108, eo108⟩ := Kd.S_slice HO273.out
      (first | subst eo108 | (injection eo108 with f1_ f2_ f3_; have f4_ := f1_.symm; have f5_ := f3_.symm; clear f1_ f2_ f3_; subst f4_; subst f5_))
      refine hK.out _ _ ⟨(blk_cell BK259.out 0).trans rfl, (blk_cell BK259.out 1).trans rfl, (blk_cell BK230.out 0).trans rfl, (blk_cell BK230.out 1).trans rfl⟩ (fun hHeld => ?_)
      clear hK K
      refine norm_ (a' := ?_) ?_ ?_
      rotate_left
      ·show Act.put _ (some 42) _ = _
       simp only [Act.put, List.setIfInBounds_toArray, List.set_cons_zero, List.set_cons_succ, i64_w, i32_w]
       rfl
      refine one_ (i := 3) (N := some 43) #[true, true, true, true, false] rfl rfl (by kernel_rfl) (by decide) (fun K hK => ?_)
      refine goes_ Try.func9 (by kernel_rfl) rfl #[.agg #[.slice Ao92 t253.length co92, .slice Ao97 t256.length co97], .agg #[.slice Ao107 t268.length co107, .slice Ao108 t271.length co108]] (by rfl) rfl rfl (by (try simp only [List.map_toArray, List.map_cons, List.map_nil]); first | done | rfl | (simp only [List.length_drop, List.length_take]; rfl)) ?_
      with_reducible refine (laws_eqGuest.calls k _ _ t253 _ _ t256 _ _ t268 _ _ t271 true _ ?side1 ?side2 ?side3 ?side4 ?side5 ?side6 ?side7 ?side8 A64.out).mono ?_
      (case side1 => repeat (first | exact (Kd.R_reads' HO255.out).2.2 | (with_reducible refine Kd.C_alloc ?_ _) | (with_reducible refine Kd.C_drewN ?_ _) | (with_reducible refine Kd.C_drew ?_)))
      (case side2 => exact (Kd.R_reads' HO255.out).2.1)
      (case side3 => repeat (first | exact (Kd.S_reads' HO258.out).2.2 | (with_reducible refine Kd.C_alloc ?_ _) | (with_reducible refine Kd.C_drewN ?_ _) | (with_reducible refine Kd.C_drew ?_)))
      (case side4 => exact (Kd.S_reads' HO258.out).2.1)
      (case side5 => repeat (first | exact (Kd.R_reads' HO270.out).2.2 | (with_reducible refine Kd.C_alloc ?_ _) | (with_reducible refine Kd.C_drewN ?_ _) | (with_reducible refine Kd.C_drew ?_)))
      (case side6 => exact (Kd.R_reads' HO270.out).2.1)
      (case side7 => repeat (first | exact (Kd.S_reads' HO273.out).2.2 | (with_reducible refine Kd.C_alloc ?_ _) | (with_reducible refine Kd.C_drewN ?_ _) | (with_reducible refine Kd.C_drew ?_)))
      (case side8 => exact (Kd.S_reads' HO273.out).2.1)
      rintro e w109 ⟨rfl, hb⟩
      refine ⟨_, rfl, ?_⟩
      have n0_ := zm4 (Kd.R_below (z4_4 HO235.out) hb)
      have n1_ := zm4 (Kd.S_below (z4_5 HO238.out) hb)
      have n2_ := zm4 (Kd.R_below (z4_4 HO241.out) hb)
      have n3_ := zm4 (Kd.S_below (z4_5 HO244.out) hb)
      have n4_ := zm4 (Kd.R_below (z4_4 HO248.out) hb)
      have n5_ := zm4 (Kd.S_below (z4_5 HO251.out) hb)
      have n6_ := zm4 (Kd.R_below (z4_4 HO255.out) hb)
      have n7_ := zm4 (Kd.S_below (z4_5 HO258.out) hb)
      have n8_ := zm4 (Kd.R_below (z4_4 HO263.out) hb)
      have n9_ := zm4 (Kd.S_below (z4_5 HO266.out) hb)
      have n10_ := zm4 (Kd.R_below (z4_4 HO270.out) hb)
      have n11_ := zm4 (Kd.S_below (z4_5 HO273.out) hb)
      have n12_ := zm4 (blk_below (g := gb229) (o := .cells #[.slice A0_0 l0_0.length c0_0, .slice A0_1 l0_1.length c0_1] 33 (0, 0)) (z4_1 BK229.out) hb)
      have n13_ := zm4 (blk_below (g := gb230) (o := .cells #[.slice A1_0 l1_0.length c1_0, .slice A1_1 l1_1.length c1_1] 33 (0, 0)) (z4_1 BK230.out) hb)
      have n14_ := zm4 (blk_below (g := gb252) (o := .cells #[.slice Ao84 t246.length co84, .slice Ao88 t249.length co88] 25 (0, 0)) (z4_1 BK252.out) hb)
      have n15_ := zm4 (blk_below (g := gb259) (o := .cells #[.slice Ao92 t253.length co92, .slice Ao97 t256.length co97] 25 (0, 0)) (z4_1 BK259.out) hb)
      have n16_ := zm4 (below_step (z4_7 HB.out GE229.out GE230.out GE252.out GE259.out) hb)
      clear HO235
      clear HO238
      clear HO241
      clear HO244
      clear HO248
      clear HO251
      clear HO255
      clear HO258
      clear HO263
      clear HO266
      clear HO270
      clear HO273
      clear BK229
      clear BK230
      clear BK252
      clear BK259
      clear HB
      have HO235 := n0_
      have HO238 := n1_
      have HO241 := n2_
      have HO244 := n3_
      have HO248 := n4_
      have HO251 := n5_
      have HO255 := n6_
      have HO258 := n7_
      have HO263 := n8_
      have HO266 := n9_
      have HO270 := n10_
      have HO273 := n11_
      have BK229 := n12_
      have BK230 := n13_
      have BK252 := n14_
      have BK259 := n15_
      have HB := n16_
      clear n0_ n1_ n2_ n3_ n4_ n5_ n6_ n7_ n8_ n9_ n10_ n11_ n12_ n13_ n14_ n15_ n16_
      (try clear hb)
      (try clear hb2)
      (try clear hk)
      (try clear hi)
      refine hK.out _ _ ⟨(blk_cell BK259.out 0).trans rfl, (blk_cell BK259.out 1).trans rfl, (blk_cell BK230.out 0).trans rfl, (blk_cell BK230.out 1).trans rfl⟩ (fun hHeld => ?_)
      clear hK K
      refine norm_ (a' := ?_) ?_ ?_
      rotate_left
      ·show Act.put _ (some 43) _ = _
       simp only [Act.put, List.setIfInBounds_toArray, List.set_cons_zero, List.set_cons_succ, i64_w, i32_w]
       rfl
      refine pure_ (i := 4) (N := some 44) (v := ?_) (a' := ?_) #[true, true, true, true, true] rfl rfl (by kernel_rfl) (fun _ _ _ h => h) (Or.inl ⟨by rfl, ?_⟩) ?_ ?_
      rotate_left
      ·intro w'
       go_simp
       with_reducible rfl
      rotate_left
      ·simp only [Act.put, List.setIfInBounds_toArray, List.set_cons_zero, List.set_cons_succ, i64_w, i32_w]
       rfl
      refine done_ (by kernel_rfl) ?_
      try go_wp2
      go_ret
      exact ⟨by first | rfl | (simp [errW_none, errW_some] <;> rfl) | (simp [*, errW_none, errW_some] <;> rfl), z4_7 HB.out GE229.out GE230.out GE252.out GE259.out⟩
     ·replace c65 := Bool.eq_false_iff.mpr c65
      subst c65
      have H1 : (some false) = some r := by rw [if_neg (show ¬ (false = true) by decide)] at H; exact H
      clear H
      have H := H1
      clear H1
      obtain rfl := Option.some.inj H
      go_enter Try.func4, Try.ntmps4
      try go_wp2_with (first | ((with_reducible refine gate_dst (N := 2) rfl ?_); refine box_event ?hg (N := 2) ?hd (cs := #[.slice A0_0 l0_0.length c0_0, .slice A0_1 l0_1.length c0_1]) (t := 33) ?hr ?_; (case hd => rfl); (case hg => rfl); (case hr => first | (go_simp; done) | (go_simp; rfl)); intro gb229 hg w110 hbox hb; have n0_ := zm4 (below_step (z4_0 HB.out) hb); have n1_ := zm4 (hbox); have n2_ := zm4 ((by rw [hg]; exact (below_size (z4_0 HB.out)) : w.heap.size ≤ gb229)); have n3_ := zm4 ((by rw [hg]; exact (below_size (z4_0 HB.out)) : w.heap.size ≤ gb229)); clear HB; have HB := n0_; have BK229 := n1_; have GW229 := n2_; have GE229 := n3_; clear n0_ n1_ n2_ n3_; clear hb hbox hg) | ((with_reducible refine gate_dst (N := 3) rfl ?_); refine box_event ?hg (N := 3) ?hd (cs := #[.slice A1_0 l1_0.length c1_0, .slice A1_1 l1_1.length c1_1]) (t := 33) ?hr ?_; (case hd => rfl); (case hg => rfl); (case hr => first | (go_simp; done) | (go_simp; rfl)); intro gb230 hg w111 hbox hb; have n0_ := zm4 (blk_below (g := gb229) (o := .cells #[.slice A0_0 l0_0.length c0_0, .slice A0_1 l0_1.length c0_1] 33 (0, 0)) (z4_1 BK229.out) hb); have n1_ := zm4 (below_step (z4_2 HB.out GE229.out) hb); have n2_ := zm4 (hbox); have n3_ := zm4 ((by rw [hg]; exact (below_size (z4_2 HB.out GE229.out)) : w.heap.size ≤ gb230)); have n4_ := zm4 ((by rw [hg]; exact (below_size (z4_2 HB.out GE229.out)) : w.heap.size ≤ gb230)); have n5_ := zm4 ((by rw [hg]; exact Nat.ne_of_lt (blk_lt (g := gb229) (o := .cells #[.slice A0_0 l0_0.length c0_0, .slice A0_1 l0_1.length c0_1] 33 (0, 0)) (z4_1 BK229.out)) : gb229 ≠ gb230)); have n6_ := zm4 ((by rw [hg]; exact Nat.ne_of_gt (blk_lt (g := gb229) (o := .cells #[.slice A0_0 l0_0.length c0_0, .slice A0_1 l0_1.length c0_1] 33 (0, 0)) (z4_1 BK229.out)) : gb230 ≠ gb229)); clear BK229; clear HB; have BK229 := n0_; have HB := n1_; have BK230 := n2_; have GW230 := n3_; have GE230 := n4_; have NB229_230 := n5_; have NB230_229 := n6_; clear n0_ n1_ n2_ n3_ n4_ n5_ n6_; clear hb hbox hg; have hnb112 := NB229_230.out; have hnc112 := NB230_229.out; have hcz113_0 : w111.cell? ⟨gb229, 0, none⟩ = some (.slice A0_0 l0_0.length c0_0) := (blk_cell BK229.out 0).trans rfl; have hcz113_1 : w111.cell? ⟨gb229, 1, none⟩ = some (.slice A0_1 l0_1.length c0_1) := (blk_cell BK229.out 1).trans rfl; have hfz113_0 := blk_frozen BK229.out 0; have hfz113_1 := blk_frozen BK229.out 1) | ((with_reducible refine gate_callee (f := 12) rfl ?_); refine goesL_ (some 12) rfl rfl Try.func12 (by kernel_rfl) rfl #[.agg #[.slice A0_0 l0_0.length c0_0, .slice A0_1 l0_1.length c0_1], .int .i64 1048576] rfl (by (try simp only [List.map_toArray, List.map_cons, List.map_nil]); first | done | rfl | (simp only [List.length_drop, List.length_take]; rfl)) ?_; (with_reducible refine (laws_szGuest.calls k _ _ l0_0 _ _ l0_1 1048576 t231 _ ?side1 ?side2 ?side3 ?side4 A3.out).mono ?_); (case side1 => repeat (first | exact (Kd.C_below HR0_0.out HB.out) | (with_reducible refine Kd.C_alloc ?_ _) | (with_reducible refine Kd.C_drewN ?_ _) | (with_reducible refine Kd.C_drew ?_))); (case side2 => exact HC0_0.out); (case side3 => repeat (first | exact (Kd.C_below HR0_1.out HB.out) | (with_reducible refine Kd.C_alloc ?_ _) | (with_reducible refine Kd.C_drewN ?_ _) | (with_reducible refine Kd.C_drew ?_))); (case side4 => exact HC0_1.out); rintro e w114 ⟨rfl, hb⟩; refine ⟨_, rfl, ?_⟩; have n0_ := zm4 (blk_below (g := gb229) (o := .cells #[.slice A0_0 l0_0.length c0_0, .slice A0_1 l0_1.length c0_1] 33 (0, 0)) (z4_1 BK229.out) hb); have n1_ := zm4 (blk_below (g := gb230) (o := .cells #[.slice A1_0 l1_0.length c1_0, .slice A1_1 l1_1.length c1_1] 33 (0, 0)) (z4_1 BK230.out) hb); have n2_ := zm4 (below_step (z4_3 HB.out GE229.out GE230.out) hb); clear BK229; clear BK230; clear HB; have BK229 := n0_; have BK230 := n1_; have HB := n2_; clear n0_ n1_ n2_; (try clear hb); (try clear hb2); (try clear hk); (try clear hi); have hcz115_0 : w114.cell? ⟨gb230, 0, none⟩ = some (.slice A1_0 l1_0.length c1_0) := (blk_cell BK230.out 0).trans rfl; have hcz115_1 : w114.cell? ⟨gb230, 1, none⟩ = some (.slice A1_1 l1_1.length c1_1) := (blk_cell BK230.out 1).trans rfl; have hfz115_0 := blk_frozen BK230.out 0; have hfz115_1 := blk_frozen BK230.out 1) | ((with_reducible refine gate_callee (f := 12) rfl ?_); refine goesL_ (some 17) rfl rfl Try.func12 (by kernel_rfl) rfl #[.agg #[.slice A1_0 l1_0.length c1_0, .slice A1_1 l1_1.length c1_1], .int .i64 t231] rfl (by (try simp only [List.map_toArray, List.map_cons, List.map_nil]); first | done | rfl | (simp only [List.length_drop, List.length_take]; rfl)) ?_; (with_reducible refine (laws_szGuest.calls k _ _ l1_0 _ _ l1_1 t231 t232 _ ?side1 ?side2 ?side3 ?side4 A10.out).mono ?_); (case side1 => repeat (first | exact (Kd.C_below HR1_0.out HB.out) | (with_reducible refine Kd.C_alloc ?_ _) | (with_reducible refine Kd.C_drewN ?_ _) | (with_reducible refine Kd.C_drew ?_))); (case side2 => exact HC1_0.out); (case side3 => repeat (first | exact (Kd.C_below HR1_1.out HB.out) | (with_reducible refine Kd.C_alloc ?_ _) | (with_reducible refine Kd.C_drewN ?_ _) | (with_reducible refine Kd.C_drew ?_))); (case side4 => exact HC1_1.out); rintro e w116 ⟨rfl, hb⟩; refine ⟨_, rfl, ?_⟩; have n0_ := zm4 (blk_below (g := gb229) (o := .cells #[.slice A0_0 l0_0.length c0_0, .slice A0_1 l0_1.length c0_1] 33 (0, 0)) (z4_1 BK229.out) hb); have n1_ := zm4 (blk_below (g := gb230) (o := .cells #[.slice A1_0 l1_0.length c1_0, .slice A1_1 l1_1.length c1_1] 33 (0, 0)) (z4_1 BK230.out) hb); have n2_ := zm4 (below_step (z4_3 HB.out GE229.out GE230.out) hb); clear BK229; clear BK230; clear HB; have BK229 := n0_; have BK230 := n1_; have HB := n2_; clear n0_ n1_ n2_; (try clear hb); (try clear hb2); (try clear hk); (try clear hi)))
      have n0_ := zm4 (blk_drew BK229.out)
      have n1_ := zm4 (blk_drew BK230.out)
      have n2_ := zm4 (below_drew1 HB.out)
      clear BK229
      clear BK230
      clear HB
      have BK229 := n0_
      have BK230 := n1_
      have HB := n2_
      clear n0_ n1_ n2_
      refine start_ (n := 6) (S := fun w' => w'.cell? ⟨gb229, 0, none⟩ = some (.slice A0_0 l0_0.length c0_0) ∧ w'.cell? ⟨gb229, 1, none⟩ = some (.slice A0_1 l0_1.length c0_1) ∧ w'.cell? ⟨gb230, 0, none⟩ = some (.slice A1_0 l1_0.length c1_0) ∧ w'.cell? ⟨gb230, 1, none⟩ = some (.slice A1_1 l1_1.length c1_1)) (ds := []) #[false, false, false, false, false, false] (by kernel_rfl) rfl rfl ⟨(blk_cell BK229.out 0).trans rfl, (blk_cell BK229.out 1).trans rfl, (blk_cell BK230.out 0).trans rfl, (blk_cell BK230.out 1).trans rfl⟩ (fun hHeld => ?_)
      generalize w116.drew = w117 at BK229 BK230 HB hHeld ⊢
      refine take_ (i := 0) (N := some 20) (v := ?_) (a' := ?_) #[true, false, false, false, false, false] rfl rfl (by kernel_rfl) (fun _ _ _ h => h) (Or.inl ⟨by rfl, ?_⟩) hHeld ?_ ?_
      rotate_left
      ·rintro w' ⟨s0, s1, s2, s3⟩
       go_simp
       with_reducible rfl
      rotate_left
      ·simp only [Act.put, List.setIfInBounds_toArray, List.set_cons_zero, List.set_cons_succ, i64_w, i32_w]
       rfl
      refine take_ (i := 2) (N := some 22) (v := ?_) (a' := ?_) #[true, false, true, false, false, false] rfl rfl (by kernel_rfl) (fun _ _ _ h => h) (Or.inl ⟨by rfl, ?_⟩) hHeld ?_ ?_
      rotate_left
      ·rintro w' ⟨s0, s1, s2, s3⟩
       go_simp
       with_reducible rfl
      rotate_left
      ·simp only [Act.put, List.setIfInBounds_toArray, List.set_cons_zero, List.set_cons_succ, i64_w, i32_w]
       rfl
      refine one_ (i := 1) (N := some 21) #[true, true, true, false, false, false] rfl rfl (by kernel_rfl) (by decide) (fun K hK => ?_)
      refine goes_ Try.func14 (by kernel_rfl) rfl #[.agg #[.slice A0_0 l0_0.length c0_0, .slice A0_1 l0_1.length c0_1]] (by rfl) rfl rfl (by (try simp only [List.map_toArray, List.map_cons, List.map_nil]); first | done | rfl | (simp only [List.length_drop, List.length_take]; rfl)) ?_
      with_reducible refine (laws_toGuest.calls k _ _ l0_0 _ _ l0_1 t233 t236 _ ?side1 ?side2 ?side3 ?side4 A19.out).mono ?_
      (case side1 => repeat (first | exact (Kd.C_below HR0_0.out HB.out) | (with_reducible refine Kd.C_alloc ?_ _) | (with_reducible refine Kd.C_drewN ?_ _) | (with_reducible refine Kd.C_drew ?_)))
      (case side2 => exact HC0_0.out)
      (case side3 => repeat (first | exact (Kd.C_below HR0_1.out HB.out) | (with_reducible refine Kd.C_alloc ?_ _) | (with_reducible refine Kd.C_drewN ?_ _) | (with_reducible refine Kd.C_drew ?_)))
      (case side4 => exact HC0_1.out)
      rintro e w118 ⟨v234, v237, rfl, ho0, ho1, hb⟩
      refine ⟨_, rfl, ?_⟩
      have n0_ := zm4 (Kd.R_lower ho0 (below_size (z4_3 HB.out GE229.out GE230.out)))
      have n1_ := zm4 (Kd.S_lower ho1 (below_size (z4_3 HB.out GE229.out GE230.out)))
      have n2_ := zm4 (blk_below (g := gb229) (o := .cells #[.slice A0_0 l0_0.length c0_0, .slice A0_1 l0_1.length c0_1] 33 (0, 0)) (z4_1 BK229.out) hb)
      have n3_ := zm4 (blk_below (g := gb230) (o := .cells #[.slice A1_0 l1_0.length c1_0, .slice A1_1 l1_1.length c1_1] 33 (0, 0)) (z4_1 BK230.out) hb)
      have n4_ := zm4 (below_step (z4_3 HB.out GE229.out GE230.out) hb)
      clear BK229
      clear BK230
      clear HB
      have HO235 := n0_
      have HO238 := n1_
      have BK229 := n2_
      have BK230 := n3_
      have HB := n4_
      clear n0_ n1_ n2_ n3_ n4_
      (try clear hb)
      (try clear hb2)
      (try clear hk)
      (try clear hi)
      (try clear ho0)
      (try clear ho1)
      refine hK.out _ _ ⟨(blk_cell BK229.out 0).trans rfl, (blk_cell BK229.out 1).trans rfl, (blk_cell BK230.out 0).trans rfl, (blk_cell BK230.out 1).trans rfl⟩ (fun hHeld => ?_)
      clear hK K
      refine norm_ (a' := ?_) ?_ ?_
      rotate_left
      ·show Act.put _ (some 21) _ = _
       simp only [Act.put, List.setIfInBounds_toArray, List.set_cons_zero, List.set_cons_succ, i64_w, i32_w]
       rfl
      refine one_ (i := 3) (N := some 23) #[true, true, true, true, false, false] rfl rfl (by kernel_rfl) (by decide) (fun K hK => ?_)
      refine goes_ Try.func14 (by kernel_rfl) rfl #[.agg #[.slice A1_0 l1_0.length c1_0, .slice A1_1 l1_1.length c1_1]] (by rfl) rfl rfl (by (try simp only [List.map_toArray, List.map_cons, List.map_nil]); first | done | rfl | (simp only [List.length_drop, List.length_take]; rfl)) ?_
      with_reducible refine (laws_toGuest.calls k _ _ l1_0 _ _ l1_1 t239 t242 _ ?side1 ?side2 ?side3 ?side4 A20.out).mono ?_
      (case side1 => repeat (first | exact (Kd.C_below HR1_0.out HB.out) | (with_reducible refine Kd.C_alloc ?_ _) | (with_reducible refine Kd.C_drewN ?_ _) | (with_reducible refine Kd.C_drew ?_)))
      (case side2 => exact HC1_0.out)
      (case side3 => repeat (first | exact (Kd.C_below HR1_1.out HB.out) | (with_reducible refine Kd.C_alloc ?_ _) | (with_reducible refine Kd.C_drewN ?_ _) | (with_reducible refine Kd.C_drew ?_)))
      (case side4 => exact HC1_1.out)
      rintro e w119 ⟨v240, v243, rfl, ho0, ho1, hb⟩
      refine ⟨_, rfl, ?_⟩
      have n0_ := zm4 (Kd.R_elder' (z4_4 HO235.out) (Kd.R_base ho0) hb)
      have n1_ := zm4 (Kd.S_mono (Kd.S_told (Kd.S_told (Kd.S_old (z4_5 HO238.out) hb) (Kd.R_base ho0)) (Kd.S_base ho1)) (fun _ h_ => h_.1))
      have n2_ := zm4 (Kd.R_lower (Kd.R_new' ho0 (Kd.R_lt (z4_4 HO235.out))) (below_size (z4_3 HB.out GE229.out GE230.out)))
      have n3_ := zm4 (Kd.S_lower (Kd.S_new' (Kd.S_new' ho1 (Kd.R_lt (z4_4 HO235.out))) (Kd.S_lt (z4_5 HO238.out))) (below_size (z4_3 HB.out GE229.out GE230.out)))
      have n4_ := zm4 (blk_below (g := gb229) (o := .cells #[.slice A0_0 l0_0.length c0_0, .slice A0_1 l0_1.length c0_1] 33 (0, 0)) (z4_1 BK229.out) hb)
      have n5_ := zm4 (blk_below (g := gb230) (o := .cells #[.slice A1_0 l1_0.length c1_0, .slice A1_1 l1_1.length c1_1] 33 (0, 0)) (z4_1 BK230.out) hb)
      have n6_ := zm4 (below_step (z4_3 HB.out GE229.out GE230.out) hb)
      clear HO235
      clear HO238
      clear BK229
      clear BK230
      clear HB
      have HO235 := n0_
      have HO238 := n1_
      have HO241 := n2_
      have HO244 := n3_
      have BK229 := n4_
      have BK230 := n5_
      have HB := n6_
      clear n0_ n1_ n2_ n3_ n4_ n5_ n6_
      (try clear hb)
      (try clear hb2)
      (try clear hk)
      (try clear hi)
      (try clear ho0)
      (try clear ho1)
      obtain ⟨Ao120, co120, eo120⟩ := Kd.R_slice HO235.out
      (first | subst eo120 | (injection eo120 with f1_ f2_ f3_; have f4_ := f1_.symm; have f5_ := f3_.symm; clear f1_ f2_ f3_; subst f4_; subst f5_))
      obtain ⟨Ao121, co121, eo121⟩ := Kd.S_slice HO238.out
      (first | subst eo121 | (injection eo121 with f1_ f2_ f3_; have f4_ := f1_.symm; have f5_ := f3_.symm; clear f1_ f2_ f3_; subst f4_; subst f5_))
      obtain ⟨Ao122, co122, eo122⟩ := Kd.R_slice HO241.out
      (first | subst eo122 | (injection eo122 with f1_ f2_ f3_; have f4_ := f1_.symm; have f5_ := f3_.symm; clear f1_ f2_ f3_; subst f4_; subst f5_))
      obtain ⟨Ao123, co123, eo123⟩ := Kd.S_slice HO244.out
      (first | subst eo123 | (injection eo123 with f1_ f2_ f3_; have f4_ := f1_.symm; have f5_ := f3_.symm; clear f1_ f2_ f3_; subst f4_; subst f5_))
      refine hK.out _ _ ⟨(blk_cell BK229.out 0).trans rfl, (blk_cell BK229.out 1).trans rfl, (blk_cell BK230.out 0).trans rfl, (blk_cell BK230.out 1).trans rfl⟩ (fun hHeld => ?_)
      clear hK K
      refine norm_ (a' := ?_) ?_ ?_
      rotate_left
      ·show Act.put _ (some 23) _ = _
       simp only [Act.put, List.setIfInBounds_toArray, List.set_cons_zero, List.set_cons_succ, i64_w, i32_w]
       rfl
      refine one_ (i := 4) (N := some 24) #[true, true, true, true, true, false] rfl rfl (by kernel_rfl) (by decide) (fun K hK => ?_)
      refine goes_ Try.func13 (by kernel_rfl) rfl #[.agg #[.slice Ao120 t233.length co120, .slice Ao121 t236.length co121], .agg #[.slice Ao122 t239.length co122, .slice Ao123 t242.length co123]] (by rfl) rfl rfl (by (try simp only [List.map_toArray, List.map_cons, List.map_nil]); first | done | rfl | (simp only [List.length_drop, List.length_take]; rfl)) ?_
      with_reducible refine (spec_SameGuest.calls k _ _ t233 _ _ t236 _ _ t239 _ _ t242 t245 _ ?side1 ?side2 ?side3 ?side4 ?side5 ?side6 ?side7 ?side8 A21.out).mono ?_
      (case side1 => repeat (first | exact (Kd.R_reads' HO235.out).2.2 | (with_reducible refine Kd.C_alloc ?_ _) | (with_reducible refine Kd.C_drewN ?_ _) | (with_reducible refine Kd.C_drew ?_)))
      (case side2 => exact (Kd.R_reads' HO235.out).2.1)
      (case side3 => repeat (first | exact (Kd.S_reads' HO238.out).2.2 | (with_reducible refine Kd.C_alloc ?_ _) | (with_reducible refine Kd.C_drewN ?_ _) | (with_reducible refine Kd.C_drew ?_)))
      (case side4 => exact (Kd.S_reads' HO238.out).2.1)
      (case side5 => repeat (first | exact (Kd.R_reads' HO241.out).2.2 | (with_reducible refine Kd.C_alloc ?_ _) | (with_reducible refine Kd.C_drewN ?_ _) | (with_reducible refine Kd.C_drew ?_)))
      (case side6 => exact (Kd.R_reads' HO241.out).2.1)
      (case side7 => repeat (first | exact (Kd.S_reads' HO244.out).2.2 | (with_reducible refine Kd.C_alloc ?_ _) | (with_reducible refine Kd.C_drewN ?_ _) | (with_reducible refine Kd.C_drew ?_)))
      (case side8 => exact (Kd.S_reads' HO244.out).2.1)
      rintro e w124 ⟨rfl, hb⟩
      refine ⟨_, rfl, ?_⟩
      have n0_ := zm4 (Kd.R_below (z4_4 HO235.out) hb)
      have n1_ := zm4 (Kd.S_below (z4_5 HO238.out) hb)
      have n2_ := zm4 (Kd.R_below (z4_4 HO241.out) hb)
      have n3_ := zm4 (Kd.S_below (z4_5 HO244.out) hb)
      have n4_ := zm4 (blk_below (g := gb229) (o := .cells #[.slice A0_0 l0_0.length c0_0, .slice A0_1 l0_1.length c0_1] 33 (0, 0)) (z4_1 BK229.out) hb)
      have n5_ := zm4 (blk_below (g := gb230) (o := .cells #[.slice A1_0 l1_0.length c1_0, .slice A1_1 l1_1.length c1_1] 33 (0, 0)) (z4_1 BK230.out) hb)
      have n6_ := zm4 (below_step (z4_3 HB.out GE229.out GE230.out) hb)
      clear HO235
      clear HO238
      clear HO241
      clear HO244
      clear BK229
      clear BK230
      clear HB
      have HO235 := n0_
      have HO238 := n1_
      have HO241 := n2_
      have HO244 := n3_
      have BK229 := n4_
      have BK230 := n5_
      have HB := n6_
      clear n0_ n1_ n2_ n3_ n4_ n5_ n6_
      (try clear hb)
      (try clear hb2)
      (try clear hk)
      (try clear hi)
      refine hK.out _ _ ⟨(blk_cell BK229.out 0).trans rfl, (blk_cell BK229.out 1).trans rfl, (blk_cell BK230.out 0).trans rfl, (blk_cell BK230.out 1).trans rfl⟩ (fun hHeld => ?_)
      clear hK K
      refine norm_ (a' := ?_) ?_ ?_
      rotate_left
      ·show Act.put _ (some 24) _ = _
       simp only [Act.put, List.setIfInBounds_toArray, List.set_cons_zero, List.set_cons_succ, i64_w, i32_w]
       rfl
      refine pure_ (i := 5) (N := some 6) (v := ?_) (a' := ?_) #[true, true, true, true, true, true] rfl rfl (by kernel_rfl) (fun _ _ _ h => h) (Or.inl ⟨by rfl, ?_⟩) ?_ ?_
      rotate_left
      ·intro w'
       go_simp
       with_reducible rfl
      rotate_left
      ·simp only [Act.put, List.setIfInBounds_toArray, List.set_cons_zero, List.set_cons_succ, i64_w, i32_w]
       rfl
      refine done_ (by kernel_rfl) ?_
      have hcz125_0 : w124.cell? ⟨gb229, 0, none⟩ = some (.slice A0_0 l0_0.length c0_0) := (blk_cell BK229.out 0).trans rfl
      have hcz125_1 : w124.cell? ⟨gb229, 1, none⟩ = some (.slice A0_1 l0_1.length c0_1) := (blk_cell BK229.out 1).trans rfl
      have hfz125_0 := blk_frozen BK229.out 0
      have hfz125_1 := blk_frozen BK229.out 1
      try go_wp2_with (first | ((with_reducible refine gate_callee (f := 14) rfl ?_); refine goesL_ (some 26) rfl rfl Try.func14 (by kernel_rfl) rfl #[.agg #[.slice A0_0 l0_0.length c0_0, .slice A0_1 l0_1.length c0_1]] rfl (by (try simp only [List.map_toArray, List.map_cons, List.map_nil]); first | done | rfl | (simp only [List.length_drop, List.length_take]; rfl)) ?_; (with_reducible refine (laws_toGuest.calls k _ _ l0_0 _ _ l0_1 t246 t249 _ ?side1 ?side2 ?side3 ?side4 A22.out).mono ?_); (case side1 => repeat (first | exact (Kd.C_below HR0_0.out HB.out) | (with_reducible refine Kd.C_alloc ?_ _) | (with_reducible refine Kd.C_drewN ?_ _) | (with_reducible refine Kd.C_drew ?_))); (case side2 => exact HC0_0.out); (case side3 => repeat (first | exact (Kd.C_below HR0_1.out HB.out) | (with_reducible refine Kd.C_alloc ?_ _) | (with_reducible refine Kd.C_drewN ?_ _) | (with_reducible refine Kd.C_drew ?_))); (case side4 => exact HC0_1.out); rintro e w126 ⟨v247, v250, rfl, ho0, ho1, hb⟩; refine ⟨_, rfl, ?_⟩; have n0_ := zm4 (Kd.R_elder' (z4_4 HO235.out) (Kd.R_base ho0) hb); have n1_ := zm4 (Kd.S_mono (Kd.S_told (Kd.S_told (Kd.S_old (z4_5 HO238.out) hb) (Kd.R_base ho0)) (Kd.S_base ho1)) (fun _ h_ => h_.1)); have n2_ := zm4 (Kd.R_elder' (z4_4 HO241.out) (Kd.R_base ho0) hb); have n3_ := zm4 (Kd.S_mono (Kd.S_told (Kd.S_told (Kd.S_old (z4_5 HO244.out) hb) (Kd.R_base ho0)) (Kd.S_base ho1)) (fun _ h_ => h_.1)); have n4_ := zm4 (Kd.R_lower (Kd.R_new' (Kd.R_new' ho0 (Kd.R_lt (z4_4 HO235.out))) (Kd.R_lt (z4_4 HO241.out))) (below_size (z4_3 HB.out GE229.out GE230.out))); have n5_ := zm4 (Kd.S_lower (Kd.S_new' (Kd.S_new' (Kd.S_new' (Kd.S_new' ho1 (Kd.R_lt (z4_4 HO235.out))) (Kd.S_lt (z4_5 HO238.out))) (Kd.R_lt (z4_4 HO241.out))) (Kd.S_lt (z4_5 HO244.out))) (below_size (z4_3 HB.out GE229.out GE230.out))); have n6_ := zm4 (blk_below (g := gb229) (o := .cells #[.slice A0_0 l0_0.length c0_0, .slice A0_1 l0_1.length c0_1] 33 (0, 0)) (z4_1 BK229.out) hb); have n7_ := zm4 (blk_below (g := gb230) (o := .cells #[.slice A1_0 l1_0.length c1_0, .slice A1_1 l1_1.length c1_1] 33 (0, 0)) (z4_1 BK230.out) hb); have n8_ := zm4 (below_step (z4_3 HB.out GE229.out GE230.out) hb); clear HO235; clear HO238; clear HO241; clear HO244; clear BK229; clear BK230; clear HB; have HO235 := n0_; have HO238 := n1_; have HO241 := n2_; have HO244 := n3_; have HO248 := n4_; have HO251 := n5_; have BK229 := n6_; have BK230 := n7_; have HB := n8_; clear n0_ n1_ n2_ n3_ n4_ n5_ n6_ n7_ n8_; (try clear hb); (try clear hb2); (try clear hk); (try clear hi); (try clear ho0); (try clear ho1)) | ((with_reducible refine gate_dst (N := 7) rfl ?_); refine box_event ?hg (N := 7) ?hd (cs := #[.slice none 0 0, .slice none 0 0]) (t := 25) ?hr ?_; (case hd => rfl); (case hg => rfl); (case hr => first | (go_simp; done) | (go_simp; rfl)); intro gb252 hg w127 hbox hb; have n0_ := zm4 (Kd.R_below (z4_4 HO235.out) hb); have n1_ := zm4 (Kd.S_below (z4_5 HO238.out) hb); have n2_ := zm4 (Kd.R_below (z4_4 HO241.out) hb); have n3_ := zm4 (Kd.S_below (z4_5 HO244.out) hb); have n4_ := zm4 (Kd.R_below (z4_4 HO248.out) hb); have n5_ := zm4 (Kd.S_below (z4_5 HO251.out) hb); have n6_ := zm4 (blk_below (g := gb229) (o := .cells #[.slice A0_0 l0_0.length c0_0, .slice A0_1 l0_1.length c0_1] 33 (0, 0)) (z4_1 BK229.out) hb); have n7_ := zm4 (blk_below (g := gb230) (o := .cells #[.slice A1_0 l1_0.length c1_0, .slice A1_1 l1_1.length c1_1] 33 (0, 0)) (z4_1 BK230.out) hb); have n8_ := zm4 (below_step (z4_3 HB.out GE229.out GE230.out) hb); have n9_ := zm4 (hbox); have n10_ := zm4 ((by rw [hg]; exact (below_size (z4_3 HB.out GE229.out GE230.out)) : w.heap.size ≤ gb252)); have n11_ := zm4 ((by rw [hg]; exact (below_size (z4_3 HB.out GE229.out GE230.out)) : w.heap.size ≤ gb252)); have n12_ := zm4 ((by rw [hg]; exact Nat.ne_of_lt (blk_lt (g := gb229) (o := .cells #[.slice A0_0 l0_0.length c0_0, .slice A0_1 l0_1.length c0_1] 33 (0, 0)) (z4_1 BK229.out)) : gb229 ≠ gb252)); have n13_ := zm4 ((by rw [hg]; exact Nat.ne_of_gt (blk_lt (g := gb229) (o := .cells #[.slice A0_0 l0_0.length c0_0, .slice A0_1 l0_1.length c0_1] 33 (0, 0)) (z4_1 BK229.out)) : gb252 ≠ gb229)); have n14_ := zm4 ((by rw [hg]; exact Nat.ne_of_lt (blk_lt (g := gb230) (o := .cells #[.slice A1_0 l1_0.length c1_0, .slice A1_1 l1_1.length c1_1] 33 (0, 0)) (z4_1 BK230.out)) : gb230 ≠ gb252)); have n15_ := zm4 ((by rw [hg]; exact Nat.ne_of_gt (blk_lt (g := gb230) (o := .cells #[.slice A1_0 l1_0.length c1_0, .slice A1_1 l1_1.length c1_1] 33 (0, 0)) (z4_1 BK230.out)) : gb252 ≠ gb230)); clear HO235; clear HO238; clear HO241; clear HO244; clear HO248; clear HO251; clear BK229; clear BK230; clear HB; have HO235 := n0_; have HO238 := n1_; have HO241 := n2_; have HO244 := n3_; have HO248 := n4_; have HO251 := n5_; have BK229 := n6_; have BK230 := n7_; have HB := n8_; have BK252 := n9_; have GW252 := n10_; have GE252 := n11_; have NB229_252 := n12_; have NB252_229 := n13_; have NB230_252 := n14_; have NB252_230 := n15_; clear n0_ n1_ n2_ n3_ n4_ n5_ n6_ n7_ n8_ n9_ n10_ n11_ n12_ n13_ n14_ n15_; clear hb hbox hg; obtain ⟨Ao128, co128, eo128⟩ := Kd.R_slice HO248.out; subst eo128; have hnb129 := NB252_229.out; have hnc129 := NB229_252.out; have hnb130 := NB252_230.out; have hnc130 := NB230_252.out; have hcz131_0 : w127.cell? ⟨gb252, 0, none⟩ = some (.slice none 0 0) := (blk_cell BK252.out 0).trans rfl; have hcz131_1 : w127.cell? ⟨gb252, 1, none⟩ = some (.slice none 0 0) := (blk_cell BK252.out 1).trans rfl; have hfz131_0 := blk_frozen BK252.out 0; have hfz131_1 := blk_frozen BK252.out 1; obtain ⟨Ao132, co132, eo132⟩ := Kd.S_slice HO251.out; subst eo132; have hcz133_0 : w127.cell? ⟨gb230, 0, none⟩ = some (.slice A1_0 l1_0.length c1_0) := (blk_cell BK230.out 0).trans rfl; have hcz133_1 : w127.cell? ⟨gb230, 1, none⟩ = some (.slice A1_1 l1_1.length c1_1) := (blk_cell BK230.out 1).trans rfl; have hfz133_0 := blk_frozen BK230.out 0; have hfz133_1 := blk_frozen BK230.out 1) | ((with_reducible refine gate_callee (f := 14) rfl ?_); refine goesL_ (some 28) rfl rfl Try.func14 (by kernel_rfl) rfl #[.agg #[.slice A1_0 l1_0.length c1_0, .slice A1_1 l1_1.length c1_1]] rfl (by (try simp only [List.map_toArray, List.map_cons, List.map_nil]); first | done | rfl | (simp only [List.length_drop, List.length_take]; rfl)) ?_; (with_reducible refine (laws_toGuest.calls k _ _ l1_0 _ _ l1_1 t253 t256 _ ?side1 ?side2 ?side3 ?side4 A23.out).mono ?_); (case side1 => exact Kd.C_below HR1_0.out (z4_6 HB.out GE229.out GE230.out GE252.out)); (case side2 => exact HC1_0.out); (case side3 => exact Kd.C_below HR1_1.out (z4_6 HB.out GE229.out GE230.out GE252.out)); (case side4 => exact HC1_1.out); rintro e w134 ⟨v254, v257, rfl, ho0, ho1, hb⟩; refine ⟨_, rfl, ?_⟩; have n0_ := zm4 (Kd.R_elder' (by (with_reducible repeat (first | apply Kd.R_alloc | apply Kd.R_drewN | apply Kd.R_drew)); exact (Kd.R_mono (Kd.R_far (p := ⟨gb252, 1, none⟩) (Kd.R_far (p := ⟨gb252, 0, none⟩) (Kd.R_types HO235.out BK252.out (by decide)) (fun _ hk => hk.2) (.slice Ao128 t246.length co128)) (fun _ hk => hk.2) (.slice Ao132 t249.length co132)) (fun _ h_ => h_.1))) (Kd.R_base ho0) hb); have n1_ := zm4 (Kd.S_mono (Kd.S_told (Kd.S_told (Kd.S_old (by (with_reducible repeat (first | apply Kd.S_alloc | apply Kd.S_drewN | apply Kd.S_drew)); exact (Kd.S_mono (Kd.S_far (p := ⟨gb252, 1, none⟩) (Kd.S_far (p := ⟨gb252, 0, none⟩) (Kd.S_types HO238.out BK252.out (by decide)) (fun _ hk => hk.2) (.slice Ao128 t246.length co128)) (fun _ hk => hk.2) (.slice Ao132 t249.length co132)) (fun _ h_ => h_.1))) hb) (Kd.R_base ho0)) (Kd.S_base ho1)) (fun _ h_ => h_.1)); have n2_ := zm4 (Kd.R_elder' (by (with_reducible repeat (first | apply Kd.R_alloc | apply Kd.R_drewN | apply Kd.R_drew)); exact (Kd.R_mono (Kd.R_far (p := ⟨gb252, 1, none⟩) (Kd.R_far (p := ⟨gb252, 0, none⟩) (Kd.R_types HO241.out BK252.out (by decide)) (fun _ hk => hk.2) (.slice Ao128 t246.length co128)) (fun _ hk => hk.2) (.slice Ao132 t249.length co132)) (fun _ h_ => h_.1))) (Kd.R_base ho0) hb); have n3_ := zm4 (Kd.S_mono (Kd.S_told (Kd.S_told (Kd.S_old (by (with_reducible repeat (first | apply Kd.S_alloc | apply Kd.S_drewN | apply Kd.S_drew)); exact (Kd.S_mono (Kd.S_far (p := ⟨gb252, 1, none⟩) (Kd.S_far (p := ⟨gb252, 0, none⟩) (Kd.S_types HO244.out BK252.out (by decide)) (fun _ hk => hk.2) (.slice Ao128 t246.length co128)) (fun _ hk => hk.2) (.slice Ao132 t249.length co132)) (fun _ h_ => h_.1))) hb) (Kd.R_base ho0)) (Kd.S_base ho1)) (fun _ h_ => h_.1)); have n4_ := zm4 (Kd.R_elder' (by (with_reducible repeat (first | apply Kd.R_alloc | apply Kd.R_drewN | apply Kd.R_drew)); exact (Kd.R_mono (Kd.R_far (p := ⟨gb252, 1, none⟩) (Kd.R_far (p := ⟨gb252, 0, none⟩) (Kd.R_types HO248.out BK252.out (by decide)) (fun _ hk => hk.2) (.slice Ao128 t246.length co128)) (fun _ hk => hk.2) (.slice Ao132 t249.length co132)) (fun _ h_ => h_.1))) (Kd.R_base ho0) hb); have n5_ := zm4 (Kd.S_mono (Kd.S_told (Kd.S_told (Kd.S_old (by (with_reducible repeat (first | apply Kd.S_alloc | apply Kd.S_drewN | apply Kd.S_drew)); exact (Kd.S_mono (Kd.S_far (p := ⟨gb252, 1, none⟩) (Kd.S_far (p := ⟨gb252, 0, none⟩) (Kd.S_types HO251.out BK252.out (by decide)) (fun _ hk => hk.2) (.slice Ao128 t246.length co128)) (fun _ hk => hk.2) (.slice Ao132 t249.length co132)) (fun _ h_ => h_.1))) hb) (Kd.R_base ho0)) (Kd.S_base ho1)) (fun _ h_ => h_.1)); have n6_ := zm4 (Kd.R_lower (Kd.R_new' (Kd.R_new' (Kd.R_new' ho0 (Kd.R_lt (by (with_reducible repeat (first | apply Kd.R_alloc | apply Kd.R_drewN | apply Kd.R_drew)); exact (Kd.R_mono (Kd.R_far (p := ⟨gb252, 1, none⟩) (Kd.R_far (p := ⟨gb252, 0, none⟩) (Kd.R_types HO235.out BK252.out (by decide)) (fun _ hk => hk.2) (.slice Ao128 t246.length co128)) (fun _ hk => hk.2) (.slice Ao132 t249.length co132)) (fun _ h_ => h_.1))))) (Kd.R_lt (by (with_reducible repeat (first | apply Kd.R_alloc | apply Kd.R_drewN | apply Kd.R_drew)); exact (Kd.R_mono (Kd.R_far (p := ⟨gb252, 1, none⟩) (Kd.R_far (p := ⟨gb252, 0, none⟩) (Kd.R_types HO241.out BK252.out (by decide)) (fun _ hk => hk.2) (.slice Ao128 t246.length co128)) (fun _ hk => hk.2) (.slice Ao132 t249.length co132)) (fun _ h_ => h_.1))))) (Kd.R_lt (by (with_reducible repeat (first | apply Kd.R_alloc | apply Kd.R_drewN | apply Kd.R_drew)); exact (Kd.R_mono (Kd.R_far (p := ⟨gb252, 1, none⟩) (Kd.R_far (p := ⟨gb252, 0, none⟩) (Kd.R_types HO248.out BK252.out (by decide)) (fun _ hk => hk.2) (.slice Ao128 t246.length co128)) (fun _ hk => hk.2) (.slice Ao132 t249.length co132)) (fun _ h_ => h_.1))))) (below_size (z4_6 HB.out GE229.out GE230.out GE252.out))); have n7_ := zm4 (Kd.S_lower (Kd.S_new' (Kd.S_new' (Kd.S_new' (Kd.S_new' (Kd.S_new' (Kd.S_new' ho1 (Kd.R_lt (by (with_reducible repeat (first | apply Kd.R_alloc | apply Kd.R_drewN | apply Kd.R_drew)); exact (Kd.R_mono (Kd.R_far (p := ⟨gb252, 1, none⟩) (Kd.R_far (p := ⟨gb252, 0, none⟩) (Kd.R_types HO235.out BK252.out (by decide)) (fun _ hk => hk.2) (.slice Ao128 t246.length co128)) (fun _ hk => hk.2) (.slice Ao132 t249.length co132)) (fun _ h_ => h_.1))))) (Kd.S_lt (by (with_reducible repeat (first | apply Kd.S_alloc | apply Kd.S_drewN | apply Kd.S_drew)); exact (Kd.S_mono (Kd.S_far (p := ⟨gb252, 1, none⟩) (Kd.S_far (p := ⟨gb252, 0, none⟩) (Kd.S_types HO238.out BK252.out (by decide)) (fun _ hk => hk.2) (.slice Ao128 t246.length co128)) (fun _ hk => hk.2) (.slice Ao132 t249.length co132)) (fun _ h_ => h_.1))))) (Kd.R_lt (by (with_reducible repeat (first | apply Kd.R_alloc | apply Kd.R_drewN | apply Kd.R_drew)); exact (Kd.R_mono (Kd.R_far (p := ⟨gb252, 1, none⟩) (Kd.R_far (p := ⟨gb252, 0, none⟩) (Kd.R_types HO241.out BK252.out (by decide)) (fun _ hk => hk.2) (.slice Ao128 t246.length co128)) (fun _ hk => hk.2) (.slice Ao132 t249.length co132)) (fun _ h_ => h_.1))))) (Kd.S_lt (by (with_reducible repeat (first | apply Kd.S_alloc | apply Kd.S_drewN | apply Kd.S_drew)); exact (Kd.S_mono (Kd.S_far (p := ⟨gb252, 1, none⟩) (Kd.S_far (p := ⟨gb252, 0, none⟩) (Kd.S_types HO244.out BK252.out (by decide)) (fun _ hk => hk.2) (.slice Ao128 t246.length co128)) (fun _ hk => hk.2) (.slice Ao132 t249.length co132)) (fun _ h_ => h_.1))))) (Kd.R_lt (by (with_reducible repeat (first | apply Kd.R_alloc | apply Kd.R_drewN | apply Kd.R_drew)); exact (Kd.R_mono (Kd.R_far (p := ⟨gb252, 1, none⟩) (Kd.R_far (p := ⟨gb252, 0, none⟩) (Kd.R_types HO248.out BK252.out (by decide)) (fun _ hk => hk.2) (.slice Ao128 t246.length co128)) (fun _ hk => hk.2) (.slice Ao132 t249.length co132)) (fun _ h_ => h_.1))))) (Kd.S_lt (by (with_reducible repeat (first | apply Kd.S_alloc | apply Kd.S_drewN | apply Kd.S_drew)); exact (Kd.S_mono (Kd.S_far (p := ⟨gb252, 1, none⟩) (Kd.S_far (p := ⟨gb252, 0, none⟩) (Kd.S_types HO251.out BK252.out (by decide)) (fun _ hk => hk.2) (.slice Ao128 t246.length co128)) (fun _ hk => hk.2) (.slice Ao132 t249.length co132)) (fun _ h_ => h_.1))))) (below_size (z4_6 HB.out GE229.out GE230.out GE252.out))); have n8_ := zm4 (blk_below (g := gb229) (o := .cells #[.slice A0_0 l0_0.length c0_0, .slice A0_1 l0_1.length c0_1] 33 (0, 0)) (by (with_reducible repeat (first | refine blk_drewN ?_ _ | refine blk_drew ?_ | refine blk_alloc ?_ _)); refine blk_far ?_ NB229_252.out _; (with_reducible repeat (first | refine blk_drewN ?_ _ | refine blk_drew ?_ | refine blk_alloc ?_ _)); refine blk_far ?_ NB229_252.out _; (with_reducible repeat (first | refine blk_drewN ?_ _ | refine blk_drew ?_ | refine blk_alloc ?_ _)); exact BK229.out) hb); have n9_ := zm4 (blk_below (g := gb230) (o := .cells #[.slice A1_0 l1_0.length c1_0, .slice A1_1 l1_1.length c1_1] 33 (0, 0)) (by (with_reducible repeat (first | refine blk_drewN ?_ _ | refine blk_drew ?_ | refine blk_alloc ?_ _)); refine blk_far ?_ NB230_252.out _; (with_reducible repeat (first | refine blk_drewN ?_ _ | refine blk_drew ?_ | refine blk_alloc ?_ _)); refine blk_far ?_ NB230_252.out _; (with_reducible repeat (first | refine blk_drewN ?_ _ | refine blk_drew ?_ | refine blk_alloc ?_ _)); exact BK230.out) hb); have n10_ := zm4 (blk_below (g := gb252) (o := .cells #[.slice Ao128 t246.length co128, .slice Ao132 t249.length co132] 25 (0, 0)) (by (with_reducible repeat (first | refine blk_drewN ?_ _ | refine blk_drew ?_ | refine blk_alloc ?_ _)); refine blk_put (cs := #[.slice Ao128 t246.length co128, .slice none 0 0]) ?_ 1 _ rfl; (with_reducible repeat (first | refine blk_drewN ?_ _ | refine blk_drew ?_ | refine blk_alloc ?_ _)); refine blk_put (cs := #[.slice none 0 0, .slice none 0 0]) ?_ 0 _ rfl; (with_reducible repeat (first | refine blk_drewN ?_ _ | refine blk_drew ?_ | refine blk_alloc ?_ _)); exact BK252.out) hb); have n11_ := zm4 (below_step (z4_6 HB.out GE229.out GE230.out GE252.out) hb); clear HO235; clear HO238; clear HO241; clear HO244; clear HO248; clear HO251; clear BK229; clear BK230; clear BK252; clear HB; have HO235 := n0_; have HO238 := n1_; have HO241 := n2_; have HO244 := n3_; have HO248 := n4_; have HO251 := n5_; have HO255 := n6_; have HO258 := n7_; have BK229 := n8_; have BK230 := n9_; have BK252 := n10_; have HB := n11_; clear n0_ n1_ n2_ n3_ n4_ n5_ n6_ n7_ n8_ n9_ n10_ n11_; (try clear hb); (try clear hb2); (try clear hk); (try clear hi); (try clear ho0); (try clear ho1)) | ((with_reducible refine gate_dst (N := 8) rfl ?_); refine box_event ?hg (N := 8) ?hd (cs := #[.slice none 0 0, .slice none 0 0]) (t := 25) ?hr ?_; (case hd => rfl); (case hg => rfl); (case hr => first | (go_simp; done) | (go_simp; rfl)); intro gb259 hg w135 hbox hb; have n0_ := zm4 (Kd.R_below (z4_4 HO235.out) hb); have n1_ := zm4 (Kd.S_below (z4_5 HO238.out) hb); have n2_ := zm4 (Kd.R_below (z4_4 HO241.out) hb); have n3_ := zm4 (Kd.S_below (z4_5 HO244.out) hb); have n4_ := zm4 (Kd.R_below (z4_4 HO248.out) hb); have n5_ := zm4 (Kd.S_below (z4_5 HO251.out) hb); have n6_ := zm4 (Kd.R_below (z4_4 HO255.out) hb); have n7_ := zm4 (Kd.S_below (z4_5 HO258.out) hb); have n8_ := zm4 (blk_below (g := gb229) (o := .cells #[.slice A0_0 l0_0.length c0_0, .slice A0_1 l0_1.length c0_1] 33 (0, 0)) (z4_1 BK229.out) hb); have n9_ := zm4 (blk_below (g := gb230) (o := .cells #[.slice A1_0 l1_0.length c1_0, .slice A1_1 l1_1.length c1_1] 33 (0, 0)) (z4_1 BK230.out) hb); have n10_ := zm4 (blk_below (g := gb252) (o := .cells #[.slice Ao128 t246.length co128, .slice Ao132 t249.length co132] 25 (0, 0)) (z4_1 BK252.out) hb); have n11_ := zm4 (below_step (z4_6 HB.out GE229.out GE230.out GE252.out) hb); have n12_ := zm4 (hbox); have n13_ := zm4 ((by rw [hg]; exact (below_size (z4_6 HB.out GE229.out GE230.out GE252.out)) : w.heap.size ≤ gb259)); have n14_ := zm4 ((by rw [hg]; exact (below_size (z4_6 HB.out GE229.out GE230.out GE252.out)) : w.heap.size ≤ gb259)); have n15_ := zm4 ((by rw [hg]; exact Nat.ne_of_lt (blk_lt (g := gb229) (o := .cells #[.slice A0_0 l0_0.length c0_0, .slice A0_1 l0_1.length c0_1] 33 (0, 0)) (z4_1 BK229.out)) : gb229 ≠ gb259)); have n16_ := zm4 ((by rw [hg]; exact Nat.ne_of_gt (blk_lt (g := gb229) (o := .cells #[.slice A0_0 l0_0.length c0_0, .slice A0_1 l0_1.length c0_1] 33 (0, 0)) (z4_1 BK229.out)) : gb259 ≠ gb229)); have n17_ := zm4 ((by rw [hg]; exact Nat.ne_of_lt (blk_lt (g := gb230) (o := .cells #[.slice A1_0 l1_0.length c1_0, .slice A1_1 l1_1.length c1_1] 33 (0, 0)) (z4_1 BK230.out)) : gb230 ≠ gb259)); have n18_ := zm4 ((by rw [hg]; exact Nat.ne_of_gt (blk_lt (g := gb230) (o := .cells #[.slice A1_0 l1_0.length c1_0, .slice A1_1 l1_1.length c1_1] 33 (0, 0)) (z4_1 BK230.out)) : gb259 ≠ gb230)); have n19_ := zm4 ((by rw [hg]; exact Nat.ne_of_lt (blk_lt (g := gb252) (o := .cells #[.slice Ao128 t246.length co128, .slice Ao132 t249.length co132] 25 (0, 0)) (z4_1 BK252.out)) : gb252 ≠ gb259)); have n20_ := zm4 ((by rw [hg]; exact Nat.ne_of_gt (blk_lt (g := gb252) (o := .cells #[.slice Ao128 t246.length co128, .slice Ao132 t249.length co132] 25 (0, 0)) (z4_1 BK252.out)) : gb259 ≠ gb252)); clear HO235; clear HO238; clear HO241; clear HO244; clear HO248; clear HO251; clear HO255; clear HO258; clear BK229; clear BK230; clear BK252; clear HB; have HO235 := n0_; have HO238 := n1_; have HO241 := n2_; have HO244 := n3_; have HO248 := n4_; have HO251 := n5_; have HO255 := n6_; have HO258 := n7_; have BK229 := n8_; have BK230 := n9_; have BK252 := n10_; have HB := n11_; have BK259 := n12_; have GW259 := n13_; have GE259 := n14_; have NB229_259 := n15_; have NB259_229 := n16_; have NB230_259 := n17_; have NB259_230 := n18_; have NB252_259 := n19_; have NB259_252 := n20_; clear n0_ n1_ n2_ n3_ n4_ n5_ n6_ n7_ n8_ n9_ n10_ n11_ n12_ n13_ n14_ n15_ n16_ n17_ n18_ n19_ n20_; clear hb hbox hg; obtain ⟨Ao136, co136, eo136⟩ := Kd.R_slice HO255.out; subst eo136; have hnb137 := NB259_229.out; have hnc137 := NB229_259.out; have hnb138 := NB259_230.out; have hnc138 := NB230_259.out; have hnb139 := NB259_252.out; have hnc139 := NB252_259.out; have hcz140_0 : w135.cell? ⟨gb259, 0, none⟩ = some (.slice none 0 0) := (blk_cell BK259.out 0).trans rfl; have hcz140_1 : w135.cell? ⟨gb259, 1, none⟩ = some (.slice none 0 0) := (blk_cell BK259.out 1).trans rfl; have hfz140_0 := blk_frozen BK259.out 0; have hfz140_1 := blk_frozen BK259.out 1; obtain ⟨Ao141, co141, eo141⟩ := Kd.S_slice HO258.out; subst eo141; have hcz142_0 : w135.cell? ⟨gb252, 0, none⟩ = some (.slice Ao128 t246.length co128) := (blk_cell BK252.out 0).trans rfl; have hcz142_1 : w135.cell? ⟨gb252, 1, none⟩ = some (.slice Ao132 t249.length co132) := (blk_cell BK252.out 1).trans rfl; have hfz142_0 := blk_frozen BK252.out 0; have hfz142_1 := blk_frozen BK252.out 1) | ((with_reducible refine gate_callee (f := 15) rfl ?_); refine goesL_ (some 31) rfl rfl Try.func15 (by kernel_rfl) rfl #[.agg #[.slice Ao128 t246.length co128, .slice Ao132 t249.length co132], .agg #[.slice Ao136 t253.length co136, .slice Ao141 t256.length co141]] rfl (by (try simp only [List.map_toArray, List.map_cons, List.map_nil]); first | done | rfl | (simp only [List.length_drop, List.length_take]; rfl)) ?_; (with_reducible refine (impl_SameGuest.calls k _ _ t246 _ _ t249 _ _ t253 _ _ t256 t260 _ ?side1 ?side2 ?side3 ?side4 ?side5 ?side6 ?side7 ?side8 A24.out).mono ?_); (case side1 => refine (Kd.R_reads' (e := 3) (base := w.heap.size) (ok := fun k_ => (((True ∧ some k_ ≠ (.slice Ao120 t233.length co120 : Value).ownBlock) ∧ some k_ ≠ (.slice Ao122 t239.length co122 : Value).ownBlock) ∧ some k_ ≠ (.slice Ao136 t253.length co136 : Value).ownBlock)) (n := t246.length) (c := co128) ?_).2.2; exact (by (with_reducible repeat (first | apply Kd.R_alloc | apply Kd.R_drewN | apply Kd.R_drew)); exact (Kd.R_mono (Kd.R_far (p := ⟨gb259, 1, none⟩) (Kd.R_far (p := ⟨gb259, 0, none⟩) (Kd.R_types HO248.out BK259.out (by decide)) (fun _ hk => hk.2) (.slice Ao136 t253.length co136)) (fun _ hk => hk.2) (.slice Ao141 t256.length co141)) (fun _ h_ => h_.1)))); (case side2 => exact (Kd.R_reads' HO248.out).2.1); (case side3 => refine (Kd.S_reads' (e := 64) (base := w.heap.size) (ok := fun k_ => ((((((some k_ ≠ (.slice Ao128 t246.length co128 : Value).ownBlock ∧ some k_ ≠ (.slice Ao120 t233.length co120 : Value).ownBlock) ∧ some k_ ≠ (.slice Ao121 t236.length co121 : Value).ownBlock) ∧ some k_ ≠ (.slice Ao122 t239.length co122 : Value).ownBlock) ∧ some k_ ≠ (.slice Ao123 t242.length co123 : Value).ownBlock) ∧ some k_ ≠ (.slice Ao136 t253.length co136 : Value).ownBlock) ∧ some k_ ≠ (.slice Ao141 t256.length co141 : Value).ownBlock)) (n := t249.length) (c := co132) ?_).2.2; exact (by (with_reducible repeat (first | apply Kd.S_alloc | apply Kd.S_drewN | apply Kd.S_drew)); exact (Kd.S_mono (Kd.S_far (p := ⟨gb259, 1, none⟩) (Kd.S_far (p := ⟨gb259, 0, none⟩) (Kd.S_types HO251.out BK259.out (by decide)) (fun _ hk => hk.2) (.slice Ao136 t253.length co136)) (fun _ hk => hk.2) (.slice Ao141 t256.length co141)) (fun _ h_ => h_.1)))); (case side4 => exact (Kd.S_reads' HO251.out).2.1); (case side5 => refine (Kd.R_reads' (e := 3) (base := w.heap.size) (ok := fun k_ => (((True ∧ some k_ ≠ (.slice Ao120 t233.length co120 : Value).ownBlock) ∧ some k_ ≠ (.slice Ao122 t239.length co122 : Value).ownBlock) ∧ some k_ ≠ (.slice Ao128 t246.length co128 : Value).ownBlock)) (n := t253.length) (c := co136) ?_).2.2; exact (by (with_reducible repeat (first | apply Kd.R_alloc | apply Kd.R_drewN | apply Kd.R_drew)); exact (Kd.R_mono (Kd.R_far (p := ⟨gb259, 1, none⟩) (Kd.R_far (p := ⟨gb259, 0, none⟩) (Kd.R_types HO255.out BK259.out (by decide)) (fun _ hk => hk.2) (.slice Ao136 t253.length co136)) (fun _ hk => hk.2) (.slice Ao141 t256.length co141)) (fun _ h_ => h_.1)))); (case side6 => exact (Kd.R_reads' HO255.out).2.1); (case side7 => refine (Kd.S_reads' (e := 64) (base := w.heap.size) (ok := fun k_ => ((((((some k_ ≠ (.slice Ao136 t253.length co136 : Value).ownBlock ∧ some k_ ≠ (.slice Ao120 t233.length co120 : Value).ownBlock) ∧ some k_ ≠ (.slice Ao121 t236.length co121 : Value).ownBlock) ∧ some k_ ≠ (.slice Ao122 t239.length co122 : Value).ownBlock) ∧ some k_ ≠ (.slice Ao123 t242.length co123 : Value).ownBlock) ∧ some k_ ≠ (.slice Ao128 t246.length co128 : Value).ownBlock) ∧ some k_ ≠ (.slice Ao132 t249.length co132 : Value).ownBlock)) (n := t256.length) (c := co141) ?_).2.2; exact (by (with_reducible repeat (first | apply Kd.S_alloc | apply Kd.S_drewN | apply Kd.S_drew)); exact (Kd.S_mono (Kd.S_far (p := ⟨gb259, 1, none⟩) (Kd.S_far (p := ⟨gb259, 0, none⟩) (Kd.S_types HO258.out BK259.out (by decide)) (fun _ hk => hk.2) (.slice Ao136 t253.length co136)) (fun _ hk => hk.2) (.slice Ao141 t256.length co141)) (fun _ h_ => h_.1)))); (case side8 => exact (Kd.S_reads' HO258.out).2.1); rintro e w143 ⟨rfl, hb⟩; refine ⟨_, rfl, ?_⟩; have n0_ := zm4 (Kd.R_below (by (with_reducible repeat (first | apply Kd.R_alloc | apply Kd.R_drewN | apply Kd.R_drew)); exact (Kd.R_mono (Kd.R_far (p := ⟨gb259, 1, none⟩) (Kd.R_far (p := ⟨gb259, 0, none⟩) (Kd.R_types HO235.out BK259.out (by decide)) (fun _ hk => hk.2) (.slice Ao136 t253.length co136)) (fun _ hk => hk.2) (.slice Ao141 t256.length co141)) (fun _ h_ => h_.1))) hb); have n1_ := zm4 (Kd.S_below (by (with_reducible repeat (first | apply Kd.S_alloc | apply Kd.S_drewN | apply Kd.S_drew)); exact (Kd.S_mono (Kd.S_far (p := ⟨gb259, 1, none⟩) (Kd.S_far (p := ⟨gb259, 0, none⟩) (Kd.S_types HO238.out BK259.out (by decide)) (fun _ hk => hk.2) (.slice Ao136 t253.length co136)) (fun _ hk => hk.2) (.slice Ao141 t256.length co141)) (fun _ h_ => h_.1))) hb); have n2_ := zm4 (Kd.R_below (by (with_reducible repeat (first | apply Kd.R_alloc | apply Kd.R_drewN | apply Kd.R_drew)); exact (Kd.R_mono (Kd.R_far (p := ⟨gb259, 1, none⟩) (Kd.R_far (p := ⟨gb259, 0, none⟩) (Kd.R_types HO241.out BK259.out (by decide)) (fun _ hk => hk.2) (.slice Ao136 t253.length co136)) (fun _ hk => hk.2) (.slice Ao141 t256.length co141)) (fun _ h_ => h_.1))) hb); have n3_ := zm4 (Kd.S_below (by (with_reducible repeat (first | apply Kd.S_alloc | apply Kd.S_drewN | apply Kd.S_drew)); exact (Kd.S_mono (Kd.S_far (p := ⟨gb259, 1, none⟩) (Kd.S_far (p := ⟨gb259, 0, none⟩) (Kd.S_types HO244.out BK259.out (by decide)) (fun _ hk => hk.2) (.slice Ao136 t253.length co136)) (fun _ hk => hk.2) (.slice Ao141 t256.length co141)) (fun _ h_ => h_.1))) hb); have n4_ := zm4 (Kd.R_below (by (with_reducible repeat (first | apply Kd.R_alloc | apply Kd.R_drewN | apply Kd.R_drew)); exact (Kd.R_mono (Kd.R_far (p := ⟨gb259, 1, none⟩) (Kd.R_far (p := ⟨gb259, 0, none⟩) (Kd.R_types HO248.out BK259.out (by decide)) (fun _ hk => hk.2) (.slice Ao136 t253.length co136)) (fun _ hk => hk.2) (.slice Ao141 t256.length co141)) (fun _ h_ => h_.1))) hb); have n5_ := zm4 (Kd.S_below (by (with_reducible repeat (first | apply Kd.S_alloc | apply Kd.S_drewN | apply Kd.S_drew)); exact (Kd.S_mono (Kd.S_far (p := ⟨gb259, 1, none⟩) (Kd.S_far (p := ⟨gb259, 0, none⟩) (Kd.S_types HO251.out BK259.out (by decide)) (fun _ hk => hk.2) (.slice Ao136 t253.length co136)) (fun _ hk => hk.2) (.slice Ao141 t256.length co141)) (fun _ h_ => h_.1))) hb); have n6_ := zm4 (Kd.R_below (by (with_reducible repeat (first | apply Kd.R_alloc | apply Kd.R_drewN | apply Kd.R_drew)); exact (Kd.R_mono (Kd.R_far (p := ⟨gb259, 1, none⟩) (Kd.R_far (p := ⟨gb259, 0, none⟩) (Kd.R_types HO255.out BK259.out (by decide)) (fun _ hk => hk.2) (.slice Ao136 t253.length co136)) (fun _ hk => hk.2) (.slice Ao141 t256.length co141)) (fun _ h_ => h_.1))) hb); have n7_ := zm4 (Kd.S_below (by (with_reducible repeat (first | apply Kd.S_alloc | apply Kd.S_drewN | apply Kd.S_drew)); exact (Kd.S_mono (Kd.S_far (p := ⟨gb259, 1, none⟩) (Kd.S_far (p := ⟨gb259, 0, none⟩) (Kd.S_types HO258.out BK259.out (by decide)) (fun _ hk => hk.2) (.slice Ao136 t253.length co136)) (fun _ hk => hk.2) (.slice Ao141 t256.length co141)) (fun _ h_ => h_.1))) hb); have n8_ := zm4 (blk_below (g := gb229) (o := .cells #[.slice A0_0 l0_0.length c0_0, .slice A0_1 l0_1.length c0_1] 33 (0, 0)) (by (with_reducible repeat (first | refine blk_drewN ?_ _ | refine blk_drew ?_ | refine blk_alloc ?_ _)); refine blk_far ?_ NB229_259.out _; (with_reducible repeat (first | refine blk_drewN ?_ _ | refine blk_drew ?_ | refine blk_alloc ?_ _)); refine blk_far ?_ NB229_259.out _; (with_reducible repeat (first | refine blk_drewN ?_ _ | refine blk_drew ?_ | refine blk_alloc ?_ _)); exact BK229.out) hb); have n9_ := zm4 (blk_below (g := gb230) (o := .cells #[.slice A1_0 l1_0.length c1_0, .slice A1_1 l1_1.length c1_1] 33 (0, 0)) (by (with_reducible repeat (first | refine blk_drewN ?_ _ | refine blk_drew ?_ | refine blk_alloc ?_ _)); refine blk_far ?_ NB230_259.out _; (with_reducible repeat (first | refine blk_drewN ?_ _ | refine blk_drew ?_ | refine blk_alloc ?_ _)); refine blk_far ?_ NB230_259.out _; (with_reducible repeat (first | refine blk_drewN ?_ _ | refine blk_drew ?_ | refine blk_alloc ?_ _)); exact BK230.out) hb); have n10_ := zm4 (blk_below (g := gb252) (o := .cells #[.slice Ao128 t246.length co128, .slice Ao132 t249.length co132] 25 (0, 0)) (by (with_reducible repeat (first | refine blk_drewN ?_ _ | refine blk_drew ?_ | refine blk_alloc ?_ _)); refine blk_far ?_ NB252_259.out _; (with_reducible repeat (first | refine blk_drewN ?_ _ | refine blk_drew ?_ | refine blk_alloc ?_ _)); refine blk_far ?_ NB252_259.out _; (with_reducible repeat (first | refine blk_drewN ?_ _ | refine blk_drew ?_ | refine blk_alloc ?_ _)); exact BK252.out) hb); have n11_ := zm4 (blk_below (g := gb259) (o := .cells #[.slice Ao136 t253.length co136, .slice Ao141 t256.length co141] 25 (0, 0)) (by (with_reducible repeat (first | refine blk_drewN ?_ _ | refine blk_drew ?_ | refine blk_alloc ?_ _)); refine blk_put (cs := #[.slice Ao136 t253.length co136, .slice none 0 0]) ?_ 1 _ rfl; (with_reducible repeat (first | refine blk_drewN ?_ _ | refine blk_drew ?_ | refine blk_alloc ?_ _)); refine blk_put (cs := #[.slice none 0 0, .slice none 0 0]) ?_ 0 _ rfl; (with_reducible repeat (first | refine blk_drewN ?_ _ | refine blk_drew ?_ | refine blk_alloc ?_ _)); exact BK259.out) hb); have n12_ := zm4 (below_step (z4_7 HB.out GE229.out GE230.out GE252.out GE259.out) hb); clear HO235; clear HO238; clear HO241; clear HO244; clear HO248; clear HO251; clear HO255; clear HO258; clear BK229; clear BK230; clear BK252; clear BK259; clear HB; have HO235 := n0_; have HO238 := n1_; have HO241 := n2_; have HO244 := n3_; have HO248 := n4_; have HO251 := n5_; have HO255 := n6_; have HO258 := n7_; have BK229 := n8_; have BK230 := n9_; have BK252 := n10_; have BK259 := n11_; have HB := n12_; clear n0_ n1_ n2_ n3_ n4_ n5_ n6_ n7_ n8_ n9_ n10_ n11_ n12_; (try clear hb); (try clear hb2); (try clear hk); (try clear hi)))
      have n0_ := zm4 (Kd.R_drew HO235.out)
      have n1_ := zm4 (Kd.S_drew HO238.out)
      have n2_ := zm4 (Kd.R_drew HO241.out)
      have n3_ := zm4 (Kd.S_drew HO244.out)
      have n4_ := zm4 (Kd.R_drew HO248.out)
      have n5_ := zm4 (Kd.S_drew HO251.out)
      have n6_ := zm4 (Kd.R_drew HO255.out)
      have n7_ := zm4 (Kd.S_drew HO258.out)
      have n8_ := zm4 (blk_drew BK229.out)
      have n9_ := zm4 (blk_drew BK230.out)
      have n10_ := zm4 (blk_drew BK252.out)
      have n11_ := zm4 (blk_drew BK259.out)
      have n12_ := zm4 (below_drew1 HB.out)
      clear HO235
      clear HO238
      clear HO241
      clear HO244
      clear HO248
      clear HO251
      clear HO255
      clear HO258
      clear BK229
      clear BK230
      clear BK252
      clear BK259
      clear HB
      have HO235 := n0_
      have HO238 := n1_
      have HO241 := n2_
      have HO244 := n3_
      have HO248 := n4_
      have HO251 := n5_
      have HO255 := n6_
      have HO258 := n7_
      have BK229 := n8_
      have BK230 := n9_
      have BK252 := n10_
      have BK259 := n11_
      have HB := n12_
      clear n0_ n1_ n2_ n3_ n4_ n5_ n6_ n7_ n8_ n9_ n10_ n11_ n12_
      refine start_ (n := 5) (S := fun w' => w'.cell? ⟨gb252, 0, none⟩ = some (.slice Ao128 t246.length co128) ∧ w'.cell? ⟨gb252, 1, none⟩ = some (.slice Ao132 t249.length co132) ∧ w'.cell? ⟨gb229, 0, none⟩ = some (.slice A0_0 l0_0.length c0_0) ∧ w'.cell? ⟨gb229, 1, none⟩ = some (.slice A0_1 l0_1.length c0_1)) (ds := []) #[false, false, false, false, false] (by kernel_rfl) rfl rfl ⟨(blk_cell BK252.out 0).trans rfl, (blk_cell BK252.out 1).trans rfl, (blk_cell BK229.out 0).trans rfl, (blk_cell BK229.out 1).trans rfl⟩ (fun hHeld => ?_)
      generalize w143.drew = w144 at HO235 HO238 HO241 HO244 HO248 HO251 HO255 HO258 BK229 BK230 BK252 BK259 HB hHeld ⊢
      refine take_ (i := 0) (N := some 35) (v := ?_) (a' := ?_) #[true, false, false, false, false] rfl rfl (by kernel_rfl) (fun _ _ _ h => h) (Or.inl ⟨by rfl, ?_⟩) hHeld ?_ ?_
      rotate_left
      ·rintro w' ⟨s0, s1, s2, s3⟩
       go_simp
       with_reducible rfl
      rotate_left
      ·simp only [Act.put, List.setIfInBounds_toArray, List.set_cons_zero, List.set_cons_succ, i64_w, i32_w]
       rfl
      refine take_ (i := 1) (N := some 36) (v := ?_) (a' := ?_) #[true, true, false, false, false] rfl rfl (by kernel_rfl) (fun _ _ _ h => h) (Or.inl ⟨by rfl, ?_⟩) hHeld ?_ ?_
      rotate_left
      ·rintro w' ⟨s0, s1, s2, s3⟩
       go_simp
       with_reducible rfl
      rotate_left
      ·simp only [Act.put, List.setIfInBounds_toArray, List.set_cons_zero, List.set_cons_succ, i64_w, i32_w]
       rfl
      refine one_ (i := 2) (N := some 37) #[true, true, true, false, false] rfl rfl (by kernel_rfl) (by decide) (fun K hK => ?_)
      refine goes_ Try.func14 (by kernel_rfl) rfl #[.agg #[.slice A0_0 l0_0.length c0_0, .slice A0_1 l0_1.length c0_1]] (by rfl) rfl rfl (by (try simp only [List.map_toArray, List.map_cons, List.map_nil]); first | done | rfl | (simp only [List.length_drop, List.length_take]; rfl)) ?_
      with_reducible refine (laws_toGuest.calls k _ _ l0_0 _ _ l0_1 t261 t264 _ ?side1 ?side2 ?side3 ?side4 A60.out).mono ?_
      (case side1 => repeat (first | exact (Kd.C_below HR0_0.out HB.out) | (with_reducible refine Kd.C_alloc ?_ _) | (with_reducible refine Kd.C_drewN ?_ _) | (with_reducible refine Kd.C_drew ?_)))
      (case side2 => exact HC0_0.out)
      (case side3 => repeat (first | exact (Kd.C_below HR0_1.out HB.out) | (with_reducible refine Kd.C_alloc ?_ _) | (with_reducible refine Kd.C_drewN ?_ _) | (with_reducible refine Kd.C_drew ?_)))
      (case side4 => exact HC0_1.out)
      rintro e w145 ⟨v262, v265, rfl, ho0, ho1, hb⟩
      refine ⟨_, rfl, ?_⟩
      have n0_ := zm4 (Kd.R_elder' (z4_4 HO235.out) (Kd.R_base ho0) hb)
      have n1_ := zm4 (Kd.S_mono (Kd.S_told (Kd.S_told (Kd.S_old (z4_5 HO238.out) hb) (Kd.R_base ho0)) (Kd.S_base ho1)) (fun _ h_ => h_.1))
      have n2_ := zm4 (Kd.R_elder' (z4_4 HO241.out) (Kd.R_base ho0) hb)
      have n3_ := zm4 (Kd.S_mono (Kd.S_told (Kd.S_told (Kd.S_old (z4_5 HO244.out) hb) (Kd.R_base ho0)) (Kd.S_base ho1)) (fun _ h_ => h_.1))
      have n4_ := zm4 (Kd.R_elder' (z4_4 HO248.out) (Kd.R_base ho0) hb)
      have n5_ := zm4 (Kd.S_mono (Kd.S_told (Kd.S_told (Kd.S_old (z4_5 HO251.out) hb) (Kd.R_base ho0)) (Kd.S_base ho1)) (fun _ h_ => h_.1))
      have n6_ := zm4 (Kd.R_elder' (z4_4 HO255.out) (Kd.R_base ho0) hb)
      have n7_ := zm4 (Kd.S_mono (Kd.S_told (Kd.S_told (Kd.S_old (z4_5 HO258.out) hb) (Kd.R_base ho0)) (Kd.S_base ho1)) (fun _ h_ => h_.1))
      have n8_ := zm4 (Kd.R_lower (Kd.R_new' (Kd.R_new' (Kd.R_new' (Kd.R_new' ho0 (Kd.R_lt (z4_4 HO235.out))) (Kd.R_lt (z4_4 HO241.out))) (Kd.R_lt (z4_4 HO248.out))) (Kd.R_lt (z4_4 HO255.out))) (below_size (z4_7 HB.out GE229.out GE230.out GE252.out GE259.out)))
      have n9_ := zm4 (Kd.S_lower (Kd.S_new' (Kd.S_new' (Kd.S_new' (Kd.S_new' (Kd.S_new' (Kd.S_new' (Kd.S_new' (Kd.S_new' ho1 (Kd.R_lt (z4_4 HO235.out))) (Kd.S_lt (z4_5 HO238.out))) (Kd.R_lt (z4_4 HO241.out))) (Kd.S_lt (z4_5 HO244.out))) (Kd.R_lt (z4_4 HO248.out))) (Kd.S_lt (z4_5 HO251.out))) (Kd.R_lt (z4_4 HO255.out))) (Kd.S_lt (z4_5 HO258.out))) (below_size (z4_7 HB.out GE229.out GE230.out GE252.out GE259.out)))
      have n10_ := zm4 (blk_below (g := gb229) (o := .cells #[.slice A0_0 l0_0.length c0_0, .slice A0_1 l0_1.length c0_1] 33 (0, 0)) (z4_1 BK229.out) hb)
      have n11_ := zm4 (blk_below (g := gb230) (o := .cells #[.slice A1_0 l1_0.length c1_0, .slice A1_1 l1_1.length c1_1] 33 (0, 0)) (z4_1 BK230.out) hb)
      have n12_ := zm4 (blk_below (g := gb252) (o := .cells #[.slice Ao128 t246.length co128, .slice Ao132 t249.length co132] 25 (0, 0)) (z4_1 BK252.out) hb)
      have n13_ := zm4 (blk_below (g := gb259) (o := .cells #[.slice Ao136 t253.length co136, .slice Ao141 t256.length co141] 25 (0, 0)) (z4_1 BK259.out) hb)
      have n14_ := zm4 (below_step (z4_7 HB.out GE229.out GE230.out GE252.out GE259.out) hb)
      clear HO235
      clear HO238
      clear HO241
      clear HO244
      clear HO248
      clear HO251
      clear HO255
      clear HO258
      clear BK229
      clear BK230
      clear BK252
      clear BK259
      clear HB
      have HO235 := n0_
      have HO238 := n1_
      have HO241 := n2_
      have HO244 := n3_
      have HO248 := n4_
      have HO251 := n5_
      have HO255 := n6_
      have HO258 := n7_
      have HO263 := n8_
      have HO266 := n9_
      have BK229 := n10_
      have BK230 := n11_
      have BK252 := n12_
      have BK259 := n13_
      have HB := n14_
      clear n0_ n1_ n2_ n3_ n4_ n5_ n6_ n7_ n8_ n9_ n10_ n11_ n12_ n13_ n14_
      (try clear hb)
      (try clear hb2)
      (try clear hk)
      (try clear hi)
      (try clear ho0)
      (try clear ho1)
      obtain ⟨Ao146, co146, eo146⟩ := Kd.R_slice HO263.out
      (first | subst eo146 | (injection eo146 with f1_ f2_ f3_; have f4_ := f1_.symm; have f5_ := f3_.symm; clear f1_ f2_ f3_; subst f4_; subst f5_))
      obtain ⟨Ao147, co147, eo147⟩ := Kd.S_slice HO266.out
      (first | subst eo147 | (injection eo147 with f1_ f2_ f3_; have f4_ := f1_.symm; have f5_ := f3_.symm; clear f1_ f2_ f3_; subst f4_; subst f5_))
      refine hK.out _ _ ⟨(blk_cell BK252.out 0).trans rfl, (blk_cell BK252.out 1).trans rfl, (blk_cell BK229.out 0).trans rfl, (blk_cell BK229.out 1).trans rfl⟩ (fun hHeld => ?_)
      clear hK K
      refine norm_ (a' := ?_) ?_ ?_
      rotate_left
      ·show Act.put _ (some 37) _ = _
       simp only [Act.put, List.setIfInBounds_toArray, List.set_cons_zero, List.set_cons_succ, i64_w, i32_w]
       rfl
      refine one_ (i := 3) (N := some 38) #[true, true, true, true, false] rfl rfl (by kernel_rfl) (by decide) (fun K hK => ?_)
      refine goes_ Try.func9 (by kernel_rfl) rfl #[.agg #[.slice Ao128 t246.length co128, .slice Ao132 t249.length co132], .agg #[.slice Ao146 t261.length co146, .slice Ao147 t264.length co147]] (by rfl) rfl rfl (by (try simp only [List.map_toArray, List.map_cons, List.map_nil]); first | done | rfl | (simp only [List.length_drop, List.length_take]; rfl)) ?_
      with_reducible refine (laws_eqGuest.calls k _ _ t246 _ _ t249 _ _ t261 _ _ t264 true _ ?side1 ?side2 ?side3 ?side4 ?side5 ?side6 ?side7 ?side8 A61.out).mono ?_
      (case side1 => repeat (first | exact (Kd.R_reads' HO248.out).2.2 | (with_reducible refine Kd.C_alloc ?_ _) | (with_reducible refine Kd.C_drewN ?_ _) | (with_reducible refine Kd.C_drew ?_)))
      (case side2 => exact (Kd.R_reads' HO248.out).2.1)
      (case side3 => repeat (first | exact (Kd.S_reads' HO251.out).2.2 | (with_reducible refine Kd.C_alloc ?_ _) | (with_reducible refine Kd.C_drewN ?_ _) | (with_reducible refine Kd.C_drew ?_)))
      (case side4 => exact (Kd.S_reads' HO251.out).2.1)
      (case side5 => repeat (first | exact (Kd.R_reads' HO263.out).2.2 | (with_reducible refine Kd.C_alloc ?_ _) | (with_reducible refine Kd.C_drewN ?_ _) | (with_reducible refine Kd.C_drew ?_)))
      (case side6 => exact (Kd.R_reads' HO263.out).2.1)
      (case side7 => repeat (first | exact (Kd.S_reads' HO266.out).2.2 | (with_reducible refine Kd.C_alloc ?_ _) | (with_reducible refine Kd.C_drewN ?_ _) | (with_reducible refine Kd.C_drew ?_)))
      (case side8 => exact (Kd.S_reads' HO266.out).2.1)
      rintro e w148 ⟨rfl, hb⟩
      refine ⟨_, rfl, ?_⟩
      have n0_ := zm4 (Kd.R_below (z4_4 HO235.out) hb)
      have n1_ := zm4 (Kd.S_below (z4_5 HO238.out) hb)
      have n2_ := zm4 (Kd.R_below (z4_4 HO241.out) hb)
      have n3_ := zm4 (Kd.S_below (z4_5 HO244.out) hb)
      have n4_ := zm4 (Kd.R_below (z4_4 HO248.out) hb)
      have n5_ := zm4 (Kd.S_below (z4_5 HO251.out) hb)
      have n6_ := zm4 (Kd.R_below (z4_4 HO255.out) hb)
      have n7_ := zm4 (Kd.S_below (z4_5 HO258.out) hb)
      have n8_ := zm4 (Kd.R_below (z4_4 HO263.out) hb)
      have n9_ := zm4 (Kd.S_below (z4_5 HO266.out) hb)
      have n10_ := zm4 (blk_below (g := gb229) (o := .cells #[.slice A0_0 l0_0.length c0_0, .slice A0_1 l0_1.length c0_1] 33 (0, 0)) (z4_1 BK229.out) hb)
      have n11_ := zm4 (blk_below (g := gb230) (o := .cells #[.slice A1_0 l1_0.length c1_0, .slice A1_1 l1_1.length c1_1] 33 (0, 0)) (z4_1 BK230.out) hb)
      have n12_ := zm4 (blk_below (g := gb252) (o := .cells #[.slice Ao128 t246.length co128, .slice Ao132 t249.length co132] 25 (0, 0)) (z4_1 BK252.out) hb)
      have n13_ := zm4 (blk_below (g := gb259) (o := .cells #[.slice Ao136 t253.length co136, .slice Ao141 t256.length co141] 25 (0, 0)) (z4_1 BK259.out) hb)
      have n14_ := zm4 (below_step (z4_7 HB.out GE229.out GE230.out GE252.out GE259.out) hb)
      clear HO235
      clear HO238
      clear HO241
      clear HO244
      clear HO248
      clear HO251
      clear HO255
      clear HO258
      clear HO263
      clear HO266
      clear BK229
      clear BK230
      clear BK252
      clear BK259
      clear HB
      have HO235 := n0_
      have HO238 := n1_
      have HO241 := n2_
      have HO244 := n3_
      have HO248 := n4_
      have HO251 := n5_
      have HO255 := n6_
      have HO258 := n7_
      have HO263 := n8_
      have HO266 := n9_
      have BK229 := n10_
      have BK230 := n11_
      have BK252 := n12_
      have BK259 := n13_
      have HB := n14_
      clear n0_ n1_ n2_ n3_ n4_ n5_ n6_ n7_ n8_ n9_ n10_ n11_ n12_ n13_ n14_
      (try clear hb)
      (try clear hb2)
      (try clear hk)
      (try clear hi)
      refine hK.out _ _ ⟨(blk_cell BK252.out 0).trans rfl, (blk_cell BK252.out 1).trans rfl, (blk_cell BK229.out 0).trans rfl, (blk_cell BK229.out 1).trans rfl⟩ (fun hHeld => ?_)
      clear hK K
      refine norm_ (a' := ?_) ?_ ?_
      rotate_left
      ·show Act.put _ (some 38) _ = _
       simp only [Act.put, List.setIfInBounds_toArray, List.set_cons_zero, List.set_cons_succ, i64_w, i32_w]
       rfl
      refine pure_ (i := 4) (N := some 39) (v := ?_) (a' := ?_) #[true, true, true, true, true] rfl rfl (by kernel_rfl) (fun _ _ _ h => h) (Or.inl ⟨by rfl, ?_⟩) ?_ ?_
      rotate_left
      ·intro w'
       go_simp
       with_reducible rfl
      rotate_left
      ·simp only [Act.put, List.setIfInBounds_toArray, List.set_cons_zero, List.set_cons_succ, i64_w, i32_w]
       rfl
      refine done_ (by kernel_rfl) ?_
      try go_wp2
      have n0_ := zm4 (Kd.R_drew HO235.out)
      have n1_ := zm4 (Kd.S_drew HO238.out)
      have n2_ := zm4 (Kd.R_drew HO241.out)
      have n3_ := zm4 (Kd.S_drew HO244.out)
      have n4_ := zm4 (Kd.R_drew HO248.out)
      have n5_ := zm4 (Kd.S_drew HO251.out)
      have n6_ := zm4 (Kd.R_drew HO255.out)
      have n7_ := zm4 (Kd.S_drew HO258.out)
      have n8_ := zm4 (Kd.R_drew HO263.out)
      have n9_ := zm4 (Kd.S_drew HO266.out)
      have n10_ := zm4 (blk_drew BK229.out)
      have n11_ := zm4 (blk_drew BK230.out)
      have n12_ := zm4 (blk_drew BK252.out)
      have n13_ := zm4 (blk_drew BK259.out)
      have n14_ := zm4 (below_drew1 HB.out)
      clear HO235
      clear HO238
      clear HO241
      clear HO244
      clear HO248
      clear HO251
      clear HO255
      clear HO258
      clear HO263
      clear HO266
      clear BK229
      clear BK230
      clear BK252
      clear BK259
      clear HB
      have HO235 := n0_
      have HO238 := n1_
      have HO241 := n2_
      have HO244 := n3_
      have HO248 := n4_
      have HO251 := n5_
      have HO255 := n6_
      have HO258 := n7_
      have HO263 := n8_
      have HO266 := n9_
      have BK229 := n10_
      have BK230 := n11_
      have BK252 := n12_
      have BK259 := n13_
      have HB := n14_
      clear n0_ n1_ n2_ n3_ n4_ n5_ n6_ n7_ n8_ n9_ n10_ n11_ n12_ n13_ n14_
      refine start_ (n := 5) (S := fun w' => w'.cell? ⟨gb259, 0, none⟩ = some (.slice Ao136 t253.length co136) ∧ w'.cell? ⟨gb259, 1, none⟩ = some (.slice Ao141 t256.length co141) ∧ w'.cell? ⟨gb230, 0, none⟩ = some (.slice A1_0 l1_0.length c1_0) ∧ w'.cell? ⟨gb230, 1, none⟩ = some (.slice A1_1 l1_1.length c1_1)) (ds := []) #[false, false, false, false, false] (by kernel_rfl) rfl rfl ⟨(blk_cell BK259.out 0).trans rfl, (blk_cell BK259.out 1).trans rfl, (blk_cell BK230.out 0).trans rfl, (blk_cell BK230.out 1).trans rfl⟩ (fun hHeld => ?_)
      generalize w148.drew = w149 at HO235 HO238 HO241 HO244 HO248 HO251 HO255 HO258 HO263 HO266 BK229 BK230 BK252 BK259 HB hHeld ⊢
      refine take_ (i := 0) (N := some 40) (v := ?_) (a' := ?_) #[true, false, false, false, false] rfl rfl (by kernel_rfl) (fun _ _ _ h => h) (Or.inl ⟨by rfl, ?_⟩) hHeld ?_ ?_
      rotate_left
      ·rintro w' ⟨s0, s1, s2, s3⟩
       go_simp
       with_reducible rfl
      rotate_left
      ·simp only [Act.put, List.setIfInBounds_toArray, List.set_cons_zero, List.set_cons_succ, i64_w, i32_w]
       rfl
      refine take_ (i := 1) (N := some 41) (v := ?_) (a' := ?_) #[true, true, false, false, false] rfl rfl (by kernel_rfl) (fun _ _ _ h => h) (Or.inl ⟨by rfl, ?_⟩) hHeld ?_ ?_
      rotate_left
      ·rintro w' ⟨s0, s1, s2, s3⟩
       go_simp
       with_reducible rfl
      rotate_left
      ·simp only [Act.put, List.setIfInBounds_toArray, List.set_cons_zero, List.set_cons_succ, i64_w, i32_w]
       rfl
      refine one_ (i := 2) (N := some 42) #[true, true, true, false, false] rfl rfl (by kernel_rfl) (by decide) (fun K hK => ?_)
      refine goes_ Try.func14 (by kernel_rfl) rfl #[.agg #[.slice A1_0 l1_0.length c1_0, .slice A1_1 l1_1.length c1_1]] (by rfl) rfl rfl (by (try simp only [List.map_toArray, List.map_cons, List.map_nil]); first | done | rfl | (simp only [List.length_drop, List.length_take]; rfl)) ?_
      with_reducible refine (laws_toGuest.calls k _ _ l1_0 _ _ l1_1 t268 t271 _ ?side1 ?side2 ?side3 ?side4 A63.out).mono ?_
      (case side1 => repeat (first | exact (Kd.C_below HR1_0.out HB.out) | (with_reducible refine Kd.C_alloc ?_ _) | (with_reducible refine Kd.C_drewN ?_ _) | (with_reducible refine Kd.C_drew ?_)))
      (case side2 => exact HC1_0.out)
      (case side3 => repeat (first | exact (Kd.C_below HR1_1.out HB.out) | (with_reducible refine Kd.C_alloc ?_ _) | (with_reducible refine Kd.C_drewN ?_ _) | (with_reducible refine Kd.C_drew ?_)))
      (case side4 => exact HC1_1.out)
      rintro e w150 ⟨v269, v272, rfl, ho0, ho1, hb⟩
      refine ⟨_, rfl, ?_⟩
      have n0_ := zm4 (Kd.R_elder' (z4_4 HO235.out) (Kd.R_base ho0) hb)
      have n1_ := zm4 (Kd.S_mono (Kd.S_told (Kd.S_told (Kd.S_old (z4_5 HO238.out) hb) (Kd.R_base ho0)) (Kd.S_base ho1)) (fun _ h_ => h_.1))
      have n2_ := zm4 (Kd.R_elder' (z4_4 HO241.out) (Kd.R_base ho0) hb)
      have n3_ := zm4 (Kd.S_mono (Kd.S_told (Kd.S_told (Kd.S_old (z4_5 HO244.out) hb) (Kd.R_base ho0)) (Kd.S_base ho1)) (fun _ h_ => h_.1))
      have n4_ := zm4 (Kd.R_elder' (z4_4 HO248.out) (Kd.R_base ho0) hb)
      have n5_ := zm4 (Kd.S_mono (Kd.S_told (Kd.S_told (Kd.S_old (z4_5 HO251.out) hb) (Kd.R_base ho0)) (Kd.S_base ho1)) (fun _ h_ => h_.1))
      have n6_ := zm4 (Kd.R_elder' (z4_4 HO255.out) (Kd.R_base ho0) hb)
      have n7_ := zm4 (Kd.S_mono (Kd.S_told (Kd.S_told (Kd.S_old (z4_5 HO258.out) hb) (Kd.R_base ho0)) (Kd.S_base ho1)) (fun _ h_ => h_.1))
      have n8_ := zm4 (Kd.R_elder' (z4_4 HO263.out) (Kd.R_base ho0) hb)
      have n9_ := zm4 (Kd.S_mono (Kd.S_told (Kd.S_told (Kd.S_old (z4_5 HO266.out) hb) (Kd.R_base ho0)) (Kd.S_base ho1)) (fun _ h_ => h_.1))
      have n10_ := zm4 (Kd.R_lower (Kd.R_new' (Kd.R_new' (Kd.R_new' (Kd.R_new' (Kd.R_new' ho0 (Kd.R_lt (z4_4 HO235.out))) (Kd.R_lt (z4_4 HO241.out))) (Kd.R_lt (z4_4 HO248.out))) (Kd.R_lt (z4_4 HO255.out))) (Kd.R_lt (z4_4 HO263.out))) (below_size (z4_7 HB.out GE229.out GE230.out GE252.out GE259.out)))
      have n11_ := zm4 (Kd.S_lower (Kd.S_new' (Kd.S_new' (Kd.S_new' (Kd.S_new' (Kd.S_new' (Kd.S_new' (Kd.S_new' (Kd.S_new' (Kd.S_new' (Kd.S_new' ho1 (Kd.R_lt (z4_4 HO235.out))) (Kd.S_lt (z4_5 HO238.out))) (Kd.R_lt (z4_4 HO241.out))) (Kd.S_lt (z4_5 HO244.out))) (Kd.R_lt (z4_4 HO248.out))) (Kd.S_lt (z4_5 HO251.out))) (Kd.R_lt (z4_4 HO255.out))) (Kd.S_lt (z4_5 HO258.out))) (Kd.R_lt (z4_4 HO263.out))) (Kd.S_lt (z4_5 HO266.out))) (below_size (z4_7 HB.out GE229.out GE230.out GE252.out GE259.out)))
      have n12_ := zm4 (blk_below (g := gb229) (o := .cells #[.slice A0_0 l0_0.length c0_0, .slice A0_1 l0_1.length c0_1] 33 (0, 0)) (z4_1 BK229.out) hb)
      have n13_ := zm4 (blk_below (g := gb230) (o := .cells #[.slice A1_0 l1_0.length c1_0, .slice A1_1 l1_1.length c1_1] 33 (0, 0)) (z4_1 BK230.out) hb)
      have n14_ := zm4 (blk_below (g := gb252) (o := .cells #[.slice Ao128 t246.length co128, .slice Ao132 t249.length co132] 25 (0, 0)) (z4_1 BK252.out) hb)
      have n15_ := zm4 (blk_below (g := gb259) (o := .cells #[.slice Ao136 t253.length co136, .slice Ao141 t256.length co141] 25 (0, 0)) (z4_1 BK259.out) hb)
      have n16_ := zm4 (below_step (z4_7 HB.out GE229.out GE230.out GE252.out GE259.out) hb)
      clear HO235
      clear HO238
      clear HO241
      clear HO244
      clear HO248
      clear HO251
      clear HO255
      clear HO258
      clear HO263
      clear HO266
      clear BK229
      clear BK230
      clear BK252
      clear BK259
      clear HB
      have HO235 := n0_
      have HO238 := n1_
      have HO241 := n2_
      have HO244 := n3_
      have HO248 := n4_
      have HO251 := n5_
      have HO255 := n6_
      have HO258 := n7_
      have HO263 := n8_
      have HO266 := n9_
      have HO270 := n10_
      have HO273 := n11_
      have BK229 := n12_
      have BK230 := n13_
      have BK252 := n14_
      have BK259 := n15_
      have HB := n16_
      clear n0_ n1_ n2_ n3_ n4_ n5_ n6_ n7_ n8_ n9_ n10_ n11_ n12_ n13_ n14_ n15_ n16_
      (try clear hb)
      (try clear hb2)
      (try clear hk)
      (try clear hi)
      (try clear ho0)
      (try clear ho1)
      obtain ⟨Ao151, co151, eo151⟩ := Kd.R_slice HO270.out
      (first | subst eo151 | (injection eo151 with f1_ f2_ f3_; have f4_ := f1_.symm; have f5_ := f3_.symm; clear f1_ f2_ f3_; subst f4_; subst f5_))
      obtain ⟨Ao152, co152, eo152⟩ := Kd.S_slice HO273.out
      (first | subst eo152 | (injection eo152 with f1_ f2_ f3_; have f4_ := f1_.symm; have f5_ := f3_.symm; clear f1_ f2_ f3_; subst f4_; subst f5_))
      refine hK.out _ _ ⟨(blk_cell BK259.out 0).trans rfl, (blk_cell BK259.out 1).trans rfl, (blk_cell BK230.out 0).trans rfl, (blk_cell BK230.out 1).trans rfl⟩ (fun hHeld => ?_)
      clear hK K
      refine norm_ (a' := ?_) ?_ ?_
      rotate_left
      ·show Act.put _ (some 42) _ = _
       simp only [Act.put, List.setIfInBounds_toArray, List.set_cons_zero, List.set_cons_succ, i64_w, i32_w]
       rfl
      refine one_ (i := 3) (N := some 43) #[true, true, true, true, false] rfl rfl (by kernel_rfl) (by decide) (fun K hK => ?_)
      refine goes_ Try.func9 (by kernel_rfl) rfl #[.agg #[.slice Ao136 t253.length co136, .slice Ao141 t256.length co141], .agg #[.slice Ao151 t268.length co151, .slice Ao152 t271.length co152]] (by rfl) rfl rfl (by (try simp only [List.map_toArray, List.map_cons, List.map_nil]); first | done | rfl | (simp only [List.length_drop, List.length_take]; rfl)) ?_
      with_reducible refine (laws_eqGuest.calls k _ _ t253 _ _ t256 _ _ t268 _ _ t271 false _ ?side1 ?side2 ?side3 ?side4 ?side5 ?side6 ?side7 ?side8 A64.out).mono ?_
      (case side1 => repeat (first | exact (Kd.R_reads' HO255.out).2.2 | (with_reducible refine Kd.C_alloc ?_ _) | (with_reducible refine Kd.C_drewN ?_ _) | (with_reducible refine Kd.C_drew ?_)))
      (case side2 => exact (Kd.R_reads' HO255.out).2.1)
      (case side3 => repeat (first | exact (Kd.S_reads' HO258.out).2.2 | (with_reducible refine Kd.C_alloc ?_ _) | (with_reducible refine Kd.C_drewN ?_ _) | (with_reducible refine Kd.C_drew ?_)))
      (case side4 => exact (Kd.S_reads' HO258.out).2.1)
      (case side5 => repeat (first | exact (Kd.R_reads' HO270.out).2.2 | (with_reducible refine Kd.C_alloc ?_ _) | (with_reducible refine Kd.C_drewN ?_ _) | (with_reducible refine Kd.C_drew ?_)))
      (case side6 => exact (Kd.R_reads' HO270.out).2.1)
      (case side7 => repeat (first | exact (Kd.S_reads' HO273.out).2.2 | (with_reducible refine Kd.C_alloc ?_ _) | (with_reducible refine Kd.C_drewN ?_ _) | (with_reducible refine Kd.C_drew ?_)))
      (case side8 => exact (Kd.S_reads' HO273.out).2.1)
      rintro e w153 ⟨rfl, hb⟩
      refine ⟨_, rfl, ?_⟩
      have n0_ := zm4 (Kd.R_below (z4_4 HO235.out) hb)
      have n1_ := zm4 (Kd.S_below (z4_5 HO238.out) hb)
      have n2_ := zm4 (Kd.R_below (z4_4 HO241.out) hb)
      have n3_ := zm4 (Kd.S_below (z4_5 HO244.out) hb)
      have n4_ := zm4 (Kd.R_below (z4_4 HO248.out) hb)
      have n5_ := zm4 (Kd.S_below (z4_5 HO251.out) hb)
      have n6_ := zm4 (Kd.R_below (z4_4 HO255.out) hb)
      have n7_ := zm4 (Kd.S_below (z4_5 HO258.out) hb)
      have n8_ := zm4 (Kd.R_below (z4_4 HO263.out) hb)
      have n9_ := zm4 (Kd.S_below (z4_5 HO266.out) hb)
      have n10_ := zm4 (Kd.R_below (z4_4 HO270.out) hb)
      have n11_ := zm4 (Kd.S_below (z4_5 HO273.out) hb)
      have n12_ := zm4 (blk_below (g := gb229) (o := .cells #[.slice A0_0 l0_0.length c0_0, .slice A0_1 l0_1.length c0_1] 33 (0, 0)) (z4_1 BK229.out) hb)
      have n13_ := zm4 (blk_below (g := gb230) (o := .cells #[.slice A1_0 l1_0.length c1_0, .slice A1_1 l1_1.length c1_1] 33 (0, 0)) (z4_1 BK230.out) hb)
      have n14_ := zm4 (blk_below (g := gb252) (o := .cells #[.slice Ao128 t246.length co128, .slice Ao132 t249.length co132] 25 (0, 0)) (z4_1 BK252.out) hb)
      have n15_ := zm4 (blk_below (g := gb259) (o := .cells #[.slice Ao136 t253.length co136, .slice Ao141 t256.length co141] 25 (0, 0)) (z4_1 BK259.out) hb)
      have n16_ := zm4 (below_step (z4_7 HB.out GE229.out GE230.out GE252.out GE259.out) hb)
      clear HO235
      clear HO238
      clear HO241
      clear HO244
      clear HO248
      clear HO251
      clear HO255
      clear HO258
      clear HO263
      clear HO266
      clear HO270
      clear HO273
      clear BK229
      clear BK230
      clear BK252
      clear BK259
      clear HB
      have HO235 := n0_
      have HO238 := n1_
      have HO241 := n2_
      have HO244 := n3_
      have HO248 := n4_
      have HO251 := n5_
      have HO255 := n6_
      have HO258 := n7_
      have HO263 := n8_
      have HO266 := n9_
      have HO270 := n10_
      have HO273 := n11_
      have BK229 := n12_
      have BK230 := n13_
      have BK252 := n14_
      have BK259 := n15_
      have HB := n16_
      clear n0_ n1_ n2_ n3_ n4_ n5_ n6_ n7_ n8_ n9_ n10_ n11_ n12_ n13_ n14_ n15_ n16_
      (try clear hb)
      (try clear hb2)
      (try clear hk)
      (try clear hi)
      refine hK.out _ _ ⟨(blk_cell BK259.out 0).trans rfl, (blk_cell BK259.out 1).trans rfl, (blk_cell BK230.out 0).trans rfl, (blk_cell BK230.out 1).trans rfl⟩ (fun hHeld => ?_)
      clear hK K
      refine norm_ (a' := ?_) ?_ ?_
      rotate_left
      ·show Act.put _ (some 43) _ = _
       simp only [Act.put, List.setIfInBounds_toArray, List.set_cons_zero, List.set_cons_succ, i64_w, i32_w]
       rfl
      refine pure_ (i := 4) (N := some 44) (v := ?_) (a' := ?_) #[true, true, true, true, true] rfl rfl (by kernel_rfl) (fun _ _ _ h => h) (Or.inl ⟨by rfl, ?_⟩) ?_ ?_
      rotate_left
      ·intro w'
       go_simp
       with_reducible rfl
      rotate_left
      ·simp only [Act.put, List.setIfInBounds_toArray, List.set_cons_zero, List.set_cons_succ, i64_w, i32_w]
       rfl
      refine done_ (by kernel_rfl) ?_
      try go_wp2
      go_ret
      exact ⟨by first | rfl | (simp [errW_none, errW_some] <;> rfl) | (simp [*, errW_none, errW_some] <;> rfl), z4_7 HB.out GE229.out GE230.out GE252.out GE259.out⟩
    ·replace c62 := Bool.eq_false_iff.mpr c62
     subst c62
     have H1 : (some false) = some r := by rw [if_neg (show ¬ (false = true) by decide)] at H; exact H
     clear H
     have H := H1
     clear H1
     obtain rfl := Option.some.inj H
     go_enter Try.func4, Try.ntmps4
     try go_wp2_with (first | ((with_reducible refine gate_dst (N := 2) rfl ?_); refine box_event ?hg (N := 2) ?hd (cs := #[.slice A0_0 l0_0.length c0_0, .slice A0_1 l0_1.length c0_1]) (t := 33) ?hr ?_; (case hd => rfl); (case hg => rfl); (case hr => first | (go_simp; done) | (go_simp; rfl)); intro gb229 hg w154 hbox hb; have n0_ := zm4 (below_step (z4_0 HB.out) hb); have n1_ := zm4 (hbox); have n2_ := zm4 ((by rw [hg]; exact (below_size (z4_0 HB.out)) : w.heap.size ≤ gb229)); have n3_ := zm4 ((by rw [hg]; exact (below_size (z4_0 HB.out)) : w.heap.size ≤ gb229)); clear HB; have HB := n0_; have BK229 := n1_; have GW229 := n2_; have GE229 := n3_; clear n0_ n1_ n2_ n3_; clear hb hbox hg) | ((with_reducible refine gate_dst (N := 3) rfl ?_); refine box_event ?hg (N := 3) ?hd (cs := #[.slice A1_0 l1_0.length c1_0, .slice A1_1 l1_1.length c1_1]) (t := 33) ?hr ?_; (case hd => rfl); (case hg => rfl); (case hr => first | (go_simp; done) | (go_simp; rfl)); intro gb230 hg w155 hbox hb; have n0_ := zm4 (blk_below (g := gb229) (o := .cells #[.slice A0_0 l0_0.length c0_0, .slice A0_1 l0_1.length c0_1] 33 (0, 0)) (z4_1 BK229.out) hb); have n1_ := zm4 (below_step (z4_2 HB.out GE229.out) hb); have n2_ := zm4 (hbox); have n3_ := zm4 ((by rw [hg]; exact (below_size (z4_2 HB.out GE229.out)) : w.heap.size ≤ gb230)); have n4_ := zm4 ((by rw [hg]; exact (below_size (z4_2 HB.out GE229.out)) : w.heap.size ≤ gb230)); have n5_ := zm4 ((by rw [hg]; exact Nat.ne_of_lt (blk_lt (g := gb229) (o := .cells #[.slice A0_0 l0_0.length c0_0, .slice A0_1 l0_1.length c0_1] 33 (0, 0)) (z4_1 BK229.out)) : gb229 ≠ gb230)); have n6_ := zm4 ((by rw [hg]; exact Nat.ne_of_gt (blk_lt (g := gb229) (o := .cells #[.slice A0_0 l0_0.length c0_0, .slice A0_1 l0_1.length c0_1] 33 (0, 0)) (z4_1 BK229.out)) : gb230 ≠ gb229)); clear BK229; clear HB; have BK229 := n0_; have HB := n1_; have BK230 := n2_; have GW230 := n3_; have GE230 := n4_; have NB229_230 := n5_; have NB230_229 := n6_; clear n0_ n1_ n2_ n3_ n4_ n5_ n6_; clear hb hbox hg; have hnb156 := NB229_230.out; have hnc156 := NB230_229.out; have hcz157_0 : w155.cell? ⟨gb229, 0, none⟩ = some (.slice A0_0 l0_0.length c0_0) := (blk_cell BK229.out 0).trans rfl; have hcz157_1 : w155.cell? ⟨gb229, 1, none⟩ = some (.slice A0_1 l0_1.length c0_1) := (blk_cell BK229.out 1).trans rfl; have hfz157_0 := blk_frozen BK229.out 0; have hfz157_1 := blk_frozen BK229.out 1) | ((with_reducible refine gate_callee (f := 12) rfl ?_); refine goesL_ (some 12) rfl rfl Try.func12 (by kernel_rfl) rfl #[.agg #[.slice A0_0 l0_0.length c0_0, .slice A0_1 l0_1.length c0_1], .int .i64 1048576] rfl (by (try simp only [List.map_toArray, List.map_cons, List.map_nil]); first | done | rfl | (simp only [List.length_drop, List.length_take]; rfl)) ?_; (with_reducible refine (laws_szGuest.calls k _ _ l0_0 _ _ l0_1 1048576 t231 _ ?side1 ?side2 ?side3 ?side4 A3.out).mono ?_); (case side1 => repeat (first | exact (Kd.C_below HR0_0.out HB.out) | (with_reducible refine Kd.C_alloc ?_ _) | (with_reducible refine Kd.C_drewN ?_ _) | (with_reducible refine Kd.C_drew ?_))); (case side2 => exact HC0_0.out); (case side3 => repeat (first | exact (Kd.C_below HR0_1.out HB.out) | (with_reducible refine Kd.C_alloc ?_ _) | (with_reducible refine Kd.C_drewN ?_ _) | (with_reducible refine Kd.C_drew ?_))); (case side4 => exact HC0_1.out); rintro e w158 ⟨rfl, hb⟩; refine ⟨_, rfl, ?_⟩; have n0_ := zm4 (blk_below (g := gb229) (o := .cells #[.slice A0_0 l0_0.length c0_0, .slice A0_1 l0_1.length c0_1] 33 (0, 0)) (z4_1 BK229.out) hb); have n1_ := zm4 (blk_below (g := gb230) (o := .cells #[.slice A1_0 l1_0.length c1_0, .slice A1_1 l1_1.length c1_1] 33 (0, 0)) (z4_1 BK230.out) hb); have n2_ := zm4 (below_step (z4_3 HB.out GE229.out GE230.out) hb); clear BK229; clear BK230; clear HB; have BK229 := n0_; have BK230 := n1_; have HB := n2_; clear n0_ n1_ n2_; (try clear hb); (try clear hb2); (try clear hk); (try clear hi); have hcz159_0 : w158.cell? ⟨gb230, 0, none⟩ = some (.slice A1_0 l1_0.length c1_0) := (blk_cell BK230.out 0).trans rfl; have hcz159_1 : w158.cell? ⟨gb230, 1, none⟩ = some (.slice A1_1 l1_1.length c1_1) := (blk_cell BK230.out 1).trans rfl; have hfz159_0 := blk_frozen BK230.out 0; have hfz159_1 := blk_frozen BK230.out 1) | ((with_reducible refine gate_callee (f := 12) rfl ?_); refine goesL_ (some 17) rfl rfl Try.func12 (by kernel_rfl) rfl #[.agg #[.slice A1_0 l1_0.length c1_0, .slice A1_1 l1_1.length c1_1], .int .i64 t231] rfl (by (try simp only [List.map_toArray, List.map_cons, List.map_nil]); first | done | rfl | (simp only [List.length_drop, List.length_take]; rfl)) ?_; (with_reducible refine (laws_szGuest.calls k _ _ l1_0 _ _ l1_1 t231 t232 _ ?side1 ?side2 ?side3 ?side4 A10.out).mono ?_); (case side1 => repeat (first | exact (Kd.C_below HR1_0.out HB.out) | (with_reducible refine Kd.C_alloc ?_ _) | (with_reducible refine Kd.C_drewN ?_ _) | (with_reducible refine Kd.C_drew ?_))); (case side2 => exact HC1_0.out); (case side3 => repeat (first | exact (Kd.C_below HR1_1.out HB.out) | (with_reducible refine Kd.C_alloc ?_ _) | (with_reducible refine Kd.C_drewN ?_ _) | (with_reducible refine Kd.C_drew ?_))); (case side4 => exact HC1_1.out); rintro e w160 ⟨rfl, hb⟩; refine ⟨_, rfl, ?_⟩; have n0_ := zm4 (blk_below (g := gb229) (o := .cells #[.slice A0_0 l0_0.length c0_0, .slice A0_1 l0_1.length c0_1] 33 (0, 0)) (z4_1 BK229.out) hb); have n1_ := zm4 (blk_below (g := gb230) (o := .cells #[.slice A1_0 l1_0.length c1_0, .slice A1_1 l1_1.length c1_1] 33 (0, 0)) (z4_1 BK230.out) hb); have n2_ := zm4 (below_step (z4_3 HB.out GE229.out GE230.out) hb); clear BK229; clear BK230; clear HB; have BK229 := n0_; have BK230 := n1_; have HB := n2_; clear n0_ n1_ n2_; (try clear hb); (try clear hb2); (try clear hk); (try clear hi)))
     have n0_ := zm4 (blk_drew BK229.out)
     have n1_ := zm4 (blk_drew BK230.out)
     have n2_ := zm4 (below_drew1 HB.out)
     clear BK229
     clear BK230
     clear HB
     have BK229 := n0_
     have BK230 := n1_
     have HB := n2_
     clear n0_ n1_ n2_
     refine start_ (n := 6) (S := fun w' => w'.cell? ⟨gb229, 0, none⟩ = some (.slice A0_0 l0_0.length c0_0) ∧ w'.cell? ⟨gb229, 1, none⟩ = some (.slice A0_1 l0_1.length c0_1) ∧ w'.cell? ⟨gb230, 0, none⟩ = some (.slice A1_0 l1_0.length c1_0) ∧ w'.cell? ⟨gb230, 1, none⟩ = some (.slice A1_1 l1_1.length c1_1)) (ds := []) #[false, false, false, false, false, false] (by kernel_rfl) rfl rfl ⟨(blk_cell BK229.out 0).trans rfl, (blk_cell BK229.out 1).trans rfl, (blk_cell BK230.out 0).trans rfl, (blk_cell BK230.out 1).trans rfl⟩ (fun hHeld => ?_)
     generalize w160.drew = w161 at BK229 BK230 HB hHeld ⊢
     refine take_ (i := 0) (N := some 20) (v := ?_) (a' := ?_) #[true, false, false, false, false, false] rfl rfl (by kernel_rfl) (fun _ _ _ h => h) (Or.inl ⟨by rfl, ?_⟩) hHeld ?_ ?_
     rotate_left
     ·rintro w' ⟨s0, s1, s2, s3⟩
      go_simp
      with_reducible rfl
     rotate_left
     ·simp only [Act.put, List.setIfInBounds_toArray, List.set_cons_zero, List.set_cons_succ, i64_w, i32_w]
      rfl
     refine take_ (i := 2) (N := some 22) (v := ?_) (a' := ?_) #[true, false, true, false, false, false] rfl rfl (by kernel_rfl) (fun _ _ _ h => h) (Or.inl ⟨by rfl, ?_⟩) hHeld ?_ ?_
     rotate_left
     ·rintro w' ⟨s0, s1, s2, s3⟩
      go_simp
      with_reducible rfl
     rotate_left
     ·simp only [Act.put, List.setIfInBounds_toArray, List.set_cons_zero, List.set_cons_succ, i64_w, i32_w]
      rfl
     refine one_ (i := 1) (N := some 21) #[true, true, true, false, false, false] rfl rfl (by kernel_rfl) (by decide) (fun K hK => ?_)
     refine goes_ Try.func14 (by kernel_rfl) rfl #[.agg #[.slice A0_0 l0_0.length c0_0, .slice A0_1 l0_1.length c0_1]] (by rfl) rfl rfl (by (try simp only [List.map_toArray, List.map_cons, List.map_nil]); first | done | rfl | (simp only [List.length_drop, List.length_take]; rfl)) ?_
     with_reducible refine (laws_toGuest.calls k _ _ l0_0 _ _ l0_1 t233 t236 _ ?side1 ?side2 ?side3 ?side4 A19.out).mono ?_
     (case side1 => repeat (first | exact (Kd.C_below HR0_0.out HB.out) | (with_reducible refine Kd.C_alloc ?_ _) | (with_reducible refine Kd.C_drewN ?_ _) | (with_reducible refine Kd.C_drew ?_)))
     (case side2 => exact HC0_0.out)
     (case side3 => repeat (first | exact (Kd.C_below HR0_1.out HB.out) | (with_reducible refine Kd.C_alloc ?_ _) | (with_reducible refine Kd.C_drewN ?_ _) | (with_reducible refine Kd.C_drew ?_)))
     (case side4 => exact HC0_1.out)
     rintro e w162 ⟨v234, v237, rfl, ho0, ho1, hb⟩
     refine ⟨_, rfl, ?_⟩
     have n0_ := zm4 (Kd.R_lower ho0 (below_size (z4_3 HB.out GE229.out GE230.out)))
     have n1_ := zm4 (Kd.S_lower ho1 (below_size (z4_3 HB.out GE229.out GE230.out)))
     have n2_ := zm4 (blk_below (g := gb229) (o := .cells #[.slice A0_0 l0_0.length c0_0, .slice A0_1 l0_1.length c0_1] 33 (0, 0)) (z4_1 BK229.out) hb)
     have n3_ := zm4 (blk_below (g := gb230) (o := .cells #[.slice A1_0 l1_0.length c1_0, .slice A1_1 l1_1.length c1_1] 33 (0, 0)) (z4_1 BK230.out) hb)
     have n4_ := zm4 (below_step (z4_3 HB.out GE229.out GE230.out) hb)
     clear BK229
     clear BK230
     clear HB
     have HO235 := n0_
     have HO238 := n1_
     have BK229 := n2_
     have BK230 := n3_
     have HB := n4_
     clear n0_ n1_ n2_ n3_ n4_
     (try clear hb)
     (try clear hb2)
     (try clear hk)
     (try clear hi)
     (try clear ho0)
     (try clear ho1)
     refine hK.out _ _ ⟨(blk_cell BK229.out 0).trans rfl, (blk_cell BK229.out 1).trans rfl, (blk_cell BK230.out 0).trans rfl, (blk_cell BK230.out 1).trans rfl⟩ (fun hHeld => ?_)
     clear hK K
     refine norm_ (a' := ?_) ?_ ?_
     rotate_left
     ·show Act.put _ (some 21) _ = _
      simp only [Act.put, List.setIfInBounds_toArray, List.set_cons_zero, List.set_cons_succ, i64_w, i32_w]
      rfl
     refine one_ (i := 3) (N := some 23) #[true, true, true, true, false, false] rfl rfl (by kernel_rfl) (by decide) (fun K hK => ?_)
     refine goes_ Try.func14 (by kernel_rfl) rfl #[.agg #[.slice A1_0 l1_0.length c1_0, .slice A1_1 l1_1.length c1_1]] (by rfl) rfl rfl (by (try simp only [List.map_toArray, List.map_cons, List.map_nil]); first | done | rfl | (simp only [List.length_drop, List.length_take]; rfl)) ?_
     with_reducible refine (laws_toGuest.calls k _ _ l1_0 _ _ l1_1 t239 t242 _ ?side1 ?side2 ?side3 ?side4 A20.out).mono ?_
     (case side1 => repeat (first | exact (Kd.C_below HR1_0.out HB.out) | (with_reducible refine Kd.C_alloc ?_ _) | (with_reducible refine Kd.C_drewN ?_ _) | (with_reducible refine Kd.C_drew ?_)))
     (case side2 => exact HC1_0.out)
     (case side3 => repeat (first | exact (Kd.C_below HR1_1.out HB.out) | (with_reducible refine Kd.C_alloc ?_ _) | (with_reducible refine Kd.C_drewN ?_ _) | (with_reducible refine Kd.C_drew ?_)))
     (case side4 => exact HC1_1.out)
     rintro e w163 ⟨v240, v243, rfl, ho0, ho1, hb⟩
     refine ⟨_, rfl, ?_⟩
     have n0_ := zm4 (Kd.R_elder' (z4_4 HO235.out) (Kd.R_base ho0) hb)
     have n1_ := zm4 (Kd.S_mono (Kd.S_told (Kd.S_told (Kd.S_old (z4_5 HO238.out) hb) (Kd.R_base ho0)) (Kd.S_base ho1)) (fun _ h_ => h_.1))
     have n2_ := zm4 (Kd.R_lower (Kd.R_new' ho0 (Kd.R_lt (z4_4 HO235.out))) (below_size (z4_3 HB.out GE229.out GE230.out)))
     have n3_ := zm4 (Kd.S_lower (Kd.S_new' (Kd.S_new' ho1 (Kd.R_lt (z4_4 HO235.out))) (Kd.S_lt (z4_5 HO238.out))) (below_size (z4_3 HB.out GE229.out GE230.out)))
     have n4_ := zm4 (blk_below (g := gb229) (o := .cells #[.slice A0_0 l0_0.length c0_0, .slice A0_1 l0_1.length c0_1] 33 (0, 0)) (z4_1 BK229.out) hb)
     have n5_ := zm4 (blk_below (g := gb230) (o := .cells #[.slice A1_0 l1_0.length c1_0, .slice A1_1 l1_1.length c1_1] 33 (0, 0)) (z4_1 BK230.out) hb)
     have n6_ := zm4 (below_step (z4_3 HB.out GE229.out GE230.out) hb)
     clear HO235
     clear HO238
     clear BK229
     clear BK230
     clear HB
     have HO235 := n0_
     have HO238 := n1_
     have HO241 := n2_
     have HO244 := n3_
     have BK229 := n4_
     have BK230 := n5_
     have HB := n6_
     clear n0_ n1_ n2_ n3_ n4_ n5_ n6_
     (try clear hb)
     (try clear hb2)
     (try clear hk)
     (try clear hi)
     (try clear ho0)
     (try clear ho1)
     obtain ⟨Ao164, co164, eo164⟩ := Kd.R_slice HO235.out
     (first | subst eo164 | (injection eo164 with f1_ f2_ f3_; have f4_ := f1_.symm; have f5_ := f3_.symm; clear f1_ f2_ f3_; subst f4_; subst f5_))
     obtain ⟨Ao165, co165, eo165⟩ := Kd.S_slice HO238.out
     (first | subst eo165 | (injection eo165 with f1_ f2_ f3_; have f4_ := f1_.symm; have f5_ := f3_.symm; clear f1_ f2_ f3_; subst f4_; subst f5_))
     obtain ⟨Ao166, co166, eo166⟩ := Kd.R_slice HO241.out
     (first | subst eo166 | (injection eo166 with f1_ f2_ f3_; have f4_ := f1_.symm; have f5_ := f3_.symm; clear f1_ f2_ f3_; subst f4_; subst f5_))
     obtain ⟨Ao167, co167, eo167⟩ := Kd.S_slice HO244.out
     (first | subst eo167 | (injection eo167 with f1_ f2_ f3_; have f4_ := f1_.symm; have f5_ := f3_.symm; clear f1_ f2_ f3_; subst f4_; subst f5_))
     refine hK.out _ _ ⟨(blk_cell BK229.out 0).trans rfl, (blk_cell BK229.out 1).trans rfl, (blk_cell BK230.out 0).trans rfl, (blk_cell BK230.out 1).trans rfl⟩ (fun hHeld => ?_)
     clear hK K
     refine norm_ (a' := ?_) ?_ ?_
     rotate_left
     ·show Act.put _ (some 23) _ = _
      simp only [Act.put, List.setIfInBounds_toArray, List.set_cons_zero, List.set_cons_succ, i64_w, i32_w]
      rfl
     refine one_ (i := 4) (N := some 24) #[true, true, true, true, true, false] rfl rfl (by kernel_rfl) (by decide) (fun K hK => ?_)
     refine goes_ Try.func13 (by kernel_rfl) rfl #[.agg #[.slice Ao164 t233.length co164, .slice Ao165 t236.length co165], .agg #[.slice Ao166 t239.length co166, .slice Ao167 t242.length co167]] (by rfl) rfl rfl (by (try simp only [List.map_toArray, List.map_cons, List.map_nil]); first | done | rfl | (simp only [List.length_drop, List.length_take]; rfl)) ?_
     with_reducible refine (spec_SameGuest.calls k _ _ t233 _ _ t236 _ _ t239 _ _ t242 t245 _ ?side1 ?side2 ?side3 ?side4 ?side5 ?side6 ?side7 ?side8 A21.out).mono ?_
     (case side1 => repeat (first | exact (Kd.R_reads' HO235.out).2.2 | (with_reducible refine Kd.C_alloc ?_ _) | (with_reducible refine Kd.C_drewN ?_ _) | (with_reducible refine Kd.C_drew ?_)))
     (case side2 => exact (Kd.R_reads' HO235.out).2.1)
     (case side3 => repeat (first | exact (Kd.S_reads' HO238.out).2.2 | (with_reducible refine Kd.C_alloc ?_ _) | (with_reducible refine Kd.C_drewN ?_ _) | (with_reducible refine Kd.C_drew ?_)))
     (case side4 => exact (Kd.S_reads' HO238.out).2.1)
     (case side5 => repeat (first | exact (Kd.R_reads' HO241.out).2.2 | (with_reducible refine Kd.C_alloc ?_ _) | (with_reducible refine Kd.C_drewN ?_ _) | (with_reducible refine Kd.C_drew ?_)))
     (case side6 => exact (Kd.R_reads' HO241.out).2.1)
     (case side7 => repeat (first | exact (Kd.S_reads' HO244.out).2.2 | (with_reducible refine Kd.C_alloc ?_ _) | (with_reducible refine Kd.C_drewN ?_ _) | (with_reducible refine Kd.C_drew ?_)))
     (case side8 => exact (Kd.S_reads' HO244.out).2.1)
     rintro e w168 ⟨rfl, hb⟩
     refine ⟨_, rfl, ?_⟩
     have n0_ := zm4 (Kd.R_below (z4_4 HO235.out) hb)
     have n1_ := zm4 (Kd.S_below (z4_5 HO238.out) hb)
     have n2_ := zm4 (Kd.R_below (z4_4 HO241.out) hb)
     have n3_ := zm4 (Kd.S_below (z4_5 HO244.out) hb)
     have n4_ := zm4 (blk_below (g := gb229) (o := .cells #[.slice A0_0 l0_0.length c0_0, .slice A0_1 l0_1.length c0_1] 33 (0, 0)) (z4_1 BK229.out) hb)
     have n5_ := zm4 (blk_below (g := gb230) (o := .cells #[.slice A1_0 l1_0.length c1_0, .slice A1_1 l1_1.length c1_1] 33 (0, 0)) (z4_1 BK230.out) hb)
     have n6_ := zm4 (below_step (z4_3 HB.out GE229.out GE230.out) hb)
     clear HO235
     clear HO238
     clear HO241
     clear HO244
     clear BK229
     clear BK230
     clear HB
     have HO235 := n0_
     have HO238 := n1_
     have HO241 := n2_
     have HO244 := n3_
     have BK229 := n4_
     have BK230 := n5_
     have HB := n6_
     clear n0_ n1_ n2_ n3_ n4_ n5_ n6_
     (try clear hb)
     (try clear hb2)
     (try clear hk)
     (try clear hi)
     refine hK.out _ _ ⟨(blk_cell BK229.out 0).trans rfl, (blk_cell BK229.out 1).trans rfl, (blk_cell BK230.out 0).trans rfl, (blk_cell BK230.out 1).trans rfl⟩ (fun hHeld => ?_)
     clear hK K
     refine norm_ (a' := ?_) ?_ ?_
     rotate_left
     ·show Act.put _ (some 24) _ = _
      simp only [Act.put, List.setIfInBounds_toArray, List.set_cons_zero, List.set_cons_succ, i64_w, i32_w]
      rfl
     refine pure_ (i := 5) (N := some 6) (v := ?_) (a' := ?_) #[true, true, true, true, true, true] rfl rfl (by kernel_rfl) (fun _ _ _ h => h) (Or.inl ⟨by rfl, ?_⟩) ?_ ?_
     rotate_left
     ·intro w'
      go_simp
      with_reducible rfl
     rotate_left
     ·simp only [Act.put, List.setIfInBounds_toArray, List.set_cons_zero, List.set_cons_succ, i64_w, i32_w]
      rfl
     refine done_ (by kernel_rfl) ?_
     have hcz169_0 : w168.cell? ⟨gb229, 0, none⟩ = some (.slice A0_0 l0_0.length c0_0) := (blk_cell BK229.out 0).trans rfl
     have hcz169_1 : w168.cell? ⟨gb229, 1, none⟩ = some (.slice A0_1 l0_1.length c0_1) := (blk_cell BK229.out 1).trans rfl
     have hfz169_0 := blk_frozen BK229.out 0
     have hfz169_1 := blk_frozen BK229.out 1
     try go_wp2_with (first | ((with_reducible refine gate_callee (f := 14) rfl ?_); refine goesL_ (some 26) rfl rfl Try.func14 (by kernel_rfl) rfl #[.agg #[.slice A0_0 l0_0.length c0_0, .slice A0_1 l0_1.length c0_1]] rfl (by (try simp only [List.map_toArray, List.map_cons, List.map_nil]); first | done | rfl | (simp only [List.length_drop, List.length_take]; rfl)) ?_; (with_reducible refine (laws_toGuest.calls k _ _ l0_0 _ _ l0_1 t246 t249 _ ?side1 ?side2 ?side3 ?side4 A22.out).mono ?_); (case side1 => repeat (first | exact (Kd.C_below HR0_0.out HB.out) | (with_reducible refine Kd.C_alloc ?_ _) | (with_reducible refine Kd.C_drewN ?_ _) | (with_reducible refine Kd.C_drew ?_))); (case side2 => exact HC0_0.out); (case side3 => repeat (first | exact (Kd.C_below HR0_1.out HB.out) | (with_reducible refine Kd.C_alloc ?_ _) | (with_reducible refine Kd.C_drewN ?_ _) | (with_reducible refine Kd.C_drew ?_))); (case side4 => exact HC0_1.out); rintro e w170 ⟨v247, v250, rfl, ho0, ho1, hb⟩; refine ⟨_, rfl, ?_⟩; have n0_ := zm4 (Kd.R_elder' (z4_4 HO235.out) (Kd.R_base ho0) hb); have n1_ := zm4 (Kd.S_mono (Kd.S_told (Kd.S_told (Kd.S_old (z4_5 HO238.out) hb) (Kd.R_base ho0)) (Kd.S_base ho1)) (fun _ h_ => h_.1)); have n2_ := zm4 (Kd.R_elder' (z4_4 HO241.out) (Kd.R_base ho0) hb); have n3_ := zm4 (Kd.S_mono (Kd.S_told (Kd.S_told (Kd.S_old (z4_5 HO244.out) hb) (Kd.R_base ho0)) (Kd.S_base ho1)) (fun _ h_ => h_.1)); have n4_ := zm4 (Kd.R_lower (Kd.R_new' (Kd.R_new' ho0 (Kd.R_lt (z4_4 HO235.out))) (Kd.R_lt (z4_4 HO241.out))) (below_size (z4_3 HB.out GE229.out GE230.out))); have n5_ := zm4 (Kd.S_lower (Kd.S_new' (Kd.S_new' (Kd.S_new' (Kd.S_new' ho1 (Kd.R_lt (z4_4 HO235.out))) (Kd.S_lt (z4_5 HO238.out))) (Kd.R_lt (z4_4 HO241.out))) (Kd.S_lt (z4_5 HO244.out))) (below_size (z4_3 HB.out GE229.out GE230.out))); have n6_ := zm4 (blk_below (g := gb229) (o := .cells #[.slice A0_0 l0_0.length c0_0, .slice A0_1 l0_1.length c0_1] 33 (0, 0)) (z4_1 BK229.out) hb); have n7_ := zm4 (blk_below (g := gb230) (o := .cells #[.slice A1_0 l1_0.length c1_0, .slice A1_1 l1_1.length c1_1] 33 (0, 0)) (z4_1 BK230.out) hb); have n8_ := zm4 (below_step (z4_3 HB.out GE229.out GE230.out) hb); clear HO235; clear HO238; clear HO241; clear HO244; clear BK229; clear BK230; clear HB; have HO235 := n0_; have HO238 := n1_; have HO241 := n2_; have HO244 := n3_; have HO248 := n4_; have HO251 := n5_; have BK229 := n6_; have BK230 := n7_; have HB := n8_; clear n0_ n1_ n2_ n3_ n4_ n5_ n6_ n7_ n8_; (try clear hb); (try clear hb2); (try clear hk); (try clear hi); (try clear ho0); (try clear ho1)) | ((with_reducible refine gate_dst (N := 7) rfl ?_); refine box_event ?hg (N := 7) ?hd (cs := #[.slice none 0 0, .slice none 0 0]) (t := 25) ?hr ?_; (case hd => rfl); (case hg => rfl); (case hr => first | (go_simp; done) | (go_simp; rfl)); intro gb252 hg w171 hbox hb; have n0_ := zm4 (Kd.R_below (z4_4 HO235.out) hb); have n1_ := zm4 (Kd.S_below (z4_5 HO238.out) hb); have n2_ := zm4 (Kd.R_below (z4_4 HO241.out) hb); have n3_ := zm4 (Kd.S_below (z4_5 HO244.out) hb); have n4_ := zm4 (Kd.R_below (z4_4 HO248.out) hb); have n5_ := zm4 (Kd.S_below (z4_5 HO251.out) hb); have n6_ := zm4 (blk_below (g := gb229) (o := .cells #[.slice A0_0 l0_0.length c0_0, .slice A0_1 l0_1.length c0_1] 33 (0, 0)) (z4_1 BK229.out) hb); have n7_ := zm4 (blk_below (g := gb230) (o := .cells #[.slice A1_0 l1_0.length c1_0, .slice A1_1 l1_1.length c1_1] 33 (0, 0)) (z4_1 BK230.out) hb); have n8_ := zm4 (below_step (z4_3 HB.out GE229.out GE230.out) hb); have n9_ := zm4 (hbox); have n10_ := zm4 ((by rw [hg]; exact (below_size (z4_3 HB.out GE229.out GE230.out)) : w.heap.size ≤ gb252)); have n11_ := zm4 ((by rw [hg]; exact (below_size (z4_3 HB.out GE229.out GE230.out)) : w.heap.size ≤ gb252)); have n12_ := zm4 ((by rw [hg]; exact Nat.ne_of_lt (blk_lt (g := gb229) (o := .cells #[.slice A0_0 l0_0.length c0_0, .slice A0_1 l0_1.length c0_1] 33 (0, 0)) (z4_1 BK229.out)) : gb229 ≠ gb252)); have n13_ := zm4 ((by rw [hg]; exact Nat.ne_of_gt (blk_lt (g := gb229) (o := .cells #[.slice A0_0 l0_0.length c0_0, .slice A0_1 l0_1.length c0_1] 33 (0, 0)) (z4_1 BK229.out)) : gb252 ≠ gb229)); have n14_ := zm4 ((by rw [hg]; exact Nat.ne_of_lt (blk_lt (g := gb230) (o := .cells #[.slice A1_0 l1_0.length c1_0, .slice A1_1 l1_1.length c1_1] 33 (0, 0)) (z4_1 BK230.out)) : gb230 ≠ gb252)); have n15_ := zm4 ((by rw [hg]; exact Nat.ne_of_gt (blk_lt (g := gb230) (o := .cells #[.slice A1_0 l1_0.length c1_0, .slice A1_1 l1_1.length c1_1] 33 (0, 0)) (z4_1 BK230.out)) : gb252 ≠ gb230)); clear HO235; clear HO238; clear HO241; clear HO244; clear HO248; clear HO251; clear BK229; clear BK230; clear HB; have HO235 := n0_; have HO238 := n1_; have HO241 := n2_; have HO244 := n3_; have HO248 := n4_; have HO251 := n5_; have BK229 := n6_; have BK230 := n7_; have HB := n8_; have BK252 := n9_; have GW252 := n10_; have GE252 := n11_; have NB229_252 := n12_; have NB252_229 := n13_; have NB230_252 := n14_; have NB252_230 := n15_; clear n0_ n1_ n2_ n3_ n4_ n5_ n6_ n7_ n8_ n9_ n10_ n11_ n12_ n13_ n14_ n15_; clear hb hbox hg; obtain ⟨Ao172, co172, eo172⟩ := Kd.R_slice HO248.out; subst eo172; have hnb173 := NB252_229.out; have hnc173 := NB229_252.out; have hnb174 := NB252_230.out; have hnc174 := NB230_252.out; have hcz175_0 : w171.cell? ⟨gb252, 0, none⟩ = some (.slice none 0 0) := (blk_cell BK252.out 0).trans rfl; have hcz175_1 : w171.cell? ⟨gb252, 1, none⟩ = some (.slice none 0 0) := (blk_cell BK252.out 1).trans rfl; have hfz175_0 := blk_frozen BK252.out 0; have hfz175_1 := blk_frozen BK252.out 1; obtain ⟨Ao176, co176, eo176⟩ := Kd.S_slice HO251.out; subst eo176; have hcz177_0 : w171.cell? ⟨gb230, 0, none⟩ = some (.slice A1_0 l1_0.length c1_0) := (blk_cell BK230.out 0).trans rfl; have hcz177_1 : w171.cell? ⟨gb230, 1, none⟩ = some (.slice A1_1 l1_1.length c1_1) := (blk_cell BK230.out 1).trans rfl; have hfz177_0 := blk_frozen BK230.out 0; have hfz177_1 := blk_frozen BK230.out 1) | ((with_reducible refine gate_callee (f := 14) rfl ?_); refine goesL_ (some 28) rfl rfl Try.func14 (by kernel_rfl) rfl #[.agg #[.slice A1_0 l1_0.length c1_0, .slice A1_1 l1_1.length c1_1]] rfl (by (try simp only [List.map_toArray, List.map_cons, List.map_nil]); first | done | rfl | (simp only [List.length_drop, List.length_take]; rfl)) ?_; (with_reducible refine (laws_toGuest.calls k _ _ l1_0 _ _ l1_1 t253 t256 _ ?side1 ?side2 ?side3 ?side4 A23.out).mono ?_); (case side1 => exact Kd.C_below HR1_0.out (z4_6 HB.out GE229.out GE230.out GE252.out)); (case side2 => exact HC1_0.out); (case side3 => exact Kd.C_below HR1_1.out (z4_6 HB.out GE229.out GE230.out GE252.out)); (case side4 => exact HC1_1.out); rintro e w178 ⟨v254, v257, rfl, ho0, ho1, hb⟩; refine ⟨_, rfl, ?_⟩; have n0_ := zm4 (Kd.R_elder' (by (with_reducible repeat (first | apply Kd.R_alloc | apply Kd.R_drewN | apply Kd.R_drew)); exact (Kd.R_mono (Kd.R_far (p := ⟨gb252, 1, none⟩) (Kd.R_far (p := ⟨gb252, 0, none⟩) (Kd.R_types HO235.out BK252.out (by decide)) (fun _ hk => hk.2) (.slice Ao172 t246.length co172)) (fun _ hk => hk.2) (.slice Ao176 t249.length co176)) (fun _ h_ => h_.1))) (Kd.R_base ho0) hb); have n1_ := zm4 (Kd.S_mono (Kd.S_told (Kd.S_told (Kd.S_old (by (with_reducible repeat (first | apply Kd.S_alloc | apply Kd.S_drewN | apply Kd.S_drew)); exact (Kd.S_mono (Kd.S_far (p := ⟨gb252, 1, none⟩) (Kd.S_far (p := ⟨gb252, 0, none⟩) (Kd.S_types HO238.out BK252.out (by decide)) (fun _ hk => hk.2) (.slice Ao172 t246.length co172)) (fun _ hk => hk.2) (.slice Ao176 t249.length co176)) (fun _ h_ => h_.1))) hb) (Kd.R_base ho0)) (Kd.S_base ho1)) (fun _ h_ => h_.1)); have n2_ := zm4 (Kd.R_elder' (by (with_reducible repeat (first | apply Kd.R_alloc | apply Kd.R_drewN | apply Kd.R_drew)); exact (Kd.R_mono (Kd.R_far (p := ⟨gb252, 1, none⟩) (Kd.R_far (p := ⟨gb252, 0, none⟩) (Kd.R_types HO241.out BK252.out (by decide)) (fun _ hk => hk.2) (.slice Ao172 t246.length co172)) (fun _ hk => hk.2) (.slice Ao176 t249.length co176)) (fun _ h_ => h_.1))) (Kd.R_base ho0) hb); have n3_ := zm4 (Kd.S_mono (Kd.S_told (Kd.S_told (Kd.S_old (by (with_reducible repeat (first | apply Kd.S_alloc | apply Kd.S_drewN | apply Kd.S_drew)); exact (Kd.S_mono (Kd.S_far (p := ⟨gb252, 1, none⟩) (Kd.S_far (p := ⟨gb252, 0, none⟩) (Kd.S_types HO244.out BK252.out (by decide)) (fun _ hk => hk.2) (.slice Ao172 t246.length co172)) (fun _ hk => hk.2) (.slice Ao176 t249.length co176)) (fun _ h_ => h_.1))) hb) (Kd.R_base ho0)) (Kd.S_base ho1)) (fun _ h_ => h_.1)); have n4_ := zm4 (Kd.R_elder' (by (with_reducible repeat (first | apply Kd.R_alloc | apply Kd.R_drewN | apply Kd.R_drew)); exact (Kd.R_mono (Kd.R_far (p := ⟨gb252, 1, none⟩) (Kd.R_far (p := ⟨gb252, 0, none⟩) (Kd.R_types HO248.out BK252.out (by decide)) (fun _ hk => hk.2) (.slice Ao172 t246.length co172)) (fun _ hk => hk.2) (.slice Ao176 t249.length co176)) (fun _ h_ => h_.1))) (Kd.R_base ho0) hb); have n5_ := zm4 (Kd.S_mono (Kd.S_told (Kd.S_told (Kd.S_old (by (with_reducible repeat (first | apply Kd.S_alloc | apply Kd.S_drewN | apply Kd.S_drew)); exact (Kd.S_mono (Kd.S_far (p := ⟨gb252, 1, none⟩) (Kd.S_far (p := ⟨gb252, 0, none⟩) (Kd.S_types HO251.out BK252.out (by decide)) (fun _ hk => hk.2) (.slice Ao172 t246.length co172)) (fun _ hk => hk.2) (.slice Ao176 t249.length co176)) (fun _ h_ => h_.1))) hb) (Kd.R_base ho0)) (Kd.S_base ho1)) (fun _ h_ => h_.1)); have n6_ := zm4 (Kd.R_lower (Kd.R_new' (Kd.R_new' (Kd.R_new' ho0 (Kd.R_lt (by (with_reducible repeat (first | apply Kd.R_alloc | apply Kd.R_drewN | apply Kd.R_drew)); exact (Kd.R_mono (Kd.R_far (p := ⟨gb252, 1, none⟩) (Kd.R_far (p := ⟨gb252, 0, none⟩) (Kd.R_types HO235.out BK252.out (by decide)) (fun _ hk => hk.2) (.slice Ao172 t246.length co172)) (fun _ hk => hk.2) (.slice Ao176 t249.length co176)) (fun _ h_ => h_.1))))) (Kd.R_lt (by (with_reducible repeat (first | apply Kd.R_alloc | apply Kd.R_drewN | apply Kd.R_drew)); exact (Kd.R_mono (Kd.R_far (p := ⟨gb252, 1, none⟩) (Kd.R_far (p := ⟨gb252, 0, none⟩) (Kd.R_types HO241.out BK252.out (by decide)) (fun _ hk => hk.2) (.slice Ao172 t246.length co172)) (fun _ hk => hk.2) (.slice Ao176 t249.length co176)) (fun _ h_ => h_.1))))) (Kd.R_lt (by (with_reducible repeat (first | apply Kd.R_alloc | apply Kd.R_drewN | apply Kd.R_drew)); exact (Kd.R_mono (Kd.R_far (p := ⟨gb252, 1, none⟩) (Kd.R_far (p := ⟨gb252, 0, none⟩) (Kd.R_types HO248.out BK252.out (by decide)) (fun _ hk => hk.2) (.slice Ao172 t246.length co172)) (fun _ hk => hk.2) (.slice Ao176 t249.length co176)) (fun _ h_ => h_.1))))) (below_size (z4_6 HB.out GE229.out GE230.out GE252.out))); have n7_ := zm4 (Kd.S_lower (Kd.S_new' (Kd.S_new' (Kd.S_new' (Kd.S_new' (Kd.S_new' (Kd.S_new' ho1 (Kd.R_lt (by (with_reducible repeat (first | apply Kd.R_alloc | apply Kd.R_drewN | apply Kd.R_drew)); exact (Kd.R_mono (Kd.R_far (p := ⟨gb252, 1, none⟩) (Kd.R_far (p := ⟨gb252, 0, none⟩) (Kd.R_types HO235.out BK252.out (by decide)) (fun _ hk => hk.2) (.slice Ao172 t246.length co172)) (fun _ hk => hk.2) (.slice Ao176 t249.length co176)) (fun _ h_ => h_.1))))) (Kd.S_lt (by (with_reducible repeat (first | apply Kd.S_alloc | apply Kd.S_drewN | apply Kd.S_drew)); exact (Kd.S_mono (Kd.S_far (p := ⟨gb252, 1, none⟩) (Kd.S_far (p := ⟨gb252, 0, none⟩) (Kd.S_types HO238.out BK252.out (by decide)) (fun _ hk => hk.2) (.slice Ao172 t246.length co172)) (fun _ hk => hk.2) (.slice Ao176 t249.length co176)) (fun _ h_ => h_.1))))) (Kd.R_lt (by (with_reducible repeat (first | apply Kd.R_alloc | apply Kd.R_drewN | apply Kd.R_drew)); exact (Kd.R_mono (Kd.R_far (p := ⟨gb252, 1, none⟩) (Kd.R_far (p := ⟨gb252, 0, none⟩) (Kd.R_types HO241.out BK252.out (by decide)) (fun _ hk => hk.2) (.slice Ao172 t246.length co172)) (fun _ hk => hk.2) (.slice Ao176 t249.length co176)) (fun _ h_ => h_.1))))) (Kd.S_lt (by (with_reducible repeat (first | apply Kd.S_alloc | apply Kd.S_drewN | apply Kd.S_drew)); exact (Kd.S_mono (Kd.S_far (p := ⟨gb252, 1, none⟩) (Kd.S_far (p := ⟨gb252, 0, none⟩) (Kd.S_types HO244.out BK252.out (by decide)) (fun _ hk => hk.2) (.slice Ao172 t246.length co172)) (fun _ hk => hk.2) (.slice Ao176 t249.length co176)) (fun _ h_ => h_.1))))) (Kd.R_lt (by (with_reducible repeat (first | apply Kd.R_alloc | apply Kd.R_drewN | apply Kd.R_drew)); exact (Kd.R_mono (Kd.R_far (p := ⟨gb252, 1, none⟩) (Kd.R_far (p := ⟨gb252, 0, none⟩) (Kd.R_types HO248.out BK252.out (by decide)) (fun _ hk => hk.2) (.slice Ao172 t246.length co172)) (fun _ hk => hk.2) (.slice Ao176 t249.length co176)) (fun _ h_ => h_.1))))) (Kd.S_lt (by (with_reducible repeat (first | apply Kd.S_alloc | apply Kd.S_drewN | apply Kd.S_drew)); exact (Kd.S_mono (Kd.S_far (p := ⟨gb252, 1, none⟩) (Kd.S_far (p := ⟨gb252, 0, none⟩) (Kd.S_types HO251.out BK252.out (by decide)) (fun _ hk => hk.2) (.slice Ao172 t246.length co172)) (fun _ hk => hk.2) (.slice Ao176 t249.length co176)) (fun _ h_ => h_.1))))) (below_size (z4_6 HB.out GE229.out GE230.out GE252.out))); have n8_ := zm4 (blk_below (g := gb229) (o := .cells #[.slice A0_0 l0_0.length c0_0, .slice A0_1 l0_1.length c0_1] 33 (0, 0)) (by (with_reducible repeat (first | refine blk_drewN ?_ _ | refine blk_drew ?_ | refine blk_alloc ?_ _)); refine blk_far ?_ NB229_252.out _; (with_reducible repeat (first | refine blk_drewN ?_ _ | refine blk_drew ?_ | refine blk_alloc ?_ _)); refine blk_far ?_ NB229_252.out _; (with_reducible repeat (first | refine blk_drewN ?_ _ | refine blk_drew ?_ | refine blk_alloc ?_ _)); exact BK229.out) hb); have n9_ := zm4 (blk_below (g := gb230) (o := .cells #[.slice A1_0 l1_0.length c1_0, .slice A1_1 l1_1.length c1_1] 33 (0, 0)) (by (with_reducible repeat (first | refine blk_drewN ?_ _ | refine blk_drew ?_ | refine blk_alloc ?_ _)); refine blk_far ?_ NB230_252.out _; (with_reducible repeat (first | refine blk_drewN ?_ _ | refine blk_drew ?_ | refine blk_alloc ?_ _)); refine blk_far ?_ NB230_252.out _; (with_reducible repeat (first | refine blk_drewN ?_ _ | refine blk_drew ?_ | refine blk_alloc ?_ _)); exact BK230.out) hb); have n10_ := zm4 (blk_below (g := gb252) (o := .cells #[.slice Ao172 t246.length co172, .slice Ao176 t249.length co176] 25 (0, 0)) (by (with_reducible repeat (first | refine blk_drewN ?_ _ | refine blk_drew ?_ | refine blk_alloc ?_ _)); refine blk_put (cs := #[.slice Ao172 t246.length co172, .slice none 0 0]) ?_ 1 _ rfl; (with_reducible repeat (first | refine blk_drewN ?_ _ | refine blk_drew ?_ | refine blk_alloc ?_ _)); refine blk_put (cs := #[.slice none 0 0, .slice none 0 0]) ?_ 0 _ rfl; (with_reducible repeat (first | refine blk_drewN ?_ _ | refine blk_drew ?_ | refine blk_alloc ?_ _)); exact BK252.out) hb); have n11_ := zm4 (below_step (z4_6 HB.out GE229.out GE230.out GE252.out) hb); clear HO235; clear HO238; clear HO241; clear HO244; clear HO248; clear HO251; clear BK229; clear BK230; clear BK252; clear HB; have HO235 := n0_; have HO238 := n1_; have HO241 := n2_; have HO244 := n3_; have HO248 := n4_; have HO251 := n5_; have HO255 := n6_; have HO258 := n7_; have BK229 := n8_; have BK230 := n9_; have BK252 := n10_; have HB := n11_; clear n0_ n1_ n2_ n3_ n4_ n5_ n6_ n7_ n8_ n9_ n10_ n11_; (try clear hb); (try clear hb2); (try clear hk); (try clear hi); (try clear ho0); (try clear ho1)) | ((with_reducible refine gate_dst (N := 8) rfl ?_); refine box_event ?hg (N := 8) ?hd (cs := #[.slice none 0 0, .slice none 0 0]) (t := 25) ?hr ?_; (case hd => rfl); (case hg => rfl); (case hr => first | (go_simp; done) | (go_simp; rfl)); intro gb259 hg w179 hbox hb; have n0_ := zm4 (Kd.R_below (z4_4 HO235.out) hb); have n1_ := zm4 (Kd.S_below (z4_5 HO238.out) hb); have n2_ := zm4 (Kd.R_below (z4_4 HO241.out) hb); have n3_ := zm4 (Kd.S_below (z4_5 HO244.out) hb); have n4_ := zm4 (Kd.R_below (z4_4 HO248.out) hb); have n5_ := zm4 (Kd.S_below (z4_5 HO251.out) hb); have n6_ := zm4 (Kd.R_below (z4_4 HO255.out) hb); have n7_ := zm4 (Kd.S_below (z4_5 HO258.out) hb); have n8_ := zm4 (blk_below (g := gb229) (o := .cells #[.slice A0_0 l0_0.length c0_0, .slice A0_1 l0_1.length c0_1] 33 (0, 0)) (z4_1 BK229.out) hb); have n9_ := zm4 (blk_below (g := gb230) (o := .cells #[.slice A1_0 l1_0.length c1_0, .slice A1_1 l1_1.length c1_1] 33 (0, 0)) (z4_1 BK230.out) hb); have n10_ := zm4 (blk_below (g := gb252) (o := .cells #[.slice Ao172 t246.length co172, .slice Ao176 t249.length co176] 25 (0, 0)) (z4_1 BK252.out) hb); have n11_ := zm4 (below_step (z4_6 HB.out GE229.out GE230.out GE252.out) hb); have n12_ := zm4 (hbox); have n13_ := zm4 ((by rw [hg]; exact (below_size (z4_6 HB.out GE229.out GE230.out GE252.out)) : w.heap.size ≤ gb259)); have n14_ := zm4 ((by rw [hg]; exact (below_size (z4_6 HB.out GE229.out GE230.out GE252.out)) : w.heap.size ≤ gb259)); have n15_ := zm4 ((by rw [hg]; exact Nat.ne_of_lt (blk_lt (g := gb229) (o := .cells #[.slice A0_0 l0_0.length c0_0, .slice A0_1 l0_1.length c0_1] 33 (0, 0)) (z4_1 BK229.out)) : gb229 ≠ gb259)); have n16_ := zm4 ((by rw [hg]; exact Nat.ne_of_gt (blk_lt (g := gb229) (o := .cells #[.slice A0_0 l0_0.length c0_0, .slice A0_1 l0_1.length c0_1] 33 (0, 0)) (z4_1 BK229.out)) : gb259 ≠ gb229)); have n17_ := zm4 ((by rw [hg]; exact Nat.ne_of_lt (blk_lt (g := gb230) (o := .cells #[.slice A1_0 l1_0.length c1_0, .slice A1_1 l1_1.length c1_1] 33 (0, 0)) (z4_1 BK230.out)) : gb230 ≠ gb259)); have n18_ := zm4 ((by rw [hg]; exact Nat.ne_of_gt (blk_lt (g := gb230) (o := .cells #[.slice A1_0 l1_0.length c1_0, .slice A1_1 l1_1.length c1_1] 33 (0, 0)) (z4_1 BK230.out)) : gb259 ≠ gb230)); have n19_ := zm4 ((by rw [hg]; exact Nat.ne_of_lt (blk_lt (g := gb252) (o := .cells #[.slice Ao172 t246.length co172, .slice Ao176 t249.length co176] 25 (0, 0)) (z4_1 BK252.out)) : gb252 ≠ gb259)); have n20_ := zm4 ((by rw [hg]; exact Nat.ne_of_gt (blk_lt (g := gb252) (o := .cells #[.slice Ao172 t246.length co172, .slice Ao176 t249.length co176] 25 (0, 0)) (z4_1 BK252.out)) : gb259 ≠ gb252)); clear HO235; clear HO238; clear HO241; clear HO244; clear HO248; clear HO251; clear HO255; clear HO258; clear BK229; clear BK230; clear BK252; clear HB; have HO235 := n0_; have HO238 := n1_; have HO241 := n2_; have HO244 := n3_; have HO248 := n4_; have HO251 := n5_; have HO255 := n6_; have HO258 := n7_; have BK229 := n8_; have BK230 := n9_; have BK252 := n10_; have HB := n11_; have BK259 := n12_; have GW259 := n13_; have GE259 := n14_; have NB229_259 := n15_; have NB259_229 := n16_; have NB230_259 := n17_; have NB259_230 := n18_; have NB252_259 := n19_; have NB259_252 := n20_; clear n0_ n1_ n2_ n3_ n4_ n5_ n6_ n7_ n8_ n9_ n10_ n11_ n12_ n13_ n14_ n15_ n16_ n17_ n18_ n19_ n20_; clear hb hbox hg; obtain ⟨Ao180, co180, eo180⟩ := Kd.R_slice HO255.out; subst eo180; have hnb181 := NB259_229.out; have hnc181 := NB229_259.out; have hnb182 := NB259_230.out; have hnc182 := NB230_259.out; have hnb183 := NB259_252.out; have hnc183 := NB252_259.out; have hcz184_0 : w179.cell? ⟨gb259, 0, none⟩ = some (.slice none 0 0) := (blk_cell BK259.out 0).trans rfl; have hcz184_1 : w179.cell? ⟨gb259, 1, none⟩ = some (.slice none 0 0) := (blk_cell BK259.out 1).trans rfl; have hfz184_0 := blk_frozen BK259.out 0; have hfz184_1 := blk_frozen BK259.out 1; obtain ⟨Ao185, co185, eo185⟩ := Kd.S_slice HO258.out; subst eo185; have hcz186_0 : w179.cell? ⟨gb252, 0, none⟩ = some (.slice Ao172 t246.length co172) := (blk_cell BK252.out 0).trans rfl; have hcz186_1 : w179.cell? ⟨gb252, 1, none⟩ = some (.slice Ao176 t249.length co176) := (blk_cell BK252.out 1).trans rfl; have hfz186_0 := blk_frozen BK252.out 0; have hfz186_1 := blk_frozen BK252.out 1) | ((with_reducible refine gate_callee (f := 15) rfl ?_); refine goesL_ (some 31) rfl rfl Try.func15 (by kernel_rfl) rfl #[.agg #[.slice Ao172 t246.length co172, .slice Ao176 t249.length co176], .agg #[.slice Ao180 t253.length co180, .slice Ao185 t256.length co185]] rfl (by (try simp only [List.map_toArray, List.map_cons, List.map_nil]); first | done | rfl | (simp only [List.length_drop, List.length_take]; rfl)) ?_; (with_reducible refine (impl_SameGuest.calls k _ _ t246 _ _ t249 _ _ t253 _ _ t256 t260 _ ?side1 ?side2 ?side3 ?side4 ?side5 ?side6 ?side7 ?side8 A24.out).mono ?_); (case side1 => refine (Kd.R_reads' (e := 3) (base := w.heap.size) (ok := fun k_ => (((True ∧ some k_ ≠ (.slice Ao164 t233.length co164 : Value).ownBlock) ∧ some k_ ≠ (.slice Ao166 t239.length co166 : Value).ownBlock) ∧ some k_ ≠ (.slice Ao180 t253.length co180 : Value).ownBlock)) (n := t246.length) (c := co172) ?_).2.2; exact (by (with_reducible repeat (first | apply Kd.R_alloc | apply Kd.R_drewN | apply Kd.R_drew)); exact (Kd.R_mono (Kd.R_far (p := ⟨gb259, 1, none⟩) (Kd.R_far (p := ⟨gb259, 0, none⟩) (Kd.R_types HO248.out BK259.out (by decide)) (fun _ hk => hk.2) (.slice Ao180 t253.length co180)) (fun _ hk => hk.2) (.slice Ao185 t256.length co185)) (fun _ h_ => h_.1)))); (case side2 => exact (Kd.R_reads' HO248.out).2.1); (case side3 => refine (Kd.S_reads' (e := 64) (base := w.heap.size) (ok := fun k_ => ((((((some k_ ≠ (.slice Ao172 t246.length co172 : Value).ownBlock ∧ some k_ ≠ (.slice Ao164 t233.length co164 : Value).ownBlock) ∧ some k_ ≠ (.slice Ao165 t236.length co165 : Value).ownBlock) ∧ some k_ ≠ (.slice Ao166 t239.length co166 : Value).ownBlock) ∧ some k_ ≠ (.slice Ao167 t242.length co167 : Value).ownBlock) ∧ some k_ ≠ (.slice Ao180 t253.length co180 : Value).ownBlock) ∧ some k_ ≠ (.slice Ao185 t256.length co185 : Value).ownBlock)) (n := t249.length) (c := co176) ?_).2.2; exact (by (with_reducible repeat (first | apply Kd.S_alloc | apply Kd.S_drewN | apply Kd.S_drew)); exact (Kd.S_mono (Kd.S_far (p := ⟨gb259, 1, none⟩) (Kd.S_far (p := ⟨gb259, 0, none⟩) (Kd.S_types HO251.out BK259.out (by decide)) (fun _ hk => hk.2) (.slice Ao180 t253.length co180)) (fun _ hk => hk.2) (.slice Ao185 t256.length co185)) (fun _ h_ => h_.1)))); (case side4 => exact (Kd.S_reads' HO251.out).2.1); (case side5 => refine (Kd.R_reads' (e := 3) (base := w.heap.size) (ok := fun k_ => (((True ∧ some k_ ≠ (.slice Ao164 t233.length co164 : Value).ownBlock) ∧ some k_ ≠ (.slice Ao166 t239.length co166 : Value).ownBlock) ∧ some k_ ≠ (.slice Ao172 t246.length co172 : Value).ownBlock)) (n := t253.length) (c := co180) ?_).2.2; exact (by (with_reducible repeat (first | apply Kd.R_alloc | apply Kd.R_drewN | apply Kd.R_drew)); exact (Kd.R_mono (Kd.R_far (p := ⟨gb259, 1, none⟩) (Kd.R_far (p := ⟨gb259, 0, none⟩) (Kd.R_types HO255.out BK259.out (by decide)) (fun _ hk => hk.2) (.slice Ao180 t253.length co180)) (fun _ hk => hk.2) (.slice Ao185 t256.length co185)) (fun _ h_ => h_.1)))); (case side6 => exact (Kd.R_reads' HO255.out).2.1); (case side7 => refine (Kd.S_reads' (e := 64) (base := w.heap.size) (ok := fun k_ => ((((((some k_ ≠ (.slice Ao180 t253.length co180 : Value).ownBlock ∧ some k_ ≠ (.slice Ao164 t233.length co164 : Value).ownBlock) ∧ some k_ ≠ (.slice Ao165 t236.length co165 : Value).ownBlock) ∧ some k_ ≠ (.slice Ao166 t239.length co166 : Value).ownBlock) ∧ some k_ ≠ (.slice Ao167 t242.length co167 : Value).ownBlock) ∧ some k_ ≠ (.slice Ao172 t246.length co172 : Value).ownBlock) ∧ some k_ ≠ (.slice Ao176 t249.length co176 : Value).ownBlock)) (n := t256.length) (c := co185) ?_).2.2; exact (by (with_reducible repeat (first | apply Kd.S_alloc | apply Kd.S_drewN | apply Kd.S_drew)); exact (Kd.S_mono (Kd.S_far (p := ⟨gb259, 1, none⟩) (Kd.S_far (p := ⟨gb259, 0, none⟩) (Kd.S_types HO258.out BK259.out (by decide)) (fun _ hk => hk.2) (.slice Ao180 t253.length co180)) (fun _ hk => hk.2) (.slice Ao185 t256.length co185)) (fun _ h_ => h_.1)))); (case side8 => exact (Kd.S_reads' HO258.out).2.1); rintro e w187 ⟨rfl, hb⟩; refine ⟨_, rfl, ?_⟩; have n0_ := zm4 (Kd.R_below (by (with_reducible repeat (first | apply Kd.R_alloc | apply Kd.R_drewN | apply Kd.R_drew)); exact (Kd.R_mono (Kd.R_far (p := ⟨gb259, 1, none⟩) (Kd.R_far (p := ⟨gb259, 0, none⟩) (Kd.R_types HO235.out BK259.out (by decide)) (fun _ hk => hk.2) (.slice Ao180 t253.length co180)) (fun _ hk => hk.2) (.slice Ao185 t256.length co185)) (fun _ h_ => h_.1))) hb); have n1_ := zm4 (Kd.S_below (by (with_reducible repeat (first | apply Kd.S_alloc | apply Kd.S_drewN | apply Kd.S_drew)); exact (Kd.S_mono (Kd.S_far (p := ⟨gb259, 1, none⟩) (Kd.S_far (p := ⟨gb259, 0, none⟩) (Kd.S_types HO238.out BK259.out (by decide)) (fun _ hk => hk.2) (.slice Ao180 t253.length co180)) (fun _ hk => hk.2) (.slice Ao185 t256.length co185)) (fun _ h_ => h_.1))) hb); have n2_ := zm4 (Kd.R_below (by (with_reducible repeat (first | apply Kd.R_alloc | apply Kd.R_drewN | apply Kd.R_drew)); exact (Kd.R_mono (Kd.R_far (p := ⟨gb259, 1, none⟩) (Kd.R_far (p := ⟨gb259, 0, none⟩) (Kd.R_types HO241.out BK259.out (by decide)) (fun _ hk => hk.2) (.slice Ao180 t253.length co180)) (fun _ hk => hk.2) (.slice Ao185 t256.length co185)) (fun _ h_ => h_.1))) hb); have n3_ := zm4 (Kd.S_below (by (with_reducible repeat (first | apply Kd.S_alloc | apply Kd.S_drewN | apply Kd.S_drew)); exact (Kd.S_mono (Kd.S_far (p := ⟨gb259, 1, none⟩) (Kd.S_far (p := ⟨gb259, 0, none⟩) (Kd.S_types HO244.out BK259.out (by decide)) (fun _ hk => hk.2) (.slice Ao180 t253.length co180)) (fun _ hk => hk.2) (.slice Ao185 t256.length co185)) (fun _ h_ => h_.1))) hb); have n4_ := zm4 (Kd.R_below (by (with_reducible repeat (first | apply Kd.R_alloc | apply Kd.R_drewN | apply Kd.R_drew)); exact (Kd.R_mono (Kd.R_far (p := ⟨gb259, 1, none⟩) (Kd.R_far (p := ⟨gb259, 0, none⟩) (Kd.R_types HO248.out BK259.out (by decide)) (fun _ hk => hk.2) (.slice Ao180 t253.length co180)) (fun _ hk => hk.2) (.slice Ao185 t256.length co185)) (fun _ h_ => h_.1))) hb); have n5_ := zm4 (Kd.S_below (by (with_reducible repeat (first | apply Kd.S_alloc | apply Kd.S_drewN | apply Kd.S_drew)); exact (Kd.S_mono (Kd.S_far (p := ⟨gb259, 1, none⟩) (Kd.S_far (p := ⟨gb259, 0, none⟩) (Kd.S_types HO251.out BK259.out (by decide)) (fun _ hk => hk.2) (.slice Ao180 t253.length co180)) (fun _ hk => hk.2) (.slice Ao185 t256.length co185)) (fun _ h_ => h_.1))) hb); have n6_ := zm4 (Kd.R_below (by (with_reducible repeat (first | apply Kd.R_alloc | apply Kd.R_drewN | apply Kd.R_drew)); exact (Kd.R_mono (Kd.R_far (p := ⟨gb259, 1, none⟩) (Kd.R_far (p := ⟨gb259, 0, none⟩) (Kd.R_types HO255.out BK259.out (by decide)) (fun _ hk => hk.2) (.slice Ao180 t253.length co180)) (fun _ hk => hk.2) (.slice Ao185 t256.length co185)) (fun _ h_ => h_.1))) hb); have n7_ := zm4 (Kd.S_below (by (with_reducible repeat (first | apply Kd.S_alloc | apply Kd.S_drewN | apply Kd.S_drew)); exact (Kd.S_mono (Kd.S_far (p := ⟨gb259, 1, none⟩) (Kd.S_far (p := ⟨gb259, 0, none⟩) (Kd.S_types HO258.out BK259.out (by decide)) (fun _ hk => hk.2) (.slice Ao180 t253.length co180)) (fun _ hk => hk.2) (.slice Ao185 t256.length co185)) (fun _ h_ => h_.1))) hb); have n8_ := zm4 (blk_below (g := gb229) (o := .cells #[.slice A0_0 l0_0.length c0_0, .slice A0_1 l0_1.length c0_1] 33 (0, 0)) (by (with_reducible repeat (first | refine blk_drewN ?_ _ | refine blk_drew ?_ | refine blk_alloc ?_ _)); refine blk_far ?_ NB229_259.out _; (with_reducible repeat (first | refine blk_drewN ?_ _ | refine blk_drew ?_ | refine blk_alloc ?_ _)); refine blk_far ?_ NB229_259.out _; (with_reducible repeat (first | refine blk_drewN ?_ _ | refine blk_drew ?_ | refine blk_alloc ?_ _)); exact BK229.out) hb); have n9_ := zm4 (blk_below (g := gb230) (o := .cells #[.slice A1_0 l1_0.length c1_0, .slice A1_1 l1_1.length c1_1] 33 (0, 0)) (by (with_reducible repeat (first | refine blk_drewN ?_ _ | refine blk_drew ?_ | refine blk_alloc ?_ _)); refine blk_far ?_ NB230_259.out _; (with_reducible repeat (first | refine blk_drewN ?_ _ | refine blk_drew ?_ | refine blk_alloc ?_ _)); refine blk_far ?_ NB230_259.out _; (with_reducible repeat (first | refine blk_drewN ?_ _ | refine blk_drew ?_ | refine blk_alloc ?_ _)); exact BK230.out) hb); have n10_ := zm4 (blk_below (g := gb252) (o := .cells #[.slice Ao172 t246.length co172, .slice Ao176 t249.length co176] 25 (0, 0)) (by (with_reducible repeat (first | refine blk_drewN ?_ _ | refine blk_drew ?_ | refine blk_alloc ?_ _)); refine blk_far ?_ NB252_259.out _; (with_reducible repeat (first | refine blk_drewN ?_ _ | refine blk_drew ?_ | refine blk_alloc ?_ _)); refine blk_far ?_ NB252_259.out _; (with_reducible repeat (first | refine blk_drewN ?_ _ | refine blk_drew ?_ | refine blk_alloc ?_ _)); exact BK252.out) hb); have n11_ := zm4 (blk_below (g := gb259) (o := .cells #[.slice Ao180 t253.length co180, .slice Ao185 t256.length co185] 25 (0, 0)) (by (with_reducible repeat (first | refine blk_drewN ?_ _ | refine blk_drew ?_ | refine blk_alloc ?_ _)); refine blk_put (cs := #[.slice Ao180 t253.length co180, .slice none 0 0]) ?_ 1 _ rfl; (with_reducible repeat (first | refine blk_drewN ?_ _ | refine blk_drew ?_ | refine blk_alloc ?_ _)); refine blk_put (cs := #[.slice none 0 0, .slice none 0 0]) ?_ 0 _ rfl; (with_reducible repeat (first | refine blk_drewN ?_ _ | refine blk_drew ?_ | refine blk_alloc ?_ _)); exact BK259.out) hb); have n12_ := zm4 (below_step (z4_7 HB.out GE229.out GE230.out GE252.out GE259.out) hb); clear HO235; clear HO238; clear HO241; clear HO244; clear HO248; clear HO251; clear HO255; clear HO258; clear BK229; clear BK230; clear BK252; clear BK259; clear HB; have HO235 := n0_; have HO238 := n1_; have HO241 := n2_; have HO244 := n3_; have HO248 := n4_; have HO251 := n5_; have HO255 := n6_; have HO258 := n7_; have BK229 := n8_; have BK230 := n9_; have BK252 := n10_; have BK259 := n11_; have HB := n12_; clear n0_ n1_ n2_ n3_ n4_ n5_ n6_ n7_ n8_ n9_ n10_ n11_ n12_; (try clear hb); (try clear hb2); (try clear hk); (try clear hi)))
     have n0_ := zm4 (Kd.R_drew HO235.out)
     have n1_ := zm4 (Kd.S_drew HO238.out)
     have n2_ := zm4 (Kd.R_drew HO241.out)
     have n3_ := zm4 (Kd.S_drew HO244.out)
     have n4_ := zm4 (Kd.R_drew HO248.out)
     have n5_ := zm4 (Kd.S_drew HO251.out)
     have n6_ := zm4 (Kd.R_drew HO255.out)
     have n7_ := zm4 (Kd.S_drew HO258.out)
     have n8_ := zm4 (blk_drew BK229.out)
     have n9_ := zm4 (blk_drew BK230.out)
     have n10_ := zm4 (blk_drew BK252.out)
     have n11_ := zm4 (blk_drew BK259.out)
     have n12_ := zm4 (below_drew1 HB.out)
     clear HO235
     clear HO238
     clear HO241
     clear HO244
     clear HO248
     clear HO251
     clear HO255
     clear HO258
     clear BK229
     clear BK230
     clear BK252
     clear BK259
     clear HB
     have HO235 := n0_
     have HO238 := n1_
     have HO241 := n2_
     have HO244 := n3_
     have HO248 := n4_
     have HO251 := n5_
     have HO255 := n6_
     have HO258 := n7_
     have BK229 := n8_
     have BK230 := n9_
     have BK252 := n10_
     have BK259 := n11_
     have HB := n12_
     clear n0_ n1_ n2_ n3_ n4_ n5_ n6_ n7_ n8_ n9_ n10_ n11_ n12_
     refine start_ (n := 5) (S := fun w' => w'.cell? ⟨gb252, 0, none⟩ = some (.slice Ao172 t246.length co172) ∧ w'.cell? ⟨gb252, 1, none⟩ = some (.slice Ao176 t249.length co176) ∧ w'.cell? ⟨gb229, 0, none⟩ = some (.slice A0_0 l0_0.length c0_0) ∧ w'.cell? ⟨gb229, 1, none⟩ = some (.slice A0_1 l0_1.length c0_1)) (ds := []) #[false, false, false, false, false] (by kernel_rfl) rfl rfl ⟨(blk_cell BK252.out 0).trans rfl, (blk_cell BK252.out 1).trans rfl, (blk_cell BK229.out 0).trans rfl, (blk_cell BK229.out 1).trans rfl⟩ (fun hHeld => ?_)
     generalize w187.drew = w188 at HO235 HO238 HO241 HO244 HO248 HO251 HO255 HO258 BK229 BK230 BK252 BK259 HB hHeld ⊢
     refine take_ (i := 0) (N := some 35) (v := ?_) (a' := ?_) #[true, false, false, false, false] rfl rfl (by kernel_rfl) (fun _ _ _ h => h) (Or.inl ⟨by rfl, ?_⟩) hHeld ?_ ?_
     rotate_left
     ·rintro w' ⟨s0, s1, s2, s3⟩
      go_simp
      with_reducible rfl
     rotate_left
     ·simp only [Act.put, List.setIfInBounds_toArray, List.set_cons_zero, List.set_cons_succ, i64_w, i32_w]
      rfl
     refine take_ (i := 1) (N := some 36) (v := ?_) (a' := ?_) #[true, true, false, false, false] rfl rfl (by kernel_rfl) (fun _ _ _ h => h) (Or.inl ⟨by rfl, ?_⟩) hHeld ?_ ?_
     rotate_left
     ·rintro w' ⟨s0, s1, s2, s3⟩
      go_simp
      with_reducible rfl
     rotate_left
     ·simp only [Act.put, List.setIfInBounds_toArray, List.set_cons_zero, List.set_cons_succ, i64_w, i32_w]
      rfl
     refine one_ (i := 2) (N := some 37) #[true, true, true, false, false] rfl rfl (by kernel_rfl) (by decide) (fun K hK => ?_)
     refine goes_ Try.func14 (by kernel_rfl) rfl #[.agg #[.slice A0_0 l0_0.length c0_0, .slice A0_1 l0_1.length c0_1]] (by rfl) rfl rfl (by (try simp only [List.map_toArray, List.map_cons, List.map_nil]); first | done | rfl | (simp only [List.length_drop, List.length_take]; rfl)) ?_
     with_reducible refine (laws_toGuest.calls k _ _ l0_0 _ _ l0_1 t261 t264 _ ?side1 ?side2 ?side3 ?side4 A60.out).mono ?_
     (case side1 => repeat (first | exact (Kd.C_below HR0_0.out HB.out) | (with_reducible refine Kd.C_alloc ?_ _) | (with_reducible refine Kd.C_drewN ?_ _) | (with_reducible refine Kd.C_drew ?_)))
     (case side2 => exact HC0_0.out)
     (case side3 => repeat (first | exact (Kd.C_below HR0_1.out HB.out) | (with_reducible refine Kd.C_alloc ?_ _) | (with_reducible refine Kd.C_drewN ?_ _) | (with_reducible refine Kd.C_drew ?_)))
     (case side4 => exact HC0_1.out)
     rintro e w189 ⟨v262, v265, rfl, ho0, ho1, hb⟩
     refine ⟨_, rfl, ?_⟩
     have n0_ := zm4 (Kd.R_elder' (z4_4 HO235.out) (Kd.R_base ho0) hb)
     have n1_ := zm4 (Kd.S_mono (Kd.S_told (Kd.S_told (Kd.S_old (z4_5 HO238.out) hb) (Kd.R_base ho0)) (Kd.S_base ho1)) (fun _ h_ => h_.1))
     have n2_ := zm4 (Kd.R_elder' (z4_4 HO241.out) (Kd.R_base ho0) hb)
     have n3_ := zm4 (Kd.S_mono (Kd.S_told (Kd.S_told (Kd.S_old (z4_5 HO244.out) hb) (Kd.R_base ho0)) (Kd.S_base ho1)) (fun _ h_ => h_.1))
     have n4_ := zm4 (Kd.R_elder' (z4_4 HO248.out) (Kd.R_base ho0) hb)
     have n5_ := zm4 (Kd.S_mono (Kd.S_told (Kd.S_told (Kd.S_old (z4_5 HO251.out) hb) (Kd.R_base ho0)) (Kd.S_base ho1)) (fun _ h_ => h_.1))
     have n6_ := zm4 (Kd.R_elder' (z4_4 HO255.out) (Kd.R_base ho0) hb)
     have n7_ := zm4 (Kd.S_mono (Kd.S_told (Kd.S_told (Kd.S_old (z4_5 HO258.out) hb) (Kd.R_base ho0)) (Kd.S_base ho1)) (fun _ h_ => h_.1))
     have n8_ := zm4 (Kd.R_lower (Kd.R_new' (Kd.R_new' (Kd.R_new' (Kd.R_new' ho0 (Kd.R_lt (z4_4 HO235.out))) (Kd.R_lt (z4_4 HO241.out))) (Kd.R_lt (z4_4 HO248.out))) (Kd.R_lt (z4_4 HO255.out))) (below_size (z4_7 HB.out GE229.out GE230.out GE252.out GE259.out)))
     have n9_ := zm4 (Kd.S_lower (Kd.S_new' (Kd.S_new' (Kd.S_new' (Kd.S_new' (Kd.S_new' (Kd.S_new' (Kd.S_new' (Kd.S_new' ho1 (Kd.R_lt (z4_4 HO235.out))) (Kd.S_lt (z4_5 HO238.out))) (Kd.R_lt (z4_4 HO241.out))) (Kd.S_lt (z4_5 HO244.out))) (Kd.R_lt (z4_4 HO248.out))) (Kd.S_lt (z4_5 HO251.out))) (Kd.R_lt (z4_4 HO255.out))) (Kd.S_lt (z4_5 HO258.out))) (below_size (z4_7 HB.out GE229.out GE230.out GE252.out GE259.out)))
     have n10_ := zm4 (blk_below (g := gb229) (o := .cells #[.slice A0_0 l0_0.length c0_0, .slice A0_1 l0_1.length c0_1] 33 (0, 0)) (z4_1 BK229.out) hb)
     have n11_ := zm4 (blk_below (g := gb230) (o := .cells #[.slice A1_0 l1_0.length c1_0, .slice A1_1 l1_1.length c1_1] 33 (0, 0)) (z4_1 BK230.out) hb)
     have n12_ := zm4 (blk_below (g := gb252) (o := .cells #[.slice Ao172 t246.length co172, .slice Ao176 t249.length co176] 25 (0, 0)) (z4_1 BK252.out) hb)
     have n13_ := zm4 (blk_below (g := gb259) (o := .cells #[.slice Ao180 t253.length co180, .slice Ao185 t256.length co185] 25 (0, 0)) (z4_1 BK259.out) hb)
     have n14_ := zm4 (below_step (z4_7 HB.out GE229.out GE230.out GE252.out GE259.out) hb)
     clear HO235
     clear HO238
     clear HO241
     clear HO244
     clear HO248
     clear HO251
     clear HO255
     clear HO258
     clear BK229
     clear BK230
     clear BK252
     clear BK259
     clear HB
     have HO235 := n0_
     have HO238 := n1_
     have HO241 := n2_
     have HO244 := n3_
     have HO248 := n4_
     have HO251 := n5_
     have HO255 := n6_
     have HO258 := n7_
     have HO263 := n8_
     have HO266 := n9_
     have BK229 := n10_
     have BK230 := n11_
     have BK252 := n12_
     have BK259 := n13_
     have HB := n14_
     clear n0_ n1_ n2_ n3_ n4_ n5_ n6_ n7_ n8_ n9_ n10_ n11_ n12_ n13_ n14_
     (try clear hb)
     (try clear hb2)
     (try clear hk)
     (try clear hi)
     (try clear ho0)
     (try clear ho1)
     obtain ⟨Ao190, co190, eo190⟩ := Kd.R_slice HO263.out
     (first | subst eo190 | (injection eo190 with f1_ f2_ f3_; have f4_ := f1_.symm; have f5_ := f3_.symm; clear f1_ f2_ f3_; subst f4_; subst f5_))
     obtain ⟨Ao191, co191, eo191⟩ := Kd.S_slice HO266.out
     (first | subst eo191 | (injection eo191 with f1_ f2_ f3_; have f4_ := f1_.symm; have f5_ := f3_.symm; clear f1_ f2_ f3_; subst f4_; subst f5_))
     refine hK.out _ _ ⟨(blk_cell BK252.out 0).trans rfl, (blk_cell BK252.out 1).trans rfl, (blk_cell BK229.out 0).trans rfl, (blk_cell BK229.out 1).trans rfl⟩ (fun hHeld => ?_)
     clear hK K
     refine norm_ (a' := ?_) ?_ ?_
     rotate_left
     ·show Act.put _ (some 37) _ = _
      simp only [Act.put, List.setIfInBounds_toArray, List.set_cons_zero, List.set_cons_succ, i64_w, i32_w]
      rfl
     refine one_ (i := 3) (N := some 38) #[true, true, true, true, false] rfl rfl (by kernel_rfl) (by decide) (fun K hK => ?_)
     refine goes_ Try.func9 (by kernel_rfl) rfl #[.agg #[.slice Ao172 t246.length co172, .slice Ao176 t249.length co176], .agg #[.slice Ao190 t261.length co190, .slice Ao191 t264.length co191]] (by rfl) rfl rfl (by (try simp only [List.map_toArray, List.map_cons, List.map_nil]); first | done | rfl | (simp only [List.length_drop, List.length_take]; rfl)) ?_
     with_reducible refine (laws_eqGuest.calls k _ _ t246 _ _ t249 _ _ t261 _ _ t264 false _ ?side1 ?side2 ?side3 ?side4 ?side5 ?side6 ?side7 ?side8 A61.out).mono ?_
     (case side1 => repeat (first | exact (Kd.R_reads' HO248.out).2.2 | (with_reducible refine Kd.C_alloc ?_ _) | (with_reducible refine Kd.C_drewN ?_ _) | (with_reducible refine Kd.C_drew ?_)))
     (case side2 => exact (Kd.R_reads' HO248.out).2.1)
     (case side3 => repeat (first | exact (Kd.S_reads' HO251.out).2.2 | (with_reducible refine Kd.C_alloc ?_ _) | (with_reducible refine Kd.C_drewN ?_ _) | (with_reducible refine Kd.C_drew ?_)))
     (case side4 => exact (Kd.S_reads' HO251.out).2.1)
     (case side5 => repeat (first | exact (Kd.R_reads' HO263.out).2.2 | (with_reducible refine Kd.C_alloc ?_ _) | (with_reducible refine Kd.C_drewN ?_ _) | (with_reducible refine Kd.C_drew ?_)))
     (case side6 => exact (Kd.R_reads' HO263.out).2.1)
     (case side7 => repeat (first | exact (Kd.S_reads' HO266.out).2.2 | (with_reducible refine Kd.C_alloc ?_ _) | (with_reducible refine Kd.C_drewN ?_ _) | (with_reducible refine Kd.C_drew ?_)))
     (case side8 => exact (Kd.S_reads' HO266.out).2.1)
     rintro e w192 ⟨rfl, hb⟩
     refine ⟨_, rfl, ?_⟩
     have n0_ := zm4 (Kd.R_below (z4_4 HO235.out) hb)
     have n1_ := zm4 (Kd.S_below (z4_5 HO238.out) hb)
     have n2_ := zm4 (Kd.R_below (z4_4 HO241.out) hb)
     have n3_ := zm4 (Kd.S_below (z4_5 HO244.out) hb)
     have n4_ := zm4 (Kd.R_below (z4_4 HO248.out) hb)
     have n5_ := zm4 (Kd.S_below (z4_5 HO251.out) hb)
     have n6_ := zm4 (Kd.R_below (z4_4 HO255.out) hb)
     have n7_ := zm4 (Kd.S_below (z4_5 HO258.out) hb)
     have n8_ := zm4 (Kd.R_below (z4_4 HO263.out) hb)
     have n9_ := zm4 (Kd.S_below (z4_5 HO266.out) hb)
     have n10_ := zm4 (blk_below (g := gb229) (o := .cells #[.slice A0_0 l0_0.length c0_0, .slice A0_1 l0_1.length c0_1] 33 (0, 0)) (z4_1 BK229.out) hb)
     have n11_ := zm4 (blk_below (g := gb230) (o := .cells #[.slice A1_0 l1_0.length c1_0, .slice A1_1 l1_1.length c1_1] 33 (0, 0)) (z4_1 BK230.out) hb)
     have n12_ := zm4 (blk_below (g := gb252) (o := .cells #[.slice Ao172 t246.length co172, .slice Ao176 t249.length co176] 25 (0, 0)) (z4_1 BK252.out) hb)
     have n13_ := zm4 (blk_below (g := gb259) (o := .cells #[.slice Ao180 t253.length co180, .slice Ao185 t256.length co185] 25 (0, 0)) (z4_1 BK259.out) hb)
     have n14_ := zm4 (below_step (z4_7 HB.out GE229.out GE230.out GE252.out GE259.out) hb)
     clear HO235
     clear HO238
     clear HO241
     clear HO244
     clear HO248
     clear HO251
     clear HO255
     clear HO258
     clear HO263
     clear HO266
     clear BK229
     clear BK230
     clear BK252
     clear BK259
     clear HB
     have HO235 := n0_
     have HO238 := n1_
     have HO241 := n2_
     have HO244 := n3_
     have HO248 := n4_
     have HO251 := n5_
     have HO255 := n6_
     have HO258 := n7_
     have HO263 := n8_
     have HO266 := n9_
     have BK229 := n10_
     have BK230 := n11_
     have BK252 := n12_
     have BK259 := n13_
     have HB := n14_
     clear n0_ n1_ n2_ n3_ n4_ n5_ n6_ n7_ n8_ n9_ n10_ n11_ n12_ n13_ n14_
     (try clear hb)
     (try clear hb2)
     (try clear hk)
     (try clear hi)
     refine hK.out _ _ ⟨(blk_cell BK252.out 0).trans rfl, (blk_cell BK252.out 1).trans rfl, (blk_cell BK229.out 0).trans rfl, (blk_cell BK229.out 1).trans rfl⟩ (fun hHeld => ?_)
     clear hK K
     refine norm_ (a' := ?_) ?_ ?_
     rotate_left
     ·show Act.put _ (some 38) _ = _
      simp only [Act.put, List.setIfInBounds_toArray, List.set_cons_zero, List.set_cons_succ, i64_w, i32_w]
      rfl
     refine pure_ (i := 4) (N := some 39) (v := ?_) (a' := ?_) #[true, true, true, true, true] rfl rfl (by kernel_rfl) (fun _ _ _ h => h) (Or.inl ⟨by rfl, ?_⟩) ?_ ?_
     rotate_left
     ·intro w'
      go_simp
      with_reducible rfl
     rotate_left
     ·simp only [Act.put, List.setIfInBounds_toArray, List.set_cons_zero, List.set_cons_succ, i64_w, i32_w]
      rfl
     refine done_ (by kernel_rfl) ?_
     try go_wp2
     go_ret
     exact ⟨by first | rfl | (simp [errW_none, errW_some] <;> rfl) | (simp [*, errW_none, errW_some] <;> rfl), z4_7 HB.out GE229.out GE230.out GE252.out GE259.out⟩
end Go.Proofs.Ytnehachhddfblaa.Q
