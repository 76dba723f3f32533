/- What laws.FnExactLoseHost reaches, part 6: the functions as Lean functions, the proofs that the program's functions answer so, and plain laws about them. -/
import Derived.Test.YtadelojhfepkeaaKFnExactLoseHost1
import Derived.Test.YtadelojhfepkeaaKFnExactLoseHost2
import Derived.Test.YtadelojhfepkeaaKFnExactLoseHost3
import Derived.Test.YtadelojhfepkeaaKFnExactLoseHost4
import Derived.Test.YtadelojhfepkeaaKFnExactLoseHost5
namespace Go.Proofs.Ytadelojhfepkeaa.Q
open Go.RowKit Go.Proofs.Ytadelojhfepkeaa.Ext Go.Proofs.YtadelojhfepkeaaW.PrintWords Go.Proofs.YtadelojhfepkeaaW.PrintLast Go.Proofs.YtadelojhfepkeaaW.PrintMore
attribute [local go_sem] max2_int min2_int max_two min_two max_three min_three max_four min_four   -- for this text's walks alone
set_option linter.unusedVariables false
set_option linter.unusedSimpArgs false

set_option linter.unusedVariables false
set_option linter.unusedSimpArgs false
/-! ### laws_FnExactLoseHost: function 4 -/
mutual
def laws_FnExactLoseHost.j0 : Nat → Int → Int → Int → Int → Bool → List ByteArray → List (S75) → List ByteArray → List (S76) → List ByteArray → List (S76) → List ByteArray → List (S76) → Option (Bool)
  | 0, _, _, _, _, _, _, _, _, _, _, _, _, _ => none
  | k + 1, x1, x2, x9, x12, x48, x351000, x351001, x366000, x366001, x373000, x373001, x381000, x381001 => if x48 = true then (some false) else ((laws_toDisk.f k x351000 x351001).bind fun bt382 => ((laws_eqDisk.f k x373000 x373001 bt382.1 bt382.2).bind fun t388 => (if t388 = true then ((laws_markDisk.f k x373000 x373001 1).bind fun bt389 => (if bt389.1 < 0 then (laws_FnExactLoseHost.j1 k x1 x2 x9 true x351000 x351001 x366000 x366001 x381000 x381001) else ((laws_eqDisk.f k x381000 x381001 x366000 x366001).bind fun t392 => (if t392 = true then (laws_FnExactLoseHost.j1 k x1 x2 x9 (x12 != x9) x351000 x351001 x366000 x366001 x381000 x381001) else (laws_FnExactLoseHost.j1 k x1 x2 x9 true x351000 x351001 x366000 x366001 x381000 x381001))))) else (some false))))
def laws_FnExactLoseHost.j1 : Nat → Int → Int → Int → Bool → List ByteArray → List (S75) → List ByteArray → List (S76) → List ByteArray → List (S76) → Option (Bool)
  | 0, _, _, _, _, _, _, _, _, _, _ => none
  | k + 1, x1, x2, x9, x69, x351000, x351001, x366000, x366001, x381000, x381001 => if x69 = true then (some false) else ((laws_markDisk.f k x381000 x381001 1).bind fun bt393 => ((laws_heldDisk.f k bt393.2.1 bt393.2.2 1).bind fun t396 => (if t396 < 0 then (some false) else (if t396 = bt393.1 then ((laws_toDisk.f k x351000 x351001).bind fun bt397 => ((impl_LoseHost.f bt397.1 bt397.2 x1 x2).bind fun bt403 => ((laws_eqDisk.f k bt403.1 bt403.2.1 x366000 x366001).bind fun t411 => (if t411 = true then (laws_FnExactLoseHost.j2 k bt393.1 (bt403.2.2 != x9) bt393.2.1 bt393.2.2) else (laws_FnExactLoseHost.j2 k bt393.1 true bt393.2.1 bt393.2.2))))) else (some false)))))
def laws_FnExactLoseHost.j2 : Nat → Int → Bool → List ByteArray → List (S76) → Option (Bool)
  | 0, _, _, _, _ => none
  | k + 1, x14, x97, x381000, x381001 => if x97 = true then (some false) else ((laws_heldDisk.f k x381000 x381001 1).bind fun t412 => (if t412 < 0 then (some false) else (if t412 = x14 then (some true) else (some false))))
end
def laws_FnExactLoseHost.f (k : Nat) (l0_0 : List ByteArray) (l0_1 : List (S75)) (a1 : Int) (a2 : Int) : Option (Bool) := (laws_szDisk.f k l0_0 l0_1 1048576).bind fun t351 => (if t351 < 0 then (some true) else ((laws_toDisk.f k l0_0 l0_1).bind fun bt352 => ((spec_LoseHost.f k bt352.1 bt352.2 a1 a2).bind fun bt358 => ((laws_toDisk.f k l0_0 l0_1).bind fun bt366 => ((impl_LoseHost.f bt366.1 bt366.2 a1 a2).bind fun bt373 => ((laws_eqDisk.f k bt373.1 bt373.2.1 bt358.1 bt358.2.1).bind fun t381 => (if t381 = true then (laws_FnExactLoseHost.j0 k a1 a2 bt358.2.2 bt373.2.2 (bt373.2.2 != bt358.2.2) l0_0 l0_1 bt358.1 bt358.2.1 bt366.1 bt366.2 bt373.1 bt373.2.1) else (laws_FnExactLoseHost.j0 k a1 a2 bt358.2.2 bt373.2.2 true l0_0 l0_1 bt358.1 bt358.2.1 bt366.1 bt366.2 bt373.1 bt373.2.1))))))))
theorem laws_FnExactLoseHost.mono_l : ∀ k, (∀ y0 y1 y2 y3 y4 y5 y6 y7 y8 y9 y10 y11 y12, LeO (laws_FnExactLoseHost.j0 k y0 y1 y2 y3 y4 y5 y6 y7 y8 y9 y10 y11 y12) (laws_FnExactLoseHost.j0 (k + 1) y0 y1 y2 y3 y4 y5 y6 y7 y8 y9 y10 y11 y12)) ∧ (∀ y0 y1 y2 y3 y4 y5 y6 y7 y8 y9, LeO (laws_FnExactLoseHost.j1 k y0 y1 y2 y3 y4 y5 y6 y7 y8 y9) (laws_FnExactLoseHost.j1 (k + 1) y0 y1 y2 y3 y4 y5 y6 y7 y8 y9)) ∧ (∀ y0 y1 y2 y3, LeO (laws_FnExactLoseHost.j2 k y0 y1 y2 y3) (laws_FnExactLoseHost.j2 (k + 1) y0 y1 y2 y3))
  | 0 => ⟨fun _ _ _ _ _ _ _ _ _ _ _ _ _ r h => by simp [laws_FnExactLoseHost.j0] at h, fun _ _ _ _ _ _ _ _ _ _ r h => by simp [laws_FnExactLoseHost.j1] at h, fun _ _ _ _ r h => by simp [laws_FnExactLoseHost.j2] at h⟩
  | k + 1 => by
    obtain ⟨ih0, ih1, ih2⟩ := laws_FnExactLoseHost.mono_l k
    refine ⟨?_, ?_, ?_⟩
    · intro y0 y1 y2 y3 y4 y5 y6 y7 y8 y9 y10 y11 y12
      unfold laws_FnExactLoseHost.j0
      repeat' first
      | (with_reducible exact ih0 _ _ _ _ _ _ _ _ _ _ _ _ _)
      | (with_reducible exact ih1 _ _ _ _ _ _ _ _ _ _)
      | (with_reducible exact ih2 _ _ _ _)
      | (with_reducible exact laws_eqDisk.mono _ _ _ _ _)
      | (with_reducible exact laws_heldDisk.mono _ _ _ _)
      | (with_reducible exact laws_markDisk.mono _ _ _ _)
      | (with_reducible exact laws_szDisk.mono _ _ _ _)
      | (with_reducible exact laws_toDisk.mono _ _ _)
      | (with_reducible exact spec_LoseHost.mono _ _ _ _ _)
      | (with_reducible exact LeO.refl _)
      | (with_reducible exact LeO.none _)
      | (with_reducible refine LeO.ite ?_ ?_)
      | (with_reducible refine LeO.bind ?_ (fun _ => ?_))
      | exact ih0 _ _ _ _ _ _ _ _ _ _ _ _ _
      | exact ih1 _ _ _ _ _ _ _ _ _ _
      | exact ih2 _ _ _ _
      | exact laws_eqDisk.mono _ _ _ _ _
      | exact laws_heldDisk.mono _ _ _ _
      | exact laws_markDisk.mono _ _ _ _
      | exact laws_szDisk.mono _ _ _ _
      | exact laws_toDisk.mono _ _ _
      | exact spec_LoseHost.mono _ _ _ _ _
      | exact LeO.none _
      | refine LeO.ite ?_ ?_
      | refine LeO.bind ?_ (fun _ => ?_)
    · intro y0 y1 y2 y3 y4 y5 y6 y7 y8 y9
      unfold laws_FnExactLoseHost.j1
      repeat' first
      | (with_reducible exact ih0 _ _ _ _ _ _ _ _ _ _ _ _ _)
      | (with_reducible exact ih1 _ _ _ _ _ _ _ _ _ _)
      | (with_reducible exact ih2 _ _ _ _)
      | (with_reducible exact laws_eqDisk.mono _ _ _ _ _)
      | (with_reducible exact laws_heldDisk.mono _ _ _ _)
      | (with_reducible exact laws_markDisk.mono _ _ _ _)
      | (with_reducible exact laws_szDisk.mono _ _ _ _)
      | (with_reducible exact laws_toDisk.mono _ _ _)
      | (with_reducible exact spec_LoseHost.mono _ _ _ _ _)
      | (with_reducible exact LeO.refl _)
      | (with_reducible exact LeO.none _)
      | (with_reducible refine LeO.ite ?_ ?_)
      | (with_reducible refine LeO.bind ?_ (fun _ => ?_))
      | exact ih0 _ _ _ _ _ _ _ _ _ _ _ _ _
      | exact ih1 _ _ _ _ _ _ _ _ _ _
      | exact ih2 _ _ _ _
      | exact laws_eqDisk.mono _ _ _ _ _
      | exact laws_heldDisk.mono _ _ _ _
      | exact laws_markDisk.mono _ _ _ _
      | exact laws_szDisk.mono _ _ _ _
      | exact laws_toDisk.mono _ _ _
      | exact spec_LoseHost.mono _ _ _ _ _
      | exact LeO.none _
      | refine LeO.ite ?_ ?_
      | refine LeO.bind ?_ (fun _ => ?_)
    · intro y0 y1 y2 y3
      unfold laws_FnExactLoseHost.j2
      repeat' first
      | (with_reducible exact ih0 _ _ _ _ _ _ _ _ _ _ _ _ _)
      | (with_reducible exact ih1 _ _ _ _ _ _ _ _ _ _)
      | (with_reducible exact ih2 _ _ _ _)
      | (with_reducible exact laws_eqDisk.mono _ _ _ _ _)
      | (with_reducible exact laws_heldDisk.mono _ _ _ _)
      | (with_reducible exact laws_markDisk.mono _ _ _ _)
      | (with_reducible exact laws_szDisk.mono _ _ _ _)
      | (with_reducible exact laws_toDisk.mono _ _ _)
      | (with_reducible exact spec_LoseHost.mono _ _ _ _ _)
      | (with_reducible exact LeO.refl _)
      | (with_reducible exact LeO.none _)
      | (with_reducible refine LeO.ite ?_ ?_)
      | (with_reducible refine LeO.bind ?_ (fun _ => ?_))
      | exact ih0 _ _ _ _ _ _ _ _ _ _ _ _ _
      | exact ih1 _ _ _ _ _ _ _ _ _ _
      | exact ih2 _ _ _ _
      | exact laws_eqDisk.mono _ _ _ _ _
      | exact laws_heldDisk.mono _ _ _ _
      | exact laws_markDisk.mono _ _ _ _
      | exact laws_szDisk.mono _ _ _ _
      | exact laws_toDisk.mono _ _ _
      | exact spec_LoseHost.mono _ _ _ _ _
      | exact LeO.none _
      | refine LeO.ite ?_ ?_
      | refine LeO.bind ?_ (fun _ => ?_)
theorem laws_FnExactLoseHost.mono : ∀ a0 a1 a2 a3 k, LeO (laws_FnExactLoseHost.f k a0 a1 a2 a3) (laws_FnExactLoseHost.f (k + 1) a0 a1 a2 a3) := by
  intro a0 a1 a2 a3 k
  obtain ⟨ih0, ih1, ih2⟩ := laws_FnExactLoseHost.mono_l k
  unfold laws_FnExactLoseHost.f
  repeat' first
      | (with_reducible exact ih0 _ _ _ _ _ _ _ _ _ _ _ _ _)
      | (with_reducible exact ih1 _ _ _ _ _ _ _ _ _ _)
      | (with_reducible exact ih2 _ _ _ _)
      | (with_reducible exact laws_eqDisk.mono _ _ _ _ _)
      | (with_reducible exact laws_heldDisk.mono _ _ _ _)
      | (with_reducible exact laws_markDisk.mono _ _ _ _)
      | (with_reducible exact laws_szDisk.mono _ _ _ _)
      | (with_reducible exact laws_toDisk.mono _ _ _)
      | (with_reducible exact spec_LoseHost.mono _ _ _ _ _)
      | (with_reducible exact LeO.refl _)
      | (with_reducible exact LeO.none _)
      | (with_reducible refine LeO.ite ?_ ?_)
      | (with_reducible refine LeO.bind ?_ (fun _ => ?_))
      | exact ih0 _ _ _ _ _ _ _ _ _ _ _ _ _
      | exact ih1 _ _ _ _ _ _ _ _ _ _
      | exact ih2 _ _ _ _
      | exact laws_eqDisk.mono _ _ _ _ _
      | exact laws_heldDisk.mono _ _ _ _
      | exact laws_markDisk.mono _ _ _ _
      | exact laws_szDisk.mono _ _ _ _
      | exact laws_toDisk.mono _ _ _
      | exact spec_LoseHost.mono _ _ _ _ _
      | exact LeO.none _
      | refine LeO.ite ?_ ?_
      | refine LeO.bind ?_ (fun _ => ?_)
set_option maxHeartbeats 8000000 in
set_option maxRecDepth 100000 in
theorem laws_FnExactLoseHost.calls (k : Nat) (A0_0 : Option Addr) (c0_0 : Nat) (l0_0 : List ByteArray) (A0_1 : Option Addr) (c0_1 : Nat) (l0_1 : List (S75)) (a1 : Int) (a2 : Int) (r : Bool) (w : World) (hr0_0 : Kd.C Kd.string w A0_0 l0_0.length l0_0) (hc0_0 : l0_0.length ≤ c0_0) (hr0_1 : Kd.C k75 w A0_1 l0_1.length l0_1) (hc0_1 : l0_1.length ≤ c0_1) (h : laws_FnExactLoseHost.f k l0_0 l0_1 a1 a2 = some r) :
    Calls Try.prog 4 #[.agg #[.slice A0_0 l0_0.length c0_0, .slice A0_1 l0_1.length c0_1], .int .i64 a1, .int .i64 a2] w fun e w' => e = .returned (.bool r) ∧ Below w.heap.size w w' := by
 have hu25 := Try.underlying25
 have hu29 := Try.underlying29
 have HR0_0 := Aside0.mk hr0_0
 have HC0_0 := Aside0.mk hc0_0
 clear hr0_0 hc0_0
 have HR0_1 := Aside0.mk hr0_1
 have HC0_1 := Aside0.mk hc0_1
 clear hr0_1 hc0_1
 have HB := Aside0.mk (Below.refl w.heap.size w)
 have H : ((laws_szDisk.f k l0_0 l0_1 1048576).bind fun t351 => (if t351 < 0 then (some true) else ((laws_toDisk.f k l0_0 l0_1).bind fun bt352 => ((spec_LoseHost.f k bt352.1 bt352.2 a1 a2).bind fun bt358 => ((laws_toDisk.f k l0_0 l0_1).bind fun bt366 => ((impl_LoseHost.f bt366.1 bt366.2 a1 a2).bind fun bt373 => ((laws_eqDisk.f k bt373.1 bt373.2.1 bt358.1 bt358.2.1).bind fun t381 => (if t381 = true then (laws_FnExactLoseHost.j0 k a1 a2 bt358.2.2 bt373.2.2 (bt373.2.2 != bt358.2.2) l0_0 l0_1 bt358.1 bt358.2.1 bt366.1 bt366.2 bt373.1 bt373.2.1) else (laws_FnExactLoseHost.j0 k a1 a2 bt358.2.2 bt373.2.2 true l0_0 l0_1 bt358.1 bt358.2.1 bt366.1 bt366.2 bt373.1 bt373.2.1))))))))) = some r := h
 clear h
 replace H := Option.bind_eq_some_iff.mp H
 obtain ⟨t351, A40, H⟩ := H
 replace H : (if t351 < 0 then (some true) else ((laws_toDisk.f k l0_0 l0_1).bind fun bt352 => ((spec_LoseHost.f k bt352.1 bt352.2 a1 a2).bind fun bt358 => ((laws_toDisk.f k l0_0 l0_1).bind fun bt366 => ((impl_LoseHost.f bt366.1 bt366.2 a1 a2).bind fun bt373 => ((laws_eqDisk.f k bt373.1 bt373.2.1 bt358.1 bt358.2.1).bind fun t381 => (if t381 = true then (laws_FnExactLoseHost.j0 k a1 a2 bt358.2.2 bt373.2.2 (bt373.2.2 != bt358.2.2) l0_0 l0_1 bt358.1 bt358.2.1 bt366.1 bt366.2 bt373.1 bt373.2.1) else (laws_FnExactLoseHost.j0 k a1 a2 bt358.2.2 bt373.2.2 true l0_0 l0_1 bt358.1 bt358.2.1 bt366.1 bt366.2 bt373.1 bt373.2.1)))))))) = some r := H
 have A4 := Aside0.mk A40
 clear A40
 by_cases c5 : t351 < 0
 ·rw [if_pos c5] at H
  have c5b0 : decide (t351 < 0) = true := decide_eq_true c5
  clear c5
  obtain rfl := Option.some.inj H
  go_enter Try.func4, Try.ntmps4
  go_wp2_with (first | ((with_reducible refine gate_dst (N := 3) rfl ?_); refine box_event ?hg (N := 3) ?hd (cs := #[.slice A0_0 l0_0.length c0_0, .slice A0_1 l0_1.length c0_1]) (t := 25) ?hr ?_; (case hd => rfl); (case hg => rfl); (case hr => first | (go_simp; done) | (go_simp; rfl)); intro gb350 hg w6 hbox hb; have n0_ := Aside0.mk (below_step (by repeat (first | (with_reducible first | exact HB.out | apply below_alloc | apply pw_below_drewN | apply below_drew1) | exact HB.out)) hb); have n1_ := Aside0.mk (hbox); have n2_ := Aside0.mk ((by rw [hg]; exact (below_size (by repeat (first | (with_reducible first | exact HB.out | apply below_alloc | apply pw_below_drewN | apply below_drew1) | exact HB.out))) : w.heap.size ≤ gb350)); have n3_ := Aside0.mk ((by rw [hg]; exact (below_size (by repeat (first | (with_reducible first | exact HB.out | apply below_alloc | apply pw_below_drewN | apply below_drew1) | exact HB.out))) : w.heap.size ≤ gb350)); clear HB; have HB := n0_; have BK350 := n1_; have GW350 := n2_; have GE350 := n3_; clear n0_ n1_ n2_ n3_; clear hb hbox hg; have hcz7_0 : w6.cell? ⟨gb350, 0, none⟩ = some (.slice A0_0 l0_0.length c0_0) := (blk_cell BK350.out 0).trans rfl; have hcz7_1 : w6.cell? ⟨gb350, 1, none⟩ = some (.slice A0_1 l0_1.length c0_1) := (blk_cell BK350.out 1).trans rfl; have hfz7_0 := blk_frozen BK350.out 0; have hfz7_1 := blk_frozen BK350.out 1) | ((with_reducible refine gate_callee (f := 9) rfl ?_); refine goesL_ (some 20) rfl rfl Try.func9 (by kernel_rfl) rfl #[.agg #[.slice A0_0 l0_0.length c0_0, .slice A0_1 l0_1.length c0_1], .int .i64 1048576] rfl (by (try simp only [List.map_toArray, List.map_cons, List.map_nil]); first | done | rfl | (simp only [List.length_drop, List.length_take]; rfl)) ?_; (with_reducible refine (laws_szDisk.calls k _ _ l0_0 _ _ l0_1 1048576 t351 _ ?side1 ?side2 ?side3 ?side4 A4.out).mono ?_); (case side1 => repeat (first | exact (Kd.C_below HR0_0.out HB.out) | (with_reducible refine Kd.C_alloc ?_ _) | (with_reducible refine Kd.C_drewN ?_ _) | (with_reducible refine Kd.C_drew ?_))); (case side2 => exact HC0_0.out); (case side3 => repeat (first | exact (Kd.C_below HR0_1.out HB.out) | (with_reducible refine Kd.C_alloc ?_ _) | (with_reducible refine Kd.C_drewN ?_ _) | (with_reducible refine Kd.C_drew ?_))); (case side4 => exact HC0_1.out); rintro e w8 ⟨rfl, hb⟩; refine ⟨_, rfl, ?_⟩; have n0_ := Aside0.mk (blk_below (g := gb350) (o := .cells #[.slice A0_0 l0_0.length c0_0, .slice A0_1 l0_1.length c0_1] 25 (0, 0)) (by (with_reducible repeat (first | refine blk_drewN ?_ _ | refine blk_drew ?_ | refine blk_alloc ?_ _)); exact BK350.out) hb); have n1_ := Aside0.mk (below_step (by repeat (first | (with_reducible first | exact HB.out | apply below_alloc | apply pw_below_drewN | apply below_drew1 | refine below_set ?_ GE350.out) | exact HB.out)) hb); clear BK350; clear HB; have BK350 := n0_; have HB := n1_; clear n0_ n1_; (try clear hb); (try clear hb2); (try clear hk); (try clear hi)))
  go_ret
  exact ⟨by first | rfl | (simp [errW_none, errW_some] <;> rfl) | (simp [*, errW_none, errW_some] <;> rfl), by repeat (first | (with_reducible first | exact HB.out | apply below_alloc | apply pw_below_drewN | apply below_drew1 | refine below_set ?_ GE350.out) | exact HB.out)⟩
 ·rw [if_neg c5] at H
  have c5b0 : decide (t351 < 0) = false := decide_eq_false c5
  clear c5
  replace H := Option.bind_eq_some_iff.mp H
  obtain ⟨⟨t352, t355⟩, A90, H⟩ := H
  replace H : ((spec_LoseHost.f k t352 t355 a1 a2).bind fun bt358 => ((laws_toDisk.f k l0_0 l0_1).bind fun bt366 => ((impl_LoseHost.f bt366.1 bt366.2 a1 a2).bind fun bt373 => ((laws_eqDisk.f k bt373.1 bt373.2.1 bt358.1 bt358.2.1).bind fun t381 => (if t381 = true then (laws_FnExactLoseHost.j0 k a1 a2 bt358.2.2 bt373.2.2 (bt373.2.2 != bt358.2.2) l0_0 l0_1 bt358.1 bt358.2.1 bt366.1 bt366.2 bt373.1 bt373.2.1) else (laws_FnExactLoseHost.j0 k a1 a2 bt358.2.2 bt373.2.2 true l0_0 l0_1 bt358.1 bt358.2.1 bt366.1 bt366.2 bt373.1 bt373.2.1)))))) = some r := H
  have A9 := Aside0.mk A90
  clear A90
  replace H := Option.bind_eq_some_iff.mp H
  obtain ⟨⟨t358, t361, t364⟩, A100, H⟩ := H
  replace H : ((laws_toDisk.f k l0_0 l0_1).bind fun bt366 => ((impl_LoseHost.f bt366.1 bt366.2 a1 a2).bind fun bt373 => ((laws_eqDisk.f k bt373.1 bt373.2.1 t358 t361).bind fun t381 => (if t381 = true then (laws_FnExactLoseHost.j0 k a1 a2 t364 bt373.2.2 (bt373.2.2 != t364) l0_0 l0_1 t358 t361 bt366.1 bt366.2 bt373.1 bt373.2.1) else (laws_FnExactLoseHost.j0 k a1 a2 t364 bt373.2.2 true l0_0 l0_1 t358 t361 bt366.1 bt366.2 bt373.1 bt373.2.1))))) = some r := H
  have A10 := Aside0.mk A100
  clear A100
  replace H := Option.bind_eq_some_iff.mp H
  obtain ⟨⟨t366, t369⟩, A110, H⟩ := H
  replace H : ((impl_LoseHost.f t366 t369 a1 a2).bind fun bt373 => ((laws_eqDisk.f k bt373.1 bt373.2.1 t358 t361).bind fun t381 => (if t381 = true then (laws_FnExactLoseHost.j0 k a1 a2 t364 bt373.2.2 (bt373.2.2 != t364) l0_0 l0_1 t358 t361 t366 t369 bt373.1 bt373.2.1) else (laws_FnExactLoseHost.j0 k a1 a2 t364 bt373.2.2 true l0_0 l0_1 t358 t361 t366 t369 bt373.1 bt373.2.1)))) = some r := H
  have A11 := Aside0.mk A110
  clear A110
  replace H := Option.bind_eq_some_iff.mp H
  obtain ⟨⟨t373, t376, t379⟩, A120, H⟩ := H
  replace H : ((laws_eqDisk.f k t373 t376 t358 t361).bind fun t381 => (if t381 = true then (laws_FnExactLoseHost.j0 k a1 a2 t364 t379 (t379 != t364) l0_0 l0_1 t358 t361 t366 t369 t373 t376) else (laws_FnExactLoseHost.j0 k a1 a2 t364 t379 true l0_0 l0_1 t358 t361 t366 t369 t373 t376))) = some r := H
  have A12 := Aside0.mk A120
  clear A120
  have HC13 := Aside0.mk H
  clear H
  go_enter Try.func4, Try.ntmps4
  go_upto_region 8 with (first | ((with_reducible refine gate_dst (N := 3) rfl ?_); refine box_event ?hg (N := 3) ?hd (cs := #[.slice A0_0 l0_0.length c0_0, .slice A0_1 l0_1.length c0_1]) (t := 25) ?hr ?_; (case hd => rfl); (case hg => rfl); (case hr => first | (go_simp; done) | (go_simp; rfl)); intro gb350 hg w14 hbox hb; have n0_ := Aside0.mk (below_step (by repeat (first | (with_reducible first | exact HB.out | apply below_alloc | apply pw_below_drewN | apply below_drew1) | exact HB.out)) hb); have n1_ := Aside0.mk (hbox); have n2_ := Aside0.mk ((by rw [hg]; exact (below_size (by repeat (first | (with_reducible first | exact HB.out | apply below_alloc | apply pw_below_drewN | apply below_drew1) | exact HB.out))) : w.heap.size ≤ gb350)); have n3_ := Aside0.mk ((by rw [hg]; exact (below_size (by repeat (first | (with_reducible first | exact HB.out | apply below_alloc | apply pw_below_drewN | apply below_drew1) | exact HB.out))) : w.heap.size ≤ gb350)); clear HB; have HB := n0_; have BK350 := n1_; have GW350 := n2_; have GE350 := n3_; clear n0_ n1_ n2_ n3_; clear hb hbox hg; have hcz15_0 : w14.cell? ⟨gb350, 0, none⟩ = some (.slice A0_0 l0_0.length c0_0) := (blk_cell BK350.out 0).trans rfl; have hcz15_1 : w14.cell? ⟨gb350, 1, none⟩ = some (.slice A0_1 l0_1.length c0_1) := (blk_cell BK350.out 1).trans rfl; have hfz15_0 := blk_frozen BK350.out 0; have hfz15_1 := blk_frozen BK350.out 1) | ((with_reducible refine gate_callee (f := 9) rfl ?_); refine goesL_ (some 20) rfl rfl Try.func9 (by kernel_rfl) rfl #[.agg #[.slice A0_0 l0_0.length c0_0, .slice A0_1 l0_1.length c0_1], .int .i64 1048576] rfl (by (try simp only [List.map_toArray, List.map_cons, List.map_nil]); first | done | rfl | (simp only [List.length_drop, List.length_take]; rfl)) ?_; (with_reducible refine (laws_szDisk.calls k _ _ l0_0 _ _ l0_1 1048576 t351 _ ?side1 ?side2 ?side3 ?side4 A4.out).mono ?_); (case side1 => repeat (first | exact (Kd.C_below HR0_0.out HB.out) | (with_reducible refine Kd.C_alloc ?_ _) | (with_reducible refine Kd.C_drewN ?_ _) | (with_reducible refine Kd.C_drew ?_))); (case side2 => exact HC0_0.out); (case side3 => repeat (first | exact (Kd.C_below HR0_1.out HB.out) | (with_reducible refine Kd.C_alloc ?_ _) | (with_reducible refine Kd.C_drewN ?_ _) | (with_reducible refine Kd.C_drew ?_))); (case side4 => exact HC0_1.out); rintro e w16 ⟨rfl, hb⟩; refine ⟨_, rfl, ?_⟩; have n0_ := Aside0.mk (blk_below (g := gb350) (o := .cells #[.slice A0_0 l0_0.length c0_0, .slice A0_1 l0_1.length c0_1] 25 (0, 0)) (by (with_reducible repeat (first | refine blk_drewN ?_ _ | refine blk_drew ?_ | refine blk_alloc ?_ _)); exact BK350.out) hb); have n1_ := Aside0.mk (below_step (by repeat (first | (with_reducible first | exact HB.out | apply below_alloc | apply pw_below_drewN | apply below_drew1 | refine below_set ?_ GE350.out) | exact HB.out)) hb); clear BK350; clear HB; have BK350 := n0_; have HB := n1_; clear n0_ n1_; (try clear hb); (try clear hb2); (try clear hk); (try clear hi); have hcz17_0 : w16.cell? ⟨gb350, 0, none⟩ = some (.slice A0_0 l0_0.length c0_0) := (blk_cell BK350.out 0).trans rfl; have hcz17_1 : w16.cell? ⟨gb350, 1, none⟩ = some (.slice A0_1 l0_1.length c0_1) := (blk_cell BK350.out 1).trans rfl; have hfz17_0 := blk_frozen BK350.out 0; have hfz17_1 := blk_frozen BK350.out 1) | ((with_reducible refine gate_callee (f := 11) rfl ?_); refine goesL_ (some 25) rfl rfl Try.func11 (by kernel_rfl) rfl #[.agg #[.slice A0_0 l0_0.length c0_0, .slice A0_1 l0_1.length c0_1]] rfl (by (try simp only [List.map_toArray, List.map_cons, List.map_nil]); first | done | rfl | (simp only [List.length_drop, List.length_take]; rfl)) ?_; (with_reducible refine (laws_toDisk.calls k _ _ l0_0 _ _ l0_1 t352 t355 _ ?side1 ?side2 ?side3 ?side4 A9.out).mono ?_); (case side1 => repeat (first | exact (Kd.C_below HR0_0.out HB.out) | (with_reducible refine Kd.C_alloc ?_ _) | (with_reducible refine Kd.C_drewN ?_ _) | (with_reducible refine Kd.C_drew ?_))); (case side2 => exact HC0_0.out); (case side3 => repeat (first | exact (Kd.C_below HR0_1.out HB.out) | (with_reducible refine Kd.C_alloc ?_ _) | (with_reducible refine Kd.C_drewN ?_ _) | (with_reducible refine Kd.C_drew ?_))); (case side4 => exact HC0_1.out); rintro e w18 ⟨v353, v356, rfl, ho0, ho1, hb⟩; refine ⟨_, rfl, ?_⟩; have n0_ := Aside0.mk (Kd.R_lower ho0 (below_size (by repeat (first | (with_reducible first | exact HB.out | apply below_alloc | apply pw_below_drewN | apply below_drew1 | refine below_set ?_ GE350.out) | exact HB.out)))); have n1_ := Aside0.mk (Kd.R_lower ho1 (below_size (by repeat (first | (with_reducible first | exact HB.out | apply below_alloc | apply pw_below_drewN | apply below_drew1 | refine below_set ?_ GE350.out) | exact HB.out)))); have n2_ := Aside0.mk (blk_below (g := gb350) (o := .cells #[.slice A0_0 l0_0.length c0_0, .slice A0_1 l0_1.length c0_1] 25 (0, 0)) (by (with_reducible repeat (first | refine blk_drewN ?_ _ | refine blk_drew ?_ | refine blk_alloc ?_ _)); exact BK350.out) hb); have n3_ := Aside0.mk (below_step (by repeat (first | (with_reducible first | exact HB.out | apply below_alloc | apply pw_below_drewN | apply below_drew1 | refine below_set ?_ GE350.out) | exact HB.out)) hb); clear BK350; clear HB; have HO354 := n0_; have HO357 := n1_; have BK350 := n2_; have HB := n3_; clear n0_ n1_ n2_ n3_; (try clear hb); (try clear hb2); (try clear hk); (try clear hi); (try clear ho0); (try clear ho1); obtain ⟨Ao19, co19, eo19⟩ := Kd.R_slice HO354.out; subst eo19; obtain ⟨Ao20, co20, eo20⟩ := Kd.R_slice HO357.out; subst eo20) | ((with_reducible refine gate_callee (f := 16) rfl ?_); refine goesL_ (some 28) rfl rfl Try.func16 (by kernel_rfl) rfl #[.agg #[.slice Ao19 t352.length co19, .slice Ao20 t355.length co20], .int .i64 a1, .int .i64 a2] rfl (by (try simp only [List.map_toArray, List.map_cons, List.map_nil]); first | done | rfl | (simp only [List.length_drop, List.length_take]; rfl)) ?_; (with_reducible refine (spec_LoseHost.calls k _ _ t352 _ _ t355 a1 a2 t358 t361 t364 _ ?side1 ?side2 ?side3 ?side4 A10.out).mono ?_); (case side1 => repeat (first | exact (Kd.R_reads' HO354.out).2.2 | (with_reducible refine Kd.C_alloc ?_ _) | (with_reducible refine Kd.C_drewN ?_ _) | (with_reducible refine Kd.C_drew ?_))); (case side2 => exact (Kd.R_reads' HO354.out).2.1); (case side3 => repeat (first | exact (Kd.R_reads' HO357.out).2.2 | (with_reducible refine Kd.C_alloc ?_ _) | (with_reducible refine Kd.C_drewN ?_ _) | (with_reducible refine Kd.C_drew ?_))); (case side4 => exact (Kd.R_reads' HO357.out).2.1); rintro e w21 ⟨v359, v362, rfl, ho0, ho1, hb⟩; refine ⟨_, rfl, ?_⟩; have n0_ := Aside0.mk (Kd.R_elder' (by (with_reducible repeat (first | apply Kd.R_alloc | apply Kd.R_drewN | apply Kd.R_drew)); exact HO354.out) (Kd.R_base ho0) hb); have n1_ := Aside0.mk (Kd.R_elder' (by (with_reducible repeat (first | apply Kd.R_alloc | apply Kd.R_drewN | apply Kd.R_drew)); exact HO357.out) (Kd.R_base ho1) hb); have n2_ := Aside0.mk (Kd.R_lower (Kd.R_new' ho0 (Kd.R_lt (by (with_reducible repeat (first | apply Kd.R_alloc | apply Kd.R_drewN | apply Kd.R_drew)); exact HO354.out))) (below_size (by repeat (first | (with_reducible first | exact HB.out | apply below_alloc | apply pw_below_drewN | apply below_drew1 | refine below_set ?_ GE350.out) | exact HB.out)))); have n3_ := Aside0.mk (Kd.R_lower (Kd.R_new' ho1 (Kd.R_lt (by (with_reducible repeat (first | apply Kd.R_alloc | apply Kd.R_drewN | apply Kd.R_drew)); exact HO357.out))) (below_size (by repeat (first | (with_reducible first | exact HB.out | apply below_alloc | apply pw_below_drewN | apply below_drew1 | refine below_set ?_ GE350.out) | exact HB.out)))); have n4_ := Aside0.mk (blk_below (g := gb350) (o := .cells #[.slice A0_0 l0_0.length c0_0, .slice A0_1 l0_1.length c0_1] 25 (0, 0)) (by (with_reducible repeat (first | refine blk_drewN ?_ _ | refine blk_drew ?_ | refine blk_alloc ?_ _)); exact BK350.out) hb); have n5_ := Aside0.mk (below_step (by repeat (first | (with_reducible first | exact HB.out | apply below_alloc | apply pw_below_drewN | apply below_drew1 | refine below_set ?_ GE350.out) | exact HB.out)) hb); clear HO354; clear HO357; clear BK350; clear HB; have HO354 := n0_; have HO357 := n1_; have HO360 := n2_; have HO363 := n3_; have BK350 := n4_; have HB := n5_; clear n0_ n1_ n2_ n3_ n4_ n5_; (try clear hb); (try clear hb2); (try clear hk); (try clear hi); (try clear ho0); (try clear ho1)) | ((with_reducible refine gate_dst (N := 8) rfl ?_); refine box_event ?hg (N := 8) ?hd (cs := #[.slice none 0 0, .slice none 0 0]) (t := 29) ?hr ?_; (case hd => rfl); (case hg => rfl); (case hr => first | (go_simp; done) | (go_simp; rfl)); intro gb365 hg w22 hbox hb; have n0_ := Aside0.mk (Kd.R_below (by (with_reducible repeat (first | apply Kd.R_alloc | apply Kd.R_drewN | apply Kd.R_drew)); exact HO354.out) hb); have n1_ := Aside0.mk (Kd.R_below (by (with_reducible repeat (first | apply Kd.R_alloc | apply Kd.R_drewN | apply Kd.R_drew)); exact HO357.out) hb); have n2_ := Aside0.mk (Kd.R_below (by (with_reducible repeat (first | apply Kd.R_alloc | apply Kd.R_drewN | apply Kd.R_drew)); exact HO360.out) hb); have n3_ := Aside0.mk (Kd.R_below (by (with_reducible repeat (first | apply Kd.R_alloc | apply Kd.R_drewN | apply Kd.R_drew)); exact HO363.out) hb); have n4_ := Aside0.mk (blk_below (g := gb350) (o := .cells #[.slice A0_0 l0_0.length c0_0, .slice A0_1 l0_1.length c0_1] 25 (0, 0)) (by (with_reducible repeat (first | refine blk_drewN ?_ _ | refine blk_drew ?_ | refine blk_alloc ?_ _)); exact BK350.out) hb); have n5_ := Aside0.mk (below_step (by repeat (first | (with_reducible first | exact HB.out | apply below_alloc | apply pw_below_drewN | apply below_drew1 | refine below_set ?_ GE350.out) | exact HB.out)) hb); have n6_ := Aside0.mk (hbox); have n7_ := Aside0.mk ((by rw [hg]; exact (below_size (by repeat (first | (with_reducible first | exact HB.out | apply below_alloc | apply pw_below_drewN | apply below_drew1 | refine below_set ?_ GE350.out) | exact HB.out))) : w.heap.size ≤ gb365)); have n8_ := Aside0.mk ((by rw [hg]; exact (below_size (by repeat (first | (with_reducible first | exact HB.out | apply below_alloc | apply pw_below_drewN | apply below_drew1 | refine below_set ?_ GE350.out) | exact HB.out))) : w.heap.size ≤ gb365)); have n9_ := Aside0.mk ((by rw [hg]; exact Nat.ne_of_lt (blk_lt (g := gb350) (o := .cells #[.slice A0_0 l0_0.length c0_0, .slice A0_1 l0_1.length c0_1] 25 (0, 0)) (by (with_reducible repeat (first | refine blk_drewN ?_ _ | refine blk_drew ?_ | refine blk_alloc ?_ _)); exact BK350.out)) : gb350 ≠ gb365)); have n10_ := Aside0.mk ((by rw [hg]; exact Nat.ne_of_gt (blk_lt (g := gb350) (o := .cells #[.slice A0_0 l0_0.length c0_0, .slice A0_1 l0_1.length c0_1] 25 (0, 0)) (by (with_reducible repeat (first | refine blk_drewN ?_ _ | refine blk_drew ?_ | refine blk_alloc ?_ _)); exact BK350.out)) : gb365 ≠ gb350)); clear HO354; clear HO357; clear HO360; clear HO363; clear BK350; clear HB; have HO354 := n0_; have HO357 := n1_; have HO360 := n2_; have HO363 := n3_; have BK350 := n4_; have HB := n5_; have BK365 := n6_; have GW365 := n7_; have GE365 := n8_; have NB350_365 := n9_; have NB365_350 := n10_; clear n0_ n1_ n2_ n3_ n4_ n5_ n6_ n7_ n8_ n9_ n10_; clear hb hbox hg; obtain ⟨Ao23, co23, eo23⟩ := Kd.R_slice HO360.out; subst eo23; have hnb24 := NB365_350.out; have hnc24 := NB350_365.out; have hcz25_0 : w22.cell? ⟨gb365, 0, none⟩ = some (.slice none 0 0) := (blk_cell BK365.out 0).trans rfl; have hcz25_1 : w22.cell? ⟨gb365, 1, none⟩ = some (.slice none 0 0) := (blk_cell BK365.out 1).trans rfl; have hfz25_0 := blk_frozen BK365.out 0; have hfz25_1 := blk_frozen BK365.out 1; obtain ⟨Ao26, co26, eo26⟩ := Kd.R_slice HO363.out; subst eo26; have hcz27_0 : w22.cell? ⟨gb350, 0, none⟩ = some (.slice A0_0 l0_0.length c0_0) := (blk_cell BK350.out 0).trans rfl; have hcz27_1 : w22.cell? ⟨gb350, 1, none⟩ = some (.slice A0_1 l0_1.length c0_1) := (blk_cell BK350.out 1).trans rfl; have hfz27_0 := blk_frozen BK350.out 0; have hfz27_1 := blk_frozen BK350.out 1) | ((with_reducible refine gate_callee (f := 11) rfl ?_); refine goesL_ (some 32) rfl rfl Try.func11 (by kernel_rfl) rfl #[.agg #[.slice A0_0 l0_0.length c0_0, .slice A0_1 l0_1.length c0_1]] rfl (by (try simp only [List.map_toArray, List.map_cons, List.map_nil]); first | done | rfl | (simp only [List.length_drop, List.length_take]; rfl)) ?_; (with_reducible refine (laws_toDisk.calls k _ _ l0_0 _ _ l0_1 t366 t369 _ ?side1 ?side2 ?side3 ?side4 A11.out).mono ?_); (case side1 => exact Kd.C_below HR0_0.out (by repeat (first | (with_reducible first | exact HB.out | apply below_alloc | apply pw_below_drewN | apply below_drew1 | refine below_set ?_ GE350.out | refine below_set ?_ GE365.out) | exact HB.out))); (case side2 => exact HC0_0.out); (case side3 => exact Kd.C_below HR0_1.out (by repeat (first | (with_reducible first | exact HB.out | apply below_alloc | apply pw_below_drewN | apply below_drew1 | refine below_set ?_ GE350.out | refine below_set ?_ GE365.out) | exact HB.out))); (case side4 => exact HC0_1.out); rintro e w28 ⟨v367, v370, rfl, ho0, ho1, hb⟩; refine ⟨_, rfl, ?_⟩; have n0_ := Aside0.mk (Kd.R_elder' (by (with_reducible repeat (first | apply Kd.R_alloc | apply Kd.R_drewN | apply Kd.R_drew)); exact (Kd.R_mono (Kd.R_far (p := ⟨gb365, 1, none⟩) (Kd.R_far (p := ⟨gb365, 0, none⟩) (Kd.R_types HO354.out BK365.out (by decide)) (fun _ hk => hk.2) (.slice Ao23 t358.length co23)) (fun _ hk => hk.2) (.slice Ao26 t361.length co26)) (fun _ h_ => h_.1))) (Kd.R_base ho0) hb); have n1_ := Aside0.mk (Kd.R_elder' (by (with_reducible repeat (first | apply Kd.R_alloc | apply Kd.R_drewN | apply Kd.R_drew)); exact (Kd.R_mono (Kd.R_far (p := ⟨gb365, 1, none⟩) (Kd.R_far (p := ⟨gb365, 0, none⟩) (Kd.R_types HO357.out BK365.out (by decide)) (fun _ hk => hk.2) (.slice Ao23 t358.length co23)) (fun _ hk => hk.2) (.slice Ao26 t361.length co26)) (fun _ h_ => h_.1))) (Kd.R_base ho1) hb); have n2_ := Aside0.mk (Kd.R_elder' (by (with_reducible repeat (first | apply Kd.R_alloc | apply Kd.R_drewN | apply Kd.R_drew)); exact (Kd.R_mono (Kd.R_far (p := ⟨gb365, 1, none⟩) (Kd.R_far (p := ⟨gb365, 0, none⟩) (Kd.R_types HO360.out BK365.out (by decide)) (fun _ hk => hk.2) (.slice Ao23 t358.length co23)) (fun _ hk => hk.2) (.slice Ao26 t361.length co26)) (fun _ h_ => h_.1))) (Kd.R_base ho0) hb); have n3_ := Aside0.mk (Kd.R_elder' (by (with_reducible repeat (first | apply Kd.R_alloc | apply Kd.R_drewN | apply Kd.R_drew)); exact (Kd.R_mono (Kd.R_far (p := ⟨gb365, 1, none⟩) (Kd.R_far (p := ⟨gb365, 0, none⟩) (Kd.R_types HO363.out BK365.out (by decide)) (fun _ hk => hk.2) (.slice Ao23 t358.length co23)) (fun _ hk => hk.2) (.slice Ao26 t361.length co26)) (fun _ h_ => h_.1))) (Kd.R_base ho1) hb); have n4_ := Aside0.mk (Kd.R_lower (Kd.R_new' (Kd.R_new' ho0 (Kd.R_lt (by (with_reducible repeat (first | apply Kd.R_alloc | apply Kd.R_drewN | apply Kd.R_drew)); exact (Kd.R_mono (Kd.R_far (p := ⟨gb365, 1, none⟩) (Kd.R_far (p := ⟨gb365, 0, none⟩) (Kd.R_types HO354.out BK365.out (by decide)) (fun _ hk => hk.2) (.slice Ao23 t358.length co23)) (fun _ hk => hk.2) (.slice Ao26 t361.length co26)) (fun _ h_ => h_.1))))) (Kd.R_lt (by (with_reducible repeat (first | apply Kd.R_alloc | apply Kd.R_drewN | apply Kd.R_drew)); exact (Kd.R_mono (Kd.R_far (p := ⟨gb365, 1, none⟩) (Kd.R_far (p := ⟨gb365, 0, none⟩) (Kd.R_types HO360.out BK365.out (by decide)) (fun _ hk => hk.2) (.slice Ao23 t358.length co23)) (fun _ hk => hk.2) (.slice Ao26 t361.length co26)) (fun _ h_ => h_.1))))) (below_size (by repeat (first | (with_reducible first | exact HB.out | apply below_alloc | apply pw_below_drewN | apply below_drew1 | refine below_set ?_ GE350.out | refine below_set ?_ GE365.out) | exact HB.out)))); have n5_ := Aside0.mk (Kd.R_lower (Kd.R_new' (Kd.R_new' ho1 (Kd.R_lt (by (with_reducible repeat (first | apply Kd.R_alloc | apply Kd.R_drewN | apply Kd.R_drew)); exact (Kd.R_mono (Kd.R_far (p := ⟨gb365, 1, none⟩) (Kd.R_far (p := ⟨gb365, 0, none⟩) (Kd.R_types HO357.out BK365.out (by decide)) (fun _ hk => hk.2) (.slice Ao23 t358.length co23)) (fun _ hk => hk.2) (.slice Ao26 t361.length co26)) (fun _ h_ => h_.1))))) (Kd.R_lt (by (with_reducible repeat (first | apply Kd.R_alloc | apply Kd.R_drewN | apply Kd.R_drew)); exact (Kd.R_mono (Kd.R_far (p := ⟨gb365, 1, none⟩) (Kd.R_far (p := ⟨gb365, 0, none⟩) (Kd.R_types HO363.out BK365.out (by decide)) (fun _ hk => hk.2) (.slice Ao23 t358.length co23)) (fun _ hk => hk.2) (.slice Ao26 t361.length co26)) (fun _ h_ => h_.1))))) (below_size (by repeat (first | (with_reducible first | exact HB.out | apply below_alloc | apply pw_below_drewN | apply below_drew1 | refine below_set ?_ GE350.out | refine below_set ?_ GE365.out) | exact HB.out)))); have n6_ := Aside0.mk (blk_below (g := gb350) (o := .cells #[.slice A0_0 l0_0.length c0_0, .slice A0_1 l0_1.length c0_1] 25 (0, 0)) (by (with_reducible repeat (first | refine blk_drewN ?_ _ | refine blk_drew ?_ | refine blk_alloc ?_ _)); refine blk_far ?_ NB350_365.out _; (with_reducible repeat (first | refine blk_drewN ?_ _ | refine blk_drew ?_ | refine blk_alloc ?_ _)); refine blk_far ?_ NB350_365.out _; (with_reducible repeat (first | refine blk_drewN ?_ _ | refine blk_drew ?_ | refine blk_alloc ?_ _)); exact BK350.out) hb); have n7_ := Aside0.mk (blk_below (g := gb365) (o := .cells #[.slice Ao23 t358.length co23, .slice Ao26 t361.length co26] 29 (0, 0)) (by (with_reducible repeat (first | refine blk_drewN ?_ _ | refine blk_drew ?_ | refine blk_alloc ?_ _)); refine blk_put (cs := #[.slice Ao23 t358.length co23, .slice none 0 0]) ?_ 1 _ rfl; (with_reducible repeat (first | refine blk_drewN ?_ _ | refine blk_drew ?_ | refine blk_alloc ?_ _)); refine blk_put (cs := #[.slice none 0 0, .slice none 0 0]) ?_ 0 _ rfl; (with_reducible repeat (first | refine blk_drewN ?_ _ | refine blk_drew ?_ | refine blk_alloc ?_ _)); exact BK365.out) hb); have n8_ := Aside0.mk (below_step (by repeat (first | (with_reducible first | exact HB.out | apply below_alloc | apply pw_below_drewN | apply below_drew1 | refine below_set ?_ GE350.out | refine below_set ?_ GE365.out) | exact HB.out)) hb); clear HO354; clear HO357; clear HO360; clear HO363; clear BK350; clear BK365; clear HB; have HO354 := n0_; have HO357 := n1_; have HO360 := n2_; have HO363 := n3_; have HO368 := n4_; have HO371 := n5_; have BK350 := n6_; have BK365 := n7_; have HB := n8_; clear n0_ n1_ n2_ n3_ n4_ n5_ n6_ n7_ n8_; (try clear hb); (try clear hb2); (try clear hk); (try clear hi); (try clear ho0); (try clear ho1)) | ((with_reducible refine gate_dst (N := 10) rfl ?_); refine box_event ?hg (N := 10) ?hd (cs := #[.slice none 0 0, .slice none 0 0]) (t := 29) ?hr ?_; (case hd => rfl); (case hg => rfl); (case hr => first | (go_simp; done) | (go_simp; rfl)); intro gb372 hg w29 hbox hb; have n0_ := Aside0.mk (Kd.R_below (by (with_reducible repeat (first | apply Kd.R_alloc | apply Kd.R_drewN | apply Kd.R_drew)); exact HO354.out) hb); have n1_ := Aside0.mk (Kd.R_below (by (with_reducible repeat (first | apply Kd.R_alloc | apply Kd.R_drewN | apply Kd.R_drew)); exact HO357.out) hb); have n2_ := Aside0.mk (Kd.R_below (by (with_reducible repeat (first | apply Kd.R_alloc | apply Kd.R_drewN | apply Kd.R_drew)); exact HO360.out) hb); have n3_ := Aside0.mk (Kd.R_below (by (with_reducible repeat (first | apply Kd.R_alloc | apply Kd.R_drewN | apply Kd.R_drew)); exact HO363.out) hb); have n4_ := Aside0.mk (Kd.R_below (by (with_reducible repeat (first | apply Kd.R_alloc | apply Kd.R_drewN | apply Kd.R_drew)); exact HO368.out) hb); have n5_ := Aside0.mk (Kd.R_below (by (with_reducible repeat (first | apply Kd.R_alloc | apply Kd.R_drewN | apply Kd.R_drew)); exact HO371.out) hb); have n6_ := Aside0.mk (blk_below (g := gb350) (o := .cells #[.slice A0_0 l0_0.length c0_0, .slice A0_1 l0_1.length c0_1] 25 (0, 0)) (by (with_reducible repeat (first | refine blk_drewN ?_ _ | refine blk_drew ?_ | refine blk_alloc ?_ _)); exact BK350.out) hb); have n7_ := Aside0.mk (blk_below (g := gb365) (o := .cells #[.slice Ao23 t358.length co23, .slice Ao26 t361.length co26] 29 (0, 0)) (by (with_reducible repeat (first | refine blk_drewN ?_ _ | refine blk_drew ?_ | refine blk_alloc ?_ _)); exact BK365.out) hb); have n8_ := Aside0.mk (below_step (by repeat (first | (with_reducible first | exact HB.out | apply below_alloc | apply pw_below_drewN | apply below_drew1 | refine below_set ?_ GE350.out | refine below_set ?_ GE365.out) | exact HB.out)) hb); have n9_ := Aside0.mk (hbox); have n10_ := Aside0.mk ((by rw [hg]; exact (below_size (by repeat (first | (with_reducible first | exact HB.out | apply below_alloc | apply pw_below_drewN | apply below_drew1 | refine below_set ?_ GE350.out | refine below_set ?_ GE365.out) | exact HB.out))) : w.heap.size ≤ gb372)); have n11_ := Aside0.mk ((by rw [hg]; exact (below_size (by repeat (first | (with_reducible first | exact HB.out | apply below_alloc | apply pw_below_drewN | apply below_drew1 | refine below_set ?_ GE350.out | refine below_set ?_ GE365.out) | exact HB.out))) : w.heap.size ≤ gb372)); have n12_ := Aside0.mk ((by rw [hg]; exact Nat.ne_of_lt (blk_lt (g := gb350) (o := .cells #[.slice A0_0 l0_0.length c0_0, .slice A0_1 l0_1.length c0_1] 25 (0, 0)) (by (with_reducible repeat (first | refine blk_drewN ?_ _ | refine blk_drew ?_ | refine blk_alloc ?_ _)); exact BK350.out)) : gb350 ≠ gb372)); have n13_ := Aside0.mk ((by rw [hg]; exact Nat.ne_of_gt (blk_lt (g := gb350) (o := .cells #[.slice A0_0 l0_0.length c0_0, .slice A0_1 l0_1.length c0_1] 25 (0, 0)) (by (with_reducible repeat (first | refine blk_drewN ?_ _ | refine blk_drew ?_ | refine blk_alloc ?_ _)); exact BK350.out)) : gb372 ≠ gb350)); have n14_ := Aside0.mk ((by rw [hg]; exact Nat.ne_of_lt (blk_lt (g := gb365) (o := .cells #[.slice Ao23 t358.length co23, .slice Ao26 t361.length co26] 29 (0, 0)) (by (with_reducible repeat (first | refine blk_drewN ?_ _ | refine blk_drew ?_ | refine blk_alloc ?_ _)); exact BK365.out)) : gb365 ≠ gb372)); have n15_ := Aside0.mk ((by rw [hg]; exact Nat.ne_of_gt (blk_lt (g := gb365) (o := .cells #[.slice Ao23 t358.length co23, .slice Ao26 t361.length co26] 29 (0, 0)) (by (with_reducible repeat (first | refine blk_drewN ?_ _ | refine blk_drew ?_ | refine blk_alloc ?_ _)); exact BK365.out)) : gb372 ≠ gb365)); clear HO354; clear HO357; clear HO360; clear HO363; clear HO368; clear HO371; clear BK350; clear BK365; clear HB; have HO354 := n0_; have HO357 := n1_; have HO360 := n2_; have HO363 := n3_; have HO368 := n4_; have HO371 := n5_; have BK350 := n6_; have BK365 := n7_; have HB := n8_; have BK372 := n9_; have GW372 := n10_; have GE372 := n11_; have NB350_372 := n12_; have NB372_350 := n13_; have NB365_372 := n14_; have NB372_365 := n15_; clear n0_ n1_ n2_ n3_ n4_ n5_ n6_ n7_ n8_ n9_ n10_ n11_ n12_ n13_ n14_ n15_; clear hb hbox hg; obtain ⟨Ao30, co30, eo30⟩ := Kd.R_slice HO368.out; subst eo30; have hnb31 := NB372_350.out; have hnc31 := NB350_372.out; have hnb32 := NB372_365.out; have hnc32 := NB365_372.out; have hcz33_0 : w29.cell? ⟨gb372, 0, none⟩ = some (.slice none 0 0) := (blk_cell BK372.out 0).trans rfl; have hcz33_1 : w29.cell? ⟨gb372, 1, none⟩ = some (.slice none 0 0) := (blk_cell BK372.out 1).trans rfl; have hfz33_0 := blk_frozen BK372.out 0; have hfz33_1 := blk_frozen BK372.out 1; obtain ⟨Ao34, co34, eo34⟩ := Kd.R_slice HO371.out; subst eo34) | ((with_reducible refine gate_callee (f := 17) rfl ?_); refine goesL_ (some 37) rfl rfl Try.func17 (by kernel_rfl) rfl #[.agg #[.slice Ao30 t366.length co30, .slice Ao34 t369.length co34], .int .i64 a1, .int .i64 a2] rfl (by (try simp only [List.map_toArray, List.map_cons, List.map_nil]); first | done | rfl | (simp only [List.length_drop, List.length_take]; rfl)) ?_; (with_reducible refine (impl_LoseHost.calls _ _ t366 _ _ t369 a1 a2 t373 t376 t379 _ ?side1 ?side2 ?side3 ?side4 A12.out).mono ?_); (case side1 => refine (Kd.R_reads' (e := 9) (base := w.heap.size) (ok := fun k_ => ((True ∧ some k_ ≠ (.slice Ao19 t352.length co19 : Value).ownBlock) ∧ some k_ ≠ (.slice Ao23 t358.length co23 : Value).ownBlock)) (n := t366.length) (c := co30) ?_).2.2; exact (by (with_reducible repeat (first | apply Kd.R_alloc | apply Kd.R_drewN | apply Kd.R_drew)); exact (Kd.R_mono (Kd.R_far (p := ⟨gb372, 1, none⟩) (Kd.R_far (p := ⟨gb372, 0, none⟩) (Kd.R_types HO368.out BK372.out (by decide)) (fun _ hk => hk.2) (.slice Ao30 t366.length co30)) (fun _ hk => hk.2) (.slice Ao34 t369.length co34)) (fun _ h_ => h_.1)))); (case side2 => exact (Kd.R_reads' HO368.out).2.1); (case side3 => refine (Kd.R_reads' (e := 76) (base := w.heap.size) (ok := fun k_ => ((True ∧ some k_ ≠ (.slice Ao20 t355.length co20 : Value).ownBlock) ∧ some k_ ≠ (.slice Ao26 t361.length co26 : Value).ownBlock)) (n := t369.length) (c := co34) ?_).2.2; exact (by (with_reducible repeat (first | apply Kd.R_alloc | apply Kd.R_drewN | apply Kd.R_drew)); exact (Kd.R_mono (Kd.R_far (p := ⟨gb372, 1, none⟩) (Kd.R_far (p := ⟨gb372, 0, none⟩) (Kd.R_types HO371.out BK372.out (by decide)) (fun _ hk => hk.2) (.slice Ao30 t366.length co30)) (fun _ hk => hk.2) (.slice Ao34 t369.length co34)) (fun _ h_ => h_.1)))); (case side4 => exact (Kd.R_reads' HO371.out).2.1); rintro e w35 ⟨v374, v377, rfl, ho0, ho1, hb⟩; refine ⟨_, rfl, ?_⟩; have n0_ := Aside0.mk (Kd.R_elder' (by (with_reducible repeat (first | apply Kd.R_alloc | apply Kd.R_drewN | apply Kd.R_drew)); exact (Kd.R_mono (Kd.R_far (p := ⟨gb372, 1, none⟩) (Kd.R_far (p := ⟨gb372, 0, none⟩) (Kd.R_types HO354.out BK372.out (by decide)) (fun _ hk => hk.2) (.slice Ao30 t366.length co30)) (fun _ hk => hk.2) (.slice Ao34 t369.length co34)) (fun _ h_ => h_.1))) (Kd.R_base ho0) hb); have n1_ := Aside0.mk (Kd.R_elder' (by (with_reducible repeat (first | apply Kd.R_alloc | apply Kd.R_drewN | apply Kd.R_drew)); exact (Kd.R_mono (Kd.R_far (p := ⟨gb372, 1, none⟩) (Kd.R_far (p := ⟨gb372, 0, none⟩) (Kd.R_types HO357.out BK372.out (by decide)) (fun _ hk => hk.2) (.slice Ao30 t366.length co30)) (fun _ hk => hk.2) (.slice Ao34 t369.length co34)) (fun _ h_ => h_.1))) (Kd.R_base ho1) hb); have n2_ := Aside0.mk (Kd.R_elder' (by (with_reducible repeat (first | apply Kd.R_alloc | apply Kd.R_drewN | apply Kd.R_drew)); exact (Kd.R_mono (Kd.R_far (p := ⟨gb372, 1, none⟩) (Kd.R_far (p := ⟨gb372, 0, none⟩) (Kd.R_types HO360.out BK372.out (by decide)) (fun _ hk => hk.2) (.slice Ao30 t366.length co30)) (fun _ hk => hk.2) (.slice Ao34 t369.length co34)) (fun _ h_ => h_.1))) (Kd.R_base ho0) hb); have n3_ := Aside0.mk (Kd.R_elder' (by (with_reducible repeat (first | apply Kd.R_alloc | apply Kd.R_drewN | apply Kd.R_drew)); exact (Kd.R_mono (Kd.R_far (p := ⟨gb372, 1, none⟩) (Kd.R_far (p := ⟨gb372, 0, none⟩) (Kd.R_types HO363.out BK372.out (by decide)) (fun _ hk => hk.2) (.slice Ao30 t366.length co30)) (fun _ hk => hk.2) (.slice Ao34 t369.length co34)) (fun _ h_ => h_.1))) (Kd.R_base ho1) hb); have n4_ := Aside0.mk (Kd.R_elder' (by (with_reducible repeat (first | apply Kd.R_alloc | apply Kd.R_drewN | apply Kd.R_drew)); exact (Kd.R_mono (Kd.R_far (p := ⟨gb372, 1, none⟩) (Kd.R_far (p := ⟨gb372, 0, none⟩) (Kd.R_types HO368.out BK372.out (by decide)) (fun _ hk => hk.2) (.slice Ao30 t366.length co30)) (fun _ hk => hk.2) (.slice Ao34 t369.length co34)) (fun _ h_ => h_.1))) (Kd.R_base ho0) hb); have n5_ := Aside0.mk (Kd.R_elder' (by (with_reducible repeat (first | apply Kd.R_alloc | apply Kd.R_drewN | apply Kd.R_drew)); exact (Kd.R_mono (Kd.R_far (p := ⟨gb372, 1, none⟩) (Kd.R_far (p := ⟨gb372, 0, none⟩) (Kd.R_types HO371.out BK372.out (by decide)) (fun _ hk => hk.2) (.slice Ao30 t366.length co30)) (fun _ hk => hk.2) (.slice Ao34 t369.length co34)) (fun _ h_ => h_.1))) (Kd.R_base ho1) hb); have n6_ := Aside0.mk (Kd.R_lower (Kd.R_new' (Kd.R_new' (Kd.R_new' ho0 (Kd.R_lt (by (with_reducible repeat (first | apply Kd.R_alloc | apply Kd.R_drewN | apply Kd.R_drew)); exact (Kd.R_mono (Kd.R_far (p := ⟨gb372, 1, none⟩) (Kd.R_far (p := ⟨gb372, 0, none⟩) (Kd.R_types HO354.out BK372.out (by decide)) (fun _ hk => hk.2) (.slice Ao30 t366.length co30)) (fun _ hk => hk.2) (.slice Ao34 t369.length co34)) (fun _ h_ => h_.1))))) (Kd.R_lt (by (with_reducible repeat (first | apply Kd.R_alloc | apply Kd.R_drewN | apply Kd.R_drew)); exact (Kd.R_mono (Kd.R_far (p := ⟨gb372, 1, none⟩) (Kd.R_far (p := ⟨gb372, 0, none⟩) (Kd.R_types HO360.out BK372.out (by decide)) (fun _ hk => hk.2) (.slice Ao30 t366.length co30)) (fun _ hk => hk.2) (.slice Ao34 t369.length co34)) (fun _ h_ => h_.1))))) (Kd.R_lt (by (with_reducible repeat (first | apply Kd.R_alloc | apply Kd.R_drewN | apply Kd.R_drew)); exact (Kd.R_mono (Kd.R_far (p := ⟨gb372, 1, none⟩) (Kd.R_far (p := ⟨gb372, 0, none⟩) (Kd.R_types HO368.out BK372.out (by decide)) (fun _ hk => hk.2) (.slice Ao30 t366.length co30)) (fun _ hk => hk.2) (.slice Ao34 t369.length co34)) (fun _ h_ => h_.1))))) (below_size (by repeat (first | (with_reducible first | exact HB.out | apply below_alloc | apply pw_below_drewN | apply below_drew1 | refine below_set ?_ GE350.out | refine below_set ?_ GE365.out | refine below_set ?_ GE372.out) | exact HB.out)))); have n7_ := Aside0.mk (Kd.R_lower (Kd.R_new' (Kd.R_new' (Kd.R_new' ho1 (Kd.R_lt (by (with_reducible repeat (first | apply Kd.R_alloc | apply Kd.R_drewN | apply Kd.R_drew)); exact (Kd.R_mono (Kd.R_far (p := ⟨gb372, 1, none⟩) (Kd.R_far (p := ⟨gb372, 0, none⟩) (Kd.R_types HO357.out BK372.out (by decide)) (fun _ hk => hk.2) (.slice Ao30 t366.length co30)) (fun _ hk => hk.2) (.slice Ao34 t369.length co34)) (fun _ h_ => h_.1))))) (Kd.R_lt (by (with_reducible repeat (first | apply Kd.R_alloc | apply Kd.R_drewN | apply Kd.R_drew)); exact (Kd.R_mono (Kd.R_far (p := ⟨gb372, 1, none⟩) (Kd.R_far (p := ⟨gb372, 0, none⟩) (Kd.R_types HO363.out BK372.out (by decide)) (fun _ hk => hk.2) (.slice Ao30 t366.length co30)) (fun _ hk => hk.2) (.slice Ao34 t369.length co34)) (fun _ h_ => h_.1))))) (Kd.R_lt (by (with_reducible repeat (first | apply Kd.R_alloc | apply Kd.R_drewN | apply Kd.R_drew)); exact (Kd.R_mono (Kd.R_far (p := ⟨gb372, 1, none⟩) (Kd.R_far (p := ⟨gb372, 0, none⟩) (Kd.R_types HO371.out BK372.out (by decide)) (fun _ hk => hk.2) (.slice Ao30 t366.length co30)) (fun _ hk => hk.2) (.slice Ao34 t369.length co34)) (fun _ h_ => h_.1))))) (below_size (by repeat (first | (with_reducible first | exact HB.out | apply below_alloc | apply pw_below_drewN | apply below_drew1 | refine below_set ?_ GE350.out | refine below_set ?_ GE365.out | refine below_set ?_ GE372.out) | exact HB.out)))); have n8_ := Aside0.mk (blk_below (g := gb350) (o := .cells #[.slice A0_0 l0_0.length c0_0, .slice A0_1 l0_1.length c0_1] 25 (0, 0)) (by (with_reducible repeat (first | refine blk_drewN ?_ _ | refine blk_drew ?_ | refine blk_alloc ?_ _)); refine blk_far ?_ NB350_372.out _; (with_reducible repeat (first | refine blk_drewN ?_ _ | refine blk_drew ?_ | refine blk_alloc ?_ _)); refine blk_far ?_ NB350_372.out _; (with_reducible repeat (first | refine blk_drewN ?_ _ | refine blk_drew ?_ | refine blk_alloc ?_ _)); exact BK350.out) hb); have n9_ := Aside0.mk (blk_below (g := gb365) (o := .cells #[.slice Ao23 t358.length co23, .slice Ao26 t361.length co26] 29 (0, 0)) (by (with_reducible repeat (first | refine blk_drewN ?_ _ | refine blk_drew ?_ | refine blk_alloc ?_ _)); refine blk_far ?_ NB365_372.out _; (with_reducible repeat (first | refine blk_drewN ?_ _ | refine blk_drew ?_ | refine blk_alloc ?_ _)); refine blk_far ?_ NB365_372.out _; (with_reducible repeat (first | refine blk_drewN ?_ _ | refine blk_drew ?_ | refine blk_alloc ?_ _)); exact BK365.out) hb); have n10_ := Aside0.mk (blk_below (g := gb372) (o := .cells #[.slice Ao30 t366.length co30, .slice Ao34 t369.length co34] 29 (0, 0)) (by (with_reducible repeat (first | refine blk_drewN ?_ _ | refine blk_drew ?_ | refine blk_alloc ?_ _)); refine blk_put (cs := #[.slice Ao30 t366.length co30, .slice none 0 0]) ?_ 1 _ rfl; (with_reducible repeat (first | refine blk_drewN ?_ _ | refine blk_drew ?_ | refine blk_alloc ?_ _)); refine blk_put (cs := #[.slice none 0 0, .slice none 0 0]) ?_ 0 _ rfl; (with_reducible repeat (first | refine blk_drewN ?_ _ | refine blk_drew ?_ | refine blk_alloc ?_ _)); exact BK372.out) hb); have n11_ := Aside0.mk (below_step (by repeat (first | (with_reducible first | exact HB.out | apply below_alloc | apply pw_below_drewN | apply below_drew1 | refine below_set ?_ GE350.out | refine below_set ?_ GE365.out | refine below_set ?_ GE372.out) | exact HB.out)) hb); clear HO354; clear HO357; clear HO360; clear HO363; clear HO368; clear HO371; clear BK350; clear BK365; clear BK372; clear HB; have HO354 := n0_; have HO357 := n1_; have HO360 := n2_; have HO363 := n3_; have HO368 := n4_; have HO371 := n5_; have HO375 := n6_; have HO378 := n7_; have BK350 := n8_; have BK365 := n9_; have BK372 := n10_; have HB := n11_; clear n0_ n1_ n2_ n3_ n4_ n5_ n6_ n7_ n8_ n9_ n10_ n11_; (try clear hb); (try clear hb2); (try clear hk); (try clear hi); (try clear ho0); (try clear ho1)) | ((with_reducible refine gate_dst (N := 11) rfl ?_); refine box_event ?hg (N := 11) ?hd (cs := #[.slice none 0 0, .slice none 0 0]) (t := 29) ?hr ?_; (case hd => rfl); (case hg => rfl); (case hr => first | (go_simp; done) | (go_simp; rfl)); intro gb380 hg w36 hbox hb; have n0_ := Aside0.mk (Kd.R_below (by (with_reducible repeat (first | apply Kd.R_alloc | apply Kd.R_drewN | apply Kd.R_drew)); exact HO354.out) hb); have n1_ := Aside0.mk (Kd.R_below (by (with_reducible repeat (first | apply Kd.R_alloc | apply Kd.R_drewN | apply Kd.R_drew)); exact HO357.out) hb); have n2_ := Aside0.mk (Kd.R_below (by (with_reducible repeat (first | apply Kd.R_alloc | apply Kd.R_drewN | apply Kd.R_drew)); exact HO360.out) hb); have n3_ := Aside0.mk (Kd.R_below (by (with_reducible repeat (first | apply Kd.R_alloc | apply Kd.R_drewN | apply Kd.R_drew)); exact HO363.out) hb); have n4_ := Aside0.mk (Kd.R_below (by (with_reducible repeat (first | apply Kd.R_alloc | apply Kd.R_drewN | apply Kd.R_drew)); exact HO368.out) hb); have n5_ := Aside0.mk (Kd.R_below (by (with_reducible repeat (first | apply Kd.R_alloc | apply Kd.R_drewN | apply Kd.R_drew)); exact HO371.out) hb); have n6_ := Aside0.mk (Kd.R_below (by (with_reducible repeat (first | apply Kd.R_alloc | apply Kd.R_drewN | apply Kd.R_drew)); exact HO375.out) hb); have n7_ := Aside0.mk (Kd.R_below (by (with_reducible repeat (first | apply Kd.R_alloc | apply Kd.R_drewN | apply Kd.R_drew)); exact HO378.out) hb); have n8_ := Aside0.mk (blk_below (g := gb350) (o := .cells #[.slice A0_0 l0_0.length c0_0, .slice A0_1 l0_1.length c0_1] 25 (0, 0)) (by (with_reducible repeat (first | refine blk_drewN ?_ _ | refine blk_drew ?_ | refine blk_alloc ?_ _)); exact BK350.out) hb); have n9_ := Aside0.mk (blk_below (g := gb365) (o := .cells #[.slice Ao23 t358.length co23, .slice Ao26 t361.length co26] 29 (0, 0)) (by (with_reducible repeat (first | refine blk_drewN ?_ _ | refine blk_drew ?_ | refine blk_alloc ?_ _)); exact BK365.out) hb); have n10_ := Aside0.mk (blk_below (g := gb372) (o := .cells #[.slice Ao30 t366.length co30, .slice Ao34 t369.length co34] 29 (0, 0)) (by (with_reducible repeat (first | refine blk_drewN ?_ _ | refine blk_drew ?_ | refine blk_alloc ?_ _)); exact BK372.out) hb); have n11_ := Aside0.mk (below_step (by repeat (first | (with_reducible first | exact HB.out | apply below_alloc | apply pw_below_drewN | apply below_drew1 | refine below_set ?_ GE350.out | refine below_set ?_ GE365.out | refine below_set ?_ GE372.out) | exact HB.out)) hb); have n12_ := Aside0.mk (hbox); have n13_ := Aside0.mk ((by rw [hg]; exact (below_size (by repeat (first | (with_reducible first | exact HB.out | apply below_alloc | apply pw_below_drewN | apply below_drew1 | refine below_set ?_ GE350.out | refine below_set ?_ GE365.out | refine below_set ?_ GE372.out) | exact HB.out))) : w.heap.size ≤ gb380)); have n14_ := Aside0.mk ((by rw [hg]; exact (below_size (by repeat (first | (with_reducible first | exact HB.out | apply below_alloc | apply pw_below_drewN | apply below_drew1 | refine below_set ?_ GE350.out | refine below_set ?_ GE365.out | refine below_set ?_ GE372.out) | exact HB.out))) : w.heap.size ≤ gb380)); have n15_ := Aside0.mk ((by rw [hg]; exact Nat.ne_of_lt (blk_lt (g := gb350) (o := .cells #[.slice A0_0 l0_0.length c0_0, .slice A0_1 l0_1.length c0_1] 25 (0, 0)) (by (with_reducible repeat (first | refine blk_drewN ?_ _ | refine blk_drew ?_ | refine blk_alloc ?_ _)); exact BK350.out)) : gb350 ≠ gb380)); have n16_ := Aside0.mk ((by rw [hg]; exact Nat.ne_of_gt (blk_lt (g := gb350) (o := .cells #[.slice A0_0 l0_0.length c0_0, .slice A0_1 l0_1.length c0_1] 25 (0, 0)) (by (with_reducible repeat (first | refine blk_drewN ?_ _ | refine blk_drew ?_ | refine blk_alloc ?_ _)); exact BK350.out)) : gb380 ≠ gb350)); have n17_ := Aside0.mk ((by rw [hg]; exact Nat.ne_of_lt (blk_lt (g := gb365) (o := .cells #[.slice Ao23 t358.length co23, .slice Ao26 t361.length co26] 29 (0, 0)) (by (with_reducible repeat (first | refine blk_drewN ?_ _ | refine blk_drew ?_ | refine blk_alloc ?_ _)); exact BK365.out)) : gb365 ≠ gb380)); have n18_ := Aside0.mk ((by rw [hg]; exact Nat.ne_of_gt (blk_lt (g := gb365) (o := .cells #[.slice Ao23 t358.length co23, .slice Ao26 t361.length co26] 29 (0, 0)) (by (with_reducible repeat (first | refine blk_drewN ?_ _ | refine blk_drew ?_ | refine blk_alloc ?_ _)); exact BK365.out)) : gb380 ≠ gb365)); have n19_ := Aside0.mk ((by rw [hg]; exact Nat.ne_of_lt (blk_lt (g := gb372) (o := .cells #[.slice Ao30 t366.length co30, .slice Ao34 t369.length co34] 29 (0, 0)) (by (with_reducible repeat (first | refine blk_drewN ?_ _ | refine blk_drew ?_ | refine blk_alloc ?_ _)); exact BK372.out)) : gb372 ≠ gb380)); have n20_ := Aside0.mk ((by rw [hg]; exact Nat.ne_of_gt (blk_lt (g := gb372) (o := .cells #[.slice Ao30 t366.length co30, .slice Ao34 t369.length co34] 29 (0, 0)) (by (with_reducible repeat (first | refine blk_drewN ?_ _ | refine blk_drew ?_ | refine blk_alloc ?_ _)); exact BK372.out)) : gb380 ≠ gb372)); clear HO354; clear HO357; clear HO360; clear HO363; clear HO368; clear HO371; clear HO375; clear HO378; clear BK350; clear BK365; clear BK372; clear HB; have HO354 := n0_; have HO357 := n1_; have HO360 := n2_; have HO363 := n3_; have HO368 := n4_; have HO371 := n5_; have HO375 := n6_; have HO378 := n7_; have BK350 := n8_; have BK365 := n9_; have BK372 := n10_; have HB := n11_; have BK380 := n12_; have GW380 := n13_; have GE380 := n14_; have NB350_380 := n15_; have NB380_350 := n16_; have NB365_380 := n17_; have NB380_365 := n18_; have NB372_380 := n19_; have NB380_372 := n20_; clear n0_ n1_ n2_ n3_ n4_ n5_ n6_ n7_ n8_ n9_ n10_ n11_ n12_ n13_ n14_ n15_ n16_ n17_ n18_ n19_ n20_; clear hb hbox hg; obtain ⟨Ao37, co37, eo37⟩ := Kd.R_slice HO375.out; subst eo37; have hnb38 := NB380_350.out; have hnc38 := NB350_380.out; have hnb39 := NB380_365.out; have hnc39 := NB365_380.out; have hnb40 := NB380_372.out; have hnc40 := NB372_380.out; have hcz41_0 : w36.cell? ⟨gb380, 0, none⟩ = some (.slice none 0 0) := (blk_cell BK380.out 0).trans rfl; have hcz41_1 : w36.cell? ⟨gb380, 1, none⟩ = some (.slice none 0 0) := (blk_cell BK380.out 1).trans rfl; have hfz41_0 := blk_frozen BK380.out 0; have hfz41_1 := blk_frozen BK380.out 1; obtain ⟨Ao42, co42, eo42⟩ := Kd.R_slice HO378.out; subst eo42))
  (try simp only [Act.put, List.setIfInBounds_toArray, List.set_cons_zero, List.set_cons_succ])
  go_cut [48] (fun v48 wc => ∃ (kq : Nat) (x48_12 : Bool), v48 = .bool x48_12 ∧ Aside0 (laws_FnExactLoseHost.j0 kq a1 a2 t364 t379 x48_12 l0_0 l0_1 t358 t361 t366 t369 t373 t376 = some r) ∧ Aside0 (kq ≤ k) ∧ Aside0 (Kd.R Kd.string 9 wc w.heap.size (fun k_ => some k_ ≠ ((.slice Ao30 t366.length co30) : Value).ownBlock ∧ some k_ ≠ ((.slice Ao37 t373.length co37) : Value).ownBlock) (.slice Ao23 t358.length co23) t358) ∧ Aside0 (Kd.R k76 76 wc w.heap.size (fun k_ => some k_ ≠ ((.slice Ao34 t369.length co34) : Value).ownBlock ∧ some k_ ≠ ((.slice Ao42 t376.length co42) : Value).ownBlock) (.slice Ao26 t361.length co26) t361) ∧ Aside0 (Kd.R Kd.string 9 wc w.heap.size (fun k_ => some k_ ≠ ((.slice Ao23 t358.length co23) : Value).ownBlock ∧ some k_ ≠ ((.slice Ao37 t373.length co37) : Value).ownBlock) (.slice Ao30 t366.length co30) t366) ∧ Aside0 (Kd.R k76 76 wc w.heap.size (fun k_ => some k_ ≠ ((.slice Ao26 t361.length co26) : Value).ownBlock ∧ some k_ ≠ ((.slice Ao42 t376.length co42) : Value).ownBlock) (.slice Ao34 t369.length co34) t369) ∧ Aside0 (Kd.R Kd.string 9 wc w.heap.size (fun k_ => some k_ ≠ ((.slice Ao23 t358.length co23) : Value).ownBlock ∧ some k_ ≠ ((.slice Ao30 t366.length co30) : Value).ownBlock) (.slice Ao37 t373.length co37) t373) ∧ Aside0 (Kd.R k76 76 wc w.heap.size (fun k_ => some k_ ≠ ((.slice Ao26 t361.length co26) : Value).ownBlock ∧ some k_ ≠ ((.slice Ao34 t369.length co34) : Value).ownBlock) (.slice Ao42 t376.length co42) t376) ∧ Aside0 (wc.heap[gb350]? = some (.cells #[(.slice A0_0 l0_0.length c0_0), (.slice A0_1 l0_1.length c0_1)] 25 (0, 0))) ∧ Aside0 (wc.heap[gb365]? = some (.cells #[(.slice Ao23 t358.length co23), (.slice Ao26 t361.length co26)] 29 (0, 0))) ∧ Aside0 (wc.heap[gb372]? = some (.cells #[(.slice Ao30 t366.length co30), (.slice Ao34 t369.length co34)] 29 (0, 0))) ∧ Aside0 (wc.heap[gb380]? = some (.cells #[(.slice Ao37 t373.length co37), (.slice Ao42 t376.length co42)] 29 (0, 0))) ∧ Aside0 (Below w.heap.size w wc))
  case first =>
   have H := HC13.out
   clear HC13
   replace H := Option.bind_eq_some_iff.mp H
   obtain ⟨t381, A430, H⟩ := H
   replace H : (if t381 = true then (laws_FnExactLoseHost.j0 k a1 a2 t364 t379 (t379 != t364) l0_0 l0_1 t358 t361 t366 t369 t373 t376) else (laws_FnExactLoseHost.j0 k a1 a2 t364 t379 true l0_0 l0_1 t358 t361 t366 t369 t373 t376)) = some r := H
   have A43 := Aside0.mk A430
   clear A430
   by_cases c44 : t381 = true
   ·subst c44
    have H1 : (laws_FnExactLoseHost.j0 k a1 a2 t364 t379 (t379 != t364) l0_0 l0_1 t358 t361 t366 t369 t373 t376) = some r := by rw [if_pos rfl] at H; exact H
    clear H
    have H := H1
    clear H1
    have H' := Aside0.mk H
    clear H
    have hnb45 := NB380_350.out
    have hnc45 := NB350_380.out
    have hnb46 := NB380_365.out
    have hnc46 := NB365_380.out
    have hnb47 := NB380_372.out
    have hnc47 := NB372_380.out
    have hcz48_0 : w36.cell? ⟨gb380, 0, none⟩ = some (.slice none 0 0) := (blk_cell BK380.out 0).trans rfl
    have hcz48_1 : w36.cell? ⟨gb380, 1, none⟩ = some (.slice none 0 0) := (blk_cell BK380.out 1).trans rfl
    have hfz48_0 := blk_frozen BK380.out 0
    have hfz48_1 := blk_frozen BK380.out 1
    have hnb49 := NB365_350.out
    have hnc49 := NB350_365.out
    have hnb50 := NB365_372.out
    have hnc50 := NB372_365.out
    have hcz51_0 : w36.cell? ⟨gb365, 0, none⟩ = some (.slice Ao23 t358.length co23) := (blk_cell BK365.out 0).trans rfl
    have hcz51_1 : w36.cell? ⟨gb365, 1, none⟩ = some (.slice Ao26 t361.length co26) := (blk_cell BK365.out 1).trans rfl
    have hfz51_0 := blk_frozen BK365.out 0
    have hfz51_1 := blk_frozen BK365.out 1
    go_wp2_with (first | ((with_reducible refine gate_callee (f := 13) rfl ?_); refine goesL_ (some 42) rfl rfl Try.func13 (by kernel_rfl) rfl #[.agg #[.slice Ao37 t373.length co37, .slice Ao42 t376.length co42], .agg #[.slice Ao23 t358.length co23, .slice Ao26 t361.length co26]] rfl (by (try simp only [List.map_toArray, List.map_cons, List.map_nil]); first | done | rfl | (simp only [List.length_drop, List.length_take]; rfl)) ?_; (with_reducible refine (laws_eqDisk.calls k _ _ t373 _ _ t376 _ _ t358 _ _ t361 true _ ?side1 ?side2 ?side3 ?side4 ?side5 ?side6 ?side7 ?side8 A43.out).mono ?_); (case side1 => refine (Kd.R_reads' (e := 9) (base := w.heap.size) (ok := fun k_ => (((True ∧ some k_ ≠ (.slice Ao19 t352.length co19 : Value).ownBlock) ∧ some k_ ≠ (.slice Ao23 t358.length co23 : Value).ownBlock) ∧ some k_ ≠ (.slice Ao30 t366.length co30 : Value).ownBlock)) (n := t373.length) (c := co37) ?_).2.2; exact (by (with_reducible repeat (first | apply Kd.R_alloc | apply Kd.R_drewN | apply Kd.R_drew)); exact (Kd.R_mono (Kd.R_far (p := ⟨gb380, 1, none⟩) (Kd.R_far (p := ⟨gb380, 0, none⟩) (Kd.R_types HO375.out BK380.out (by decide)) (fun _ hk => hk.2) (.slice Ao37 t373.length co37)) (fun _ hk => hk.2) (.slice Ao42 t376.length co42)) (fun _ h_ => h_.1)))); (case side2 => exact (Kd.R_reads' HO375.out).2.1); (case side3 => refine (Kd.R_reads' (e := 76) (base := w.heap.size) (ok := fun k_ => (((True ∧ some k_ ≠ (.slice Ao20 t355.length co20 : Value).ownBlock) ∧ some k_ ≠ (.slice Ao26 t361.length co26 : Value).ownBlock) ∧ some k_ ≠ (.slice Ao34 t369.length co34 : Value).ownBlock)) (n := t376.length) (c := co42) ?_).2.2; exact (by (with_reducible repeat (first | apply Kd.R_alloc | apply Kd.R_drewN | apply Kd.R_drew)); exact (Kd.R_mono (Kd.R_far (p := ⟨gb380, 1, none⟩) (Kd.R_far (p := ⟨gb380, 0, none⟩) (Kd.R_types HO378.out BK380.out (by decide)) (fun _ hk => hk.2) (.slice Ao37 t373.length co37)) (fun _ hk => hk.2) (.slice Ao42 t376.length co42)) (fun _ h_ => h_.1)))); (case side4 => exact (Kd.R_reads' HO378.out).2.1); (case side5 => refine (Kd.R_reads' (e := 9) (base := w.heap.size) (ok := fun k_ => (((True ∧ some k_ ≠ (.slice Ao19 t352.length co19 : Value).ownBlock) ∧ some k_ ≠ (.slice Ao30 t366.length co30 : Value).ownBlock) ∧ some k_ ≠ (.slice Ao37 t373.length co37 : Value).ownBlock)) (n := t358.length) (c := co23) ?_).2.2; exact (by (with_reducible repeat (first | apply Kd.R_alloc | apply Kd.R_drewN | apply Kd.R_drew)); exact (Kd.R_mono (Kd.R_far (p := ⟨gb380, 1, none⟩) (Kd.R_far (p := ⟨gb380, 0, none⟩) (Kd.R_types HO360.out BK380.out (by decide)) (fun _ hk => hk.2) (.slice Ao37 t373.length co37)) (fun _ hk => hk.2) (.slice Ao42 t376.length co42)) (fun _ h_ => h_.1)))); (case side6 => exact (Kd.R_reads' HO360.out).2.1); (case side7 => refine (Kd.R_reads' (e := 76) (base := w.heap.size) (ok := fun k_ => (((True ∧ some k_ ≠ (.slice Ao20 t355.length co20 : Value).ownBlock) ∧ some k_ ≠ (.slice Ao34 t369.length co34 : Value).ownBlock) ∧ some k_ ≠ (.slice Ao42 t376.length co42 : Value).ownBlock)) (n := t361.length) (c := co26) ?_).2.2; exact (by (with_reducible repeat (first | apply Kd.R_alloc | apply Kd.R_drewN | apply Kd.R_drew)); exact (Kd.R_mono (Kd.R_far (p := ⟨gb380, 1, none⟩) (Kd.R_far (p := ⟨gb380, 0, none⟩) (Kd.R_types HO363.out BK380.out (by decide)) (fun _ hk => hk.2) (.slice Ao37 t373.length co37)) (fun _ hk => hk.2) (.slice Ao42 t376.length co42)) (fun _ h_ => h_.1)))); (case side8 => exact (Kd.R_reads' HO363.out).2.1); rintro e w52 ⟨rfl, hb⟩; refine ⟨_, rfl, ?_⟩; have n0_ := Aside0.mk (Kd.R_below (by (with_reducible repeat (first | apply Kd.R_alloc | apply Kd.R_drewN | apply Kd.R_drew)); exact (Kd.R_mono (Kd.R_far (p := ⟨gb380, 1, none⟩) (Kd.R_far (p := ⟨gb380, 0, none⟩) (Kd.R_types HO354.out BK380.out (by decide)) (fun _ hk => hk.2) (.slice Ao37 t373.length co37)) (fun _ hk => hk.2) (.slice Ao42 t376.length co42)) (fun _ h_ => h_.1))) hb); have n1_ := Aside0.mk (Kd.R_below (by (with_reducible repeat (first | apply Kd.R_alloc | apply Kd.R_drewN | apply Kd.R_drew)); exact (Kd.R_mono (Kd.R_far (p := ⟨gb380, 1, none⟩) (Kd.R_far (p := ⟨gb380, 0, none⟩) (Kd.R_types HO357.out BK380.out (by decide)) (fun _ hk => hk.2) (.slice Ao37 t373.length co37)) (fun _ hk => hk.2) (.slice Ao42 t376.length co42)) (fun _ h_ => h_.1))) hb); have n2_ := Aside0.mk (Kd.R_below (by (with_reducible repeat (first | apply Kd.R_alloc | apply Kd.R_drewN | apply Kd.R_drew)); exact (Kd.R_mono (Kd.R_far (p := ⟨gb380, 1, none⟩) (Kd.R_far (p := ⟨gb380, 0, none⟩) (Kd.R_types HO360.out BK380.out (by decide)) (fun _ hk => hk.2) (.slice Ao37 t373.length co37)) (fun _ hk => hk.2) (.slice Ao42 t376.length co42)) (fun _ h_ => h_.1))) hb); have n3_ := Aside0.mk (Kd.R_below (by (with_reducible repeat (first | apply Kd.R_alloc | apply Kd.R_drewN | apply Kd.R_drew)); exact (Kd.R_mono (Kd.R_far (p := ⟨gb380, 1, none⟩) (Kd.R_far (p := ⟨gb380, 0, none⟩) (Kd.R_types HO363.out BK380.out (by decide)) (fun _ hk => hk.2) (.slice Ao37 t373.length co37)) (fun _ hk => hk.2) (.slice Ao42 t376.length co42)) (fun _ h_ => h_.1))) hb); have n4_ := Aside0.mk (Kd.R_below (by (with_reducible repeat (first | apply Kd.R_alloc | apply Kd.R_drewN | apply Kd.R_drew)); exact (Kd.R_mono (Kd.R_far (p := ⟨gb380, 1, none⟩) (Kd.R_far (p := ⟨gb380, 0, none⟩) (Kd.R_types HO368.out BK380.out (by decide)) (fun _ hk => hk.2) (.slice Ao37 t373.length co37)) (fun _ hk => hk.2) (.slice Ao42 t376.length co42)) (fun _ h_ => h_.1))) hb); have n5_ := Aside0.mk (Kd.R_below (by (with_reducible repeat (first | apply Kd.R_alloc | apply Kd.R_drewN | apply Kd.R_drew)); exact (Kd.R_mono (Kd.R_far (p := ⟨gb380, 1, none⟩) (Kd.R_far (p := ⟨gb380, 0, none⟩) (Kd.R_types HO371.out BK380.out (by decide)) (fun _ hk => hk.2) (.slice Ao37 t373.length co37)) (fun _ hk => hk.2) (.slice Ao42 t376.length co42)) (fun _ h_ => h_.1))) hb); have n6_ := Aside0.mk (Kd.R_below (by (with_reducible repeat (first | apply Kd.R_alloc | apply Kd.R_drewN | apply Kd.R_drew)); exact (Kd.R_mono (Kd.R_far (p := ⟨gb380, 1, none⟩) (Kd.R_far (p := ⟨gb380, 0, none⟩) (Kd.R_types HO375.out BK380.out (by decide)) (fun _ hk => hk.2) (.slice Ao37 t373.length co37)) (fun _ hk => hk.2) (.slice Ao42 t376.length co42)) (fun _ h_ => h_.1))) hb); have n7_ := Aside0.mk (Kd.R_below (by (with_reducible repeat (first | apply Kd.R_alloc | apply Kd.R_drewN | apply Kd.R_drew)); exact (Kd.R_mono (Kd.R_far (p := ⟨gb380, 1, none⟩) (Kd.R_far (p := ⟨gb380, 0, none⟩) (Kd.R_types HO378.out BK380.out (by decide)) (fun _ hk => hk.2) (.slice Ao37 t373.length co37)) (fun _ hk => hk.2) (.slice Ao42 t376.length co42)) (fun _ h_ => h_.1))) hb); have n8_ := Aside0.mk (blk_below (g := gb350) (o := .cells #[.slice A0_0 l0_0.length c0_0, .slice A0_1 l0_1.length c0_1] 25 (0, 0)) (by (with_reducible repeat (first | refine blk_drewN ?_ _ | refine blk_drew ?_ | refine blk_alloc ?_ _)); refine blk_far ?_ NB350_380.out _; (with_reducible repeat (first | refine blk_drewN ?_ _ | refine blk_drew ?_ | refine blk_alloc ?_ _)); refine blk_far ?_ NB350_380.out _; (with_reducible repeat (first | refine blk_drewN ?_ _ | refine blk_drew ?_ | refine blk_alloc ?_ _)); exact BK350.out) hb); have n9_ := Aside0.mk (blk_below (g := gb365) (o := .cells #[.slice Ao23 t358.length co23, .slice Ao26 t361.length co26] 29 (0, 0)) (by (with_reducible repeat (first | refine blk_drewN ?_ _ | refine blk_drew ?_ | refine blk_alloc ?_ _)); refine blk_far ?_ NB365_380.out _; (with_reducible repeat (first | refine blk_drewN ?_ _ | refine blk_drew ?_ | refine blk_alloc ?_ _)); refine blk_far ?_ NB365_380.out _; (with_reducible repeat (first | refine blk_drewN ?_ _ | refine blk_drew ?_ | refine blk_alloc ?_ _)); exact BK365.out) hb); have n10_ := Aside0.mk (blk_below (g := gb372) (o := .cells #[.slice Ao30 t366.length co30, .slice Ao34 t369.length co34] 29 (0, 0)) (by (with_reducible repeat (first | refine blk_drewN ?_ _ | refine blk_drew ?_ | refine blk_alloc ?_ _)); refine blk_far ?_ NB372_380.out _; (with_reducible repeat (first | refine blk_drewN ?_ _ | refine blk_drew ?_ | refine blk_alloc ?_ _)); refine blk_far ?_ NB372_380.out _; (with_reducible repeat (first | refine blk_drewN ?_ _ | refine blk_drew ?_ | refine blk_alloc ?_ _)); exact BK372.out) hb); have n11_ := Aside0.mk (blk_below (g := gb380) (o := .cells #[.slice Ao37 t373.length co37, .slice Ao42 t376.length co42] 29 (0, 0)) (by (with_reducible repeat (first | refine blk_drewN ?_ _ | refine blk_drew ?_ | refine blk_alloc ?_ _)); refine blk_put (cs := #[.slice Ao37 t373.length co37, .slice none 0 0]) ?_ 1 _ rfl; (with_reducible repeat (first | refine blk_drewN ?_ _ | refine blk_drew ?_ | refine blk_alloc ?_ _)); refine blk_put (cs := #[.slice none 0 0, .slice none 0 0]) ?_ 0 _ rfl; (with_reducible repeat (first | refine blk_drewN ?_ _ | refine blk_drew ?_ | refine blk_alloc ?_ _)); exact BK380.out) hb); have n12_ := Aside0.mk (below_step (by repeat (first | (with_reducible first | exact HB.out | apply below_alloc | apply pw_below_drewN | apply below_drew1 | refine below_set ?_ GE350.out | refine below_set ?_ GE365.out | refine below_set ?_ GE372.out | refine below_set ?_ GE380.out) | exact HB.out)) hb); clear HO354; clear HO357; clear HO360; clear HO363; clear HO368; clear HO371; clear HO375; clear HO378; clear BK350; clear BK365; clear BK372; clear BK380; clear HB; have HO354 := n0_; have HO357 := n1_; have HO360 := n2_; have HO363 := n3_; have HO368 := n4_; have HO371 := n5_; have HO375 := n6_; have HO378 := n7_; have BK350 := n8_; have BK365 := n9_; have BK372 := n10_; have BK380 := n11_; have HB := n12_; clear n0_ n1_ n2_ n3_ n4_ n5_ n6_ n7_ n8_ n9_ n10_ n11_ n12_; (try clear hb); (try clear hb2); (try clear hk); (try clear hi)))
    go_meet
    case rel => exact ⟨_, ((t379 != t364)), (by first | rfl | (simp; done) | (simp [*]; done)), H', ⟨by first | omega | exact Nat.le_refl _⟩, ⟨by (with_reducible repeat (first | apply Kd.R_alloc | apply Kd.R_drewN | apply Kd.R_drew)); exact Kd.R_mono HO360.out (fun _ hk => ⟨hk.1.2, hk.2⟩)⟩, ⟨by (with_reducible repeat (first | apply Kd.R_alloc | apply Kd.R_drewN | apply Kd.R_drew)); exact Kd.R_mono HO363.out (fun _ hk => ⟨hk.1.2, hk.2⟩)⟩, ⟨by (with_reducible repeat (first | apply Kd.R_alloc | apply Kd.R_drewN | apply Kd.R_drew)); exact Kd.R_mono HO368.out (fun _ hk => ⟨hk.1.2, hk.2⟩)⟩, ⟨by (with_reducible repeat (first | apply Kd.R_alloc | apply Kd.R_drewN | apply Kd.R_drew)); exact Kd.R_mono HO371.out (fun _ hk => ⟨hk.1.2, hk.2⟩)⟩, ⟨by (with_reducible repeat (first | apply Kd.R_alloc | apply Kd.R_drewN | apply Kd.R_drew)); exact Kd.R_mono HO375.out (fun _ hk => ⟨hk.1.2, hk.2⟩)⟩, ⟨by (with_reducible repeat (first | apply Kd.R_alloc | apply Kd.R_drewN | apply Kd.R_drew)); exact Kd.R_mono HO378.out (fun _ hk => ⟨hk.1.2, hk.2⟩)⟩, ⟨by (with_reducible repeat (first | refine blk_drewN ?_ _ | refine blk_drew ?_ | refine blk_alloc ?_ _)); exact BK350.out⟩, ⟨by (with_reducible repeat (first | refine blk_drewN ?_ _ | refine blk_drew ?_ | refine blk_alloc ?_ _)); exact BK365.out⟩, ⟨by (with_reducible repeat (first | refine blk_drewN ?_ _ | refine blk_drew ?_ | refine blk_alloc ?_ _)); exact BK372.out⟩, ⟨by (with_reducible repeat (first | refine blk_drewN ?_ _ | refine blk_drew ?_ | refine blk_alloc ?_ _)); exact BK380.out⟩, ⟨by repeat (first | (with_reducible first | exact HB.out | apply below_alloc | apply pw_below_drewN | apply below_drew1 | refine below_set ?_ GE350.out | refine below_set ?_ GE365.out | refine below_set ?_ GE372.out | refine below_set ?_ GE380.out) | exact HB.out)⟩⟩
   ·replace c44 := Bool.eq_false_iff.mpr c44
    subst c44
    have H1 : (laws_FnExactLoseHost.j0 k a1 a2 t364 t379 true l0_0 l0_1 t358 t361 t366 t369 t373 t376) = some r := by rw [if_neg (show ¬ (false = true) by decide)] at H; exact H
    clear H
    have H := H1
    clear H1
    have H' := Aside0.mk H
    clear H
    have hnb53 := NB380_350.out
    have hnc53 := NB350_380.out
    have hnb54 := NB380_365.out
    have hnc54 := NB365_380.out
    have hnb55 := NB380_372.out
    have hnc55 := NB372_380.out
    have hcz56_0 : w36.cell? ⟨gb380, 0, none⟩ = some (.slice none 0 0) := (blk_cell BK380.out 0).trans rfl
    have hcz56_1 : w36.cell? ⟨gb380, 1, none⟩ = some (.slice none 0 0) := (blk_cell BK380.out 1).trans rfl
    have hfz56_0 := blk_frozen BK380.out 0
    have hfz56_1 := blk_frozen BK380.out 1
    have hnb57 := NB365_350.out
    have hnc57 := NB350_365.out
    have hnb58 := NB365_372.out
    have hnc58 := NB372_365.out
    have hcz59_0 : w36.cell? ⟨gb365, 0, none⟩ = some (.slice Ao23 t358.length co23) := (blk_cell BK365.out 0).trans rfl
    have hcz59_1 : w36.cell? ⟨gb365, 1, none⟩ = some (.slice Ao26 t361.length co26) := (blk_cell BK365.out 1).trans rfl
    have hfz59_0 := blk_frozen BK365.out 0
    have hfz59_1 := blk_frozen BK365.out 1
    go_wp2_with (first | ((with_reducible refine gate_callee (f := 13) rfl ?_); refine goesL_ (some 42) rfl rfl Try.func13 (by kernel_rfl) rfl #[.agg #[.slice Ao37 t373.length co37, .slice Ao42 t376.length co42], .agg #[.slice Ao23 t358.length co23, .slice Ao26 t361.length co26]] rfl (by (try simp only [List.map_toArray, List.map_cons, List.map_nil]); first | done | rfl | (simp only [List.length_drop, List.length_take]; rfl)) ?_; (with_reducible refine (laws_eqDisk.calls k _ _ t373 _ _ t376 _ _ t358 _ _ t361 false _ ?side1 ?side2 ?side3 ?side4 ?side5 ?side6 ?side7 ?side8 A43.out).mono ?_); (case side1 => refine (Kd.R_reads' (e := 9) (base := w.heap.size) (ok := fun k_ => (((True ∧ some k_ ≠ (.slice Ao19 t352.length co19 : Value).ownBlock) ∧ some k_ ≠ (.slice Ao23 t358.length co23 : Value).ownBlock) ∧ some k_ ≠ (.slice Ao30 t366.length co30 : Value).ownBlock)) (n := t373.length) (c := co37) ?_).2.2; exact (by (with_reducible repeat (first | apply Kd.R_alloc | apply Kd.R_drewN | apply Kd.R_drew)); exact (Kd.R_mono (Kd.R_far (p := ⟨gb380, 1, none⟩) (Kd.R_far (p := ⟨gb380, 0, none⟩) (Kd.R_types HO375.out BK380.out (by decide)) (fun _ hk => hk.2) (.slice Ao37 t373.length co37)) (fun _ hk => hk.2) (.slice Ao42 t376.length co42)) (fun _ h_ => h_.1)))); (case side2 => exact (Kd.R_reads' HO375.out).2.1); (case side3 => refine (Kd.R_reads' (e := 76) (base := w.heap.size) (ok := fun k_ => (((True ∧ some k_ ≠ (.slice Ao20 t355.length co20 : Value).ownBlock) ∧ some k_ ≠ (.slice Ao26 t361.length co26 : Value).ownBlock) ∧ some k_ ≠ (.slice Ao34 t369.length co34 : Value).ownBlock)) (n := t376.length) (c := co42) ?_).2.2; exact (by (with_reducible repeat (first | apply Kd.R_alloc | apply Kd.R_drewN | apply Kd.R_drew)); exact (Kd.R_mono (Kd.R_far (p := ⟨gb380, 1, none⟩) (Kd.R_far (p := ⟨gb380, 0, none⟩) (Kd.R_types HO378.out BK380.out (by decide)) (fun _ hk => hk.2) (.slice Ao37 t373.length co37)) (fun _ hk => hk.2) (.slice Ao42 t376.length co42)) (fun _ h_ => h_.1)))); (case side4 => exact (Kd.R_reads' HO378.out).2.1); (case side5 => refine (Kd.R_reads' (e := 9) (base := w.heap.size) (ok := fun k_ => (((True ∧ some k_ ≠ (.slice Ao19 t352.length co19 : Value).ownBlock) ∧ some k_ ≠ (.slice Ao30 t366.length co30 : Value).ownBlock) ∧ some k_ ≠ (.slice Ao37 t373.length co37 : Value).ownBlock)) (n := t358.length) (c := co23) ?_).2.2; exact (by (with_reducible repeat (first | apply Kd.R_alloc | apply Kd.R_drewN | apply Kd.R_drew)); exact (Kd.R_mono (Kd.R_far (p := ⟨gb380, 1, none⟩) (Kd.R_far (p := ⟨gb380, 0, none⟩) (Kd.R_types HO360.out BK380.out (by decide)) (fun _ hk => hk.2) (.slice Ao37 t373.length co37)) (fun _ hk => hk.2) (.slice Ao42 t376.length co42)) (fun _ h_ => h_.1)))); (case side6 => exact (Kd.R_reads' HO360.out).2.1); (case side7 => refine (Kd.R_reads' (e := 76) (base := w.heap.size) (ok := fun k_ => (((True ∧ some k_ ≠ (.slice Ao20 t355.length co20 : Value).ownBlock) ∧ some k_ ≠ (.slice Ao34 t369.length co34 : Value).ownBlock) ∧ some k_ ≠ (.slice Ao42 t376.length co42 : Value).ownBlock)) (n := t361.length) (c := co26) ?_).2.2; exact (by (with_reducible repeat (first | apply Kd.R_alloc | apply Kd.R_drewN | apply Kd.R_drew)); exact (Kd.R_mono (Kd.R_far (p := ⟨gb380, 1, none⟩) (Kd.R_far (p := ⟨gb380, 0, none⟩) (Kd.R_types HO363.out BK380.out (by decide)) (fun _ hk => hk.2) (.slice Ao37 t373.length co37)) (fun _ hk => hk.2) (.slice Ao42 t376.length co42)) (fun _ h_ => h_.1)))); (case side8 => exact (Kd.R_reads' HO363.out).2.1); rintro e w60 ⟨rfl, hb⟩; refine ⟨_, rfl, ?_⟩; have n0_ := Aside0.mk (Kd.R_below (by (with_reducible repeat (first | apply Kd.R_alloc | apply Kd.R_drewN | apply Kd.R_drew)); exact (Kd.R_mono (Kd.R_far (p := ⟨gb380, 1, none⟩) (Kd.R_far (p := ⟨gb380, 0, none⟩) (Kd.R_types HO354.out BK380.out (by decide)) (fun _ hk => hk.2) (.slice Ao37 t373.length co37)) (fun _ hk => hk.2) (.slice Ao42 t376.length co42)) (fun _ h_ => h_.1))) hb); have n1_ := Aside0.mk (Kd.R_below (by (with_reducible repeat (first | apply Kd.R_alloc | apply Kd.R_drewN | apply Kd.R_drew)); exact (Kd.R_mono (Kd.R_far (p := ⟨gb380, 1, none⟩) (Kd.R_far (p := ⟨gb380, 0, none⟩) (Kd.R_types HO357.out BK380.out (by decide)) (fun _ hk => hk.2) (.slice Ao37 t373.length co37)) (fun _ hk => hk.2) (.slice Ao42 t376.length co42)) (fun _ h_ => h_.1))) hb); have n2_ := Aside0.mk (Kd.R_below (by (with_reducible repeat (first | apply Kd.R_alloc | apply Kd.R_drewN | apply Kd.R_drew)); exact (Kd.R_mono (Kd.R_far (p := ⟨gb380, 1, none⟩) (Kd.R_far (p := ⟨gb380, 0, none⟩) (Kd.R_types HO360.out BK380.out (by decide)) (fun _ hk => hk.2) (.slice Ao37 t373.length co37)) (fun _ hk => hk.2) (.slice Ao42 t376.length co42)) (fun _ h_ => h_.1))) hb); have n3_ := Aside0.mk (Kd.R_below (by (with_reducible repeat (first | apply Kd.R_alloc | apply Kd.R_drewN | apply Kd.R_drew)); exact (Kd.R_mono (Kd.R_far (p := ⟨gb380, 1, none⟩) (Kd.R_far (p := ⟨gb380, 0, none⟩) (Kd.R_types HO363.out BK380.out (by decide)) (fun _ hk => hk.2) (.slice Ao37 t373.length co37)) (fun _ hk => hk.2) (.slice Ao42 t376.length co42)) (fun _ h_ => h_.1))) hb); have n4_ := Aside0.mk (Kd.R_below (by (with_reducible repeat (first | apply Kd.R_alloc | apply Kd.R_drewN | apply Kd.R_drew)); exact (Kd.R_mono (Kd.R_far (p := ⟨gb380, 1, none⟩) (Kd.R_far (p := ⟨gb380, 0, none⟩) (Kd.R_types HO368.out BK380.out (by decide)) (fun _ hk => hk.2) (.slice Ao37 t373.length co37)) (fun _ hk => hk.2) (.slice Ao42 t376.length co42)) (fun _ h_ => h_.1))) hb); have n5_ := Aside0.mk (Kd.R_below (by (with_reducible repeat (first | apply Kd.R_alloc | apply Kd.R_drewN | apply Kd.R_drew)); exact (Kd.R_mono (Kd.R_far (p := ⟨gb380, 1, none⟩) (Kd.R_far (p := ⟨gb380, 0, none⟩) (Kd.R_types HO371.out BK380.out (by decide)) (fun _ hk => hk.2) (.slice Ao37 t373.length co37)) (fun _ hk => hk.2) (.slice Ao42 t376.length co42)) (fun _ h_ => h_.1))) hb); have n6_ := Aside0.mk (Kd.R_below (by (with_reducible repeat (first | apply Kd.R_alloc | apply Kd.R_drewN | apply Kd.R_drew)); exact (Kd.R_mono (Kd.R_far (p := ⟨gb380, 1, none⟩) (Kd.R_far (p := ⟨gb380, 0, none⟩) (Kd.R_types HO375.out BK380.out (by decide)) (fun _ hk => hk.2) (.slice Ao37 t373.length co37)) (fun _ hk => hk.2) (.slice Ao42 t376.length co42)) (fun _ h_ => h_.1))) hb); have n7_ := Aside0.mk (Kd.R_below (by (with_reducible repeat (first | apply Kd.R_alloc | apply Kd.R_drewN | apply Kd.R_drew)); exact (Kd.R_mono (Kd.R_far (p := ⟨gb380, 1, none⟩) (Kd.R_far (p := ⟨gb380, 0, none⟩) (Kd.R_types HO378.out BK380.out (by decide)) (fun _ hk => hk.2) (.slice Ao37 t373.length co37)) (fun _ hk => hk.2) (.slice Ao42 t376.length co42)) (fun _ h_ => h_.1))) hb); have n8_ := Aside0.mk (blk_below (g := gb350) (o := .cells #[.slice A0_0 l0_0.length c0_0, .slice A0_1 l0_1.length c0_1] 25 (0, 0)) (by (with_reducible repeat (first | refine blk_drewN ?_ _ | refine blk_drew ?_ | refine blk_alloc ?_ _)); refine blk_far ?_ NB350_380.out _; (with_reducible repeat (first | refine blk_drewN ?_ _ | refine blk_drew ?_ | refine blk_alloc ?_ _)); refine blk_far ?_ NB350_380.out _; (with_reducible repeat (first | refine blk_drewN ?_ _ | refine blk_drew ?_ | refine blk_alloc ?_ _)); exact BK350.out) hb); have n9_ := Aside0.mk (blk_below (g := gb365) (o := .cells #[.slice Ao23 t358.length co23, .slice Ao26 t361.length co26] 29 (0, 0)) (by (with_reducible repeat (first | refine blk_drewN ?_ _ | refine blk_drew ?_ | refine blk_alloc ?_ _)); refine blk_far ?_ NB365_380.out _; (with_reducible repeat (first | refine blk_drewN ?_ _ | refine blk_drew ?_ | refine blk_alloc ?_ _)); refine blk_far ?_ NB365_380.out _; (with_reducible repeat (first | refine blk_drewN ?_ _ | refine blk_drew ?_ | refine blk_alloc ?_ _)); exact BK365.out) hb); have n10_ := Aside0.mk (blk_below (g := gb372) (o := .cells #[.slice Ao30 t366.length co30, .slice Ao34 t369.length co34] 29 (0, 0)) (by (with_reducible repeat (first | refine blk_drewN ?_ _ | refine blk_drew ?_ | refine blk_alloc ?_ _)); refine blk_far ?_ NB372_380.out _; (with_reducible repeat (first | refine blk_drewN ?_ _ | refine blk_drew ?_ | refine blk_alloc ?_ _)); refine blk_far ?_ NB372_380.out _; (with_reducible repeat (first | refine blk_drewN ?_ _ | refine blk_drew ?_ | refine blk_alloc ?_ _)); exact BK372.out) hb); have n11_ := Aside0.mk (blk_below (g := gb380) (o := .cells #[.slice Ao37 t373.length co37, .slice Ao42 t376.length co42] 29 (0, 0)) (by (with_reducible repeat (first | refine blk_drewN ?_ _ | refine blk_drew ?_ | refine blk_alloc ?_ _)); refine blk_put (cs := #[.slice Ao37 t373.length co37, .slice none 0 0]) ?_ 1 _ rfl; (with_reducible repeat (first | refine blk_drewN ?_ _ | refine blk_drew ?_ | refine blk_alloc ?_ _)); refine blk_put (cs := #[.slice none 0 0, .slice none 0 0]) ?_ 0 _ rfl; (with_reducible repeat (first | refine blk_drewN ?_ _ | refine blk_drew ?_ | refine blk_alloc ?_ _)); exact BK380.out) hb); have n12_ := Aside0.mk (below_step (by repeat (first | (with_reducible first | exact HB.out | apply below_alloc | apply pw_below_drewN | apply below_drew1 | refine below_set ?_ GE350.out | refine below_set ?_ GE365.out | refine below_set ?_ GE372.out | refine below_set ?_ GE380.out) | exact HB.out)) hb); clear HO354; clear HO357; clear HO360; clear HO363; clear HO368; clear HO371; clear HO375; clear HO378; clear BK350; clear BK365; clear BK372; clear BK380; clear HB; have HO354 := n0_; have HO357 := n1_; have HO360 := n2_; have HO363 := n3_; have HO368 := n4_; have HO371 := n5_; have HO375 := n6_; have HO378 := n7_; have BK350 := n8_; have BK365 := n9_; have BK372 := n10_; have BK380 := n11_; have HB := n12_; clear n0_ n1_ n2_ n3_ n4_ n5_ n6_ n7_ n8_ n9_ n10_ n11_ n12_; (try clear hb); (try clear hb2); (try clear hk); (try clear hi)))
    go_meet
    case rel => exact ⟨_, (true), (by first | rfl | (simp; done) | (simp [*]; done)), H', ⟨by first | omega | exact Nat.le_refl _⟩, ⟨by (with_reducible repeat (first | apply Kd.R_alloc | apply Kd.R_drewN | apply Kd.R_drew)); exact Kd.R_mono HO360.out (fun _ hk => ⟨hk.1.2, hk.2⟩)⟩, ⟨by (with_reducible repeat (first | apply Kd.R_alloc | apply Kd.R_drewN | apply Kd.R_drew)); exact Kd.R_mono HO363.out (fun _ hk => ⟨hk.1.2, hk.2⟩)⟩, ⟨by (with_reducible repeat (first | apply Kd.R_alloc | apply Kd.R_drewN | apply Kd.R_drew)); exact Kd.R_mono HO368.out (fun _ hk => ⟨hk.1.2, hk.2⟩)⟩, ⟨by (with_reducible repeat (first | apply Kd.R_alloc | apply Kd.R_drewN | apply Kd.R_drew)); exact Kd.R_mono HO371.out (fun _ hk => ⟨hk.1.2, hk.2⟩)⟩, ⟨by (with_reducible repeat (first | apply Kd.R_alloc | apply Kd.R_drewN | apply Kd.R_drew)); exact Kd.R_mono HO375.out (fun _ hk => ⟨hk.1.2, hk.2⟩)⟩, ⟨by (with_reducible repeat (first | apply Kd.R_alloc | apply Kd.R_drewN | apply Kd.R_drew)); exact Kd.R_mono HO378.out (fun _ hk => ⟨hk.1.2, hk.2⟩)⟩, ⟨by (with_reducible repeat (first | refine blk_drewN ?_ _ | refine blk_drew ?_ | refine blk_alloc ?_ _)); exact BK350.out⟩, ⟨by (with_reducible repeat (first | refine blk_drewN ?_ _ | refine blk_drew ?_ | refine blk_alloc ?_ _)); exact BK365.out⟩, ⟨by (with_reducible repeat (first | refine blk_drewN ?_ _ | refine blk_drew ?_ | refine blk_alloc ?_ _)); exact BK372.out⟩, ⟨by (with_reducible repeat (first | refine blk_drewN ?_ _ | refine blk_drew ?_ | refine blk_alloc ?_ _)); exact BK380.out⟩, ⟨by repeat (first | (with_reducible first | exact HB.out | apply below_alloc | apply pw_below_drewN | apply below_drew1 | refine below_set ?_ GE350.out | refine below_set ?_ GE365.out | refine below_set ?_ GE372.out | refine below_set ?_ GE380.out) | exact HB.out)⟩⟩
  case rest =>
   clear HC13
   try clear c1
   try clear c2
   try clear p2
   try clear c3
   try clear c4
   try clear c5
   try clear c5b0
   try clear c9
   try clear c11
   try clear c13
   try clear c16
   try clear c17
   try clear c24
   try clear c31
   try clear c32
   try clear c38
   try clear c39
   try clear c40
   try clear c44
   try clear c45
   try clear c46
   try clear c47
   try clear c49
   try clear c50
   try clear c53
   try clear c54
   try clear c55
   try clear c57
   try clear c58
   try clear hcz15_0
   try clear hcz15_1
   try clear hcz17_0
   try clear hcz17_1
   try clear hcz25_0
   try clear hcz25_1
   try clear hcz27_0
   try clear hcz27_1
   try clear hcz33_0
   try clear hcz33_1
   try clear hcz41_0
   try clear hcz41_1
   try clear hcz48_0
   try clear hcz48_1
   try clear hcz51_0
   try clear hcz51_1
   try clear hcz56_0
   try clear hcz56_1
   try clear hcz59_0
   try clear hcz59_1
   try clear hcz7_0
   try clear hcz7_1
   try clear hfz15_0
   try clear hfz15_1
   try clear hfz17_0
   try clear hfz17_1
   try clear hfz25_0
   try clear hfz25_1
   try clear hfz27_0
   try clear hfz27_1
   try clear hfz33_0
   try clear hfz33_1
   try clear hfz41_0
   try clear hfz41_1
   try clear hfz48_0
   try clear hfz48_1
   try clear hfz51_0
   try clear hfz51_1
   try clear hfz56_0
   try clear hfz56_1
   try clear hfz59_0
   try clear hfz59_1
   try clear hfz7_0
   try clear hfz7_1
   obtain ⟨kq, x48_12, rfl, HA, HJ12, HO_366000, HO_366001, HO_373000, HO_373001, HO_381000, HO_381001, BK350, BK365, BK372, BK380, HB⟩ := hcut
   cases kq with
   | zero => exact absurd HA.out (by simp [laws_FnExactLoseHost.j0])
   | succ kj12 =>
    have H := HA.out
    clear HA
    simp only [laws_FnExactLoseHost.j0] at H
    by_cases c61 : x48_12 = true
    ·subst c61
     have H1 : (some false) = some r := by rw [if_pos rfl] at H; exact H
     clear H
     have H := H1
     clear H1
     obtain rfl := Option.some.inj H
     go_wp2
     go_ret
     exact ⟨by first | rfl | (simp [errW_none, errW_some] <;> rfl) | (simp [*, errW_none, errW_some] <;> rfl), by repeat (first | (with_reducible first | exact HB.out | apply below_alloc | apply pw_below_drewN | apply below_drew1 | refine below_set ?_ GE350.out | refine below_set ?_ GE365.out | refine below_set ?_ GE372.out | refine below_set ?_ GE380.out) | exact HB.out)⟩
    ·replace c61 := Bool.eq_false_iff.mpr c61
     subst c61
     have H1 : ((laws_toDisk.f kj12 l0_0 l0_1).bind fun bt382 => ((laws_eqDisk.f kj12 t366 t369 bt382.1 bt382.2).bind fun t388 => (if t388 = true then ((laws_markDisk.f kj12 t366 t369 1).bind fun bt389 => (if bt389.1 < 0 then (laws_FnExactLoseHost.j1 kj12 a1 a2 t364 true l0_0 l0_1 t358 t361 t373 t376) else ((laws_eqDisk.f kj12 t373 t376 t358 t361).bind fun t392 => (if t392 = true then (laws_FnExactLoseHost.j1 kj12 a1 a2 t364 (t379 != t364) l0_0 l0_1 t358 t361 t373 t376) else (laws_FnExactLoseHost.j1 kj12 a1 a2 t364 true l0_0 l0_1 t358 t361 t373 t376))))) else (some false)))) = some r := by rw [if_neg (show ¬ (false = true) by decide)] at H; exact H
     clear H
     have H := H1
     clear H1
     replace H := Option.bind_eq_some_iff.mp H
     obtain ⟨⟨t382, t385⟩, A620, H⟩ := H
     replace H : ((laws_eqDisk.f kj12 t366 t369 t382 t385).bind fun t388 => (if t388 = true then ((laws_markDisk.f kj12 t366 t369 1).bind fun bt389 => (if bt389.1 < 0 then (laws_FnExactLoseHost.j1 kj12 a1 a2 t364 true l0_0 l0_1 t358 t361 t373 t376) else ((laws_eqDisk.f kj12 t373 t376 t358 t361).bind fun t392 => (if t392 = true then (laws_FnExactLoseHost.j1 kj12 a1 a2 t364 (t379 != t364) l0_0 l0_1 t358 t361 t373 t376) else (laws_FnExactLoseHost.j1 kj12 a1 a2 t364 true l0_0 l0_1 t358 t361 t373 t376))))) else (some false))) = some r := H
     have A62 := Aside0.mk A620
     clear A620
     replace H := Option.bind_eq_some_iff.mp H
     obtain ⟨t388, A630, H⟩ := H
     replace H : (if t388 = true then ((laws_markDisk.f kj12 t366 t369 1).bind fun bt389 => (if bt389.1 < 0 then (laws_FnExactLoseHost.j1 kj12 a1 a2 t364 true l0_0 l0_1 t358 t361 t373 t376) else ((laws_eqDisk.f kj12 t373 t376 t358 t361).bind fun t392 => (if t392 = true then (laws_FnExactLoseHost.j1 kj12 a1 a2 t364 (t379 != t364) l0_0 l0_1 t358 t361 t373 t376) else (laws_FnExactLoseHost.j1 kj12 a1 a2 t364 true l0_0 l0_1 t358 t361 t373 t376))))) else (some false)) = some r := H
     have A63 := Aside0.mk A630
     clear A630
     by_cases c64 : t388 = true
     ·subst c64
      have H1 : ((laws_markDisk.f kj12 t366 t369 1).bind fun bt389 => (if bt389.1 < 0 then (laws_FnExactLoseHost.j1 kj12 a1 a2 t364 true l0_0 l0_1 t358 t361 t373 t376) else ((laws_eqDisk.f kj12 t373 t376 t358 t361).bind fun t392 => (if t392 = true then (laws_FnExactLoseHost.j1 kj12 a1 a2 t364 (t379 != t364) l0_0 l0_1 t358 t361 t373 t376) else (laws_FnExactLoseHost.j1 kj12 a1 a2 t364 true l0_0 l0_1 t358 t361 t373 t376))))) = some r := by rw [if_pos rfl] at H; exact H
      clear H
      have H := H1
      clear H1
      replace H := Option.bind_eq_some_iff.mp H
      obtain ⟨⟨t389, t390, t391⟩, A650, H⟩ := H
      replace H : (if t389 < 0 then (laws_FnExactLoseHost.j1 kj12 a1 a2 t364 true l0_0 l0_1 t358 t361 t373 t376) else ((laws_eqDisk.f kj12 t373 t376 t358 t361).bind fun t392 => (if t392 = true then (laws_FnExactLoseHost.j1 kj12 a1 a2 t364 (t379 != t364) l0_0 l0_1 t358 t361 t373 t376) else (laws_FnExactLoseHost.j1 kj12 a1 a2 t364 true l0_0 l0_1 t358 t361 t373 t376)))) = some r := H
      have A65 := Aside0.mk A650
      clear A650
      have HC66 := Aside0.mk H
      clear H
      try go_wp2
      have n0_ := Aside0.mk (Kd.R_drew HO_366000.out)
      have n1_ := Aside0.mk (Kd.R_drew HO_366001.out)
      have n2_ := Aside0.mk (Kd.R_drew HO_373000.out)
      have n3_ := Aside0.mk (Kd.R_drew HO_373001.out)
      have n4_ := Aside0.mk (Kd.R_drew HO_381000.out)
      have n5_ := Aside0.mk (Kd.R_drew HO_381001.out)
      have n6_ := Aside0.mk (blk_drew BK350.out)
      have n7_ := Aside0.mk (blk_drew BK365.out)
      have n8_ := Aside0.mk (blk_drew BK372.out)
      have n9_ := Aside0.mk (blk_drew BK380.out)
      have n10_ := Aside0.mk (below_drew1 HB.out)
      clear HO_366000
      clear HO_366001
      clear HO_373000
      clear HO_373001
      clear HO_381000
      clear HO_381001
      clear BK350
      clear BK365
      clear BK372
      clear BK380
      clear HB
      have HO_366000 := n0_
      have HO_366001 := n1_
      have HO_373000 := n2_
      have HO_373001 := n3_
      have HO_381000 := n4_
      have HO_381001 := n5_
      have BK350 := n6_
      have BK365 := n7_
      have BK372 := n8_
      have BK380 := n9_
      have HB := n10_
      clear n0_ n1_ n2_ n3_ n4_ n5_ n6_ n7_ n8_ n9_ n10_
      refine start_ (n := 5) (S := fun w' => w'.cell? ⟨gb372, 0, none⟩ = some (.slice Ao30 t366.length co30) ∧ w'.cell? ⟨gb372, 1, none⟩ = some (.slice Ao34 t369.length co34) ∧ w'.cell? ⟨gb350, 0, none⟩ = some (.slice A0_0 l0_0.length c0_0) ∧ w'.cell? ⟨gb350, 1, none⟩ = some (.slice A0_1 l0_1.length c0_1)) (ds := []) #[false, false, false, false, false] (by kernel_rfl) rfl rfl ⟨(blk_cell BK372.out 0).trans rfl, (blk_cell BK372.out 1).trans rfl, (blk_cell BK350.out 0).trans rfl, (blk_cell BK350.out 1).trans rfl⟩ (fun hHeld => ?_)
      generalize wc.drew = w67 at HO_366000 HO_366001 HO_373000 HO_373001 HO_381000 HO_381001 BK350 BK365 BK372 BK380 HB hHeld ⊢
      refine take_ (i := 0) (N := some 49) (v := ?_) (a' := ?_) #[true, false, false, false, false] rfl rfl (by kernel_rfl) (fun _ _ _ h => h) (Or.inl ⟨by rfl, ?_⟩) hHeld ?_ ?_
      rotate_left
      ·rintro w' ⟨s0, s1, s2, s3⟩
       go_simp
       with_reducible rfl
      rotate_left
      ·simp only [Act.put, List.setIfInBounds_toArray, List.set_cons_zero, List.set_cons_succ, i64_w, i32_w]
       rfl
      refine take_ (i := 1) (N := some 50) (v := ?_) (a' := ?_) #[true, true, false, false, false] rfl rfl (by kernel_rfl) (fun _ _ _ h => h) (Or.inl ⟨by rfl, ?_⟩) hHeld ?_ ?_
      rotate_left
      ·rintro w' ⟨s0, s1, s2, s3⟩
       go_simp
       with_reducible rfl
      rotate_left
      ·simp only [Act.put, List.setIfInBounds_toArray, List.set_cons_zero, List.set_cons_succ, i64_w, i32_w]
       rfl
      refine one_ (i := 2) (N := some 51) #[true, true, true, false, false] rfl rfl (by kernel_rfl) (by decide) (fun K hK => ?_)
      refine goes_ Try.func11 (by kernel_rfl) rfl #[.agg #[.slice A0_0 l0_0.length c0_0, .slice A0_1 l0_1.length c0_1]] (by rfl) rfl rfl (by (try simp only [List.map_toArray, List.map_cons, List.map_nil]); first | done | rfl | (simp only [List.length_drop, List.length_take]; rfl)) ?_
      with_reducible refine (laws_toDisk.calls kj12 _ _ l0_0 _ _ l0_1 t382 t385 _ ?side1 ?side2 ?side3 ?side4 A62.out).mono ?_
      (case side1 => repeat (first | exact (Kd.C_below HR0_0.out HB.out) | (with_reducible refine Kd.C_alloc ?_ _) | (with_reducible refine Kd.C_drewN ?_ _) | (with_reducible refine Kd.C_drew ?_)))
      (case side2 => exact HC0_0.out)
      (case side3 => repeat (first | exact (Kd.C_below HR0_1.out HB.out) | (with_reducible refine Kd.C_alloc ?_ _) | (with_reducible refine Kd.C_drewN ?_ _) | (with_reducible refine Kd.C_drew ?_)))
      (case side4 => exact HC0_1.out)
      rintro e w68 ⟨v383, v386, rfl, ho0, ho1, hb⟩
      refine ⟨_, rfl, ?_⟩
      have n0_ := Aside0.mk (Kd.R_elder' (by (with_reducible repeat (first | apply Kd.R_alloc | apply Kd.R_drewN | apply Kd.R_drew)); exact HO_366000.out) (Kd.R_base ho0) hb)
      have n1_ := Aside0.mk (Kd.R_elder' (by (with_reducible repeat (first | apply Kd.R_alloc | apply Kd.R_drewN | apply Kd.R_drew)); exact HO_366001.out) (Kd.R_base ho1) hb)
      have n2_ := Aside0.mk (Kd.R_elder' (by (with_reducible repeat (first | apply Kd.R_alloc | apply Kd.R_drewN | apply Kd.R_drew)); exact HO_373000.out) (Kd.R_base ho0) hb)
      have n3_ := Aside0.mk (Kd.R_elder' (by (with_reducible repeat (first | apply Kd.R_alloc | apply Kd.R_drewN | apply Kd.R_drew)); exact HO_373001.out) (Kd.R_base ho1) hb)
      have n4_ := Aside0.mk (Kd.R_elder' (by (with_reducible repeat (first | apply Kd.R_alloc | apply Kd.R_drewN | apply Kd.R_drew)); exact HO_381000.out) (Kd.R_base ho0) hb)
      have n5_ := Aside0.mk (Kd.R_elder' (by (with_reducible repeat (first | apply Kd.R_alloc | apply Kd.R_drewN | apply Kd.R_drew)); exact HO_381001.out) (Kd.R_base ho1) hb)
      have n6_ := Aside0.mk (Kd.R_lower (Kd.R_new' (Kd.R_new' (Kd.R_new' ho0 (Kd.R_lt (by (with_reducible repeat (first | apply Kd.R_alloc | apply Kd.R_drewN | apply Kd.R_drew)); exact HO_366000.out))) (Kd.R_lt (by (with_reducible repeat (first | apply Kd.R_alloc | apply Kd.R_drewN | apply Kd.R_drew)); exact HO_373000.out))) (Kd.R_lt (by (with_reducible repeat (first | apply Kd.R_alloc | apply Kd.R_drewN | apply Kd.R_drew)); exact HO_381000.out))) (below_size (by repeat (first | (with_reducible first | exact HB.out | apply below_alloc | apply pw_below_drewN | apply below_drew1 | refine below_set ?_ GE350.out | refine below_set ?_ GE365.out | refine below_set ?_ GE372.out | refine below_set ?_ GE380.out) | exact HB.out))))
      have n7_ := Aside0.mk (Kd.R_lower (Kd.R_new' (Kd.R_new' (Kd.R_new' ho1 (Kd.R_lt (by (with_reducible repeat (first | apply Kd.R_alloc | apply Kd.R_drewN | apply Kd.R_drew)); exact HO_366001.out))) (Kd.R_lt (by (with_reducible repeat (first | apply Kd.R_alloc | apply Kd.R_drewN | apply Kd.R_drew)); exact HO_373001.out))) (Kd.R_lt (by (with_reducible repeat (first | apply Kd.R_alloc | apply Kd.R_drewN | apply Kd.R_drew)); exact HO_381001.out))) (below_size (by repeat (first | (with_reducible first | exact HB.out | apply below_alloc | apply pw_below_drewN | apply below_drew1 | refine below_set ?_ GE350.out | refine below_set ?_ GE365.out | refine below_set ?_ GE372.out | refine below_set ?_ GE380.out) | exact HB.out))))
      have n8_ := Aside0.mk (blk_below (g := gb350) (o := .cells #[.slice A0_0 l0_0.length c0_0, .slice A0_1 l0_1.length c0_1] 25 (0, 0)) (by (with_reducible repeat (first | refine blk_drewN ?_ _ | refine blk_drew ?_ | refine blk_alloc ?_ _)); exact BK350.out) hb)
      have n9_ := Aside0.mk (blk_below (g := gb365) (o := .cells #[.slice Ao23 t358.length co23, .slice Ao26 t361.length co26] 29 (0, 0)) (by (with_reducible repeat (first | refine blk_drewN ?_ _ | refine blk_drew ?_ | refine blk_alloc ?_ _)); exact BK365.out) hb)
      have n10_ := Aside0.mk (blk_below (g := gb372) (o := .cells #[.slice Ao30 t366.length co30, .slice Ao34 t369.length co34] 29 (0, 0)) (by (with_reducible repeat (first | refine blk_drewN ?_ _ | refine blk_drew ?_ | refine blk_alloc ?_ _)); exact BK372.out) hb)
      have n11_ := Aside0.mk (blk_below (g := gb380) (o := .cells #[.slice Ao37 t373.length co37, .slice Ao42 t376.length co42] 29 (0, 0)) (by (with_reducible repeat (first | refine blk_drewN ?_ _ | refine blk_drew ?_ | refine blk_alloc ?_ _)); exact BK380.out) hb)
      have n12_ := Aside0.mk (below_step (by repeat (first | (with_reducible first | exact HB.out | apply below_alloc | apply pw_below_drewN | apply below_drew1 | refine below_set ?_ GE350.out | refine below_set ?_ GE365.out | refine below_set ?_ GE372.out | refine below_set ?_ GE380.out) | exact HB.out)) hb)
      clear HO_366000
      clear HO_366001
      clear HO_373000
      clear HO_373001
      clear HO_381000
      clear HO_381001
      clear BK350
      clear BK365
      clear BK372
      clear BK380
      clear HB
      have HO_366000 := n0_
      have HO_366001 := n1_
      have HO_373000 := n2_
      have HO_373001 := n3_
      have HO_381000 := n4_
      have HO_381001 := n5_
      have HO384 := n6_
      have HO387 := n7_
      have BK350 := n8_
      have BK365 := n9_
      have BK372 := n10_
      have BK380 := n11_
      have HB := n12_
      clear n0_ n1_ n2_ n3_ n4_ n5_ n6_ n7_ n8_ n9_ n10_ n11_ n12_
      (try clear hb)
      (try clear hb2)
      (try clear hk)
      (try clear hi)
      (try clear ho0)
      (try clear ho1)
      obtain ⟨Ao69, co69, eo69⟩ := Kd.R_slice HO384.out
      (first | subst eo69 | (injection eo69 with f1_ f2_ f3_; have f4_ := f1_.symm; have f5_ := f3_.symm; clear f1_ f2_ f3_; subst f4_; subst f5_))
      obtain ⟨Ao70, co70, eo70⟩ := Kd.R_slice HO387.out
      (first | subst eo70 | (injection eo70 with f1_ f2_ f3_; have f4_ := f1_.symm; have f5_ := f3_.symm; clear f1_ f2_ f3_; subst f4_; subst f5_))
      refine hK.out _ _ ⟨(blk_cell BK372.out 0).trans rfl, (blk_cell BK372.out 1).trans rfl, (blk_cell BK350.out 0).trans rfl, (blk_cell BK350.out 1).trans rfl⟩ (fun hHeld => ?_)
      clear hK K
      refine norm_ (a' := ?_) ?_ ?_
      rotate_left
      ·show Act.put _ (some 51) _ = _
       simp only [Act.put, List.setIfInBounds_toArray, List.set_cons_zero, List.set_cons_succ, i64_w, i32_w]
       rfl
      refine one_ (i := 3) (N := some 52) #[true, true, true, true, false] rfl rfl (by kernel_rfl) (by decide) (fun K hK => ?_)
      refine goes_ Try.func13 (by kernel_rfl) rfl #[.agg #[.slice Ao30 t366.length co30, .slice Ao34 t369.length co34], .agg #[.slice Ao69 t382.length co69, .slice Ao70 t385.length co70]] (by rfl) rfl rfl (by (try simp only [List.map_toArray, List.map_cons, List.map_nil]); first | done | rfl | (simp only [List.length_drop, List.length_take]; rfl)) ?_
      with_reducible refine (laws_eqDisk.calls kj12 _ _ t366 _ _ t369 _ _ t382 _ _ t385 true _ ?side1 ?side2 ?side3 ?side4 ?side5 ?side6 ?side7 ?side8 A63.out).mono ?_
      (case side1 => repeat (first | exact (Kd.R_reads' HO_373000.out).2.2 | (with_reducible refine Kd.C_alloc ?_ _) | (with_reducible refine Kd.C_drewN ?_ _) | (with_reducible refine Kd.C_drew ?_)))
      (case side2 => exact (Kd.R_reads' HO_373000.out).2.1)
      (case side3 => repeat (first | exact (Kd.R_reads' HO_373001.out).2.2 | (with_reducible refine Kd.C_alloc ?_ _) | (with_reducible refine Kd.C_drewN ?_ _) | (with_reducible refine Kd.C_drew ?_)))
      (case side4 => exact (Kd.R_reads' HO_373001.out).2.1)
      (case side5 => repeat (first | exact (Kd.R_reads' HO384.out).2.2 | (with_reducible refine Kd.C_alloc ?_ _) | (with_reducible refine Kd.C_drewN ?_ _) | (with_reducible refine Kd.C_drew ?_)))
      (case side6 => exact (Kd.R_reads' HO384.out).2.1)
      (case side7 => repeat (first | exact (Kd.R_reads' HO387.out).2.2 | (with_reducible refine Kd.C_alloc ?_ _) | (with_reducible refine Kd.C_drewN ?_ _) | (with_reducible refine Kd.C_drew ?_)))
      (case side8 => exact (Kd.R_reads' HO387.out).2.1)
      rintro e w71 ⟨rfl, hb⟩
      refine ⟨_, rfl, ?_⟩
      have n0_ := Aside0.mk (Kd.R_below (by (with_reducible repeat (first | apply Kd.R_alloc | apply Kd.R_drewN | apply Kd.R_drew)); exact HO_366000.out) hb)
      have n1_ := Aside0.mk (Kd.R_below (by (with_reducible repeat (first | apply Kd.R_alloc | apply Kd.R_drewN | apply Kd.R_drew)); exact HO_366001.out) hb)
      have n2_ := Aside0.mk (Kd.R_below (by (with_reducible repeat (first | apply Kd.R_alloc | apply Kd.R_drewN | apply Kd.R_drew)); exact HO_373000.out) hb)
      have n3_ := Aside0.mk (Kd.R_below (by (with_reducible repeat (first | apply Kd.R_alloc | apply Kd.R_drewN | apply Kd.R_drew)); exact HO_373001.out) hb)
      have n4_ := Aside0.mk (Kd.R_below (by (with_reducible repeat (first | apply Kd.R_alloc | apply Kd.R_drewN | apply Kd.R_drew)); exact HO_381000.out) hb)
      have n5_ := Aside0.mk (Kd.R_below (by (with_reducible repeat (first | apply Kd.R_alloc | apply Kd.R_drewN | apply Kd.R_drew)); exact HO_381001.out) hb)
      have n6_ := Aside0.mk (Kd.R_below (by (with_reducible repeat (first | apply Kd.R_alloc | apply Kd.R_drewN | apply Kd.R_drew)); exact HO384.out) hb)
      have n7_ := Aside0.mk (Kd.R_below (by (with_reducible repeat (first | apply Kd.R_alloc | apply Kd.R_drewN | apply Kd.R_drew)); exact HO387.out) hb)
      have n8_ := Aside0.mk (blk_below (g := gb350) (o := .cells #[.slice A0_0 l0_0.length c0_0, .slice A0_1 l0_1.length c0_1] 25 (0, 0)) (by (with_reducible repeat (first | refine blk_drewN ?_ _ | refine blk_drew ?_ | refine blk_alloc ?_ _)); exact BK350.out) hb)
      have n9_ := Aside0.mk (blk_below (g := gb365) (o := .cells #[.slice Ao23 t358.length co23, .slice Ao26 t361.length co26] 29 (0, 0)) (by (with_reducible repeat (first | refine blk_drewN ?_ _ | refine blk_drew ?_ | refine blk_alloc ?_ _)); exact BK365.out) hb)
      have n10_ := Aside0.mk (blk_below (g := gb372) (o := .cells #[.slice Ao30 t366.length co30, .slice Ao34 t369.length co34] 29 (0, 0)) (by (with_reducible repeat (first | refine blk_drewN ?_ _ | refine blk_drew ?_ | refine blk_alloc ?_ _)); exact BK372.out) hb)
      have n11_ := Aside0.mk (blk_below (g := gb380) (o := .cells #[.slice Ao37 t373.length co37, .slice Ao42 t376.length co42] 29 (0, 0)) (by (with_reducible repeat (first | refine blk_drewN ?_ _ | refine blk_drew ?_ | refine blk_alloc ?_ _)); exact BK380.out) hb)
      have n12_ := Aside0.mk (below_step (by repeat (first | (with_reducible first | exact HB.out | apply below_alloc | apply pw_below_drewN | apply below_drew1 | refine below_set ?_ GE350.out | refine below_set ?_ GE365.out | refine below_set ?_ GE372.out | refine below_set ?_ GE380.out) | exact HB.out)) hb)
      clear HO_366000
      clear HO_366001
      clear HO_373000
      clear HO_373001
      clear HO_381000
      clear HO_381001
      clear HO384
      clear HO387
      clear BK350
      clear BK365
      clear BK372
      clear BK380
      clear HB
      have HO_366000 := n0_
      have HO_366001 := n1_
      have HO_373000 := n2_
      have HO_373001 := n3_
      have HO_381000 := n4_
      have HO_381001 := n5_
      have HO384 := n6_
      have HO387 := n7_
      have BK350 := n8_
      have BK365 := n9_
      have BK372 := n10_
      have BK380 := n11_
      have HB := n12_
      clear n0_ n1_ n2_ n3_ n4_ n5_ n6_ n7_ n8_ n9_ n10_ n11_ n12_
      (try clear hb)
      (try clear hb2)
      (try clear hk)
      (try clear hi)
      refine hK.out _ _ ⟨(blk_cell BK372.out 0).trans rfl, (blk_cell BK372.out 1).trans rfl, (blk_cell BK350.out 0).trans rfl, (blk_cell BK350.out 1).trans rfl⟩ (fun hHeld => ?_)
      clear hK K
      refine norm_ (a' := ?_) ?_ ?_
      rotate_left
      ·show Act.put _ (some 52) _ = _
       simp only [Act.put, List.setIfInBounds_toArray, List.set_cons_zero, List.set_cons_succ, i64_w, i32_w]
       rfl
      refine pure_ (i := 4) (N := some 53) (v := ?_) (a' := ?_) #[true, true, true, true, true] rfl rfl (by kernel_rfl) (fun _ _ _ h => h) (Or.inl ⟨by rfl, ?_⟩) ?_ ?_
      rotate_left
      ·intro w'
       go_simp
       with_reducible rfl
      rotate_left
      ·simp only [Act.put, List.setIfInBounds_toArray, List.set_cons_zero, List.set_cons_succ, i64_w, i32_w]
       rfl
      refine done_ (by kernel_rfl) ?_
      have hnb72 := NB372_350.out
      have hnc72 := NB350_372.out
      have hnb73 := NB372_365.out
      have hnc73 := NB365_372.out
      have hnb74 := NB372_380.out
      have hnc74 := NB380_372.out
      have hcz75_0 : w71.cell? ⟨gb372, 0, none⟩ = some (.slice Ao30 t366.length co30) := (blk_cell BK372.out 0).trans rfl
      have hcz75_1 : w71.cell? ⟨gb372, 1, none⟩ = some (.slice Ao34 t369.length co34) := (blk_cell BK372.out 1).trans rfl
      have hfz75_0 := blk_frozen BK372.out 0
      have hfz75_1 := blk_frozen BK372.out 1
      go_upto_region 14 with (first | ((with_reducible refine gate_callee (f := 14) rfl ?_); refine goesL_ (some 56) rfl rfl Try.func14 (by kernel_rfl) rfl #[.agg #[.slice Ao30 t366.length co30, .slice Ao34 t369.length co34], .int .i64 1] rfl (by (try simp only [List.map_toArray, List.map_cons, List.map_nil]); first | done | rfl | (simp only [List.length_drop, List.length_take]; rfl)) ?_; (with_reducible refine (laws_markDisk.calls kj12 (fun k_ => some k_ = (.slice Ao30 t366.length co30 : Value).ownBlock) (.slice Ao30 t366.length co30) t366 (fun k_ => some k_ = (.slice Ao34 t369.length co34 : Value).ownBlock) (.slice Ao34 t369.length co34) t369 1 t389 t390 t391 w _ ?side1 ?side2 ?side3 A65.out).mono ?_); (case side1 => repeat (first | (with_reducible first | exact HB.out | apply below_alloc | apply pw_below_drewN | apply below_drew1 | refine below_set ?_ GE350.out | refine below_set ?_ GE365.out | refine below_set ?_ GE372.out | refine below_set ?_ GE380.out) | exact HB.out)); (case side2 => exact Kd.R_tight rfl HO_373000.out); (case side3 => exact Kd.R_tight rfl HO_373001.out); rintro e w76 ⟨rfl, hy0, hy1, hb, hkp⟩; refine ⟨_, rfl, ?_⟩; have n0_ := Aside0.mk (Kd.R_mono (ok' := fun k_ => some k_ ≠ (.slice Ao30 t366.length co30 : Value).ownBlock ∧ some k_ ≠ (.slice Ao37 t373.length co37 : Value).ownBlock ∧ some k_ ≠ (.slice Ao69 t382.length co69 : Value).ownBlock) (Kd.R_keptB ((Kd.R_apart' HO_366000.out (Kd.R_typed HO_373001.out) (by decide))) hkp (fun k_ hk_ hs_ => Or.elim hs_ (fun e_ => (hk_.1.1.1) e_) (fun e_ => (hk_.2) e_))) (fun k_ hk_ => ⟨hk_.1.1.1.1, hk_.1.1.1.2, hk_.1.1.2⟩)); have n1_ := Aside0.mk (Kd.R_mono (ok' := fun k_ => some k_ ≠ (.slice Ao34 t369.length co34 : Value).ownBlock ∧ some k_ ≠ (.slice Ao42 t376.length co42 : Value).ownBlock ∧ some k_ ≠ (.slice Ao70 t385.length co70 : Value).ownBlock) (Kd.R_keptB ((Kd.R_apart' HO_366001.out (Kd.R_typed HO_373000.out) (by decide))) hkp (fun k_ hk_ hs_ => Or.elim hs_ (fun e_ => (hk_.2) e_) (fun e_ => (hk_.1.1.1) e_))) (fun k_ hk_ => ⟨hk_.1.1.1.1, hk_.1.1.1.2, hk_.1.1.2⟩)); have n2_ := Aside0.mk (Kd.R_reok rfl hy0 (fun k_ e_ => HO_373000.out.1 k_ e_)); have n3_ := Aside0.mk (Kd.R_reok rfl hy1 (fun k_ e_ => HO_373001.out.1 k_ e_)); have n4_ := Aside0.mk (Kd.R_mono (ok' := fun k_ => some k_ ≠ (.slice Ao23 t358.length co23 : Value).ownBlock ∧ some k_ ≠ (.slice Ao30 t366.length co30 : Value).ownBlock ∧ some k_ ≠ (.slice Ao69 t382.length co69 : Value).ownBlock) (Kd.R_keptB ((Kd.R_apart' HO_381000.out (Kd.R_typed HO_373001.out) (by decide))) hkp (fun k_ hk_ hs_ => Or.elim hs_ (fun e_ => (hk_.1.1.2) e_) (fun e_ => (hk_.2) e_))) (fun k_ hk_ => ⟨hk_.1.1.1.1, hk_.1.1.1.2, hk_.1.1.2⟩)); have n5_ := Aside0.mk (Kd.R_mono (ok' := fun k_ => some k_ ≠ (.slice Ao26 t361.length co26 : Value).ownBlock ∧ some k_ ≠ (.slice Ao34 t369.length co34 : Value).ownBlock ∧ some k_ ≠ (.slice Ao70 t385.length co70 : Value).ownBlock) (Kd.R_keptB ((Kd.R_apart' HO_381001.out (Kd.R_typed HO_373000.out) (by decide))) hkp (fun k_ hk_ hs_ => Or.elim hs_ (fun e_ => (hk_.2) e_) (fun e_ => (hk_.1.1.2) e_))) (fun k_ hk_ => ⟨hk_.1.1.1.1, hk_.1.1.1.2, hk_.1.1.2⟩)); have n6_ := Aside0.mk (blk_kept (by (with_reducible repeat (first | refine blk_drewN ?_ _ | refine blk_drew ?_ | refine blk_alloc ?_ _)); exact BK350.out) hkp (fun hs_ => Or.elim hs_ (fun e_ => (fun e_ => (Kd.R_ne HO_373000.out BK350.out (by decide)) e_) e_) (fun e_ => (fun e_ => (Kd.R_ne HO_373001.out BK350.out (by decide)) e_) e_))); have n7_ := Aside0.mk (blk_kept (by (with_reducible repeat (first | refine blk_drewN ?_ _ | refine blk_drew ?_ | refine blk_alloc ?_ _)); exact BK365.out) hkp (fun hs_ => Or.elim hs_ (fun e_ => (fun e_ => (Kd.R_ne HO_373000.out BK365.out (by decide)) e_) e_) (fun e_ => (fun e_ => (Kd.R_ne HO_373001.out BK365.out (by decide)) e_) e_))); have n8_ := Aside0.mk (blk_kept (by (with_reducible repeat (first | refine blk_drewN ?_ _ | refine blk_drew ?_ | refine blk_alloc ?_ _)); exact BK372.out) hkp (fun hs_ => Or.elim hs_ (fun e_ => (fun e_ => (Kd.R_ne HO_373000.out BK372.out (by decide)) e_) e_) (fun e_ => (fun e_ => (Kd.R_ne HO_373001.out BK372.out (by decide)) e_) e_))); have n9_ := Aside0.mk (blk_kept (by (with_reducible repeat (first | refine blk_drewN ?_ _ | refine blk_drew ?_ | refine blk_alloc ?_ _)); exact BK380.out) hkp (fun hs_ => Or.elim hs_ (fun e_ => (fun e_ => (Kd.R_ne HO_373000.out BK380.out (by decide)) e_) e_) (fun e_ => (fun e_ => (Kd.R_ne HO_373001.out BK380.out (by decide)) e_) e_))); have n10_ := Aside0.mk (Kd.R_mono (ok' := fun k_ => some k_ ≠ (.slice Ao23 t358.length co23 : Value).ownBlock ∧ some k_ ≠ (.slice Ao30 t366.length co30 : Value).ownBlock ∧ some k_ ≠ (.slice Ao37 t373.length co37 : Value).ownBlock) (Kd.R_keptB ((Kd.R_apart' HO384.out (Kd.R_typed HO_373001.out) (by decide))) hkp (fun k_ hk_ hs_ => Or.elim hs_ (fun e_ => (hk_.1.1.2) e_) (fun e_ => (hk_.2) e_))) (fun k_ hk_ => ⟨hk_.1.1.1.1.2, hk_.1.1.1.2, hk_.1.1.2⟩)); have n11_ := Aside0.mk (Kd.R_mono (ok' := fun k_ => some k_ ≠ (.slice Ao26 t361.length co26 : Value).ownBlock ∧ some k_ ≠ (.slice Ao34 t369.length co34 : Value).ownBlock ∧ some k_ ≠ (.slice Ao42 t376.length co42 : Value).ownBlock) (Kd.R_keptB ((Kd.R_apart' HO387.out (Kd.R_typed HO_373000.out) (by decide))) hkp (fun k_ hk_ hs_ => Or.elim hs_ (fun e_ => (hk_.2) e_) (fun e_ => (hk_.1.1.2) e_))) (fun k_ hk_ => ⟨hk_.1.1.1.1.2, hk_.1.1.1.2, hk_.1.1.2⟩)); have n12_ := Aside0.mk (hb); clear HO_366000; clear HO_366001; clear HO_373000; clear HO_373001; clear HO_381000; clear HO_381001; clear BK350; clear BK365; clear BK372; clear BK380; clear HO384; clear HO387; clear HB; have HO_366000 := n0_; have HO_366001 := n1_; have HO_373000 := n2_; have HO_373001 := n3_; have HO_381000 := n4_; have HO_381001 := n5_; have BK350 := n6_; have BK365 := n7_; have BK372 := n8_; have BK380 := n9_; have HO384 := n10_; have HO387 := n11_; have HB := n12_; clear n0_ n1_ n2_ n3_ n4_ n5_ n6_ n7_ n8_ n9_ n10_ n11_ n12_; (try clear hb); (try clear hkp); (try clear hy0); (try clear hy1)))
      (try simp only [Act.put, List.setIfInBounds_toArray, List.set_cons_zero, List.set_cons_succ])
      go_cut [69] (fun v69 wc => ∃ (kq : Nat) (x69_65 : Bool), v69 = .bool x69_65 ∧ Aside0 (laws_FnExactLoseHost.j1 kq a1 a2 t364 x69_65 l0_0 l0_1 t358 t361 t373 t376 = some r) ∧ Aside0 (kq ≤ kj12) ∧ Aside0 (Kd.R Kd.string 9 wc w.heap.size (fun k_ => some k_ ≠ ((.slice Ao30 t366.length co30) : Value).ownBlock ∧ some k_ ≠ ((.slice Ao37 t373.length co37) : Value).ownBlock) (.slice Ao23 t358.length co23) t358) ∧ Aside0 (Kd.R k76 76 wc w.heap.size (fun k_ => some k_ ≠ ((.slice Ao34 t369.length co34) : Value).ownBlock ∧ some k_ ≠ ((.slice Ao42 t376.length co42) : Value).ownBlock) (.slice Ao26 t361.length co26) t361) ∧ Aside0 (Kd.R Kd.string 9 wc w.heap.size (fun k_ => some k_ ≠ ((.slice Ao23 t358.length co23) : Value).ownBlock ∧ some k_ ≠ ((.slice Ao37 t373.length co37) : Value).ownBlock) (.slice Ao30 t366.length co30) t390) ∧ Aside0 (Kd.R k76 76 wc w.heap.size (fun k_ => some k_ ≠ ((.slice Ao26 t361.length co26) : Value).ownBlock ∧ some k_ ≠ ((.slice Ao42 t376.length co42) : Value).ownBlock) (.slice Ao34 t369.length co34) t391) ∧ Aside0 (Kd.R Kd.string 9 wc w.heap.size (fun k_ => some k_ ≠ ((.slice Ao23 t358.length co23) : Value).ownBlock ∧ some k_ ≠ ((.slice Ao30 t366.length co30) : Value).ownBlock) (.slice Ao37 t373.length co37) t373) ∧ Aside0 (Kd.R k76 76 wc w.heap.size (fun k_ => some k_ ≠ ((.slice Ao26 t361.length co26) : Value).ownBlock ∧ some k_ ≠ ((.slice Ao34 t369.length co34) : Value).ownBlock) (.slice Ao42 t376.length co42) t376) ∧ Aside0 (wc.heap[gb350]? = some (.cells #[(.slice A0_0 l0_0.length c0_0), (.slice A0_1 l0_1.length c0_1)] 25 (0, 0))) ∧ Aside0 (wc.heap[gb365]? = some (.cells #[(.slice Ao23 t358.length co23), (.slice Ao26 t361.length co26)] 29 (0, 0))) ∧ Aside0 (wc.heap[gb372]? = some (.cells #[(.slice Ao30 t366.length co30), (.slice Ao34 t369.length co34)] 29 (0, 0))) ∧ Aside0 (wc.heap[gb380]? = some (.cells #[(.slice Ao37 t373.length co37), (.slice Ao42 t376.length co42)] 29 (0, 0))) ∧ Aside0 (Below w.heap.size w wc))
      case first =>
       have H := HC66.out
       clear HC66
       by_cases c77 : t389 < 0
       ·rw [if_pos c77] at H
        have c77b0 : decide (t389 < 0) = true := decide_eq_true c77
        clear c77
        (first | rw [c77b0] | (simp only [i64_w, i32_w]; rw [c77b0]) | skip)
        have H' := Aside0.mk H
        clear H
        go_wp2
        go_meet
        case rel => exact ⟨_, (true), (by first | rfl | (simp; done) | (simp [*]; done)), H', ⟨by have := HJ12.out; first | omega | exact Nat.le_refl _⟩, ⟨by (with_reducible repeat (first | apply Kd.R_alloc | apply Kd.R_drewN | apply Kd.R_drew)); exact Kd.R_mono HO_366000.out (fun _ hk => ⟨hk.1, hk.2.1⟩)⟩, ⟨by (with_reducible repeat (first | apply Kd.R_alloc | apply Kd.R_drewN | apply Kd.R_drew)); exact Kd.R_mono HO_366001.out (fun _ hk => ⟨hk.1, hk.2.1⟩)⟩, ⟨by (with_reducible repeat (first | apply Kd.R_alloc | apply Kd.R_drewN | apply Kd.R_drew)); exact Kd.R_mono HO_373000.out (fun _ hk => ⟨hk.1.1, hk.1.2⟩)⟩, ⟨by (with_reducible repeat (first | apply Kd.R_alloc | apply Kd.R_drewN | apply Kd.R_drew)); exact Kd.R_mono HO_373001.out (fun _ hk => ⟨hk.1.1, hk.1.2⟩)⟩, ⟨by (with_reducible repeat (first | apply Kd.R_alloc | apply Kd.R_drewN | apply Kd.R_drew)); exact Kd.R_mono HO_381000.out (fun _ hk => ⟨hk.1, hk.2.1⟩)⟩, ⟨by (with_reducible repeat (first | apply Kd.R_alloc | apply Kd.R_drewN | apply Kd.R_drew)); exact Kd.R_mono HO_381001.out (fun _ hk => ⟨hk.1, hk.2.1⟩)⟩, ⟨by (with_reducible repeat (first | refine blk_drewN ?_ _ | refine blk_drew ?_ | refine blk_alloc ?_ _)); exact BK350.out⟩, ⟨by (with_reducible repeat (first | refine blk_drewN ?_ _ | refine blk_drew ?_ | refine blk_alloc ?_ _)); exact BK365.out⟩, ⟨by (with_reducible repeat (first | refine blk_drewN ?_ _ | refine blk_drew ?_ | refine blk_alloc ?_ _)); exact BK372.out⟩, ⟨by (with_reducible repeat (first | refine blk_drewN ?_ _ | refine blk_drew ?_ | refine blk_alloc ?_ _)); exact BK380.out⟩, ⟨by repeat (first | (with_reducible first | exact HB.out | apply below_alloc | apply pw_below_drewN | apply below_drew1 | refine below_set ?_ GE350.out | refine below_set ?_ GE365.out | refine below_set ?_ GE372.out | refine below_set ?_ GE380.out) | exact HB.out)⟩⟩
       ·rw [if_neg c77] at H
        have c77b0 : decide (t389 < 0) = false := decide_eq_false c77
        clear c77
        (first | rw [c77b0] | (simp only [i64_w, i32_w]; rw [c77b0]) | skip)
        replace H := Option.bind_eq_some_iff.mp H
        obtain ⟨t392, A780, H⟩ := H
        replace H : (if t392 = true then (laws_FnExactLoseHost.j1 kj12 a1 a2 t364 (t379 != t364) l0_0 l0_1 t358 t361 t373 t376) else (laws_FnExactLoseHost.j1 kj12 a1 a2 t364 true l0_0 l0_1 t358 t361 t373 t376)) = some r := H
        have A78 := Aside0.mk A780
        clear A780
        by_cases c79 : t392 = true
        ·subst c79
         have H1 : (laws_FnExactLoseHost.j1 kj12 a1 a2 t364 (t379 != t364) l0_0 l0_1 t358 t361 t373 t376) = some r := by rw [if_pos rfl] at H; exact H
         clear H
         have H := H1
         clear H1
         have H' := Aside0.mk H
         clear H
         have hnb80 := NB380_350.out
         have hnc80 := NB350_380.out
         have hnb81 := NB380_365.out
         have hnc81 := NB365_380.out
         have hnb82 := NB380_372.out
         have hnc82 := NB372_380.out
         have hcz83_0 : w76.cell? ⟨gb380, 0, none⟩ = some (.slice Ao37 t373.length co37) := (blk_cell BK380.out 0).trans rfl
         have hcz83_1 : w76.cell? ⟨gb380, 1, none⟩ = some (.slice Ao42 t376.length co42) := (blk_cell BK380.out 1).trans rfl
         have hfz83_0 := blk_frozen BK380.out 0
         have hfz83_1 := blk_frozen BK380.out 1
         have hnb84 := NB365_350.out
         have hnc84 := NB350_365.out
         have hnb85 := NB365_372.out
         have hnc85 := NB372_365.out
         have hcz86_0 : w76.cell? ⟨gb365, 0, none⟩ = some (.slice Ao23 t358.length co23) := (blk_cell BK365.out 0).trans rfl
         have hcz86_1 : w76.cell? ⟨gb365, 1, none⟩ = some (.slice Ao26 t361.length co26) := (blk_cell BK365.out 1).trans rfl
         have hfz86_0 := blk_frozen BK365.out 0
         have hfz86_1 := blk_frozen BK365.out 1
         go_wp2_with (first | (go_at_call 13; (with_reducible refine (laws_eqDisk.calls kj12 _ _ t373 _ _ t376 _ _ t358 _ _ t361 true _ ?side1 ?side2 ?side3 ?side4 ?side5 ?side6 ?side7 ?side8 A78.out).mono ?_); (case side1 => repeat (first | exact (Kd.R_reads' HO_381000.out).2.2 | (with_reducible refine Kd.C_alloc ?_ _) | (with_reducible refine Kd.C_drewN ?_ _) | (with_reducible refine Kd.C_drew ?_))); (case side2 => exact (Kd.R_reads' HO_381000.out).2.1); (case side3 => repeat (first | exact (Kd.R_reads' HO_381001.out).2.2 | (with_reducible refine Kd.C_alloc ?_ _) | (with_reducible refine Kd.C_drewN ?_ _) | (with_reducible refine Kd.C_drew ?_))); (case side4 => exact (Kd.R_reads' HO_381001.out).2.1); (case side5 => repeat (first | exact (Kd.R_reads' HO_366000.out).2.2 | (with_reducible refine Kd.C_alloc ?_ _) | (with_reducible refine Kd.C_drewN ?_ _) | (with_reducible refine Kd.C_drew ?_))); (case side6 => exact (Kd.R_reads' HO_366000.out).2.1); (case side7 => repeat (first | exact (Kd.R_reads' HO_366001.out).2.2 | (with_reducible refine Kd.C_alloc ?_ _) | (with_reducible refine Kd.C_drewN ?_ _) | (with_reducible refine Kd.C_drew ?_))); (case side8 => exact (Kd.R_reads' HO_366001.out).2.1); rintro e w87 ⟨rfl, hb⟩; have n0_ := Aside0.mk (Kd.R_below (by (with_reducible repeat (first | apply Kd.R_alloc | apply Kd.R_drewN | apply Kd.R_drew)); exact HO_366000.out) hb); have n1_ := Aside0.mk (Kd.R_below (by (with_reducible repeat (first | apply Kd.R_alloc | apply Kd.R_drewN | apply Kd.R_drew)); exact HO_366001.out) hb); have n2_ := Aside0.mk (Kd.R_below (by (with_reducible repeat (first | apply Kd.R_alloc | apply Kd.R_drewN | apply Kd.R_drew)); exact HO_373000.out) hb); have n3_ := Aside0.mk (Kd.R_below (by (with_reducible repeat (first | apply Kd.R_alloc | apply Kd.R_drewN | apply Kd.R_drew)); exact HO_373001.out) hb); have n4_ := Aside0.mk (Kd.R_below (by (with_reducible repeat (first | apply Kd.R_alloc | apply Kd.R_drewN | apply Kd.R_drew)); exact HO_381000.out) hb); have n5_ := Aside0.mk (Kd.R_below (by (with_reducible repeat (first | apply Kd.R_alloc | apply Kd.R_drewN | apply Kd.R_drew)); exact HO_381001.out) hb); have n6_ := Aside0.mk (Kd.R_below (by (with_reducible repeat (first | apply Kd.R_alloc | apply Kd.R_drewN | apply Kd.R_drew)); exact HO384.out) hb); have n7_ := Aside0.mk (Kd.R_below (by (with_reducible repeat (first | apply Kd.R_alloc | apply Kd.R_drewN | apply Kd.R_drew)); exact HO387.out) hb); have n8_ := Aside0.mk (blk_below (g := gb350) (o := .cells #[.slice A0_0 l0_0.length c0_0, .slice A0_1 l0_1.length c0_1] 25 (0, 0)) (by (with_reducible repeat (first | refine blk_drewN ?_ _ | refine blk_drew ?_ | refine blk_alloc ?_ _)); exact BK350.out) hb); have n9_ := Aside0.mk (blk_below (g := gb365) (o := .cells #[.slice Ao23 t358.length co23, .slice Ao26 t361.length co26] 29 (0, 0)) (by (with_reducible repeat (first | refine blk_drewN ?_ _ | refine blk_drew ?_ | refine blk_alloc ?_ _)); exact BK365.out) hb); have n10_ := Aside0.mk (blk_below (g := gb372) (o := .cells #[.slice Ao30 t366.length co30, .slice Ao34 t369.length co34] 29 (0, 0)) (by (with_reducible repeat (first | refine blk_drewN ?_ _ | refine blk_drew ?_ | refine blk_alloc ?_ _)); exact BK372.out) hb); have n11_ := Aside0.mk (blk_below (g := gb380) (o := .cells #[.slice Ao37 t373.length co37, .slice Ao42 t376.length co42] 29 (0, 0)) (by (with_reducible repeat (first | refine blk_drewN ?_ _ | refine blk_drew ?_ | refine blk_alloc ?_ _)); exact BK380.out) hb); have n12_ := Aside0.mk (below_step (by repeat (first | (with_reducible first | exact HB.out | apply below_alloc | apply pw_below_drewN | apply below_drew1 | refine below_set ?_ GE350.out | refine below_set ?_ GE365.out | refine below_set ?_ GE372.out | refine below_set ?_ GE380.out) | exact HB.out)) hb); clear HO_366000; clear HO_366001; clear HO_373000; clear HO_373001; clear HO_381000; clear HO_381001; clear HO384; clear HO387; clear BK350; clear BK365; clear BK372; clear BK380; clear HB; have HO_366000 := n0_; have HO_366001 := n1_; have HO_373000 := n2_; have HO_373001 := n3_; have HO_381000 := n4_; have HO_381001 := n5_; have HO384 := n6_; have HO387 := n7_; have BK350 := n8_; have BK365 := n9_; have BK372 := n10_; have BK380 := n11_; have HB := n12_; clear n0_ n1_ n2_ n3_ n4_ n5_ n6_ n7_ n8_ n9_ n10_ n11_ n12_; (try clear hb); (try clear hb2); (try clear hk); (try clear hi)))
         go_meet
         case rel => exact ⟨_, ((t379 != t364)), (by first | rfl | (simp; done) | (simp [*]; done)), H', ⟨by have := HJ12.out; first | omega | exact Nat.le_refl _⟩, ⟨by (with_reducible repeat (first | apply Kd.R_alloc | apply Kd.R_drewN | apply Kd.R_drew)); exact Kd.R_mono HO_366000.out (fun _ hk => ⟨hk.1, hk.2.1⟩)⟩, ⟨by (with_reducible repeat (first | apply Kd.R_alloc | apply Kd.R_drewN | apply Kd.R_drew)); exact Kd.R_mono HO_366001.out (fun _ hk => ⟨hk.1, hk.2.1⟩)⟩, ⟨by (with_reducible repeat (first | apply Kd.R_alloc | apply Kd.R_drewN | apply Kd.R_drew)); exact Kd.R_mono HO_373000.out (fun _ hk => ⟨hk.1.1, hk.1.2⟩)⟩, ⟨by (with_reducible repeat (first | apply Kd.R_alloc | apply Kd.R_drewN | apply Kd.R_drew)); exact Kd.R_mono HO_373001.out (fun _ hk => ⟨hk.1.1, hk.1.2⟩)⟩, ⟨by (with_reducible repeat (first | apply Kd.R_alloc | apply Kd.R_drewN | apply Kd.R_drew)); exact Kd.R_mono HO_381000.out (fun _ hk => ⟨hk.1, hk.2.1⟩)⟩, ⟨by (with_reducible repeat (first | apply Kd.R_alloc | apply Kd.R_drewN | apply Kd.R_drew)); exact Kd.R_mono HO_381001.out (fun _ hk => ⟨hk.1, hk.2.1⟩)⟩, ⟨by (with_reducible repeat (first | refine blk_drewN ?_ _ | refine blk_drew ?_ | refine blk_alloc ?_ _)); exact BK350.out⟩, ⟨by (with_reducible repeat (first | refine blk_drewN ?_ _ | refine blk_drew ?_ | refine blk_alloc ?_ _)); exact BK365.out⟩, ⟨by (with_reducible repeat (first | refine blk_drewN ?_ _ | refine blk_drew ?_ | refine blk_alloc ?_ _)); exact BK372.out⟩, ⟨by (with_reducible repeat (first | refine blk_drewN ?_ _ | refine blk_drew ?_ | refine blk_alloc ?_ _)); exact BK380.out⟩, ⟨by repeat (first | (with_reducible first | exact HB.out | apply below_alloc | apply pw_below_drewN | apply below_drew1 | refine below_set ?_ GE350.out | refine below_set ?_ GE365.out | refine below_set ?_ GE372.out | refine below_set ?_ GE380.out) | exact HB.out)⟩⟩
        ·replace c79 := Bool.eq_false_iff.mpr c79
         subst c79
         have H1 : (laws_FnExactLoseHost.j1 kj12 a1 a2 t364 true l0_0 l0_1 t358 t361 t373 t376) = some r := by rw [if_neg (show ¬ (false = true) by decide)] at H; exact H
         clear H
         have H := H1
         clear H1
         have H' := Aside0.mk H
         clear H
         have hnb88 := NB380_350.out
         have hnc88 := NB350_380.out
         have hnb89 := NB380_365.out
         have hnc89 := NB365_380.out
         have hnb90 := NB380_372.out
         have hnc90 := NB372_380.out
         have hcz91_0 : w76.cell? ⟨gb380, 0, none⟩ = some (.slice Ao37 t373.length co37) := (blk_cell BK380.out 0).trans rfl
         have hcz91_1 : w76.cell? ⟨gb380, 1, none⟩ = some (.slice Ao42 t376.length co42) := (blk_cell BK380.out 1).trans rfl
         have hfz91_0 := blk_frozen BK380.out 0
         have hfz91_1 := blk_frozen BK380.out 1
         have hnb92 := NB365_350.out
         have hnc92 := NB350_365.out
         have hnb93 := NB365_372.out
         have hnc93 := NB372_365.out
         have hcz94_0 : w76.cell? ⟨gb365, 0, none⟩ = some (.slice Ao23 t358.length co23) := (blk_cell BK365.out 0).trans rfl
         have hcz94_1 : w76.cell? ⟨gb365, 1, none⟩ = some (.slice Ao26 t361.length co26) := (blk_cell BK365.out 1).trans rfl
         have hfz94_0 := blk_frozen BK365.out 0
         have hfz94_1 := blk_frozen BK365.out 1
         go_wp2_with (first | (go_at_call 13; (with_reducible refine (laws_eqDisk.calls kj12 _ _ t373 _ _ t376 _ _ t358 _ _ t361 false _ ?side1 ?side2 ?side3 ?side4 ?side5 ?side6 ?side7 ?side8 A78.out).mono ?_); (case side1 => repeat (first | exact (Kd.R_reads' HO_381000.out).2.2 | (with_reducible refine Kd.C_alloc ?_ _) | (with_reducible refine Kd.C_drewN ?_ _) | (with_reducible refine Kd.C_drew ?_))); (case side2 => exact (Kd.R_reads' HO_381000.out).2.1); (case side3 => repeat (first | exact (Kd.R_reads' HO_381001.out).2.2 | (with_reducible refine Kd.C_alloc ?_ _) | (with_reducible refine Kd.C_drewN ?_ _) | (with_reducible refine Kd.C_drew ?_))); (case side4 => exact (Kd.R_reads' HO_381001.out).2.1); (case side5 => repeat (first | exact (Kd.R_reads' HO_366000.out).2.2 | (with_reducible refine Kd.C_alloc ?_ _) | (with_reducible refine Kd.C_drewN ?_ _) | (with_reducible refine Kd.C_drew ?_))); (case side6 => exact (Kd.R_reads' HO_366000.out).2.1); (case side7 => repeat (first | exact (Kd.R_reads' HO_366001.out).2.2 | (with_reducible refine Kd.C_alloc ?_ _) | (with_reducible refine Kd.C_drewN ?_ _) | (with_reducible refine Kd.C_drew ?_))); (case side8 => exact (Kd.R_reads' HO_366001.out).2.1); rintro e w95 ⟨rfl, hb⟩; have n0_ := Aside0.mk (Kd.R_below (by (with_reducible repeat (first | apply Kd.R_alloc | apply Kd.R_drewN | apply Kd.R_drew)); exact HO_366000.out) hb); have n1_ := Aside0.mk (Kd.R_below (by (with_reducible repeat (first | apply Kd.R_alloc | apply Kd.R_drewN | apply Kd.R_drew)); exact HO_366001.out) hb); have n2_ := Aside0.mk (Kd.R_below (by (with_reducible repeat (first | apply Kd.R_alloc | apply Kd.R_drewN | apply Kd.R_drew)); exact HO_373000.out) hb); have n3_ := Aside0.mk (Kd.R_below (by (with_reducible repeat (first | apply Kd.R_alloc | apply Kd.R_drewN | apply Kd.R_drew)); exact HO_373001.out) hb); have n4_ := Aside0.mk (Kd.R_below (by (with_reducible repeat (first | apply Kd.R_alloc | apply Kd.R_drewN | apply Kd.R_drew)); exact HO_381000.out) hb); have n5_ := Aside0.mk (Kd.R_below (by (with_reducible repeat (first | apply Kd.R_alloc | apply Kd.R_drewN | apply Kd.R_drew)); exact HO_381001.out) hb); have n6_ := Aside0.mk (Kd.R_below (by (with_reducible repeat (first | apply Kd.R_alloc | apply Kd.R_drewN | apply Kd.R_drew)); exact HO384.out) hb); have n7_ := Aside0.mk (Kd.R_below (by (with_reducible repeat (first | apply Kd.R_alloc | apply Kd.R_drewN | apply Kd.R_drew)); exact HO387.out) hb); have n8_ := Aside0.mk (blk_below (g := gb350) (o := .cells #[.slice A0_0 l0_0.length c0_0, .slice A0_1 l0_1.length c0_1] 25 (0, 0)) (by (with_reducible repeat (first | refine blk_drewN ?_ _ | refine blk_drew ?_ | refine blk_alloc ?_ _)); exact BK350.out) hb); have n9_ := Aside0.mk (blk_below (g := gb365) (o := .cells #[.slice Ao23 t358.length co23, .slice Ao26 t361.length co26] 29 (0, 0)) (by (with_reducible repeat (first | refine blk_drewN ?_ _ | refine blk_drew ?_ | refine blk_alloc ?_ _)); exact BK365.out) hb); have n10_ := Aside0.mk (blk_below (g := gb372) (o := .cells #[.slice Ao30 t366.length co30, .slice Ao34 t369.length co34] 29 (0, 0)) (by (with_reducible repeat (first | refine blk_drewN ?_ _ | refine blk_drew ?_ | refine blk_alloc ?_ _)); exact BK372.out) hb); have n11_ := Aside0.mk (blk_below (g := gb380) (o := .cells #[.slice Ao37 t373.length co37, .slice Ao42 t376.length co42] 29 (0, 0)) (by (with_reducible repeat (first | refine blk_drewN ?_ _ | refine blk_drew ?_ | refine blk_alloc ?_ _)); exact BK380.out) hb); have n12_ := Aside0.mk (below_step (by repeat (first | (with_reducible first | exact HB.out | apply below_alloc | apply pw_below_drewN | apply below_drew1 | refine below_set ?_ GE350.out | refine below_set ?_ GE365.out | refine below_set ?_ GE372.out | refine below_set ?_ GE380.out) | exact HB.out)) hb); clear HO_366000; clear HO_366001; clear HO_373000; clear HO_373001; clear HO_381000; clear HO_381001; clear HO384; clear HO387; clear BK350; clear BK365; clear BK372; clear BK380; clear HB; have HO_366000 := n0_; have HO_366001 := n1_; have HO_373000 := n2_; have HO_373001 := n3_; have HO_381000 := n4_; have HO_381001 := n5_; have HO384 := n6_; have HO387 := n7_; have BK350 := n8_; have BK365 := n9_; have BK372 := n10_; have BK380 := n11_; have HB := n12_; clear n0_ n1_ n2_ n3_ n4_ n5_ n6_ n7_ n8_ n9_ n10_ n11_ n12_; (try clear hb); (try clear hb2); (try clear hk); (try clear hi)))
         go_meet
         case rel => exact ⟨_, (true), (by first | rfl | (simp; done) | (simp [*]; done)), H', ⟨by have := HJ12.out; first | omega | exact Nat.le_refl _⟩, ⟨by (with_reducible repeat (first | apply Kd.R_alloc | apply Kd.R_drewN | apply Kd.R_drew)); exact Kd.R_mono HO_366000.out (fun _ hk => ⟨hk.1, hk.2.1⟩)⟩, ⟨by (with_reducible repeat (first | apply Kd.R_alloc | apply Kd.R_drewN | apply Kd.R_drew)); exact Kd.R_mono HO_366001.out (fun _ hk => ⟨hk.1, hk.2.1⟩)⟩, ⟨by (with_reducible repeat (first | apply Kd.R_alloc | apply Kd.R_drewN | apply Kd.R_drew)); exact Kd.R_mono HO_373000.out (fun _ hk => ⟨hk.1.1, hk.1.2⟩)⟩, ⟨by (with_reducible repeat (first | apply Kd.R_alloc | apply Kd.R_drewN | apply Kd.R_drew)); exact Kd.R_mono HO_373001.out (fun _ hk => ⟨hk.1.1, hk.1.2⟩)⟩, ⟨by (with_reducible repeat (first | apply Kd.R_alloc | apply Kd.R_drewN | apply Kd.R_drew)); exact Kd.R_mono HO_381000.out (fun _ hk => ⟨hk.1, hk.2.1⟩)⟩, ⟨by (with_reducible repeat (first | apply Kd.R_alloc | apply Kd.R_drewN | apply Kd.R_drew)); exact Kd.R_mono HO_381001.out (fun _ hk => ⟨hk.1, hk.2.1⟩)⟩, ⟨by (with_reducible repeat (first | refine blk_drewN ?_ _ | refine blk_drew ?_ | refine blk_alloc ?_ _)); exact BK350.out⟩, ⟨by (with_reducible repeat (first | refine blk_drewN ?_ _ | refine blk_drew ?_ | refine blk_alloc ?_ _)); exact BK365.out⟩, ⟨by (with_reducible repeat (first | refine blk_drewN ?_ _ | refine blk_drew ?_ | refine blk_alloc ?_ _)); exact BK372.out⟩, ⟨by (with_reducible repeat (first | refine blk_drewN ?_ _ | refine blk_drew ?_ | refine blk_alloc ?_ _)); exact BK380.out⟩, ⟨by repeat (first | (with_reducible first | exact HB.out | apply below_alloc | apply pw_below_drewN | apply below_drew1 | refine below_set ?_ GE350.out | refine below_set ?_ GE365.out | refine below_set ?_ GE372.out | refine below_set ?_ GE380.out) | exact HB.out)⟩⟩
      case rest =>
       clear HC66
       try clear c1
       try clear c2
       try clear p2
       try clear c3
       try clear c4
       try clear c5
       try clear c5b0
       try clear c6
       try clear c7
       try clear c8
       try clear c9
       try clear c11
       try clear c13
       try clear c14
       try clear c16
       try clear c17
       try clear c24
       try clear c31
       try clear c32
       try clear c38
       try clear c39
       try clear c40
       try clear c44
       try clear c45
       try clear c46
       try clear c47
       try clear c49
       try clear c50
       try clear c53
       try clear c54
       try clear c55
       try clear c57
       try clear c58
       try clear c61
       try clear c64
       try clear c72
       try clear c73
       try clear c74
       try clear c77
       try clear c77b0
       try clear c79
       try clear c80
       try clear c81
       try clear c82
       try clear c84
       try clear c85
       try clear c88
       try clear c89
       try clear c90
       try clear c92
       try clear c93
       try clear hcz15_0
       try clear hcz15_1
       try clear hcz17_0
       try clear hcz17_1
       try clear hcz25_0
       try clear hcz25_1
       try clear hcz27_0
       try clear hcz27_1
       try clear hcz33_0
       try clear hcz33_1
       try clear hcz41_0
       try clear hcz41_1
       try clear hcz48_0
       try clear hcz48_1
       try clear hcz51_0
       try clear hcz51_1
       try clear hcz56_0
       try clear hcz56_1
       try clear hcz59_0
       try clear hcz59_1
       try clear hcz75_0
       try clear hcz75_1
       try clear hcz7_0
       try clear hcz7_1
       try clear hcz83_0
       try clear hcz83_1
       try clear hcz86_0
       try clear hcz86_1
       try clear hcz91_0
       try clear hcz91_1
       try clear hcz94_0
       try clear hcz94_1
       try clear hfz15_0
       try clear hfz15_1
       try clear hfz17_0
       try clear hfz17_1
       try clear hfz25_0
       try clear hfz25_1
       try clear hfz27_0
       try clear hfz27_1
       try clear hfz33_0
       try clear hfz33_1
       try clear hfz41_0
       try clear hfz41_1
       try clear hfz48_0
       try clear hfz48_1
       try clear hfz51_0
       try clear hfz51_1
       try clear hfz56_0
       try clear hfz56_1
       try clear hfz59_0
       try clear hfz59_1
       try clear hfz75_0
       try clear hfz75_1
       try clear hfz7_0
       try clear hfz7_1
       try clear hfz83_0
       try clear hfz83_1
       try clear hfz86_0
       try clear hfz86_1
       try clear hfz91_0
       try clear hfz91_1
       try clear hfz94_0
       try clear hfz94_1
       try clear p2
       obtain ⟨kq, x69_65, rfl, HA, HJ65, HO_366000, HO_366001, HO_373000, HO_373001, HO_381000, HO_381001, BK350, BK365, BK372, BK380, HB⟩ := hcut
       have hl373000_65 := (Kd.R_reads' HO_373000.out).1
       rw [hl373000_65] at HO_373000
       (try simp only [hl373000_65])
       (try simp only [hl373000_65] at BK350)
       (try simp only [hl373000_65] at BK365)
       (try simp only [hl373000_65] at BK372)
       (try simp only [hl373000_65] at BK380)
       (try simp only [hl373000_65] at HO_366000)
       (try simp only [hl373000_65] at HO_366001)
       (try simp only [hl373000_65] at HO_373001)
       (try simp only [hl373000_65] at HO_381000)
       (try simp only [hl373000_65] at HO_381001)
       have hl373001_65 := (Kd.R_reads' HO_373001.out).1
       rw [hl373001_65] at HO_373001
       (try simp only [hl373001_65])
       (try simp only [hl373001_65] at BK350)
       (try simp only [hl373001_65] at BK365)
       (try simp only [hl373001_65] at BK372)
       (try simp only [hl373001_65] at BK380)
       (try simp only [hl373001_65] at HO_366000)
       (try simp only [hl373001_65] at HO_366001)
       (try simp only [hl373001_65] at HO_373000)
       (try simp only [hl373001_65] at HO_381000)
       (try simp only [hl373001_65] at HO_381001)
       cases kq with
       | zero => exact absurd HA.out (by simp [laws_FnExactLoseHost.j1])
       | succ kj65 =>
        have H := HA.out
        clear HA
        simp only [laws_FnExactLoseHost.j1] at H
        by_cases c96 : x69_65 = true
        ·subst c96
         have H1 : (some false) = some r := by rw [if_pos rfl] at H; exact H
         clear H
         have H := H1
         clear H1
         obtain rfl := Option.some.inj H
         go_wp2
         go_ret
         exact ⟨by first | rfl | (simp [errW_none, errW_some] <;> rfl) | (simp [*, errW_none, errW_some] <;> rfl), by repeat (first | (with_reducible first | exact HB.out | apply below_alloc | apply pw_below_drewN | apply below_drew1 | refine below_set ?_ GE350.out | refine below_set ?_ GE365.out | refine below_set ?_ GE372.out | refine below_set ?_ GE380.out) | exact HB.out)⟩
        ·replace c96 := Bool.eq_false_iff.mpr c96
         subst c96
         have H1 : ((laws_markDisk.f kj65 t373 t376 1).bind fun bt393 => ((laws_heldDisk.f kj65 bt393.2.1 bt393.2.2 1).bind fun t396 => (if t396 < 0 then (some false) else (if t396 = bt393.1 then ((laws_toDisk.f kj65 l0_0 l0_1).bind fun bt397 => ((impl_LoseHost.f bt397.1 bt397.2 a1 a2).bind fun bt403 => ((laws_eqDisk.f kj65 bt403.1 bt403.2.1 t358 t361).bind fun t411 => (if t411 = true then (laws_FnExactLoseHost.j2 kj65 bt393.1 (bt403.2.2 != t364) bt393.2.1 bt393.2.2) else (laws_FnExactLoseHost.j2 kj65 bt393.1 true bt393.2.1 bt393.2.2))))) else (some false))))) = some r := by rw [if_neg (show ¬ (false = true) by decide)] at H; exact H
         clear H
         have H := H1
         clear H1
         replace H := Option.bind_eq_some_iff.mp H
         obtain ⟨⟨t393, t394, t395⟩, A970, H⟩ := H
         replace H : ((laws_heldDisk.f kj65 t394 t395 1).bind fun t396 => (if t396 < 0 then (some false) else (if t396 = t393 then ((laws_toDisk.f kj65 l0_0 l0_1).bind fun bt397 => ((impl_LoseHost.f bt397.1 bt397.2 a1 a2).bind fun bt403 => ((laws_eqDisk.f kj65 bt403.1 bt403.2.1 t358 t361).bind fun t411 => (if t411 = true then (laws_FnExactLoseHost.j2 kj65 t393 (bt403.2.2 != t364) t394 t395) else (laws_FnExactLoseHost.j2 kj65 t393 true t394 t395))))) else (some false)))) = some r := H
         have A97 := Aside0.mk A970
         clear A970
         replace H := Option.bind_eq_some_iff.mp H
         obtain ⟨t396, A980, H⟩ := H
         replace H : (if t396 < 0 then (some false) else (if t396 = t393 then ((laws_toDisk.f kj65 l0_0 l0_1).bind fun bt397 => ((impl_LoseHost.f bt397.1 bt397.2 a1 a2).bind fun bt403 => ((laws_eqDisk.f kj65 bt403.1 bt403.2.1 t358 t361).bind fun t411 => (if t411 = true then (laws_FnExactLoseHost.j2 kj65 t393 (bt403.2.2 != t364) t394 t395) else (laws_FnExactLoseHost.j2 kj65 t393 true t394 t395))))) else (some false))) = some r := H
         have A98 := Aside0.mk A980
         clear A980
         by_cases c99 : t396 < 0
         ·rw [if_pos c99] at H
          have c99b0 : decide (t396 < 0) = true := decide_eq_true c99
          clear c99
          obtain rfl := Option.some.inj H
          have hnb100 := NB380_350.out
          have hnc100 := NB350_380.out
          have hnb101 := NB380_365.out
          have hnc101 := NB365_380.out
          have hnb102 := NB380_372.out
          have hnc102 := NB372_380.out
          have hcz103_0 : wc.cell? ⟨gb380, 0, none⟩ = some (.slice Ao37 t373.length co37) := (blk_cell BK380.out 0).trans rfl
          have hcz103_1 : wc.cell? ⟨gb380, 1, none⟩ = some (.slice Ao42 t376.length co42) := (blk_cell BK380.out 1).trans rfl
          have hfz103_0 := blk_frozen BK380.out 0
          have hfz103_1 := blk_frozen BK380.out 1
          go_wp2_with (first | ((with_reducible refine gate_callee (f := 14) rfl ?_); refine goesL_ (some 72) rfl rfl Try.func14 (by kernel_rfl) rfl #[.agg #[.slice Ao37 t373.length co37, .slice Ao42 t376.length co42], .int .i64 1] rfl (by (try simp only [List.map_toArray, List.map_cons, List.map_nil]); first | done | rfl | (simp only [List.length_drop, List.length_take]; rfl)) ?_; (with_reducible refine (laws_markDisk.calls kj65 (fun k_ => some k_ = (.slice Ao37 t373.length co37 : Value).ownBlock) (.slice Ao37 t373.length co37) t373 (fun k_ => some k_ = (.slice Ao42 t376.length co42 : Value).ownBlock) (.slice Ao42 t376.length co42) t376 1 t393 t394 t395 w _ ?side1 ?side2 ?side3 A97.out).mono ?_); (case side1 => repeat (first | (with_reducible first | exact HB.out | apply below_alloc | apply pw_below_drewN | apply below_drew1 | refine below_set ?_ GE350.out | refine below_set ?_ GE365.out | refine below_set ?_ GE372.out | refine below_set ?_ GE380.out) | exact HB.out)); (case side2 => exact Kd.R_tight rfl HO_381000.out); (case side3 => exact Kd.R_tight rfl HO_381001.out); rintro e w104 ⟨rfl, hy0, hy1, hb, hkp⟩; refine ⟨_, rfl, ?_⟩; have n0_ := Aside0.mk (Kd.R_mono (ok' := fun k_ => some k_ ≠ (.slice Ao30 t390.length co30 : Value).ownBlock ∧ some k_ ≠ (.slice Ao37 t373.length co37 : Value).ownBlock) (Kd.R_keptB ((Kd.R_apart' HO_366000.out (Kd.R_typed HO_381001.out) (by decide))) hkp (fun k_ hk_ hs_ => Or.elim hs_ (fun e_ => (hk_.1.2) e_) (fun e_ => (hk_.2) e_))) (fun k_ hk_ => ⟨hk_.1.1.1, hk_.1.1.2⟩)); have n1_ := Aside0.mk (Kd.R_mono (ok' := fun k_ => some k_ ≠ (.slice Ao34 t391.length co34 : Value).ownBlock ∧ some k_ ≠ (.slice Ao42 t376.length co42 : Value).ownBlock) (Kd.R_keptB ((Kd.R_apart' HO_366001.out (Kd.R_typed HO_381000.out) (by decide))) hkp (fun k_ hk_ hs_ => Or.elim hs_ (fun e_ => (hk_.2) e_) (fun e_ => (hk_.1.2) e_))) (fun k_ hk_ => ⟨hk_.1.1.1, hk_.1.1.2⟩)); have n2_ := Aside0.mk (Kd.R_mono (ok' := fun k_ => some k_ ≠ (.slice Ao23 t358.length co23 : Value).ownBlock ∧ some k_ ≠ (.slice Ao37 t373.length co37 : Value).ownBlock) (Kd.R_keptB ((Kd.R_apart' HO_373000.out (Kd.R_typed HO_381001.out) (by decide))) hkp (fun k_ hk_ hs_ => Or.elim hs_ (fun e_ => (hk_.1.2) e_) (fun e_ => (hk_.2) e_))) (fun k_ hk_ => ⟨hk_.1.1.1, hk_.1.1.2⟩)); have n3_ := Aside0.mk (Kd.R_mono (ok' := fun k_ => some k_ ≠ (.slice Ao26 t361.length co26 : Value).ownBlock ∧ some k_ ≠ (.slice Ao42 t376.length co42 : Value).ownBlock) (Kd.R_keptB ((Kd.R_apart' HO_373001.out (Kd.R_typed HO_381000.out) (by decide))) hkp (fun k_ hk_ hs_ => Or.elim hs_ (fun e_ => (hk_.2) e_) (fun e_ => (hk_.1.2) e_))) (fun k_ hk_ => ⟨hk_.1.1.1, hk_.1.1.2⟩)); have n4_ := Aside0.mk (Kd.R_reok rfl hy0 (fun k_ e_ => HO_381000.out.1 k_ e_)); have n5_ := Aside0.mk (Kd.R_reok rfl hy1 (fun k_ e_ => HO_381001.out.1 k_ e_)); have n6_ := Aside0.mk (blk_kept (by (with_reducible repeat (first | refine blk_drewN ?_ _ | refine blk_drew ?_ | refine blk_alloc ?_ _)); exact BK350.out) hkp (fun hs_ => Or.elim hs_ (fun e_ => (fun e_ => (Kd.R_ne HO_381000.out BK350.out (by decide)) e_) e_) (fun e_ => (fun e_ => (Kd.R_ne HO_381001.out BK350.out (by decide)) e_) e_))); have n7_ := Aside0.mk (blk_kept (by (with_reducible repeat (first | refine blk_drewN ?_ _ | refine blk_drew ?_ | refine blk_alloc ?_ _)); exact BK365.out) hkp (fun hs_ => Or.elim hs_ (fun e_ => (fun e_ => (Kd.R_ne HO_381000.out BK365.out (by decide)) e_) e_) (fun e_ => (fun e_ => (Kd.R_ne HO_381001.out BK365.out (by decide)) e_) e_))); have n8_ := Aside0.mk (blk_kept (by (with_reducible repeat (first | refine blk_drewN ?_ _ | refine blk_drew ?_ | refine blk_alloc ?_ _)); exact BK372.out) hkp (fun hs_ => Or.elim hs_ (fun e_ => (fun e_ => (Kd.R_ne HO_381000.out BK372.out (by decide)) e_) e_) (fun e_ => (fun e_ => (Kd.R_ne HO_381001.out BK372.out (by decide)) e_) e_))); have n9_ := Aside0.mk (blk_kept (by (with_reducible repeat (first | refine blk_drewN ?_ _ | refine blk_drew ?_ | refine blk_alloc ?_ _)); exact BK380.out) hkp (fun hs_ => Or.elim hs_ (fun e_ => (fun e_ => (Kd.R_ne HO_381000.out BK380.out (by decide)) e_) e_) (fun e_ => (fun e_ => (Kd.R_ne HO_381001.out BK380.out (by decide)) e_) e_))); have n10_ := Aside0.mk (hb); clear HO_366000; clear HO_366001; clear HO_373000; clear HO_373001; clear HO_381000; clear HO_381001; clear BK350; clear BK365; clear BK372; clear BK380; clear HB; have HO_366000 := n0_; have HO_366001 := n1_; have HO_373000 := n2_; have HO_373001 := n3_; have HO_381000 := n4_; have HO_381001 := n5_; have BK350 := n6_; have BK365 := n7_; have BK372 := n8_; have BK380 := n9_; have HB := n10_; clear n0_ n1_ n2_ n3_ n4_ n5_ n6_ n7_ n8_ n9_ n10_; (try clear hb); (try clear hkp); (try clear hy0); (try clear hy1); have hcz105_0 : w104.cell? ⟨gb380, 0, none⟩ = some (.slice Ao37 t373.length co37) := (blk_cell BK380.out 0).trans rfl; have hcz105_1 : w104.cell? ⟨gb380, 1, none⟩ = some (.slice Ao42 t376.length co42) := (blk_cell BK380.out 1).trans rfl; have hfz105_0 := blk_frozen BK380.out 0; have hfz105_1 := blk_frozen BK380.out 1) | ((with_reducible refine gate_callee (f := 15) rfl ?_); refine goesL_ (some 75) rfl rfl Try.func15 (by kernel_rfl) rfl #[.agg #[.slice Ao37 t394.length co37, .slice Ao42 t395.length co42], .int .i64 1] rfl (by (try simp only [List.map_toArray, List.map_cons, List.map_nil]); first | done | (rw [show t394.length = t373.length from (Kd.R_reads' HO_381000.out).1.symm, show t395.length = t376.length from (Kd.R_reads' HO_381001.out).1.symm] <;> rfl) | rfl | (simp only [List.length_drop, List.length_take]; rfl)) ?_; (with_reducible refine (laws_heldDisk.calls kj65 _ _ t394 _ _ t395 1 t396 _ ?side1 ?side2 ?side3 ?side4 A98.out).mono ?_); (case side1 => repeat (first | exact (Kd.R_reads' HO_381000.out).2.2 | (with_reducible refine Kd.C_alloc ?_ _) | (with_reducible refine Kd.C_drewN ?_ _) | (with_reducible refine Kd.C_drew ?_))); (case side2 => rw [show t394.length = t373.length from (Kd.R_reads' HO_381000.out).1.symm]; exact (Kd.R_reads' HO_381000.out).2.1); (case side3 => repeat (first | exact (Kd.R_reads' HO_381001.out).2.2 | (with_reducible refine Kd.C_alloc ?_ _) | (with_reducible refine Kd.C_drewN ?_ _) | (with_reducible refine Kd.C_drew ?_))); (case side4 => rw [show t395.length = t376.length from (Kd.R_reads' HO_381001.out).1.symm]; exact (Kd.R_reads' HO_381001.out).2.1); rintro e w106 ⟨rfl, hb⟩; refine ⟨_, rfl, ?_⟩; have n0_ := Aside0.mk (Kd.R_below (by (with_reducible repeat (first | apply Kd.R_alloc | apply Kd.R_drewN | apply Kd.R_drew)); exact HO_366000.out) hb); have n1_ := Aside0.mk (Kd.R_below (by (with_reducible repeat (first | apply Kd.R_alloc | apply Kd.R_drewN | apply Kd.R_drew)); exact HO_366001.out) hb); have n2_ := Aside0.mk (Kd.R_below (by (with_reducible repeat (first | apply Kd.R_alloc | apply Kd.R_drewN | apply Kd.R_drew)); exact HO_373000.out) hb); have n3_ := Aside0.mk (Kd.R_below (by (with_reducible repeat (first | apply Kd.R_alloc | apply Kd.R_drewN | apply Kd.R_drew)); exact HO_373001.out) hb); have n4_ := Aside0.mk (Kd.R_below (by (with_reducible repeat (first | apply Kd.R_alloc | apply Kd.R_drewN | apply Kd.R_drew)); exact HO_381000.out) hb); have n5_ := Aside0.mk (Kd.R_below (by (with_reducible repeat (first | apply Kd.R_alloc | apply Kd.R_drewN | apply Kd.R_drew)); exact HO_381001.out) hb); have n6_ := Aside0.mk (blk_below (g := gb350) (o := .cells #[.slice A0_0 l0_0.length c0_0, .slice A0_1 l0_1.length c0_1] 25 (0, 0)) (by (with_reducible repeat (first | refine blk_drewN ?_ _ | refine blk_drew ?_ | refine blk_alloc ?_ _)); exact BK350.out) hb); have n7_ := Aside0.mk (blk_below (g := gb365) (o := .cells #[.slice Ao23 t358.length co23, .slice Ao26 t361.length co26] 29 (0, 0)) (by (with_reducible repeat (first | refine blk_drewN ?_ _ | refine blk_drew ?_ | refine blk_alloc ?_ _)); exact BK365.out) hb); have n8_ := Aside0.mk (blk_below (g := gb372) (o := .cells #[.slice Ao30 t390.length co30, .slice Ao34 t391.length co34] 29 (0, 0)) (by (with_reducible repeat (first | refine blk_drewN ?_ _ | refine blk_drew ?_ | refine blk_alloc ?_ _)); exact BK372.out) hb); have n9_ := Aside0.mk (blk_below (g := gb380) (o := .cells #[.slice Ao37 t373.length co37, .slice Ao42 t376.length co42] 29 (0, 0)) (by (with_reducible repeat (first | refine blk_drewN ?_ _ | refine blk_drew ?_ | refine blk_alloc ?_ _)); exact BK380.out) hb); have n10_ := Aside0.mk (below_step (by repeat (first | (with_reducible first | exact HB.out | apply below_alloc | apply pw_below_drewN | apply below_drew1 | refine below_set ?_ GE350.out | refine below_set ?_ GE365.out | refine below_set ?_ GE372.out | refine below_set ?_ GE380.out) | exact HB.out)) hb); clear HO_366000; clear HO_366001; clear HO_373000; clear HO_373001; clear HO_381000; clear HO_381001; clear BK350; clear BK365; clear BK372; clear BK380; clear HB; have HO_366000 := n0_; have HO_366001 := n1_; have HO_373000 := n2_; have HO_373001 := n3_; have HO_381000 := n4_; have HO_381001 := n5_; have BK350 := n6_; have BK365 := n7_; have BK372 := n8_; have BK380 := n9_; have HB := n10_; clear n0_ n1_ n2_ n3_ n4_ n5_ n6_ n7_ n8_ n9_ n10_; (try clear hb); (try clear hb2); (try clear hk); (try clear hi)))
          go_ret
          exact ⟨by first | rfl | (simp [errW_none, errW_some] <;> rfl) | (simp [*, errW_none, errW_some] <;> rfl), by repeat (first | (with_reducible first | exact HB.out | apply below_alloc | apply pw_below_drewN | apply below_drew1 | refine below_set ?_ GE350.out | refine below_set ?_ GE365.out | refine below_set ?_ GE372.out | refine below_set ?_ GE380.out) | exact HB.out)⟩
         ·rw [if_neg c99] at H
          have c99b0 : decide (t396 < 0) = false := decide_eq_false c99
          clear c99
          by_cases c107 : t396 = t393
          ·rw [if_pos c107] at H
           have c107b0 : (t396 == t393) = true := beq_iff_eq.mpr c107
           have c107b1 : (t396 != t393) = false := bne_eq_false_iff_eq.mpr c107
           clear c107
           replace H := Option.bind_eq_some_iff.mp H
           obtain ⟨⟨t397, t400⟩, A1080, H⟩ := H
           replace H : ((impl_LoseHost.f t397 t400 a1 a2).bind fun bt403 => ((laws_eqDisk.f kj65 bt403.1 bt403.2.1 t358 t361).bind fun t411 => (if t411 = true then (laws_FnExactLoseHost.j2 kj65 t393 (bt403.2.2 != t364) t394 t395) else (laws_FnExactLoseHost.j2 kj65 t393 true t394 t395)))) = some r := H
           have A108 := Aside0.mk A1080
           clear A1080
           replace H := Option.bind_eq_some_iff.mp H
           obtain ⟨⟨t403, t406, t409⟩, A1090, H⟩ := H
           replace H : ((laws_eqDisk.f kj65 t403 t406 t358 t361).bind fun t411 => (if t411 = true then (laws_FnExactLoseHost.j2 kj65 t393 (t409 != t364) t394 t395) else (laws_FnExactLoseHost.j2 kj65 t393 true t394 t395))) = some r := H
           have A109 := Aside0.mk A1090
           clear A1090
           have HC110 := Aside0.mk H
           clear H
           have hnb111 := NB380_350.out
           have hnc111 := NB350_380.out
           have hnb112 := NB380_365.out
           have hnc112 := NB365_380.out
           have hnb113 := NB380_372.out
           have hnc113 := NB372_380.out
           have hcz114_0 : wc.cell? ⟨gb380, 0, none⟩ = some (.slice Ao37 t373.length co37) := (blk_cell BK380.out 0).trans rfl
           have hcz114_1 : wc.cell? ⟨gb380, 1, none⟩ = some (.slice Ao42 t376.length co42) := (blk_cell BK380.out 1).trans rfl
           have hfz114_0 := blk_frozen BK380.out 0
           have hfz114_1 := blk_frozen BK380.out 1
           go_upto_region 25 with (first | ((with_reducible refine gate_callee (f := 14) rfl ?_); refine goesL_ (some 72) rfl rfl Try.func14 (by kernel_rfl) rfl #[.agg #[.slice Ao37 t373.length co37, .slice Ao42 t376.length co42], .int .i64 1] rfl (by (try simp only [List.map_toArray, List.map_cons, List.map_nil]); first | done | rfl | (simp only [List.length_drop, List.length_take]; rfl)) ?_; (with_reducible refine (laws_markDisk.calls kj65 (fun k_ => some k_ = (.slice Ao37 t373.length co37 : Value).ownBlock) (.slice Ao37 t373.length co37) t373 (fun k_ => some k_ = (.slice Ao42 t376.length co42 : Value).ownBlock) (.slice Ao42 t376.length co42) t376 1 t393 t394 t395 w _ ?side1 ?side2 ?side3 A97.out).mono ?_); (case side1 => repeat (first | (with_reducible first | exact HB.out | apply below_alloc | apply pw_below_drewN | apply below_drew1 | refine below_set ?_ GE350.out | refine below_set ?_ GE365.out | refine below_set ?_ GE372.out | refine below_set ?_ GE380.out) | exact HB.out)); (case side2 => exact Kd.R_tight rfl HO_381000.out); (case side3 => exact Kd.R_tight rfl HO_381001.out); rintro e w115 ⟨rfl, hy0, hy1, hb, hkp⟩; refine ⟨_, rfl, ?_⟩; have n0_ := Aside0.mk (Kd.R_mono (ok' := fun k_ => some k_ ≠ (.slice Ao30 t390.length co30 : Value).ownBlock ∧ some k_ ≠ (.slice Ao37 t373.length co37 : Value).ownBlock) (Kd.R_keptB ((Kd.R_apart' HO_366000.out (Kd.R_typed HO_381001.out) (by decide))) hkp (fun k_ hk_ hs_ => Or.elim hs_ (fun e_ => (hk_.1.2) e_) (fun e_ => (hk_.2) e_))) (fun k_ hk_ => ⟨hk_.1.1.1, hk_.1.1.2⟩)); have n1_ := Aside0.mk (Kd.R_mono (ok' := fun k_ => some k_ ≠ (.slice Ao34 t391.length co34 : Value).ownBlock ∧ some k_ ≠ (.slice Ao42 t376.length co42 : Value).ownBlock) (Kd.R_keptB ((Kd.R_apart' HO_366001.out (Kd.R_typed HO_381000.out) (by decide))) hkp (fun k_ hk_ hs_ => Or.elim hs_ (fun e_ => (hk_.2) e_) (fun e_ => (hk_.1.2) e_))) (fun k_ hk_ => ⟨hk_.1.1.1, hk_.1.1.2⟩)); have n2_ := Aside0.mk (Kd.R_mono (ok' := fun k_ => some k_ ≠ (.slice Ao23 t358.length co23 : Value).ownBlock ∧ some k_ ≠ (.slice Ao37 t373.length co37 : Value).ownBlock) (Kd.R_keptB ((Kd.R_apart' HO_373000.out (Kd.R_typed HO_381001.out) (by decide))) hkp (fun k_ hk_ hs_ => Or.elim hs_ (fun e_ => (hk_.1.2) e_) (fun e_ => (hk_.2) e_))) (fun k_ hk_ => ⟨hk_.1.1.1, hk_.1.1.2⟩)); have n3_ := Aside0.mk (Kd.R_mono (ok' := fun k_ => some k_ ≠ (.slice Ao26 t361.length co26 : Value).ownBlock ∧ some k_ ≠ (.slice Ao42 t376.length co42 : Value).ownBlock) (Kd.R_keptB ((Kd.R_apart' HO_373001.out (Kd.R_typed HO_381000.out) (by decide))) hkp (fun k_ hk_ hs_ => Or.elim hs_ (fun e_ => (hk_.2) e_) (fun e_ => (hk_.1.2) e_))) (fun k_ hk_ => ⟨hk_.1.1.1, hk_.1.1.2⟩)); have n4_ := Aside0.mk (Kd.R_reok rfl hy0 (fun k_ e_ => HO_381000.out.1 k_ e_)); have n5_ := Aside0.mk (Kd.R_reok rfl hy1 (fun k_ e_ => HO_381001.out.1 k_ e_)); have n6_ := Aside0.mk (blk_kept (by (with_reducible repeat (first | refine blk_drewN ?_ _ | refine blk_drew ?_ | refine blk_alloc ?_ _)); exact BK350.out) hkp (fun hs_ => Or.elim hs_ (fun e_ => (fun e_ => (Kd.R_ne HO_381000.out BK350.out (by decide)) e_) e_) (fun e_ => (fun e_ => (Kd.R_ne HO_381001.out BK350.out (by decide)) e_) e_))); have n7_ := Aside0.mk (blk_kept (by (with_reducible repeat (first | refine blk_drewN ?_ _ | refine blk_drew ?_ | refine blk_alloc ?_ _)); exact BK365.out) hkp (fun hs_ => Or.elim hs_ (fun e_ => (fun e_ => (Kd.R_ne HO_381000.out BK365.out (by decide)) e_) e_) (fun e_ => (fun e_ => (Kd.R_ne HO_381001.out BK365.out (by decide)) e_) e_))); have n8_ := Aside0.mk (blk_kept (by (with_reducible repeat (first | refine blk_drewN ?_ _ | refine blk_drew ?_ | refine blk_alloc ?_ _)); exact BK372.out) hkp (fun hs_ => Or.elim hs_ (fun e_ => (fun e_ => (Kd.R_ne HO_381000.out BK372.out (by decide)) e_) e_) (fun e_ => (fun e_ => (Kd.R_ne HO_381001.out BK372.out (by decide)) e_) e_))); have n9_ := Aside0.mk (blk_kept (by (with_reducible repeat (first | refine blk_drewN ?_ _ | refine blk_drew ?_ | refine blk_alloc ?_ _)); exact BK380.out) hkp (fun hs_ => Or.elim hs_ (fun e_ => (fun e_ => (Kd.R_ne HO_381000.out BK380.out (by decide)) e_) e_) (fun e_ => (fun e_ => (Kd.R_ne HO_381001.out BK380.out (by decide)) e_) e_))); have n10_ := Aside0.mk (hb); clear HO_366000; clear HO_366001; clear HO_373000; clear HO_373001; clear HO_381000; clear HO_381001; clear BK350; clear BK365; clear BK372; clear BK380; clear HB; have HO_366000 := n0_; have HO_366001 := n1_; have HO_373000 := n2_; have HO_373001 := n3_; have HO_381000 := n4_; have HO_381001 := n5_; have BK350 := n6_; have BK365 := n7_; have BK372 := n8_; have BK380 := n9_; have HB := n10_; clear n0_ n1_ n2_ n3_ n4_ n5_ n6_ n7_ n8_ n9_ n10_; (try clear hb); (try clear hkp); (try clear hy0); (try clear hy1); have hcz116_0 : w115.cell? ⟨gb380, 0, none⟩ = some (.slice Ao37 t373.length co37) := (blk_cell BK380.out 0).trans rfl; have hcz116_1 : w115.cell? ⟨gb380, 1, none⟩ = some (.slice Ao42 t376.length co42) := (blk_cell BK380.out 1).trans rfl; have hfz116_0 := blk_frozen BK380.out 0; have hfz116_1 := blk_frozen BK380.out 1) | ((with_reducible refine gate_callee (f := 15) rfl ?_); refine goesL_ (some 75) rfl rfl Try.func15 (by kernel_rfl) rfl #[.agg #[.slice Ao37 t394.length co37, .slice Ao42 t395.length co42], .int .i64 1] rfl (by (try simp only [List.map_toArray, List.map_cons, List.map_nil]); first | done | (rw [show t394.length = t373.length from (Kd.R_reads' HO_381000.out).1.symm, show t395.length = t376.length from (Kd.R_reads' HO_381001.out).1.symm] <;> rfl) | rfl | (simp only [List.length_drop, List.length_take]; rfl)) ?_; (with_reducible refine (laws_heldDisk.calls kj65 _ _ t394 _ _ t395 1 t396 _ ?side1 ?side2 ?side3 ?side4 A98.out).mono ?_); (case side1 => repeat (first | exact (Kd.R_reads' HO_381000.out).2.2 | (with_reducible refine Kd.C_alloc ?_ _) | (with_reducible refine Kd.C_drewN ?_ _) | (with_reducible refine Kd.C_drew ?_))); (case side2 => rw [show t394.length = t373.length from (Kd.R_reads' HO_381000.out).1.symm]; exact (Kd.R_reads' HO_381000.out).2.1); (case side3 => repeat (first | exact (Kd.R_reads' HO_381001.out).2.2 | (with_reducible refine Kd.C_alloc ?_ _) | (with_reducible refine Kd.C_drewN ?_ _) | (with_reducible refine Kd.C_drew ?_))); (case side4 => rw [show t395.length = t376.length from (Kd.R_reads' HO_381001.out).1.symm]; exact (Kd.R_reads' HO_381001.out).2.1); rintro e w117 ⟨rfl, hb⟩; refine ⟨_, rfl, ?_⟩; have n0_ := Aside0.mk (Kd.R_below (by (with_reducible repeat (first | apply Kd.R_alloc | apply Kd.R_drewN | apply Kd.R_drew)); exact HO_366000.out) hb); have n1_ := Aside0.mk (Kd.R_below (by (with_reducible repeat (first | apply Kd.R_alloc | apply Kd.R_drewN | apply Kd.R_drew)); exact HO_366001.out) hb); have n2_ := Aside0.mk (Kd.R_below (by (with_reducible repeat (first | apply Kd.R_alloc | apply Kd.R_drewN | apply Kd.R_drew)); exact HO_373000.out) hb); have n3_ := Aside0.mk (Kd.R_below (by (with_reducible repeat (first | apply Kd.R_alloc | apply Kd.R_drewN | apply Kd.R_drew)); exact HO_373001.out) hb); have n4_ := Aside0.mk (Kd.R_below (by (with_reducible repeat (first | apply Kd.R_alloc | apply Kd.R_drewN | apply Kd.R_drew)); exact HO_381000.out) hb); have n5_ := Aside0.mk (Kd.R_below (by (with_reducible repeat (first | apply Kd.R_alloc | apply Kd.R_drewN | apply Kd.R_drew)); exact HO_381001.out) hb); have n6_ := Aside0.mk (blk_below (g := gb350) (o := .cells #[.slice A0_0 l0_0.length c0_0, .slice A0_1 l0_1.length c0_1] 25 (0, 0)) (by (with_reducible repeat (first | refine blk_drewN ?_ _ | refine blk_drew ?_ | refine blk_alloc ?_ _)); exact BK350.out) hb); have n7_ := Aside0.mk (blk_below (g := gb365) (o := .cells #[.slice Ao23 t358.length co23, .slice Ao26 t361.length co26] 29 (0, 0)) (by (with_reducible repeat (first | refine blk_drewN ?_ _ | refine blk_drew ?_ | refine blk_alloc ?_ _)); exact BK365.out) hb); have n8_ := Aside0.mk (blk_below (g := gb372) (o := .cells #[.slice Ao30 t390.length co30, .slice Ao34 t391.length co34] 29 (0, 0)) (by (with_reducible repeat (first | refine blk_drewN ?_ _ | refine blk_drew ?_ | refine blk_alloc ?_ _)); exact BK372.out) hb); have n9_ := Aside0.mk (blk_below (g := gb380) (o := .cells #[.slice Ao37 t373.length co37, .slice Ao42 t376.length co42] 29 (0, 0)) (by (with_reducible repeat (first | refine blk_drewN ?_ _ | refine blk_drew ?_ | refine blk_alloc ?_ _)); exact BK380.out) hb); have n10_ := Aside0.mk (below_step (by repeat (first | (with_reducible first | exact HB.out | apply below_alloc | apply pw_below_drewN | apply below_drew1 | refine below_set ?_ GE350.out | refine below_set ?_ GE365.out | refine below_set ?_ GE372.out | refine below_set ?_ GE380.out) | exact HB.out)) hb); clear HO_366000; clear HO_366001; clear HO_373000; clear HO_373001; clear HO_381000; clear HO_381001; clear BK350; clear BK365; clear BK372; clear BK380; clear HB; have HO_366000 := n0_; have HO_366001 := n1_; have HO_373000 := n2_; have HO_373001 := n3_; have HO_381000 := n4_; have HO_381001 := n5_; have BK350 := n6_; have BK365 := n7_; have BK372 := n8_; have BK380 := n9_; have HB := n10_; clear n0_ n1_ n2_ n3_ n4_ n5_ n6_ n7_ n8_ n9_ n10_; (try clear hb); (try clear hb2); (try clear hk); (try clear hi); have hnb118 := NB350_365.out; have hnc118 := NB365_350.out; have hnb119 := NB350_372.out; have hnc119 := NB372_350.out; have hcz120_0 : w117.cell? ⟨gb350, 0, none⟩ = some (.slice A0_0 l0_0.length c0_0) := (blk_cell BK350.out 0).trans rfl; have hcz120_1 : w117.cell? ⟨gb350, 1, none⟩ = some (.slice A0_1 l0_1.length c0_1) := (blk_cell BK350.out 1).trans rfl; have hfz120_0 := blk_frozen BK350.out 0; have hfz120_1 := blk_frozen BK350.out 1) | ((with_reducible refine gate_callee (f := 11) rfl ?_); refine goesL_ (some 83) rfl rfl Try.func11 (by kernel_rfl) rfl #[.agg #[.slice A0_0 l0_0.length c0_0, .slice A0_1 l0_1.length c0_1]] rfl (by (try simp only [List.map_toArray, List.map_cons, List.map_nil]); first | done | rfl | (simp only [List.length_drop, List.length_take]; rfl)) ?_; (with_reducible refine (laws_toDisk.calls kj65 _ _ l0_0 _ _ l0_1 t397 t400 _ ?side1 ?side2 ?side3 ?side4 A108.out).mono ?_); (case side1 => repeat (first | exact (Kd.C_below HR0_0.out HB.out) | (with_reducible refine Kd.C_alloc ?_ _) | (with_reducible refine Kd.C_drewN ?_ _) | (with_reducible refine Kd.C_drew ?_))); (case side2 => exact HC0_0.out); (case side3 => repeat (first | exact (Kd.C_below HR0_1.out HB.out) | (with_reducible refine Kd.C_alloc ?_ _) | (with_reducible refine Kd.C_drewN ?_ _) | (with_reducible refine Kd.C_drew ?_))); (case side4 => exact HC0_1.out); rintro e w121 ⟨v398, v401, rfl, ho0, ho1, hb⟩; refine ⟨_, rfl, ?_⟩; have n0_ := Aside0.mk (Kd.R_elder' (by (with_reducible repeat (first | apply Kd.R_alloc | apply Kd.R_drewN | apply Kd.R_drew)); exact HO_366000.out) (Kd.R_base ho0) hb); have n1_ := Aside0.mk (Kd.R_elder' (by (with_reducible repeat (first | apply Kd.R_alloc | apply Kd.R_drewN | apply Kd.R_drew)); exact HO_366001.out) (Kd.R_base ho1) hb); have n2_ := Aside0.mk (Kd.R_elder' (by (with_reducible repeat (first | apply Kd.R_alloc | apply Kd.R_drewN | apply Kd.R_drew)); exact HO_373000.out) (Kd.R_base ho0) hb); have n3_ := Aside0.mk (Kd.R_elder' (by (with_reducible repeat (first | apply Kd.R_alloc | apply Kd.R_drewN | apply Kd.R_drew)); exact HO_373001.out) (Kd.R_base ho1) hb); have n4_ := Aside0.mk (Kd.R_elder' (by (with_reducible repeat (first | apply Kd.R_alloc | apply Kd.R_drewN | apply Kd.R_drew)); exact HO_381000.out) (Kd.R_base ho0) hb); have n5_ := Aside0.mk (Kd.R_elder' (by (with_reducible repeat (first | apply Kd.R_alloc | apply Kd.R_drewN | apply Kd.R_drew)); exact HO_381001.out) (Kd.R_base ho1) hb); have n6_ := Aside0.mk (Kd.R_lower (Kd.R_new' (Kd.R_new' (Kd.R_new' ho0 (Kd.R_lt (by (with_reducible repeat (first | apply Kd.R_alloc | apply Kd.R_drewN | apply Kd.R_drew)); exact HO_366000.out))) (Kd.R_lt (by (with_reducible repeat (first | apply Kd.R_alloc | apply Kd.R_drewN | apply Kd.R_drew)); exact HO_373000.out))) (Kd.R_lt (by (with_reducible repeat (first | apply Kd.R_alloc | apply Kd.R_drewN | apply Kd.R_drew)); exact HO_381000.out))) (below_size (by repeat (first | (with_reducible first | exact HB.out | apply below_alloc | apply pw_below_drewN | apply below_drew1 | refine below_set ?_ GE350.out | refine below_set ?_ GE365.out | refine below_set ?_ GE372.out | refine below_set ?_ GE380.out) | exact HB.out)))); have n7_ := Aside0.mk (Kd.R_lower (Kd.R_new' (Kd.R_new' (Kd.R_new' ho1 (Kd.R_lt (by (with_reducible repeat (first | apply Kd.R_alloc | apply Kd.R_drewN | apply Kd.R_drew)); exact HO_366001.out))) (Kd.R_lt (by (with_reducible repeat (first | apply Kd.R_alloc | apply Kd.R_drewN | apply Kd.R_drew)); exact HO_373001.out))) (Kd.R_lt (by (with_reducible repeat (first | apply Kd.R_alloc | apply Kd.R_drewN | apply Kd.R_drew)); exact HO_381001.out))) (below_size (by repeat (first | (with_reducible first | exact HB.out | apply below_alloc | apply pw_below_drewN | apply below_drew1 | refine below_set ?_ GE350.out | refine below_set ?_ GE365.out | refine below_set ?_ GE372.out | refine below_set ?_ GE380.out) | exact HB.out)))); have n8_ := Aside0.mk (blk_below (g := gb350) (o := .cells #[.slice A0_0 l0_0.length c0_0, .slice A0_1 l0_1.length c0_1] 25 (0, 0)) (by (with_reducible repeat (first | refine blk_drewN ?_ _ | refine blk_drew ?_ | refine blk_alloc ?_ _)); exact BK350.out) hb); have n9_ := Aside0.mk (blk_below (g := gb365) (o := .cells #[.slice Ao23 t358.length co23, .slice Ao26 t361.length co26] 29 (0, 0)) (by (with_reducible repeat (first | refine blk_drewN ?_ _ | refine blk_drew ?_ | refine blk_alloc ?_ _)); exact BK365.out) hb); have n10_ := Aside0.mk (blk_below (g := gb372) (o := .cells #[.slice Ao30 t390.length co30, .slice Ao34 t391.length co34] 29 (0, 0)) (by (with_reducible repeat (first | refine blk_drewN ?_ _ | refine blk_drew ?_ | refine blk_alloc ?_ _)); exact BK372.out) hb); have n11_ := Aside0.mk (blk_below (g := gb380) (o := .cells #[.slice Ao37 t373.length co37, .slice Ao42 t376.length co42] 29 (0, 0)) (by (with_reducible repeat (first | refine blk_drewN ?_ _ | refine blk_drew ?_ | refine blk_alloc ?_ _)); exact BK380.out) hb); have n12_ := Aside0.mk (below_step (by repeat (first | (with_reducible first | exact HB.out | apply below_alloc | apply pw_below_drewN | apply below_drew1 | refine below_set ?_ GE350.out | refine below_set ?_ GE365.out | refine below_set ?_ GE372.out | refine below_set ?_ GE380.out) | exact HB.out)) hb); clear HO_366000; clear HO_366001; clear HO_373000; clear HO_373001; clear HO_381000; clear HO_381001; clear BK350; clear BK365; clear BK372; clear BK380; clear HB; have HO_366000 := n0_; have HO_366001 := n1_; have HO_373000 := n2_; have HO_373001 := n3_; have HO_381000 := n4_; have HO_381001 := n5_; have HO399 := n6_; have HO402 := n7_; have BK350 := n8_; have BK365 := n9_; have BK372 := n10_; have BK380 := n11_; have HB := n12_; clear n0_ n1_ n2_ n3_ n4_ n5_ n6_ n7_ n8_ n9_ n10_ n11_ n12_; (try clear hb); (try clear hb2); (try clear hk); (try clear hi); (try clear ho0); (try clear ho1); obtain ⟨Ao122, co122, eo122⟩ := Kd.R_slice HO399.out; subst eo122; obtain ⟨Ao123, co123, eo123⟩ := Kd.R_slice HO402.out; subst eo123) | ((with_reducible refine gate_callee (f := 17) rfl ?_); refine goesL_ (some 86) rfl rfl Try.func17 (by kernel_rfl) rfl #[.agg #[.slice Ao122 t397.length co122, .slice Ao123 t400.length co123], .int .i64 a1, .int .i64 a2] rfl (by (try simp only [List.map_toArray, List.map_cons, List.map_nil]); first | done | rfl | (simp only [List.length_drop, List.length_take]; rfl)) ?_; (with_reducible refine (impl_LoseHost.calls _ _ t397 _ _ t400 a1 a2 t403 t406 t409 _ ?side1 ?side2 ?side3 ?side4 A109.out).mono ?_); (case side1 => repeat (first | exact (Kd.R_reads' HO399.out).2.2 | (with_reducible refine Kd.C_alloc ?_ _) | (with_reducible refine Kd.C_drewN ?_ _) | (with_reducible refine Kd.C_drew ?_))); (case side2 => exact (Kd.R_reads' HO399.out).2.1); (case side3 => repeat (first | exact (Kd.R_reads' HO402.out).2.2 | (with_reducible refine Kd.C_alloc ?_ _) | (with_reducible refine Kd.C_drewN ?_ _) | (with_reducible refine Kd.C_drew ?_))); (case side4 => exact (Kd.R_reads' HO402.out).2.1); rintro e w124 ⟨v404, v407, rfl, ho0, ho1, hb⟩; refine ⟨_, rfl, ?_⟩; have n0_ := Aside0.mk (Kd.R_elder' (by (with_reducible repeat (first | apply Kd.R_alloc | apply Kd.R_drewN | apply Kd.R_drew)); exact HO_366000.out) (Kd.R_base ho0) hb); have n1_ := Aside0.mk (Kd.R_elder' (by (with_reducible repeat (first | apply Kd.R_alloc | apply Kd.R_drewN | apply Kd.R_drew)); exact HO_366001.out) (Kd.R_base ho1) hb); have n2_ := Aside0.mk (Kd.R_elder' (by (with_reducible repeat (first | apply Kd.R_alloc | apply Kd.R_drewN | apply Kd.R_drew)); exact HO_373000.out) (Kd.R_base ho0) hb); have n3_ := Aside0.mk (Kd.R_elder' (by (with_reducible repeat (first | apply Kd.R_alloc | apply Kd.R_drewN | apply Kd.R_drew)); exact HO_373001.out) (Kd.R_base ho1) hb); have n4_ := Aside0.mk (Kd.R_elder' (by (with_reducible repeat (first | apply Kd.R_alloc | apply Kd.R_drewN | apply Kd.R_drew)); exact HO_381000.out) (Kd.R_base ho0) hb); have n5_ := Aside0.mk (Kd.R_elder' (by (with_reducible repeat (first | apply Kd.R_alloc | apply Kd.R_drewN | apply Kd.R_drew)); exact HO_381001.out) (Kd.R_base ho1) hb); have n6_ := Aside0.mk (Kd.R_elder' (by (with_reducible repeat (first | apply Kd.R_alloc | apply Kd.R_drewN | apply Kd.R_drew)); exact HO399.out) (Kd.R_base ho0) hb); have n7_ := Aside0.mk (Kd.R_elder' (by (with_reducible repeat (first | apply Kd.R_alloc | apply Kd.R_drewN | apply Kd.R_drew)); exact HO402.out) (Kd.R_base ho1) hb); have n8_ := Aside0.mk (Kd.R_lower (Kd.R_new' (Kd.R_new' (Kd.R_new' (Kd.R_new' ho0 (Kd.R_lt (by (with_reducible repeat (first | apply Kd.R_alloc | apply Kd.R_drewN | apply Kd.R_drew)); exact HO_366000.out))) (Kd.R_lt (by (with_reducible repeat (first | apply Kd.R_alloc | apply Kd.R_drewN | apply Kd.R_drew)); exact HO_373000.out))) (Kd.R_lt (by (with_reducible repeat (first | apply Kd.R_alloc | apply Kd.R_drewN | apply Kd.R_drew)); exact HO_381000.out))) (Kd.R_lt (by (with_reducible repeat (first | apply Kd.R_alloc | apply Kd.R_drewN | apply Kd.R_drew)); exact HO399.out))) (below_size (by repeat (first | (with_reducible first | exact HB.out | apply below_alloc | apply pw_below_drewN | apply below_drew1 | refine below_set ?_ GE350.out | refine below_set ?_ GE365.out | refine below_set ?_ GE372.out | refine below_set ?_ GE380.out) | exact HB.out)))); have n9_ := Aside0.mk (Kd.R_lower (Kd.R_new' (Kd.R_new' (Kd.R_new' (Kd.R_new' ho1 (Kd.R_lt (by (with_reducible repeat (first | apply Kd.R_alloc | apply Kd.R_drewN | apply Kd.R_drew)); exact HO_366001.out))) (Kd.R_lt (by (with_reducible repeat (first | apply Kd.R_alloc | apply Kd.R_drewN | apply Kd.R_drew)); exact HO_373001.out))) (Kd.R_lt (by (with_reducible repeat (first | apply Kd.R_alloc | apply Kd.R_drewN | apply Kd.R_drew)); exact HO_381001.out))) (Kd.R_lt (by (with_reducible repeat (first | apply Kd.R_alloc | apply Kd.R_drewN | apply Kd.R_drew)); exact HO402.out))) (below_size (by repeat (first | (with_reducible first | exact HB.out | apply below_alloc | apply pw_below_drewN | apply below_drew1 | refine below_set ?_ GE350.out | refine below_set ?_ GE365.out | refine below_set ?_ GE372.out | refine below_set ?_ GE380.out) | exact HB.out)))); have n10_ := Aside0.mk (blk_below (g := gb350) (o := .cells #[.slice A0_0 l0_0.length c0_0, .slice A0_1 l0_1.length c0_1] 25 (0, 0)) (by (with_reducible repeat (first | refine blk_drewN ?_ _ | refine blk_drew ?_ | refine blk_alloc ?_ _)); exact BK350.out) hb); have n11_ := Aside0.mk (blk_below (g := gb365) (o := .cells #[.slice Ao23 t358.length co23, .slice Ao26 t361.length co26] 29 (0, 0)) (by (with_reducible repeat (first | refine blk_drewN ?_ _ | refine blk_drew ?_ | refine blk_alloc ?_ _)); exact BK365.out) hb); have n12_ := Aside0.mk (blk_below (g := gb372) (o := .cells #[.slice Ao30 t390.length co30, .slice Ao34 t391.length co34] 29 (0, 0)) (by (with_reducible repeat (first | refine blk_drewN ?_ _ | refine blk_drew ?_ | refine blk_alloc ?_ _)); exact BK372.out) hb); have n13_ := Aside0.mk (blk_below (g := gb380) (o := .cells #[.slice Ao37 t373.length co37, .slice Ao42 t376.length co42] 29 (0, 0)) (by (with_reducible repeat (first | refine blk_drewN ?_ _ | refine blk_drew ?_ | refine blk_alloc ?_ _)); exact BK380.out) hb); have n14_ := Aside0.mk (below_step (by repeat (first | (with_reducible first | exact HB.out | apply below_alloc | apply pw_below_drewN | apply below_drew1 | refine below_set ?_ GE350.out | refine below_set ?_ GE365.out | refine below_set ?_ GE372.out | refine below_set ?_ GE380.out) | exact HB.out)) hb); clear HO_366000; clear HO_366001; clear HO_373000; clear HO_373001; clear HO_381000; clear HO_381001; clear HO399; clear HO402; clear BK350; clear BK365; clear BK372; clear BK380; clear HB; have HO_366000 := n0_; have HO_366001 := n1_; have HO_373000 := n2_; have HO_373001 := n3_; have HO_381000 := n4_; have HO_381001 := n5_; have HO399 := n6_; have HO402 := n7_; have HO405 := n8_; have HO408 := n9_; have BK350 := n10_; have BK365 := n11_; have BK372 := n12_; have BK380 := n13_; have HB := n14_; clear n0_ n1_ n2_ n3_ n4_ n5_ n6_ n7_ n8_ n9_ n10_ n11_ n12_ n13_ n14_; (try clear hb); (try clear hb2); (try clear hk); (try clear hi); (try clear ho0); (try clear ho1)) | ((with_reducible refine gate_dst (N := 16) rfl ?_); refine box_event ?hg (N := 16) ?hd (cs := #[.slice none 0 0, .slice none 0 0]) (t := 29) ?hr ?_; (case hd => rfl); (case hg => rfl); (case hr => first | (go_simp; done) | (go_simp; rfl)); intro gb410 hg w125 hbox hb; have n0_ := Aside0.mk (Kd.R_below (by (with_reducible repeat (first | apply Kd.R_alloc | apply Kd.R_drewN | apply Kd.R_drew)); exact HO_366000.out) hb); have n1_ := Aside0.mk (Kd.R_below (by (with_reducible repeat (first | apply Kd.R_alloc | apply Kd.R_drewN | apply Kd.R_drew)); exact HO_366001.out) hb); have n2_ := Aside0.mk (Kd.R_below (by (with_reducible repeat (first | apply Kd.R_alloc | apply Kd.R_drewN | apply Kd.R_drew)); exact HO_373000.out) hb); have n3_ := Aside0.mk (Kd.R_below (by (with_reducible repeat (first | apply Kd.R_alloc | apply Kd.R_drewN | apply Kd.R_drew)); exact HO_373001.out) hb); have n4_ := Aside0.mk (Kd.R_below (by (with_reducible repeat (first | apply Kd.R_alloc | apply Kd.R_drewN | apply Kd.R_drew)); exact HO_381000.out) hb); have n5_ := Aside0.mk (Kd.R_below (by (with_reducible repeat (first | apply Kd.R_alloc | apply Kd.R_drewN | apply Kd.R_drew)); exact HO_381001.out) hb); have n6_ := Aside0.mk (Kd.R_below (by (with_reducible repeat (first | apply Kd.R_alloc | apply Kd.R_drewN | apply Kd.R_drew)); exact HO399.out) hb); have n7_ := Aside0.mk (Kd.R_below (by (with_reducible repeat (first | apply Kd.R_alloc | apply Kd.R_drewN | apply Kd.R_drew)); exact HO402.out) hb); have n8_ := Aside0.mk (Kd.R_below (by (with_reducible repeat (first | apply Kd.R_alloc | apply Kd.R_drewN | apply Kd.R_drew)); exact HO405.out) hb); have n9_ := Aside0.mk (Kd.R_below (by (with_reducible repeat (first | apply Kd.R_alloc | apply Kd.R_drewN | apply Kd.R_drew)); exact HO408.out) hb); have n10_ := Aside0.mk (blk_below (g := gb350) (o := .cells #[.slice A0_0 l0_0.length c0_0, .slice A0_1 l0_1.length c0_1] 25 (0, 0)) (by (with_reducible repeat (first | refine blk_drewN ?_ _ | refine blk_drew ?_ | refine blk_alloc ?_ _)); exact BK350.out) hb); have n11_ := Aside0.mk (blk_below (g := gb365) (o := .cells #[.slice Ao23 t358.length co23, .slice Ao26 t361.length co26] 29 (0, 0)) (by (with_reducible repeat (first | refine blk_drewN ?_ _ | refine blk_drew ?_ | refine blk_alloc ?_ _)); exact BK365.out) hb); have n12_ := Aside0.mk (blk_below (g := gb372) (o := .cells #[.slice Ao30 t390.length co30, .slice Ao34 t391.length co34] 29 (0, 0)) (by (with_reducible repeat (first | refine blk_drewN ?_ _ | refine blk_drew ?_ | refine blk_alloc ?_ _)); exact BK372.out) hb); have n13_ := Aside0.mk (blk_below (g := gb380) (o := .cells #[.slice Ao37 t373.length co37, .slice Ao42 t376.length co42] 29 (0, 0)) (by (with_reducible repeat (first | refine blk_drewN ?_ _ | refine blk_drew ?_ | refine blk_alloc ?_ _)); exact BK380.out) hb); have n14_ := Aside0.mk (below_step (by repeat (first | (with_reducible first | exact HB.out | apply below_alloc | apply pw_below_drewN | apply below_drew1 | refine below_set ?_ GE350.out | refine below_set ?_ GE365.out | refine below_set ?_ GE372.out | refine below_set ?_ GE380.out) | exact HB.out)) hb); have n15_ := Aside0.mk (hbox); have n16_ := Aside0.mk ((by rw [hg]; exact (below_size (by repeat (first | (with_reducible first | exact HB.out | apply below_alloc | apply pw_below_drewN | apply below_drew1 | refine below_set ?_ GE350.out | refine below_set ?_ GE365.out | refine below_set ?_ GE372.out | refine below_set ?_ GE380.out) | exact HB.out))) : w.heap.size ≤ gb410)); have n17_ := Aside0.mk ((by rw [hg]; exact (below_size (by repeat (first | (with_reducible first | exact HB.out | apply below_alloc | apply pw_below_drewN | apply below_drew1 | refine below_set ?_ GE350.out | refine below_set ?_ GE365.out | refine below_set ?_ GE372.out | refine below_set ?_ GE380.out) | exact HB.out))) : w.heap.size ≤ gb410)); have n18_ := Aside0.mk ((by rw [hg]; exact Nat.ne_of_lt (blk_lt (g := gb350) (o := .cells #[.slice A0_0 l0_0.length c0_0, .slice A0_1 l0_1.length c0_1] 25 (0, 0)) (by (with_reducible repeat (first | refine blk_drewN ?_ _ | refine blk_drew ?_ | refine blk_alloc ?_ _)); exact BK350.out)) : gb350 ≠ gb410)); have n19_ := Aside0.mk ((by rw [hg]; exact Nat.ne_of_gt (blk_lt (g := gb350) (o := .cells #[.slice A0_0 l0_0.length c0_0, .slice A0_1 l0_1.length c0_1] 25 (0, 0)) (by (with_reducible repeat (first | refine blk_drewN ?_ _ | refine blk_drew ?_ | refine blk_alloc ?_ _)); exact BK350.out)) : gb410 ≠ gb350)); have n20_ := Aside0.mk ((by rw [hg]; exact Nat.ne_of_lt (blk_lt (g := gb365) (o := .cells #[.slice Ao23 t358.length co23, .slice Ao26 t361.length co26] 29 (0, 0)) (by (with_reducible repeat (first | refine blk_drewN ?_ _ | refine blk_drew ?_ | refine blk_alloc ?_ _)); exact BK365.out)) : gb365 ≠ gb410)); have n21_ := Aside0.mk ((by rw [hg]; exact Nat.ne_of_gt (blk_lt (g := gb365) (o := .cells #[.slice Ao23 t358.length co23, .slice Ao26 t361.length co26] 29 (0, 0)) (by (with_reducible repeat (first | refine blk_drewN ?_ _ | refine blk_drew ?_ | refine blk_alloc ?_ _)); exact BK365.out)) : gb410 ≠ gb365)); have n22_ := Aside0.mk ((by rw [hg]; exact Nat.ne_of_lt (blk_lt (g := gb372) (o := .cells #[.slice Ao30 t390.length co30, .slice Ao34 t391.length co34] 29 (0, 0)) (by (with_reducible repeat (first | refine blk_drewN ?_ _ | refine blk_drew ?_ | refine blk_alloc ?_ _)); exact BK372.out)) : gb372 ≠ gb410)); have n23_ := Aside0.mk ((by rw [hg]; exact Nat.ne_of_gt (blk_lt (g := gb372) (o := .cells #[.slice Ao30 t390.length co30, .slice Ao34 t391.length co34] 29 (0, 0)) (by (with_reducible repeat (first | refine blk_drewN ?_ _ | refine blk_drew ?_ | refine blk_alloc ?_ _)); exact BK372.out)) : gb410 ≠ gb372)); have n24_ := Aside0.mk ((by rw [hg]; exact Nat.ne_of_lt (blk_lt (g := gb380) (o := .cells #[.slice Ao37 t373.length co37, .slice Ao42 t376.length co42] 29 (0, 0)) (by (with_reducible repeat (first | refine blk_drewN ?_ _ | refine blk_drew ?_ | refine blk_alloc ?_ _)); exact BK380.out)) : gb380 ≠ gb410)); have n25_ := Aside0.mk ((by rw [hg]; exact Nat.ne_of_gt (blk_lt (g := gb380) (o := .cells #[.slice Ao37 t373.length co37, .slice Ao42 t376.length co42] 29 (0, 0)) (by (with_reducible repeat (first | refine blk_drewN ?_ _ | refine blk_drew ?_ | refine blk_alloc ?_ _)); exact BK380.out)) : gb410 ≠ gb380)); clear HO_366000; clear HO_366001; clear HO_373000; clear HO_373001; clear HO_381000; clear HO_381001; clear HO399; clear HO402; clear HO405; clear HO408; clear BK350; clear BK365; clear BK372; clear BK380; clear HB; have HO_366000 := n0_; have HO_366001 := n1_; have HO_373000 := n2_; have HO_373001 := n3_; have HO_381000 := n4_; have HO_381001 := n5_; have HO399 := n6_; have HO402 := n7_; have HO405 := n8_; have HO408 := n9_; have BK350 := n10_; have BK365 := n11_; have BK372 := n12_; have BK380 := n13_; have HB := n14_; have BK410 := n15_; have GW410 := n16_; have GE410 := n17_; have NB350_410 := n18_; have NB410_350 := n19_; have NB365_410 := n20_; have NB410_365 := n21_; have NB372_410 := n22_; have NB410_372 := n23_; have NB380_410 := n24_; have NB410_380 := n25_; clear n0_ n1_ n2_ n3_ n4_ n5_ n6_ n7_ n8_ n9_ n10_ n11_ n12_ n13_ n14_ n15_ n16_ n17_ n18_ n19_ n20_ n21_ n22_ n23_ n24_ n25_; clear hb hbox hg; obtain ⟨Ao126, co126, eo126⟩ := Kd.R_slice HO405.out; subst eo126; have hnb127 := NB410_350.out; have hnc127 := NB350_410.out; have hnb128 := NB410_365.out; have hnc128 := NB365_410.out; have hnb129 := NB410_372.out; have hnc129 := NB372_410.out; have hnb130 := NB410_380.out; have hnc130 := NB380_410.out; have hcz131_0 : w125.cell? ⟨gb410, 0, none⟩ = some (.slice none 0 0) := (blk_cell BK410.out 0).trans rfl; have hcz131_1 : w125.cell? ⟨gb410, 1, none⟩ = some (.slice none 0 0) := (blk_cell BK410.out 1).trans rfl; have hfz131_0 := blk_frozen BK410.out 0; have hfz131_1 := blk_frozen BK410.out 1; obtain ⟨Ao132, co132, eo132⟩ := Kd.R_slice HO408.out; subst eo132))
           (try simp only [Act.put, List.setIfInBounds_toArray, List.set_cons_zero, List.set_cons_succ])
           go_cut [97] (fun v97 wc => ∃ (kq : Nat) (x97_109 : Bool), v97 = .bool x97_109 ∧ Aside0 (laws_FnExactLoseHost.j2 kq t393 x97_109 t394 t395 = some r) ∧ Aside0 (kq ≤ kj65) ∧ Aside0 (Kd.R Kd.string 9 wc w.heap.size (fun k_ => some k_ ≠ ((.slice Ao30 t390.length co30) : Value).ownBlock ∧ some k_ ≠ ((.slice Ao37 t373.length co37) : Value).ownBlock ∧ some k_ ≠ ((.slice Ao126 t403.length co126) : Value).ownBlock) (.slice Ao23 t358.length co23) t358) ∧ Aside0 (Kd.R k76 76 wc w.heap.size (fun k_ => some k_ ≠ ((.slice Ao34 t391.length co34) : Value).ownBlock ∧ some k_ ≠ ((.slice Ao42 t376.length co42) : Value).ownBlock ∧ some k_ ≠ ((.slice Ao132 t406.length co132) : Value).ownBlock) (.slice Ao26 t361.length co26) t361) ∧ Aside0 (Kd.R Kd.string 9 wc w.heap.size (fun k_ => some k_ ≠ ((.slice Ao23 t358.length co23) : Value).ownBlock ∧ some k_ ≠ ((.slice Ao37 t373.length co37) : Value).ownBlock ∧ some k_ ≠ ((.slice Ao126 t403.length co126) : Value).ownBlock) (.slice Ao30 t390.length co30) t390) ∧ Aside0 (Kd.R k76 76 wc w.heap.size (fun k_ => some k_ ≠ ((.slice Ao26 t361.length co26) : Value).ownBlock ∧ some k_ ≠ ((.slice Ao42 t376.length co42) : Value).ownBlock ∧ some k_ ≠ ((.slice Ao132 t406.length co132) : Value).ownBlock) (.slice Ao34 t391.length co34) t391) ∧ Aside0 (Kd.R Kd.string 9 wc w.heap.size (fun k_ => some k_ ≠ ((.slice Ao23 t358.length co23) : Value).ownBlock ∧ some k_ ≠ ((.slice Ao30 t390.length co30) : Value).ownBlock ∧ some k_ ≠ ((.slice Ao126 t403.length co126) : Value).ownBlock) (.slice Ao37 t373.length co37) t394) ∧ Aside0 (Kd.R k76 76 wc w.heap.size (fun k_ => some k_ ≠ ((.slice Ao26 t361.length co26) : Value).ownBlock ∧ some k_ ≠ ((.slice Ao34 t391.length co34) : Value).ownBlock ∧ some k_ ≠ ((.slice Ao132 t406.length co132) : Value).ownBlock) (.slice Ao42 t376.length co42) t395) ∧ Aside0 (Kd.R Kd.string 9 wc w.heap.size (fun k_ => some k_ ≠ ((.slice Ao23 t358.length co23) : Value).ownBlock ∧ some k_ ≠ ((.slice Ao30 t390.length co30) : Value).ownBlock ∧ some k_ ≠ ((.slice Ao37 t373.length co37) : Value).ownBlock) (.slice Ao126 t403.length co126) t403) ∧ Aside0 (Kd.R k76 76 wc w.heap.size (fun k_ => some k_ ≠ ((.slice Ao26 t361.length co26) : Value).ownBlock ∧ some k_ ≠ ((.slice Ao34 t391.length co34) : Value).ownBlock ∧ some k_ ≠ ((.slice Ao42 t376.length co42) : Value).ownBlock) (.slice Ao132 t406.length co132) t406) ∧ Aside0 (wc.heap[gb350]? = some (.cells #[(.slice A0_0 l0_0.length c0_0), (.slice A0_1 l0_1.length c0_1)] 25 (0, 0))) ∧ Aside0 (wc.heap[gb365]? = some (.cells #[(.slice Ao23 t358.length co23), (.slice Ao26 t361.length co26)] 29 (0, 0))) ∧ Aside0 (wc.heap[gb372]? = some (.cells #[(.slice Ao30 t390.length co30), (.slice Ao34 t391.length co34)] 29 (0, 0))) ∧ Aside0 (wc.heap[gb380]? = some (.cells #[(.slice Ao37 t373.length co37), (.slice Ao42 t376.length co42)] 29 (0, 0))) ∧ Aside0 (wc.heap[gb410]? = some (.cells #[(.slice Ao126 t403.length co126), (.slice Ao132 t406.length co132)] 29 (0, 0))) ∧ Aside0 (Below w.heap.size w wc))
           case first =>
            have H := HC110.out
            clear HC110
            replace H := Option.bind_eq_some_iff.mp H
            obtain ⟨t411, A1330, H⟩ := H
            replace H : (if t411 = true then (laws_FnExactLoseHost.j2 kj65 t393 (t409 != t364) t394 t395) else (laws_FnExactLoseHost.j2 kj65 t393 true t394 t395)) = some r := H
            have A133 := Aside0.mk A1330
            clear A1330
            by_cases c134 : t411 = true
            ·subst c134
             have H1 : (laws_FnExactLoseHost.j2 kj65 t393 (t409 != t364) t394 t395) = some r := by rw [if_pos rfl] at H; exact H
             clear H
             have H := H1
             clear H1
             have H' := Aside0.mk H
             clear H
             have hnb135 := NB410_350.out
             have hnc135 := NB350_410.out
             have hnb136 := NB410_365.out
             have hnc136 := NB365_410.out
             have hnb137 := NB410_372.out
             have hnc137 := NB372_410.out
             have hnb138 := NB410_380.out
             have hnc138 := NB380_410.out
             have hcz139_0 : w125.cell? ⟨gb410, 0, none⟩ = some (.slice none 0 0) := (blk_cell BK410.out 0).trans rfl
             have hcz139_1 : w125.cell? ⟨gb410, 1, none⟩ = some (.slice none 0 0) := (blk_cell BK410.out 1).trans rfl
             have hfz139_0 := blk_frozen BK410.out 0
             have hfz139_1 := blk_frozen BK410.out 1
             have hnb140 := NB365_350.out
             have hnc140 := NB350_365.out
             have hnb141 := NB365_372.out
             have hnc141 := NB372_365.out
             have hnb142 := NB365_380.out
             have hnc142 := NB380_365.out
             have hcz143_0 : w125.cell? ⟨gb365, 0, none⟩ = some (.slice Ao23 t358.length co23) := (blk_cell BK365.out 0).trans rfl
             have hcz143_1 : w125.cell? ⟨gb365, 1, none⟩ = some (.slice Ao26 t361.length co26) := (blk_cell BK365.out 1).trans rfl
             have hfz143_0 := blk_frozen BK365.out 0
             have hfz143_1 := blk_frozen BK365.out 1
             go_wp2_with (first | ((with_reducible refine gate_callee (f := 13) rfl ?_); refine goesL_ (some 91) rfl rfl Try.func13 (by kernel_rfl) rfl #[.agg #[.slice Ao126 t403.length co126, .slice Ao132 t406.length co132], .agg #[.slice Ao23 t358.length co23, .slice Ao26 t361.length co26]] rfl (by (try simp only [List.map_toArray, List.map_cons, List.map_nil]); first | done | rfl | (simp only [List.length_drop, List.length_take]; rfl)) ?_; (with_reducible refine (laws_eqDisk.calls kj65 _ _ t403 _ _ t406 _ _ t358 _ _ t361 true _ ?side1 ?side2 ?side3 ?side4 ?side5 ?side6 ?side7 ?side8 A133.out).mono ?_); (case side1 => refine (Kd.R_reads' (e := 9) (base := w.heap.size) (ok := fun k_ => ((((True ∧ some k_ ≠ (.slice Ao23 t358.length co23 : Value).ownBlock) ∧ some k_ ≠ (.slice Ao30 t390.length co30 : Value).ownBlock) ∧ some k_ ≠ (.slice Ao37 t373.length co37 : Value).ownBlock) ∧ some k_ ≠ (.slice Ao122 t397.length co122 : Value).ownBlock)) (n := t403.length) (c := co126) ?_).2.2; exact (by (with_reducible repeat (first | apply Kd.R_alloc | apply Kd.R_drewN | apply Kd.R_drew)); exact (Kd.R_mono (Kd.R_far (p := ⟨gb410, 1, none⟩) (Kd.R_far (p := ⟨gb410, 0, none⟩) (Kd.R_types HO405.out BK410.out (by decide)) (fun _ hk => hk.2) (.slice Ao126 t403.length co126)) (fun _ hk => hk.2) (.slice Ao132 t406.length co132)) (fun _ h_ => h_.1)))); (case side2 => exact (Kd.R_reads' HO405.out).2.1); (case side3 => refine (Kd.R_reads' (e := 76) (base := w.heap.size) (ok := fun k_ => ((((True ∧ some k_ ≠ (.slice Ao26 t361.length co26 : Value).ownBlock) ∧ some k_ ≠ (.slice Ao34 t391.length co34 : Value).ownBlock) ∧ some k_ ≠ (.slice Ao42 t376.length co42 : Value).ownBlock) ∧ some k_ ≠ (.slice Ao123 t400.length co123 : Value).ownBlock)) (n := t406.length) (c := co132) ?_).2.2; exact (by (with_reducible repeat (first | apply Kd.R_alloc | apply Kd.R_drewN | apply Kd.R_drew)); exact (Kd.R_mono (Kd.R_far (p := ⟨gb410, 1, none⟩) (Kd.R_far (p := ⟨gb410, 0, none⟩) (Kd.R_types HO408.out BK410.out (by decide)) (fun _ hk => hk.2) (.slice Ao126 t403.length co126)) (fun _ hk => hk.2) (.slice Ao132 t406.length co132)) (fun _ h_ => h_.1)))); (case side4 => exact (Kd.R_reads' HO408.out).2.1); (case side5 => refine (Kd.R_reads' (e := 9) (base := w.heap.size) (ok := fun k_ => (((some k_ ≠ (.slice Ao30 t390.length co30 : Value).ownBlock ∧ some k_ ≠ (.slice Ao37 t373.length co37 : Value).ownBlock) ∧ some k_ ≠ (.slice Ao122 t397.length co122 : Value).ownBlock) ∧ some k_ ≠ (.slice Ao126 t403.length co126 : Value).ownBlock)) (n := t358.length) (c := co23) ?_).2.2; exact (by (with_reducible repeat (first | apply Kd.R_alloc | apply Kd.R_drewN | apply Kd.R_drew)); exact (Kd.R_mono (Kd.R_far (p := ⟨gb410, 1, none⟩) (Kd.R_far (p := ⟨gb410, 0, none⟩) (Kd.R_types HO_366000.out BK410.out (by decide)) (fun _ hk => hk.2) (.slice Ao126 t403.length co126)) (fun _ hk => hk.2) (.slice Ao132 t406.length co132)) (fun _ h_ => h_.1)))); (case side6 => exact (Kd.R_reads' HO_366000.out).2.1); (case side7 => refine (Kd.R_reads' (e := 76) (base := w.heap.size) (ok := fun k_ => (((some k_ ≠ (.slice Ao34 t391.length co34 : Value).ownBlock ∧ some k_ ≠ (.slice Ao42 t376.length co42 : Value).ownBlock) ∧ some k_ ≠ (.slice Ao123 t400.length co123 : Value).ownBlock) ∧ some k_ ≠ (.slice Ao132 t406.length co132 : Value).ownBlock)) (n := t361.length) (c := co26) ?_).2.2; exact (by (with_reducible repeat (first | apply Kd.R_alloc | apply Kd.R_drewN | apply Kd.R_drew)); exact (Kd.R_mono (Kd.R_far (p := ⟨gb410, 1, none⟩) (Kd.R_far (p := ⟨gb410, 0, none⟩) (Kd.R_types HO_366001.out BK410.out (by decide)) (fun _ hk => hk.2) (.slice Ao126 t403.length co126)) (fun _ hk => hk.2) (.slice Ao132 t406.length co132)) (fun _ h_ => h_.1)))); (case side8 => exact (Kd.R_reads' HO_366001.out).2.1); rintro e w144 ⟨rfl, hb⟩; refine ⟨_, rfl, ?_⟩; have n0_ := Aside0.mk (Kd.R_below (by (with_reducible repeat (first | apply Kd.R_alloc | apply Kd.R_drewN | apply Kd.R_drew)); exact (Kd.R_mono (Kd.R_far (p := ⟨gb410, 1, none⟩) (Kd.R_far (p := ⟨gb410, 0, none⟩) (Kd.R_types HO_366000.out BK410.out (by decide)) (fun _ hk => hk.2) (.slice Ao126 t403.length co126)) (fun _ hk => hk.2) (.slice Ao132 t406.length co132)) (fun _ h_ => h_.1))) hb); have n1_ := Aside0.mk (Kd.R_below (by (with_reducible repeat (first | apply Kd.R_alloc | apply Kd.R_drewN | apply Kd.R_drew)); exact (Kd.R_mono (Kd.R_far (p := ⟨gb410, 1, none⟩) (Kd.R_far (p := ⟨gb410, 0, none⟩) (Kd.R_types HO_366001.out BK410.out (by decide)) (fun _ hk => hk.2) (.slice Ao126 t403.length co126)) (fun _ hk => hk.2) (.slice Ao132 t406.length co132)) (fun _ h_ => h_.1))) hb); have n2_ := Aside0.mk (Kd.R_below (by (with_reducible repeat (first | apply Kd.R_alloc | apply Kd.R_drewN | apply Kd.R_drew)); exact (Kd.R_mono (Kd.R_far (p := ⟨gb410, 1, none⟩) (Kd.R_far (p := ⟨gb410, 0, none⟩) (Kd.R_types HO_373000.out BK410.out (by decide)) (fun _ hk => hk.2) (.slice Ao126 t403.length co126)) (fun _ hk => hk.2) (.slice Ao132 t406.length co132)) (fun _ h_ => h_.1))) hb); have n3_ := Aside0.mk (Kd.R_below (by (with_reducible repeat (first | apply Kd.R_alloc | apply Kd.R_drewN | apply Kd.R_drew)); exact (Kd.R_mono (Kd.R_far (p := ⟨gb410, 1, none⟩) (Kd.R_far (p := ⟨gb410, 0, none⟩) (Kd.R_types HO_373001.out BK410.out (by decide)) (fun _ hk => hk.2) (.slice Ao126 t403.length co126)) (fun _ hk => hk.2) (.slice Ao132 t406.length co132)) (fun _ h_ => h_.1))) hb); have n4_ := Aside0.mk (Kd.R_below (by (with_reducible repeat (first | apply Kd.R_alloc | apply Kd.R_drewN | apply Kd.R_drew)); exact (Kd.R_mono (Kd.R_far (p := ⟨gb410, 1, none⟩) (Kd.R_far (p := ⟨gb410, 0, none⟩) (Kd.R_types HO_381000.out BK410.out (by decide)) (fun _ hk => hk.2) (.slice Ao126 t403.length co126)) (fun _ hk => hk.2) (.slice Ao132 t406.length co132)) (fun _ h_ => h_.1))) hb); have n5_ := Aside0.mk (Kd.R_below (by (with_reducible repeat (first | apply Kd.R_alloc | apply Kd.R_drewN | apply Kd.R_drew)); exact (Kd.R_mono (Kd.R_far (p := ⟨gb410, 1, none⟩) (Kd.R_far (p := ⟨gb410, 0, none⟩) (Kd.R_types HO_381001.out BK410.out (by decide)) (fun _ hk => hk.2) (.slice Ao126 t403.length co126)) (fun _ hk => hk.2) (.slice Ao132 t406.length co132)) (fun _ h_ => h_.1))) hb); have n6_ := Aside0.mk (Kd.R_below (by (with_reducible repeat (first | apply Kd.R_alloc | apply Kd.R_drewN | apply Kd.R_drew)); exact (Kd.R_mono (Kd.R_far (p := ⟨gb410, 1, none⟩) (Kd.R_far (p := ⟨gb410, 0, none⟩) (Kd.R_types HO399.out BK410.out (by decide)) (fun _ hk => hk.2) (.slice Ao126 t403.length co126)) (fun _ hk => hk.2) (.slice Ao132 t406.length co132)) (fun _ h_ => h_.1))) hb); have n7_ := Aside0.mk (Kd.R_below (by (with_reducible repeat (first | apply Kd.R_alloc | apply Kd.R_drewN | apply Kd.R_drew)); exact (Kd.R_mono (Kd.R_far (p := ⟨gb410, 1, none⟩) (Kd.R_far (p := ⟨gb410, 0, none⟩) (Kd.R_types HO402.out BK410.out (by decide)) (fun _ hk => hk.2) (.slice Ao126 t403.length co126)) (fun _ hk => hk.2) (.slice Ao132 t406.length co132)) (fun _ h_ => h_.1))) hb); have n8_ := Aside0.mk (Kd.R_below (by (with_reducible repeat (first | apply Kd.R_alloc | apply Kd.R_drewN | apply Kd.R_drew)); exact (Kd.R_mono (Kd.R_far (p := ⟨gb410, 1, none⟩) (Kd.R_far (p := ⟨gb410, 0, none⟩) (Kd.R_types HO405.out BK410.out (by decide)) (fun _ hk => hk.2) (.slice Ao126 t403.length co126)) (fun _ hk => hk.2) (.slice Ao132 t406.length co132)) (fun _ h_ => h_.1))) hb); have n9_ := Aside0.mk (Kd.R_below (by (with_reducible repeat (first | apply Kd.R_alloc | apply Kd.R_drewN | apply Kd.R_drew)); exact (Kd.R_mono (Kd.R_far (p := ⟨gb410, 1, none⟩) (Kd.R_far (p := ⟨gb410, 0, none⟩) (Kd.R_types HO408.out BK410.out (by decide)) (fun _ hk => hk.2) (.slice Ao126 t403.length co126)) (fun _ hk => hk.2) (.slice Ao132 t406.length co132)) (fun _ h_ => h_.1))) hb); have n10_ := Aside0.mk (blk_below (g := gb350) (o := .cells #[.slice A0_0 l0_0.length c0_0, .slice A0_1 l0_1.length c0_1] 25 (0, 0)) (by (with_reducible repeat (first | refine blk_drewN ?_ _ | refine blk_drew ?_ | refine blk_alloc ?_ _)); refine blk_far ?_ NB350_410.out _; (with_reducible repeat (first | refine blk_drewN ?_ _ | refine blk_drew ?_ | refine blk_alloc ?_ _)); refine blk_far ?_ NB350_410.out _; (with_reducible repeat (first | refine blk_drewN ?_ _ | refine blk_drew ?_ | refine blk_alloc ?_ _)); exact BK350.out) hb); have n11_ := Aside0.mk (blk_below (g := gb365) (o := .cells #[.slice Ao23 t358.length co23, .slice Ao26 t361.length co26] 29 (0, 0)) (by (with_reducible repeat (first | refine blk_drewN ?_ _ | refine blk_drew ?_ | refine blk_alloc ?_ _)); refine blk_far ?_ NB365_410.out _; (with_reducible repeat (first | refine blk_drewN ?_ _ | refine blk_drew ?_ | refine blk_alloc ?_ _)); refine blk_far ?_ NB365_410.out _; (with_reducible repeat (first | refine blk_drewN ?_ _ | refine blk_drew ?_ | refine blk_alloc ?_ _)); exact BK365.out) hb); have n12_ := Aside0.mk (blk_below (g := gb372) (o := .cells #[.slice Ao30 t390.length co30, .slice Ao34 t391.length co34] 29 (0, 0)) (by (with_reducible repeat (first | refine blk_drewN ?_ _ | refine blk_drew ?_ | refine blk_alloc ?_ _)); refine blk_far ?_ NB372_410.out _; (with_reducible repeat (first | refine blk_drewN ?_ _ | refine blk_drew ?_ | refine blk_alloc ?_ _)); refine blk_far ?_ NB372_410.out _; (with_reducible repeat (first | refine blk_drewN ?_ _ | refine blk_drew ?_ | refine blk_alloc ?_ _)); exact BK372.out) hb); have n13_ := Aside0.mk (blk_below (g := gb380) (o := .cells #[.slice Ao37 t373.length co37, .slice Ao42 t376.length co42] 29 (0, 0)) (by (with_reducible repeat (first | refine blk_drewN ?_ _ | refine blk_drew ?_ | refine blk_alloc ?_ _)); refine blk_far ?_ NB380_410.out _; (with_reducible repeat (first | refine blk_drewN ?_ _ | refine blk_drew ?_ | refine blk_alloc ?_ _)); refine blk_far ?_ NB380_410.out _; (with_reducible repeat (first | refine blk_drewN ?_ _ | refine blk_drew ?_ | refine blk_alloc ?_ _)); exact BK380.out) hb); have n14_ := Aside0.mk (blk_below (g := gb410) (o := .cells #[.slice Ao126 t403.length co126, .slice Ao132 t406.length co132] 29 (0, 0)) (by (with_reducible repeat (first | refine blk_drewN ?_ _ | refine blk_drew ?_ | refine blk_alloc ?_ _)); refine blk_put (cs := #[.slice Ao126 t403.length co126, .slice none 0 0]) ?_ 1 _ rfl; (with_reducible repeat (first | refine blk_drewN ?_ _ | refine blk_drew ?_ | refine blk_alloc ?_ _)); refine blk_put (cs := #[.slice none 0 0, .slice none 0 0]) ?_ 0 _ rfl; (with_reducible repeat (first | refine blk_drewN ?_ _ | refine blk_drew ?_ | refine blk_alloc ?_ _)); exact BK410.out) hb); have n15_ := Aside0.mk (below_step (by repeat (first | (with_reducible first | exact HB.out | apply below_alloc | apply pw_below_drewN | apply below_drew1 | refine below_set ?_ GE350.out | refine below_set ?_ GE365.out | refine below_set ?_ GE372.out | refine below_set ?_ GE380.out | refine below_set ?_ GE410.out) | exact HB.out)) hb); clear HO_366000; clear HO_366001; clear HO_373000; clear HO_373001; clear HO_381000; clear HO_381001; clear HO399; clear HO402; clear HO405; clear HO408; clear BK350; clear BK365; clear BK372; clear BK380; clear BK410; clear HB; have HO_366000 := n0_; have HO_366001 := n1_; have HO_373000 := n2_; have HO_373001 := n3_; have HO_381000 := n4_; have HO_381001 := n5_; have HO399 := n6_; have HO402 := n7_; have HO405 := n8_; have HO408 := n9_; have BK350 := n10_; have BK365 := n11_; have BK372 := n12_; have BK380 := n13_; have BK410 := n14_; have HB := n15_; clear n0_ n1_ n2_ n3_ n4_ n5_ n6_ n7_ n8_ n9_ n10_ n11_ n12_ n13_ n14_ n15_; (try clear hb); (try clear hb2); (try clear hk); (try clear hi)))
             go_meet
             case rel => exact ⟨_, ((t409 != t364)), (by first | rfl | (simp; done) | (simp [*]; done)), H', ⟨by have := HJ12.out; have := HJ65.out; first | omega | exact Nat.le_refl _⟩, ⟨by (try simp only [hl373000_65]); (try simp only [hl373001_65]); (with_reducible repeat (first | apply Kd.R_alloc | apply Kd.R_drewN | apply Kd.R_drew)); exact Kd.R_mono HO_366000.out (fun _ hk => ⟨hk.1.1.1, ⟨hk.1.1.2, hk.2⟩⟩)⟩, ⟨by (try simp only [hl373000_65]); (try simp only [hl373001_65]); (with_reducible repeat (first | apply Kd.R_alloc | apply Kd.R_drewN | apply Kd.R_drew)); exact Kd.R_mono HO_366001.out (fun _ hk => ⟨hk.1.1.1, ⟨hk.1.1.2, hk.2⟩⟩)⟩, ⟨by (try simp only [hl373000_65]); (try simp only [hl373001_65]); (with_reducible repeat (first | apply Kd.R_alloc | apply Kd.R_drewN | apply Kd.R_drew)); exact Kd.R_mono HO_373000.out (fun _ hk => ⟨hk.1.1.1, ⟨hk.1.1.2, hk.2⟩⟩)⟩, ⟨by (try simp only [hl373000_65]); (try simp only [hl373001_65]); (with_reducible repeat (first | apply Kd.R_alloc | apply Kd.R_drewN | apply Kd.R_drew)); exact Kd.R_mono HO_373001.out (fun _ hk => ⟨hk.1.1.1, ⟨hk.1.1.2, hk.2⟩⟩)⟩, ⟨by (try simp only [hl373000_65]); (try simp only [hl373001_65]); (with_reducible repeat (first | apply Kd.R_alloc | apply Kd.R_drewN | apply Kd.R_drew)); exact Kd.R_mono HO_381000.out (fun _ hk => ⟨hk.1.1.1, ⟨hk.1.1.2, hk.2⟩⟩)⟩, ⟨by (try simp only [hl373000_65]); (try simp only [hl373001_65]); (with_reducible repeat (first | apply Kd.R_alloc | apply Kd.R_drewN | apply Kd.R_drew)); exact Kd.R_mono HO_381001.out (fun _ hk => ⟨hk.1.1.1, ⟨hk.1.1.2, hk.2⟩⟩)⟩, ⟨by (try simp only [hl373000_65]); (try simp only [hl373001_65]); (with_reducible repeat (first | apply Kd.R_alloc | apply Kd.R_drewN | apply Kd.R_drew)); exact Kd.R_mono HO405.out (fun _ hk => ⟨hk.1.1.1.2, ⟨hk.1.1.2, hk.1.2⟩⟩)⟩, ⟨by (try simp only [hl373000_65]); (try simp only [hl373001_65]); (with_reducible repeat (first | apply Kd.R_alloc | apply Kd.R_drewN | apply Kd.R_drew)); exact Kd.R_mono HO408.out (fun _ hk => ⟨hk.1.1.1.2, ⟨hk.1.1.2, hk.1.2⟩⟩)⟩, ⟨by (try simp only [hl373000_65]); (try simp only [hl373001_65]); (with_reducible repeat (first | refine blk_drewN ?_ _ | refine blk_drew ?_ | refine blk_alloc ?_ _)); exact BK350.out⟩, ⟨by (try simp only [hl373000_65]); (try simp only [hl373001_65]); (with_reducible repeat (first | refine blk_drewN ?_ _ | refine blk_drew ?_ | refine blk_alloc ?_ _)); exact BK365.out⟩, ⟨by (try simp only [hl373000_65]); (try simp only [hl373001_65]); (with_reducible repeat (first | refine blk_drewN ?_ _ | refine blk_drew ?_ | refine blk_alloc ?_ _)); exact BK372.out⟩, ⟨by (try simp only [hl373000_65]); (try simp only [hl373001_65]); (with_reducible repeat (first | refine blk_drewN ?_ _ | refine blk_drew ?_ | refine blk_alloc ?_ _)); exact BK380.out⟩, ⟨by (try simp only [hl373000_65]); (try simp only [hl373001_65]); (with_reducible repeat (first | refine blk_drewN ?_ _ | refine blk_drew ?_ | refine blk_alloc ?_ _)); exact BK410.out⟩, ⟨by repeat (first | (with_reducible first | exact HB.out | apply below_alloc | apply pw_below_drewN | apply below_drew1 | refine below_set ?_ GE350.out | refine below_set ?_ GE365.out | refine below_set ?_ GE372.out | refine below_set ?_ GE380.out | refine below_set ?_ GE410.out) | exact HB.out)⟩⟩
            ·replace c134 := Bool.eq_false_iff.mpr c134
             subst c134
             have H1 : (laws_FnExactLoseHost.j2 kj65 t393 true t394 t395) = some r := by rw [if_neg (show ¬ (false = true) by decide)] at H; exact H
             clear H
             have H := H1
             clear H1
             have H' := Aside0.mk H
             clear H
             have hnb145 := NB410_350.out
             have hnc145 := NB350_410.out
             have hnb146 := NB410_365.out
             have hnc146 := NB365_410.out
             have hnb147 := NB410_372.out
             have hnc147 := NB372_410.out
             have hnb148 := NB410_380.out
             have hnc148 := NB380_410.out
             have hcz149_0 : w125.cell? ⟨gb410, 0, none⟩ = some (.slice none 0 0) := (blk_cell BK410.out 0).trans rfl
             have hcz149_1 : w125.cell? ⟨gb410, 1, none⟩ = some (.slice none 0 0) := (blk_cell BK410.out 1).trans rfl
             have hfz149_0 := blk_frozen BK410.out 0
             have hfz149_1 := blk_frozen BK410.out 1
             have hnb150 := NB365_350.out
             have hnc150 := NB350_365.out
             have hnb151 := NB365_372.out
             have hnc151 := NB372_365.out
             have hnb152 := NB365_380.out
             have hnc152 := NB380_365.out
             have hcz153_0 : w125.cell? ⟨gb365, 0, none⟩ = some (.slice Ao23 t358.length co23) := (blk_cell BK365.out 0).trans rfl
             have hcz153_1 : w125.cell? ⟨gb365, 1, none⟩ = some (.slice Ao26 t361.length co26) := (blk_cell BK365.out 1).trans rfl
             have hfz153_0 := blk_frozen BK365.out 0
             have hfz153_1 := blk_frozen BK365.out 1
             go_wp2_with (first | ((with_reducible refine gate_callee (f := 13) rfl ?_); refine goesL_ (some 91) rfl rfl Try.func13 (by kernel_rfl) rfl #[.agg #[.slice Ao126 t403.length co126, .slice Ao132 t406.length co132], .agg #[.slice Ao23 t358.length co23, .slice Ao26 t361.length co26]] rfl (by (try simp only [List.map_toArray, List.map_cons, List.map_nil]); first | done | rfl | (simp only [List.length_drop, List.length_take]; rfl)) ?_; (with_reducible refine (laws_eqDisk.calls kj65 _ _ t403 _ _ t406 _ _ t358 _ _ t361 false _ ?side1 ?side2 ?side3 ?side4 ?side5 ?side6 ?side7 ?side8 A133.out).mono ?_); (case side1 => refine (Kd.R_reads' (e := 9) (base := w.heap.size) (ok := fun k_ => ((((True ∧ some k_ ≠ (.slice Ao23 t358.length co23 : Value).ownBlock) ∧ some k_ ≠ (.slice Ao30 t390.length co30 : Value).ownBlock) ∧ some k_ ≠ (.slice Ao37 t373.length co37 : Value).ownBlock) ∧ some k_ ≠ (.slice Ao122 t397.length co122 : Value).ownBlock)) (n := t403.length) (c := co126) ?_).2.2; exact (by (with_reducible repeat (first | apply Kd.R_alloc | apply Kd.R_drewN | apply Kd.R_drew)); exact (Kd.R_mono (Kd.R_far (p := ⟨gb410, 1, none⟩) (Kd.R_far (p := ⟨gb410, 0, none⟩) (Kd.R_types HO405.out BK410.out (by decide)) (fun _ hk => hk.2) (.slice Ao126 t403.length co126)) (fun _ hk => hk.2) (.slice Ao132 t406.length co132)) (fun _ h_ => h_.1)))); (case side2 => exact (Kd.R_reads' HO405.out).2.1); (case side3 => refine (Kd.R_reads' (e := 76) (base := w.heap.size) (ok := fun k_ => ((((True ∧ some k_ ≠ (.slice Ao26 t361.length co26 : Value).ownBlock) ∧ some k_ ≠ (.slice Ao34 t391.length co34 : Value).ownBlock) ∧ some k_ ≠ (.slice Ao42 t376.length co42 : Value).ownBlock) ∧ some k_ ≠ (.slice Ao123 t400.length co123 : Value).ownBlock)) (n := t406.length) (c := co132) ?_).2.2; exact (by (with_reducible repeat (first | apply Kd.R_alloc | apply Kd.R_drewN | apply Kd.R_drew)); exact (Kd.R_mono (Kd.R_far (p := ⟨gb410, 1, none⟩) (Kd.R_far (p := ⟨gb410, 0, none⟩) (Kd.R_types HO408.out BK410.out (by decide)) (fun _ hk => hk.2) (.slice Ao126 t403.length co126)) (fun _ hk => hk.2) (.slice Ao132 t406.length co132)) (fun _ h_ => h_.1)))); (case side4 => exact (Kd.R_reads' HO408.out).2.1); (case side5 => refine (Kd.R_reads' (e := 9) (base := w.heap.size) (ok := fun k_ => (((some k_ ≠ (.slice Ao30 t390.length co30 : Value).ownBlock ∧ some k_ ≠ (.slice Ao37 t373.length co37 : Value).ownBlock) ∧ some k_ ≠ (.slice Ao122 t397.length co122 : Value).ownBlock) ∧ some k_ ≠ (.slice Ao126 t403.length co126 : Value).ownBlock)) (n := t358.length) (c := co23) ?_).2.2; exact (by (with_reducible repeat (first | apply Kd.R_alloc | apply Kd.R_drewN | apply Kd.R_drew)); exact (Kd.R_mono (Kd.R_far (p := ⟨gb410, 1, none⟩) (Kd.R_far (p := ⟨gb410, 0, none⟩) (Kd.R_types HO_366000.out BK410.out (by decide)) (fun _ hk => hk.2) (.slice Ao126 t403.length co126)) (fun _ hk => hk.2) (.slice Ao132 t406.length co132)) (fun _ h_ => h_.1)))); (case side6 => exact (Kd.R_reads' HO_366000.out).2.1); (case side7 => refine (Kd.R_reads' (e := 76) (base := w.heap.size) (ok := fun k_ => (((some k_ ≠ (.slice Ao34 t391.length co34 : Value).ownBlock ∧ some k_ ≠ (.slice Ao42 t376.length co42 : Value).ownBlock) ∧ some k_ ≠ (.slice Ao123 t400.length co123 : Value).ownBlock) ∧ some k_ ≠ (.slice Ao132 t406.length co132 : Value).ownBlock)) (n := t361.length) (c := co26) ?_).2.2; exact (by (with_reducible repeat (first | apply Kd.R_alloc | apply Kd.R_drewN | apply Kd.R_drew)); exact (Kd.R_mono (Kd.R_far (p := ⟨gb410, 1, none⟩) (Kd.R_far (p := ⟨gb410, 0, none⟩) (Kd.R_types HO_366001.out BK410.out (by decide)) (fun _ hk => hk.2) (.slice Ao126 t403.length co126)) (fun _ hk => hk.2) (.slice Ao132 t406.length co132)) (fun _ h_ => h_.1)))); (case side8 => exact (Kd.R_reads' HO_366001.out).2.1); rintro e w154 ⟨rfl, hb⟩; refine ⟨_, rfl, ?_⟩; have n0_ := Aside0.mk (Kd.R_below (by (with_reducible repeat (first | apply Kd.R_alloc | apply Kd.R_drewN | apply Kd.R_drew)); exact (Kd.R_mono (Kd.R_far (p := ⟨gb410, 1, none⟩) (Kd.R_far (p := ⟨gb410, 0, none⟩) (Kd.R_types HO_366000.out BK410.out (by decide)) (fun _ hk => hk.2) (.slice Ao126 t403.length co126)) (fun _ hk => hk.2) (.slice Ao132 t406.length co132)) (fun _ h_ => h_.1))) hb); have n1_ := Aside0.mk (Kd.R_below (by (with_reducible repeat (first | apply Kd.R_alloc | apply Kd.R_drewN | apply Kd.R_drew)); exact (Kd.R_mono (Kd.R_far (p := ⟨gb410, 1, none⟩) (Kd.R_far (p := ⟨gb410, 0, none⟩) (Kd.R_types HO_366001.out BK410.out (by decide)) (fun _ hk => hk.2) (.slice Ao126 t403.length co126)) (fun _ hk => hk.2) (.slice Ao132 t406.length co132)) (fun _ h_ => h_.1))) hb); have n2_ := Aside0.mk (Kd.R_below (by (with_reducible repeat (first | apply Kd.R_alloc | apply Kd.R_drewN | apply Kd.R_drew)); exact (Kd.R_mono (Kd.R_far (p := ⟨gb410, 1, none⟩) (Kd.R_far (p := ⟨gb410, 0, none⟩) (Kd.R_types HO_373000.out BK410.out (by decide)) (fun _ hk => hk.2) (.slice Ao126 t403.length co126)) (fun _ hk => hk.2) (.slice Ao132 t406.length co132)) (fun _ h_ => h_.1))) hb); have n3_ := Aside0.mk (Kd.R_below (by (with_reducible repeat (first | apply Kd.R_alloc | apply Kd.R_drewN | apply Kd.R_drew)); exact (Kd.R_mono (Kd.R_far (p := ⟨gb410, 1, none⟩) (Kd.R_far (p := ⟨gb410, 0, none⟩) (Kd.R_types HO_373001.out BK410.out (by decide)) (fun _ hk => hk.2) (.slice Ao126 t403.length co126)) (fun _ hk => hk.2) (.slice Ao132 t406.length co132)) (fun _ h_ => h_.1))) hb); have n4_ := Aside0.mk (Kd.R_below (by (with_reducible repeat (first | apply Kd.R_alloc | apply Kd.R_drewN | apply Kd.R_drew)); exact (Kd.R_mono (Kd.R_far (p := ⟨gb410, 1, none⟩) (Kd.R_far (p := ⟨gb410, 0, none⟩) (Kd.R_types HO_381000.out BK410.out (by decide)) (fun _ hk => hk.2) (.slice Ao126 t403.length co126)) (fun _ hk => hk.2) (.slice Ao132 t406.length co132)) (fun _ h_ => h_.1))) hb); have n5_ := Aside0.mk (Kd.R_below (by (with_reducible repeat (first | apply Kd.R_alloc | apply Kd.R_drewN | apply Kd.R_drew)); exact (Kd.R_mono (Kd.R_far (p := ⟨gb410, 1, none⟩) (Kd.R_far (p := ⟨gb410, 0, none⟩) (Kd.R_types HO_381001.out BK410.out (by decide)) (fun _ hk => hk.2) (.slice Ao126 t403.length co126)) (fun _ hk => hk.2) (.slice Ao132 t406.length co132)) (fun _ h_ => h_.1))) hb); have n6_ := Aside0.mk (Kd.R_below (by (with_reducible repeat (first | apply Kd.R_alloc | apply Kd.R_drewN | apply Kd.R_drew)); exact (Kd.R_mono (Kd.R_far (p := ⟨gb410, 1, none⟩) (Kd.R_far (p := ⟨gb410, 0, none⟩) (Kd.R_types HO399.out BK410.out (by decide)) (fun _ hk => hk.2) (.slice Ao126 t403.length co126)) (fun _ hk => hk.2) (.slice Ao132 t406.length co132)) (fun _ h_ => h_.1))) hb); have n7_ := Aside0.mk (Kd.R_below (by (with_reducible repeat (first | apply Kd.R_alloc | apply Kd.R_drewN | apply Kd.R_drew)); exact (Kd.R_mono (Kd.R_far (p := ⟨gb410, 1, none⟩) (Kd.R_far (p := ⟨gb410, 0, none⟩) (Kd.R_types HO402.out BK410.out (by decide)) (fun _ hk => hk.2) (.slice Ao126 t403.length co126)) (fun _ hk => hk.2) (.slice Ao132 t406.length co132)) (fun _ h_ => h_.1))) hb); have n8_ := Aside0.mk (Kd.R_below (by (with_reducible repeat (first | apply Kd.R_alloc | apply Kd.R_drewN | apply Kd.R_drew)); exact (Kd.R_mono (Kd.R_far (p := ⟨gb410, 1, none⟩) (Kd.R_far (p := ⟨gb410, 0, none⟩) (Kd.R_types HO405.out BK410.out (by decide)) (fun _ hk => hk.2) (.slice Ao126 t403.length co126)) (fun _ hk => hk.2) (.slice Ao132 t406.length co132)) (fun _ h_ => h_.1))) hb); have n9_ := Aside0.mk (Kd.R_below (by (with_reducible repeat (first | apply Kd.R_alloc | apply Kd.R_drewN | apply Kd.R_drew)); exact (Kd.R_mono (Kd.R_far (p := ⟨gb410, 1, none⟩) (Kd.R_far (p := ⟨gb410, 0, none⟩) (Kd.R_types HO408.out BK410.out (by decide)) (fun _ hk => hk.2) (.slice Ao126 t403.length co126)) (fun _ hk => hk.2) (.slice Ao132 t406.length co132)) (fun _ h_ => h_.1))) hb); have n10_ := Aside0.mk (blk_below (g := gb350) (o := .cells #[.slice A0_0 l0_0.length c0_0, .slice A0_1 l0_1.length c0_1] 25 (0, 0)) (by (with_reducible repeat (first | refine blk_drewN ?_ _ | refine blk_drew ?_ | refine blk_alloc ?_ _)); refine blk_far ?_ NB350_410.out _; (with_reducible repeat (first | refine blk_drewN ?_ _ | refine blk_drew ?_ | refine blk_alloc ?_ _)); refine blk_far ?_ NB350_410.out _; (with_reducible repeat (first | refine blk_drewN ?_ _ | refine blk_drew ?_ | refine blk_alloc ?_ _)); exact BK350.out) hb); have n11_ := Aside0.mk (blk_below (g := gb365) (o := .cells #[.slice Ao23 t358.length co23, .slice Ao26 t361.length co26] 29 (0, 0)) (by (with_reducible repeat (first | refine blk_drewN ?_ _ | refine blk_drew ?_ | refine blk_alloc ?_ _)); refine blk_far ?_ NB365_410.out _; (with_reducible repeat (first | refine blk_drewN ?_ _ | refine blk_drew ?_ | refine blk_alloc ?_ _)); refine blk_far ?_ NB365_410.out _; (with_reducible repeat (first | refine blk_drewN ?_ _ | refine blk_drew ?_ | refine blk_alloc ?_ _)); exact BK365.out) hb); have n12_ := Aside0.mk (blk_below (g := gb372) (o := .cells #[.slice Ao30 t390.length co30, .slice Ao34 t391.length co34] 29 (0, 0)) (by (with_reducible repeat (first | refine blk_drewN ?_ _ | refine blk_drew ?_ | refine blk_alloc ?_ _)); refine blk_far ?_ NB372_410.out _; (with_reducible repeat (first | refine blk_drewN ?_ _ | refine blk_drew ?_ | refine blk_alloc ?_ _)); refine blk_far ?_ NB372_410.out _; (with_reducible repeat (first | refine blk_drewN ?_ _ | refine blk_drew ?_ | refine blk_alloc ?_ _)); exact BK372.out) hb); have n13_ := Aside0.mk (blk_below (g := gb380) (o := .cells #[.slice Ao37 t373.length co37, .slice Ao42 t376.length co42] 29 (0, 0)) (by (with_reducible repeat (first | refine blk_drewN ?_ _ | refine blk_drew ?_ | refine blk_alloc ?_ _)); refine blk_far ?_ NB380_410.out _; (with_reducible repeat (first | refine blk_drewN ?_ _ | refine blk_drew ?_ | refine blk_alloc ?_ _)); refine blk_far ?_ NB380_410.out _; (with_reducible repeat (first | refine blk_drewN ?_ _ | refine blk_drew ?_ | refine blk_alloc ?_ _)); exact BK380.out) hb); have n14_ := Aside0.mk (blk_below (g := gb410) (o := .cells #[.slice Ao126 t403.length co126, .slice Ao132 t406.length co132] 29 (0, 0)) (by (with_reducible repeat (first | refine blk_drewN ?_ _ | refine blk_drew ?_ | refine blk_alloc ?_ _)); refine blk_put (cs := #[.slice Ao126 t403.length co126, .slice none 0 0]) ?_ 1 _ rfl; (with_reducible repeat (first | refine blk_drewN ?_ _ | refine blk_drew ?_ | refine blk_alloc ?_ _)); refine blk_put (cs := #[.slice none 0 0, .slice none 0 0]) ?_ 0 _ rfl; (with_reducible repeat (first | refine blk_drewN ?_ _ | refine blk_drew ?_ | refine blk_alloc ?_ _)); exact BK410.out) hb); have n15_ := Aside0.mk (below_step (by repeat (first | (with_reducible first | exact HB.out | apply below_alloc | apply pw_below_drewN | apply below_drew1 | refine below_set ?_ GE350.out | refine below_set ?_ GE365.out | refine below_set ?_ GE372.out | refine below_set ?_ GE380.out | refine below_set ?_ GE410.out) | exact HB.out)) hb); clear HO_366000; clear HO_366001; clear HO_373000; clear HO_373001; clear HO_381000; clear HO_381001; clear HO399; clear HO402; clear HO405; clear HO408; clear BK350; clear BK365; clear BK372; clear BK380; clear BK410; clear HB; have HO_366000 := n0_; have HO_366001 := n1_; have HO_373000 := n2_; have HO_373001 := n3_; have HO_381000 := n4_; have HO_381001 := n5_; have HO399 := n6_; have HO402 := n7_; have HO405 := n8_; have HO408 := n9_; have BK350 := n10_; have BK365 := n11_; have BK372 := n12_; have BK380 := n13_; have BK410 := n14_; have HB := n15_; clear n0_ n1_ n2_ n3_ n4_ n5_ n6_ n7_ n8_ n9_ n10_ n11_ n12_ n13_ n14_ n15_; (try clear hb); (try clear hb2); (try clear hk); (try clear hi)))
             go_meet
             case rel => exact ⟨_, (true), (by first | rfl | (simp; done) | (simp [*]; done)), H', ⟨by have := HJ12.out; have := HJ65.out; first | omega | exact Nat.le_refl _⟩, ⟨by (try simp only [hl373000_65]); (try simp only [hl373001_65]); (with_reducible repeat (first | apply Kd.R_alloc | apply Kd.R_drewN | apply Kd.R_drew)); exact Kd.R_mono HO_366000.out (fun _ hk => ⟨hk.1.1.1, ⟨hk.1.1.2, hk.2⟩⟩)⟩, ⟨by (try simp only [hl373000_65]); (try simp only [hl373001_65]); (with_reducible repeat (first | apply Kd.R_alloc | apply Kd.R_drewN | apply Kd.R_drew)); exact Kd.R_mono HO_366001.out (fun _ hk => ⟨hk.1.1.1, ⟨hk.1.1.2, hk.2⟩⟩)⟩, ⟨by (try simp only [hl373000_65]); (try simp only [hl373001_65]); (with_reducible repeat (first | apply Kd.R_alloc | apply Kd.R_drewN | apply Kd.R_drew)); exact Kd.R_mono HO_373000.out (fun _ hk => ⟨hk.1.1.1, ⟨hk.1.1.2, hk.2⟩⟩)⟩, ⟨by (try simp only [hl373000_65]); (try simp only [hl373001_65]); (with_reducible repeat (first | apply Kd.R_alloc | apply Kd.R_drewN | apply Kd.R_drew)); exact Kd.R_mono HO_373001.out (fun _ hk => ⟨hk.1.1.1, ⟨hk.1.1.2, hk.2⟩⟩)⟩, ⟨by (try simp only [hl373000_65]); (try simp only [hl373001_65]); (with_reducible repeat (first | apply Kd.R_alloc | apply Kd.R_drewN | apply Kd.R_drew)); exact Kd.R_mono HO_381000.out (fun _ hk => ⟨hk.1.1.1, ⟨hk.1.1.2, hk.2⟩⟩)⟩, ⟨by (try simp only [hl373000_65]); (try simp only [hl373001_65]); (with_reducible repeat (first | apply Kd.R_alloc | apply Kd.R_drewN | apply Kd.R_drew)); exact Kd.R_mono HO_381001.out (fun _ hk => ⟨hk.1.1.1, ⟨hk.1.1.2, hk.2⟩⟩)⟩, ⟨by (try simp only [hl373000_65]); (try simp only [hl373001_65]); (with_reducible repeat (first | apply Kd.R_alloc | apply Kd.R_drewN | apply Kd.R_drew)); exact Kd.R_mono HO405.out (fun _ hk => ⟨hk.1.1.1.2, ⟨hk.1.1.2, hk.1.2⟩⟩)⟩, ⟨by (try simp only [hl373000_65]); (try simp only [hl373001_65]); (with_reducible repeat (first | apply Kd.R_alloc | apply Kd.R_drewN | apply Kd.R_drew)); exact Kd.R_mono HO408.out (fun _ hk => ⟨hk.1.1.1.2, ⟨hk.1.1.2, hk.1.2⟩⟩)⟩, ⟨by (try simp only [hl373000_65]); (try simp only [hl373001_65]); (with_reducible repeat (first | refine blk_drewN ?_ _ | refine blk_drew ?_ | refine blk_alloc ?_ _)); exact BK350.out⟩, ⟨by (try simp only [hl373000_65]); (try simp only [hl373001_65]); (with_reducible repeat (first | refine blk_drewN ?_ _ | refine blk_drew ?_ | refine blk_alloc ?_ _)); exact BK365.out⟩, ⟨by (try simp only [hl373000_65]); (try simp only [hl373001_65]); (with_reducible repeat (first | refine blk_drewN ?_ _ | refine blk_drew ?_ | refine blk_alloc ?_ _)); exact BK372.out⟩, ⟨by (try simp only [hl373000_65]); (try simp only [hl373001_65]); (with_reducible repeat (first | refine blk_drewN ?_ _ | refine blk_drew ?_ | refine blk_alloc ?_ _)); exact BK380.out⟩, ⟨by (try simp only [hl373000_65]); (try simp only [hl373001_65]); (with_reducible repeat (first | refine blk_drewN ?_ _ | refine blk_drew ?_ | refine blk_alloc ?_ _)); exact BK410.out⟩, ⟨by repeat (first | (with_reducible first | exact HB.out | apply below_alloc | apply pw_below_drewN | apply below_drew1 | refine below_set ?_ GE350.out | refine below_set ?_ GE365.out | refine below_set ?_ GE372.out | refine below_set ?_ GE380.out | refine below_set ?_ GE410.out) | exact HB.out)⟩⟩
           case rest =>
            clear HC110
            try clear c1
            try clear c2
            try clear p2
            try clear c3
            try clear c4
            try clear c5
            try clear c5b0
            try clear c6
            try clear c7
            try clear c8
            try clear c9
            try clear c10
            try clear c11
            try clear c12
            try clear c13
            try clear c14
            try clear c15
            try clear c16
            try clear c17
            try clear c24
            try clear c31
            try clear c32
            try clear c38
            try clear c39
            try clear c40
            try clear c44
            try clear c45
            try clear c46
            try clear c47
            try clear c49
            try clear c50
            try clear c53
            try clear c54
            try clear c55
            try clear c57
            try clear c58
            try clear c61
            try clear c64
            try clear c72
            try clear c73
            try clear c74
            try clear c77
            try clear c77b0
            try clear c79
            try clear c80
            try clear c81
            try clear c82
            try clear c84
            try clear c85
            try clear c88
            try clear c89
            try clear c90
            try clear c92
            try clear c93
            try clear c96
            try clear c99
            try clear c99b0
            try clear c100
            try clear c101
            try clear c102
            try clear c107
            try clear c107b0
            try clear c107b1
            try clear c111
            try clear c112
            try clear c113
            try clear c118
            try clear c119
            try clear c127
            try clear c128
            try clear c129
            try clear c130
            try clear c134
            try clear c135
            try clear c136
            try clear c137
            try clear c138
            try clear c140
            try clear c141
            try clear c142
            try clear c145
            try clear c146
            try clear c147
            try clear c148
            try clear c150
            try clear c151
            try clear c152
            try clear hcz103_0
            try clear hcz103_1
            try clear hcz105_0
            try clear hcz105_1
            try clear hcz114_0
            try clear hcz114_1
            try clear hcz116_0
            try clear hcz116_1
            try clear hcz120_0
            try clear hcz120_1
            try clear hcz131_0
            try clear hcz131_1
            try clear hcz139_0
            try clear hcz139_1
            try clear hcz143_0
            try clear hcz143_1
            try clear hcz149_0
            try clear hcz149_1
            try clear hcz153_0
            try clear hcz153_1
            try clear hcz15_0
            try clear hcz15_1
            try clear hcz17_0
            try clear hcz17_1
            try clear hcz25_0
            try clear hcz25_1
            try clear hcz27_0
            try clear hcz27_1
            try clear hcz33_0
            try clear hcz33_1
            try clear hcz41_0
            try clear hcz41_1
            try clear hcz48_0
            try clear hcz48_1
            try clear hcz51_0
            try clear hcz51_1
            try clear hcz56_0
            try clear hcz56_1
            try clear hcz59_0
            try clear hcz59_1
            try clear hcz75_0
            try clear hcz75_1
            try clear hcz7_0
            try clear hcz7_1
            try clear hcz83_0
            try clear hcz83_1
            try clear hcz86_0
            try clear hcz86_1
            try clear hcz91_0
            try clear hcz91_1
            try clear hcz94_0
            try clear hcz94_1
            try clear hfz103_0
            try clear hfz103_1
            try clear hfz105_0
            try clear hfz105_1
            try clear hfz114_0
            try clear hfz114_1
            try clear hfz116_0
            try clear hfz116_1
            try clear hfz120_0
            try clear hfz120_1
            try clear hfz131_0
            try clear hfz131_1
            try clear hfz139_0
            try clear hfz139_1
            try clear hfz143_0
            try clear hfz143_1
            try clear hfz149_0
            try clear hfz149_1
            try clear hfz153_0
            try clear hfz153_1
            try clear hfz15_0
            try clear hfz15_1
            try clear hfz17_0
            try clear hfz17_1
            try clear hfz25_0
            try clear hfz25_1
            try clear hfz27_0
            try clear hfz27_1
            try clear hfz33_0
            try clear hfz33_1
            try clear hfz41_0
            try clear hfz41_1
            try clear hfz48_0
            try clear hfz48_1
            try clear hfz51_0
            try clear hfz51_1
            try clear hfz56_0
            try clear hfz56_1
            try clear hfz59_0
            try clear hfz59_1
            try clear hfz75_0
            try clear hfz75_1
            try clear hfz7_0
            try clear hfz7_1
            try clear hfz83_0
            try clear hfz83_1
            try clear hfz86_0
            try clear hfz86_1
            try clear hfz91_0
            try clear hfz91_1
            try clear hfz94_0
            try clear hfz94_1
            try clear p2
            obtain ⟨kq, x97_109, rfl, HA, HJ109, HO_366000, HO_366001, HO_373000, HO_373001, HO_381000, HO_381001, HO_411000, HO_411001, BK350, BK365, BK372, BK380, BK410, HB⟩ := hcut
            have hl381000_109 := (Kd.R_reads' HO_381000.out).1
            rw [hl381000_109] at HO_381000
            (try simp only [hl381000_109])
            (try simp only [hl381000_109] at BK350)
            (try simp only [hl381000_109] at BK365)
            (try simp only [hl381000_109] at BK372)
            (try simp only [hl381000_109] at BK380)
            (try simp only [hl381000_109] at BK410)
            (try simp only [hl381000_109] at HO_366000)
            (try simp only [hl381000_109] at HO_366001)
            (try simp only [hl381000_109] at HO_373000)
            (try simp only [hl381000_109] at HO_373001)
            (try simp only [hl381000_109] at HO_381001)
            (try simp only [hl381000_109] at HO_411000)
            (try simp only [hl381000_109] at HO_411001)
            have hl381001_109 := (Kd.R_reads' HO_381001.out).1
            rw [hl381001_109] at HO_381001
            (try simp only [hl381001_109])
            (try simp only [hl381001_109] at BK350)
            (try simp only [hl381001_109] at BK365)
            (try simp only [hl381001_109] at BK372)
            (try simp only [hl381001_109] at BK380)
            (try simp only [hl381001_109] at BK410)
            (try simp only [hl381001_109] at HO_366000)
            (try simp only [hl381001_109] at HO_366001)
            (try simp only [hl381001_109] at HO_373000)
            (try simp only [hl381001_109] at HO_373001)
            (try simp only [hl381001_109] at HO_381000)
            (try simp only [hl381001_109] at HO_411000)
            (try simp only [hl381001_109] at HO_411001)
            cases kq with
            | zero => exact absurd HA.out (by simp [laws_FnExactLoseHost.j2])
            | succ kj109 =>
             have H := HA.out
             clear HA
             simp only [laws_FnExactLoseHost.j2] at H
             by_cases c155 : x97_109 = true
             ·subst c155
              have H1 : (some false) = some r := by rw [if_pos rfl] at H; exact H
              clear H
              have H := H1
              clear H1
              obtain rfl := Option.some.inj H
              go_wp2
              go_ret
              exact ⟨by first | rfl | (simp [errW_none, errW_some] <;> rfl) | (simp [*, errW_none, errW_some] <;> rfl), by repeat (first | (with_reducible first | exact HB.out | apply below_alloc | apply pw_below_drewN | apply below_drew1 | refine below_set ?_ GE350.out | refine below_set ?_ GE365.out | refine below_set ?_ GE372.out | refine below_set ?_ GE380.out | refine below_set ?_ GE410.out) | exact HB.out)⟩
             ·replace c155 := Bool.eq_false_iff.mpr c155
              subst c155
              have H1 : ((laws_heldDisk.f kj109 t394 t395 1).bind fun t412 => (if t412 < 0 then (some false) else (if t412 = t393 then (some true) else (some false)))) = some r := by rw [if_neg (show ¬ (false = true) by decide)] at H; exact H
              clear H
              have H := H1
              clear H1
              replace H := Option.bind_eq_some_iff.mp H
              obtain ⟨t412, A1560, H⟩ := H
              replace H : (if t412 < 0 then (some false) else (if t412 = t393 then (some true) else (some false))) = some r := H
              have A156 := Aside0.mk A1560
              clear A1560
              by_cases c157 : t412 < 0
              ·rw [if_pos c157] at H
               have c157b0 : decide (t412 < 0) = true := decide_eq_true c157
               clear c157
               obtain rfl := Option.some.inj H
               have hnb158 := NB380_350.out
               have hnc158 := NB350_380.out
               have hnb159 := NB380_365.out
               have hnc159 := NB365_380.out
               have hnb160 := NB380_372.out
               have hnc160 := NB372_380.out
               have hnb161 := NB380_410.out
               have hnc161 := NB410_380.out
               have hcz162_0 : wc.cell? ⟨gb380, 0, none⟩ = some (.slice Ao37 t394.length co37) := (blk_cell BK380.out 0).trans rfl
               have hcz162_1 : wc.cell? ⟨gb380, 1, none⟩ = some (.slice Ao42 t395.length co42) := (blk_cell BK380.out 1).trans rfl
               have hfz162_0 := blk_frozen BK380.out 0
               have hfz162_1 := blk_frozen BK380.out 1
               go_wp2_with (first | ((with_reducible refine gate_callee (f := 15) rfl ?_); refine goesL_ (some 100) rfl rfl Try.func15 (by kernel_rfl) rfl #[.agg #[.slice Ao37 t394.length co37, .slice Ao42 t395.length co42], .int .i64 1] rfl (by (try simp only [List.map_toArray, List.map_cons, List.map_nil]); first | done | rfl | (simp only [List.length_drop, List.length_take]; rfl)) ?_; (with_reducible refine (laws_heldDisk.calls kj109 _ _ t394 _ _ t395 1 t412 _ ?side1 ?side2 ?side3 ?side4 A156.out).mono ?_); (case side1 => repeat (first | exact (Kd.R_reads' HO_381000.out).2.2 | (with_reducible refine Kd.C_alloc ?_ _) | (with_reducible refine Kd.C_drewN ?_ _) | (with_reducible refine Kd.C_drew ?_))); (case side2 => exact (Kd.R_reads' HO_381000.out).2.1); (case side3 => repeat (first | exact (Kd.R_reads' HO_381001.out).2.2 | (with_reducible refine Kd.C_alloc ?_ _) | (with_reducible refine Kd.C_drewN ?_ _) | (with_reducible refine Kd.C_drew ?_))); (case side4 => exact (Kd.R_reads' HO_381001.out).2.1); rintro e w163 ⟨rfl, hb⟩; refine ⟨_, rfl, ?_⟩; have n0_ := Aside0.mk (Kd.R_below (by (with_reducible repeat (first | apply Kd.R_alloc | apply Kd.R_drewN | apply Kd.R_drew)); exact HO_366000.out) hb); have n1_ := Aside0.mk (Kd.R_below (by (with_reducible repeat (first | apply Kd.R_alloc | apply Kd.R_drewN | apply Kd.R_drew)); exact HO_366001.out) hb); have n2_ := Aside0.mk (Kd.R_below (by (with_reducible repeat (first | apply Kd.R_alloc | apply Kd.R_drewN | apply Kd.R_drew)); exact HO_373000.out) hb); have n3_ := Aside0.mk (Kd.R_below (by (with_reducible repeat (first | apply Kd.R_alloc | apply Kd.R_drewN | apply Kd.R_drew)); exact HO_373001.out) hb); have n4_ := Aside0.mk (Kd.R_below (by (with_reducible repeat (first | apply Kd.R_alloc | apply Kd.R_drewN | apply Kd.R_drew)); exact HO_381000.out) hb); have n5_ := Aside0.mk (Kd.R_below (by (with_reducible repeat (first | apply Kd.R_alloc | apply Kd.R_drewN | apply Kd.R_drew)); exact HO_381001.out) hb); have n6_ := Aside0.mk (Kd.R_below (by (with_reducible repeat (first | apply Kd.R_alloc | apply Kd.R_drewN | apply Kd.R_drew)); exact HO_411000.out) hb); have n7_ := Aside0.mk (Kd.R_below (by (with_reducible repeat (first | apply Kd.R_alloc | apply Kd.R_drewN | apply Kd.R_drew)); exact HO_411001.out) hb); have n8_ := Aside0.mk (blk_below (g := gb350) (o := .cells #[.slice A0_0 l0_0.length c0_0, .slice A0_1 l0_1.length c0_1] 25 (0, 0)) (by (with_reducible repeat (first | refine blk_drewN ?_ _ | refine blk_drew ?_ | refine blk_alloc ?_ _)); exact BK350.out) hb); have n9_ := Aside0.mk (blk_below (g := gb365) (o := .cells #[.slice Ao23 t358.length co23, .slice Ao26 t361.length co26] 29 (0, 0)) (by (with_reducible repeat (first | refine blk_drewN ?_ _ | refine blk_drew ?_ | refine blk_alloc ?_ _)); exact BK365.out) hb); have n10_ := Aside0.mk (blk_below (g := gb372) (o := .cells #[.slice Ao30 t390.length co30, .slice Ao34 t391.length co34] 29 (0, 0)) (by (with_reducible repeat (first | refine blk_drewN ?_ _ | refine blk_drew ?_ | refine blk_alloc ?_ _)); exact BK372.out) hb); have n11_ := Aside0.mk (blk_below (g := gb380) (o := .cells #[.slice Ao37 t394.length co37, .slice Ao42 t395.length co42] 29 (0, 0)) (by (with_reducible repeat (first | refine blk_drewN ?_ _ | refine blk_drew ?_ | refine blk_alloc ?_ _)); exact BK380.out) hb); have n12_ := Aside0.mk (blk_below (g := gb410) (o := .cells #[.slice Ao126 t403.length co126, .slice Ao132 t406.length co132] 29 (0, 0)) (by (with_reducible repeat (first | refine blk_drewN ?_ _ | refine blk_drew ?_ | refine blk_alloc ?_ _)); exact BK410.out) hb); have n13_ := Aside0.mk (below_step (by repeat (first | (with_reducible first | exact HB.out | apply below_alloc | apply pw_below_drewN | apply below_drew1 | refine below_set ?_ GE350.out | refine below_set ?_ GE365.out | refine below_set ?_ GE372.out | refine below_set ?_ GE380.out | refine below_set ?_ GE410.out) | exact HB.out)) hb); clear HO_366000; clear HO_366001; clear HO_373000; clear HO_373001; clear HO_381000; clear HO_381001; clear HO_411000; clear HO_411001; clear BK350; clear BK365; clear BK372; clear BK380; clear BK410; clear HB; have HO_366000 := n0_; have HO_366001 := n1_; have HO_373000 := n2_; have HO_373001 := n3_; have HO_381000 := n4_; have HO_381001 := n5_; have HO_411000 := n6_; have HO_411001 := n7_; have BK350 := n8_; have BK365 := n9_; have BK372 := n10_; have BK380 := n11_; have BK410 := n12_; have HB := n13_; clear n0_ n1_ n2_ n3_ n4_ n5_ n6_ n7_ n8_ n9_ n10_ n11_ n12_ n13_; (try clear hb); (try clear hb2); (try clear hk); (try clear hi)))
               go_ret
               exact ⟨by first | rfl | (simp [errW_none, errW_some] <;> rfl) | (simp [*, errW_none, errW_some] <;> rfl), by repeat (first | (with_reducible first | exact HB.out | apply below_alloc | apply pw_below_drewN | apply below_drew1 | refine below_set ?_ GE350.out | refine below_set ?_ GE365.out | refine below_set ?_ GE372.out | refine below_set ?_ GE380.out | refine below_set ?_ GE410.out) | exact HB.out)⟩
              ·rw [if_neg c157] at H
               have c157b0 : decide (t412 < 0) = false := decide_eq_false c157
               clear c157
               by_cases c164 : t412 = t393
               ·rw [if_pos c164] at H
                have c164b0 : (t412 == t393) = true := beq_iff_eq.mpr c164
                have c164b1 : (t412 != t393) = false := bne_eq_false_iff_eq.mpr c164
                clear c164
                obtain rfl := Option.some.inj H
                have hnb165 := NB380_350.out
                have hnc165 := NB350_380.out
                have hnb166 := NB380_365.out
                have hnc166 := NB365_380.out
                have hnb167 := NB380_372.out
                have hnc167 := NB372_380.out
                have hnb168 := NB380_410.out
                have hnc168 := NB410_380.out
                have hcz169_0 : wc.cell? ⟨gb380, 0, none⟩ = some (.slice Ao37 t394.length co37) := (blk_cell BK380.out 0).trans rfl
                have hcz169_1 : wc.cell? ⟨gb380, 1, none⟩ = some (.slice Ao42 t395.length co42) := (blk_cell BK380.out 1).trans rfl
                have hfz169_0 := blk_frozen BK380.out 0
                have hfz169_1 := blk_frozen BK380.out 1
                go_wp2_with (first | ((with_reducible refine gate_callee (f := 15) rfl ?_); refine goesL_ (some 100) rfl rfl Try.func15 (by kernel_rfl) rfl #[.agg #[.slice Ao37 t394.length co37, .slice Ao42 t395.length co42], .int .i64 1] rfl (by (try simp only [List.map_toArray, List.map_cons, List.map_nil]); first | done | rfl | (simp only [List.length_drop, List.length_take]; rfl)) ?_; (with_reducible refine (laws_heldDisk.calls kj109 _ _ t394 _ _ t395 1 t412 _ ?side1 ?side2 ?side3 ?side4 A156.out).mono ?_); (case side1 => repeat (first | exact (Kd.R_reads' HO_381000.out).2.2 | (with_reducible refine Kd.C_alloc ?_ _) | (with_reducible refine Kd.C_drewN ?_ _) | (with_reducible refine Kd.C_drew ?_))); (case side2 => exact (Kd.R_reads' HO_381000.out).2.1); (case side3 => repeat (first | exact (Kd.R_reads' HO_381001.out).2.2 | (with_reducible refine Kd.C_alloc ?_ _) | (with_reducible refine Kd.C_drewN ?_ _) | (with_reducible refine Kd.C_drew ?_))); (case side4 => exact (Kd.R_reads' HO_381001.out).2.1); rintro e w170 ⟨rfl, hb⟩; refine ⟨_, rfl, ?_⟩; have n0_ := Aside0.mk (Kd.R_below (by (with_reducible repeat (first | apply Kd.R_alloc | apply Kd.R_drewN | apply Kd.R_drew)); exact HO_366000.out) hb); have n1_ := Aside0.mk (Kd.R_below (by (with_reducible repeat (first | apply Kd.R_alloc | apply Kd.R_drewN | apply Kd.R_drew)); exact HO_366001.out) hb); have n2_ := Aside0.mk (Kd.R_below (by (with_reducible repeat (first | apply Kd.R_alloc | apply Kd.R_drewN | apply Kd.R_drew)); exact HO_373000.out) hb); have n3_ := Aside0.mk (Kd.R_below (by (with_reducible repeat (first | apply Kd.R_alloc | apply Kd.R_drewN | apply Kd.R_drew)); exact HO_373001.out) hb); have n4_ := Aside0.mk (Kd.R_below (by (with_reducible repeat (first | apply Kd.R_alloc | apply Kd.R_drewN | apply Kd.R_drew)); exact HO_381000.out) hb); have n5_ := Aside0.mk (Kd.R_below (by (with_reducible repeat (first | apply Kd.R_alloc | apply Kd.R_drewN | apply Kd.R_drew)); exact HO_381001.out) hb); have n6_ := Aside0.mk (Kd.R_below (by (with_reducible repeat (first | apply Kd.R_alloc | apply Kd.R_drewN | apply Kd.R_drew)); exact HO_411000.out) hb); have n7_ := Aside0.mk (Kd.R_below (by (with_reducible repeat (first | apply Kd.R_alloc | apply Kd.R_drewN | apply Kd.R_drew)); exact HO_411001.out) hb); have n8_ := Aside0.mk (blk_below (g := gb350) (o := .cells #[.slice A0_0 l0_0.length c0_0, .slice A0_1 l0_1.length c0_1] 25 (0, 0)) (by (with_reducible repeat (first | refine blk_drewN ?_ _ | refine blk_drew ?_ | refine blk_alloc ?_ _)); exact BK350.out) hb); have n9_ := Aside0.mk (blk_below (g := gb365) (o := .cells #[.slice Ao23 t358.length co23, .slice Ao26 t361.length co26] 29 (0, 0)) (by (with_reducible repeat (first | refine blk_drewN ?_ _ | refine blk_drew ?_ | refine blk_alloc ?_ _)); exact BK365.out) hb); have n10_ := Aside0.mk (blk_below (g := gb372) (o := .cells #[.slice Ao30 t390.length co30, .slice Ao34 t391.length co34] 29 (0, 0)) (by (with_reducible repeat (first | refine blk_drewN ?_ _ | refine blk_drew ?_ | refine blk_alloc ?_ _)); exact BK372.out) hb); have n11_ := Aside0.mk (blk_below (g := gb380) (o := .cells #[.slice Ao37 t394.length co37, .slice Ao42 t395.length co42] 29 (0, 0)) (by (with_reducible repeat (first | refine blk_drewN ?_ _ | refine blk_drew ?_ | refine blk_alloc ?_ _)); exact BK380.out) hb); have n12_ := Aside0.mk (blk_below (g := gb410) (o := .cells #[.slice Ao126 t403.length co126, .slice Ao132 t406.length co132] 29 (0, 0)) (by (with_reducible repeat (first | refine blk_drewN ?_ _ | refine blk_drew ?_ | refine blk_alloc ?_ _)); exact BK410.out) hb); have n13_ := Aside0.mk (below_step (by repeat (first | (with_reducible first | exact HB.out | apply below_alloc | apply pw_below_drewN | apply below_drew1 | refine below_set ?_ GE350.out | refine below_set ?_ GE365.out | refine below_set ?_ GE372.out | refine below_set ?_ GE380.out | refine below_set ?_ GE410.out) | exact HB.out)) hb); clear HO_366000; clear HO_366001; clear HO_373000; clear HO_373001; clear HO_381000; clear HO_381001; clear HO_411000; clear HO_411001; clear BK350; clear BK365; clear BK372; clear BK380; clear BK410; clear HB; have HO_366000 := n0_; have HO_366001 := n1_; have HO_373000 := n2_; have HO_373001 := n3_; have HO_381000 := n4_; have HO_381001 := n5_; have HO_411000 := n6_; have HO_411001 := n7_; have BK350 := n8_; have BK365 := n9_; have BK372 := n10_; have BK380 := n11_; have BK410 := n12_; have HB := n13_; clear n0_ n1_ n2_ n3_ n4_ n5_ n6_ n7_ n8_ n9_ n10_ n11_ n12_ n13_; (try clear hb); (try clear hb2); (try clear hk); (try clear hi)))
                go_ret
                exact ⟨by first | rfl | (simp [errW_none, errW_some] <;> rfl) | (simp [*, errW_none, errW_some] <;> rfl), by repeat (first | (with_reducible first | exact HB.out | apply below_alloc | apply pw_below_drewN | apply below_drew1 | refine below_set ?_ GE350.out | refine below_set ?_ GE365.out | refine below_set ?_ GE372.out | refine below_set ?_ GE380.out | refine below_set ?_ GE410.out) | exact HB.out)⟩
               ·rw [if_neg c164] at H
                have c164b0 : (t412 == t393) = false := beq_eq_false_iff_ne.mpr c164
                have c164b1 : (t412 != t393) = true := bne_iff_ne.mpr c164
                obtain rfl := Option.some.inj H
                have hnb171 := NB380_350.out
                have hnc171 := NB350_380.out
                have hnb172 := NB380_365.out
                have hnc172 := NB365_380.out
                have hnb173 := NB380_372.out
                have hnc173 := NB372_380.out
                have hnb174 := NB380_410.out
                have hnc174 := NB410_380.out
                have hcz175_0 : wc.cell? ⟨gb380, 0, none⟩ = some (.slice Ao37 t394.length co37) := (blk_cell BK380.out 0).trans rfl
                have hcz175_1 : wc.cell? ⟨gb380, 1, none⟩ = some (.slice Ao42 t395.length co42) := (blk_cell BK380.out 1).trans rfl
                have hfz175_0 := blk_frozen BK380.out 0
                have hfz175_1 := blk_frozen BK380.out 1
                go_wp2_with (first | ((with_reducible refine gate_callee (f := 15) rfl ?_); refine goesL_ (some 100) rfl rfl Try.func15 (by kernel_rfl) rfl #[.agg #[.slice Ao37 t394.length co37, .slice Ao42 t395.length co42], .int .i64 1] rfl (by (try simp only [List.map_toArray, List.map_cons, List.map_nil]); first | done | rfl | (simp only [List.length_drop, List.length_take]; rfl)) ?_; (with_reducible refine (laws_heldDisk.calls kj109 _ _ t394 _ _ t395 1 t412 _ ?side1 ?side2 ?side3 ?side4 A156.out).mono ?_); (case side1 => repeat (first | exact (Kd.R_reads' HO_381000.out).2.2 | (with_reducible refine Kd.C_alloc ?_ _) | (with_reducible refine Kd.C_drewN ?_ _) | (with_reducible refine Kd.C_drew ?_))); (case side2 => exact (Kd.R_reads' HO_381000.out).2.1); (case side3 => repeat (first | exact (Kd.R_reads' HO_381001.out).2.2 | (with_reducible refine Kd.C_alloc ?_ _) | (with_reducible refine Kd.C_drewN ?_ _) | (with_reducible refine Kd.C_drew ?_))); (case side4 => exact (Kd.R_reads' HO_381001.out).2.1); rintro e w176 ⟨rfl, hb⟩; refine ⟨_, rfl, ?_⟩; have n0_ := Aside0.mk (Kd.R_below (by (with_reducible repeat (first | apply Kd.R_alloc | apply Kd.R_drewN | apply Kd.R_drew)); exact HO_366000.out) hb); have n1_ := Aside0.mk (Kd.R_below (by (with_reducible repeat (first | apply Kd.R_alloc | apply Kd.R_drewN | apply Kd.R_drew)); exact HO_366001.out) hb); have n2_ := Aside0.mk (Kd.R_below (by (with_reducible repeat (first | apply Kd.R_alloc | apply Kd.R_drewN | apply Kd.R_drew)); exact HO_373000.out) hb); have n3_ := Aside0.mk (Kd.R_below (by (with_reducible repeat (first | apply Kd.R_alloc | apply Kd.R_drewN | apply Kd.R_drew)); exact HO_373001.out) hb); have n4_ := Aside0.mk (Kd.R_below (by (with_reducible repeat (first | apply Kd.R_alloc | apply Kd.R_drewN | apply Kd.R_drew)); exact HO_381000.out) hb); have n5_ := Aside0.mk (Kd.R_below (by (with_reducible repeat (first | apply Kd.R_alloc | apply Kd.R_drewN | apply Kd.R_drew)); exact HO_381001.out) hb); have n6_ := Aside0.mk (Kd.R_below (by (with_reducible repeat (first | apply Kd.R_alloc | apply Kd.R_drewN | apply Kd.R_drew)); exact HO_411000.out) hb); have n7_ := Aside0.mk (Kd.R_below (by (with_reducible repeat (first | apply Kd.R_alloc | apply Kd.R_drewN | apply Kd.R_drew)); exact HO_411001.out) hb); have n8_ := Aside0.mk (blk_below (g := gb350) (o := .cells #[.slice A0_0 l0_0.length c0_0, .slice A0_1 l0_1.length c0_1] 25 (0, 0)) (by (with_reducible repeat (first | refine blk_drewN ?_ _ | refine blk_drew ?_ | refine blk_alloc ?_ _)); exact BK350.out) hb); have n9_ := Aside0.mk (blk_below (g := gb365) (o := .cells #[.slice Ao23 t358.length co23, .slice Ao26 t361.length co26] 29 (0, 0)) (by (with_reducible repeat (first | refine blk_drewN ?_ _ | refine blk_drew ?_ | refine blk_alloc ?_ _)); exact BK365.out) hb); have n10_ := Aside0.mk (blk_below (g := gb372) (o := .cells #[.slice Ao30 t390.length co30, .slice Ao34 t391.length co34] 29 (0, 0)) (by (with_reducible repeat (first | refine blk_drewN ?_ _ | refine blk_drew ?_ | refine blk_alloc ?_ _)); exact BK372.out) hb); have n11_ := Aside0.mk (blk_below (g := gb380) (o := .cells #[.slice Ao37 t394.length co37, .slice Ao42 t395.length co42] 29 (0, 0)) (by (with_reducible repeat (first | refine blk_drewN ?_ _ | refine blk_drew ?_ | refine blk_alloc ?_ _)); exact BK380.out) hb); have n12_ := Aside0.mk (blk_below (g := gb410) (o := .cells #[.slice Ao126 t403.length co126, .slice Ao132 t406.length co132] 29 (0, 0)) (by (with_reducible repeat (first | refine blk_drewN ?_ _ | refine blk_drew ?_ | refine blk_alloc ?_ _)); exact BK410.out) hb); have n13_ := Aside0.mk (below_step (by repeat (first | (with_reducible first | exact HB.out | apply below_alloc | apply pw_below_drewN | apply below_drew1 | refine below_set ?_ GE350.out | refine below_set ?_ GE365.out | refine below_set ?_ GE372.out | refine below_set ?_ GE380.out | refine below_set ?_ GE410.out) | exact HB.out)) hb); clear HO_366000; clear HO_366001; clear HO_373000; clear HO_373001; clear HO_381000; clear HO_381001; clear HO_411000; clear HO_411001; clear BK350; clear BK365; clear BK372; clear BK380; clear BK410; clear HB; have HO_366000 := n0_; have HO_366001 := n1_; have HO_373000 := n2_; have HO_373001 := n3_; have HO_381000 := n4_; have HO_381001 := n5_; have HO_411000 := n6_; have HO_411001 := n7_; have BK350 := n8_; have BK365 := n9_; have BK372 := n10_; have BK380 := n11_; have BK410 := n12_; have HB := n13_; clear n0_ n1_ n2_ n3_ n4_ n5_ n6_ n7_ n8_ n9_ n10_ n11_ n12_ n13_; (try clear hb); (try clear hb2); (try clear hk); (try clear hi)))
                go_ret
                exact ⟨by first | rfl | (simp [errW_none, errW_some] <;> rfl) | (simp [*, errW_none, errW_some] <;> rfl), by repeat (first | (with_reducible first | exact HB.out | apply below_alloc | apply pw_below_drewN | apply below_drew1 | refine below_set ?_ GE350.out | refine below_set ?_ GE365.out | refine below_set ?_ GE372.out | refine below_set ?_ GE380.out | refine below_set ?_ GE410.out) | exact HB.out)⟩
          ·rw [if_neg c107] at H
           have c107b0 : (t396 == t393) = false := beq_eq_false_iff_ne.mpr c107
           have c107b1 : (t396 != t393) = true := bne_iff_ne.mpr c107
           obtain rfl := Option.some.inj H
           have hnb177 := NB380_350.out
           have hnc177 := NB350_380.out
           have hnb178 := NB380_365.out
           have hnc178 := NB365_380.out
           have hnb179 := NB380_372.out
           have hnc179 := NB372_380.out
           have hcz180_0 : wc.cell? ⟨gb380, 0, none⟩ = some (.slice Ao37 t373.length co37) := (blk_cell BK380.out 0).trans rfl
           have hcz180_1 : wc.cell? ⟨gb380, 1, none⟩ = some (.slice Ao42 t376.length co42) := (blk_cell BK380.out 1).trans rfl
           have hfz180_0 := blk_frozen BK380.out 0
           have hfz180_1 := blk_frozen BK380.out 1
           go_wp2_with (first | ((with_reducible refine gate_callee (f := 14) rfl ?_); refine goesL_ (some 72) rfl rfl Try.func14 (by kernel_rfl) rfl #[.agg #[.slice Ao37 t373.length co37, .slice Ao42 t376.length co42], .int .i64 1] rfl (by (try simp only [List.map_toArray, List.map_cons, List.map_nil]); first | done | rfl | (simp only [List.length_drop, List.length_take]; rfl)) ?_; (with_reducible refine (laws_markDisk.calls kj65 (fun k_ => some k_ = (.slice Ao37 t373.length co37 : Value).ownBlock) (.slice Ao37 t373.length co37) t373 (fun k_ => some k_ = (.slice Ao42 t376.length co42 : Value).ownBlock) (.slice Ao42 t376.length co42) t376 1 t393 t394 t395 w _ ?side1 ?side2 ?side3 A97.out).mono ?_); (case side1 => repeat (first | (with_reducible first | exact HB.out | apply below_alloc | apply pw_below_drewN | apply below_drew1 | refine below_set ?_ GE350.out | refine below_set ?_ GE365.out | refine below_set ?_ GE372.out | refine below_set ?_ GE380.out) | exact HB.out)); (case side2 => exact Kd.R_tight rfl HO_381000.out); (case side3 => exact Kd.R_tight rfl HO_381001.out); rintro e w181 ⟨rfl, hy0, hy1, hb, hkp⟩; refine ⟨_, rfl, ?_⟩; have n0_ := Aside0.mk (Kd.R_mono (ok' := fun k_ => some k_ ≠ (.slice Ao30 t390.length co30 : Value).ownBlock ∧ some k_ ≠ (.slice Ao37 t373.length co37 : Value).ownBlock) (Kd.R_keptB ((Kd.R_apart' HO_366000.out (Kd.R_typed HO_381001.out) (by decide))) hkp (fun k_ hk_ hs_ => Or.elim hs_ (fun e_ => (hk_.1.2) e_) (fun e_ => (hk_.2) e_))) (fun k_ hk_ => ⟨hk_.1.1.1, hk_.1.1.2⟩)); have n1_ := Aside0.mk (Kd.R_mono (ok' := fun k_ => some k_ ≠ (.slice Ao34 t391.length co34 : Value).ownBlock ∧ some k_ ≠ (.slice Ao42 t376.length co42 : Value).ownBlock) (Kd.R_keptB ((Kd.R_apart' HO_366001.out (Kd.R_typed HO_381000.out) (by decide))) hkp (fun k_ hk_ hs_ => Or.elim hs_ (fun e_ => (hk_.2) e_) (fun e_ => (hk_.1.2) e_))) (fun k_ hk_ => ⟨hk_.1.1.1, hk_.1.1.2⟩)); have n2_ := Aside0.mk (Kd.R_mono (ok' := fun k_ => some k_ ≠ (.slice Ao23 t358.length co23 : Value).ownBlock ∧ some k_ ≠ (.slice Ao37 t373.length co37 : Value).ownBlock) (Kd.R_keptB ((Kd.R_apart' HO_373000.out (Kd.R_typed HO_381001.out) (by decide))) hkp (fun k_ hk_ hs_ => Or.elim hs_ (fun e_ => (hk_.1.2) e_) (fun e_ => (hk_.2) e_))) (fun k_ hk_ => ⟨hk_.1.1.1, hk_.1.1.2⟩)); have n3_ := Aside0.mk (Kd.R_mono (ok' := fun k_ => some k_ ≠ (.slice Ao26 t361.length co26 : Value).ownBlock ∧ some k_ ≠ (.slice Ao42 t376.length co42 : Value).ownBlock) (Kd.R_keptB ((Kd.R_apart' HO_373001.out (Kd.R_typed HO_381000.out) (by decide))) hkp (fun k_ hk_ hs_ => Or.elim hs_ (fun e_ => (hk_.2) e_) (fun e_ => (hk_.1.2) e_))) (fun k_ hk_ => ⟨hk_.1.1.1, hk_.1.1.2⟩)); have n4_ := Aside0.mk (Kd.R_reok rfl hy0 (fun k_ e_ => HO_381000.out.1 k_ e_)); have n5_ := Aside0.mk (Kd.R_reok rfl hy1 (fun k_ e_ => HO_381001.out.1 k_ e_)); have n6_ := Aside0.mk (blk_kept (by (with_reducible repeat (first | refine blk_drewN ?_ _ | refine blk_drew ?_ | refine blk_alloc ?_ _)); exact BK350.out) hkp (fun hs_ => Or.elim hs_ (fun e_ => (fun e_ => (Kd.R_ne HO_381000.out BK350.out (by decide)) e_) e_) (fun e_ => (fun e_ => (Kd.R_ne HO_381001.out BK350.out (by decide)) e_) e_))); have n7_ := Aside0.mk (blk_kept (by (with_reducible repeat (first | refine blk_drewN ?_ _ | refine blk_drew ?_ | refine blk_alloc ?_ _)); exact BK365.out) hkp (fun hs_ => Or.elim hs_ (fun e_ => (fun e_ => (Kd.R_ne HO_381000.out BK365.out (by decide)) e_) e_) (fun e_ => (fun e_ => (Kd.R_ne HO_381001.out BK365.out (by decide)) e_) e_))); have n8_ := Aside0.mk (blk_kept (by (with_reducible repeat (first | refine blk_drewN ?_ _ | refine blk_drew ?_ | refine blk_alloc ?_ _)); exact BK372.out) hkp (fun hs_ => Or.elim hs_ (fun e_ => (fun e_ => (Kd.R_ne HO_381000.out BK372.out (by decide)) e_) e_) (fun e_ => (fun e_ => (Kd.R_ne HO_381001.out BK372.out (by decide)) e_) e_))); have n9_ := Aside0.mk (blk_kept (by (with_reducible repeat (first | refine blk_drewN ?_ _ | refine blk_drew ?_ | refine blk_alloc ?_ _)); exact BK380.out) hkp (fun hs_ => Or.elim hs_ (fun e_ => (fun e_ => (Kd.R_ne HO_381000.out BK380.out (by decide)) e_) e_) (fun e_ => (fun e_ => (Kd.R_ne HO_381001.out BK380.out (by decide)) e_) e_))); have n10_ := Aside0.mk (hb); clear HO_366000; clear HO_366001; clear HO_373000; clear HO_373001; clear HO_381000; clear HO_381001; clear BK350; clear BK365; clear BK372; clear BK380; clear HB; have HO_366000 := n0_; have HO_366001 := n1_; have HO_373000 := n2_; have HO_373001 := n3_; have HO_381000 := n4_; have HO_381001 := n5_; have BK350 := n6_; have BK365 := n7_; have BK372 := n8_; have BK380 := n9_; have HB := n10_; clear n0_ n1_ n2_ n3_ n4_ n5_ n6_ n7_ n8_ n9_ n10_; (try clear hb); (try clear hkp); (try clear hy0); (try clear hy1); have hcz182_0 : w181.cell? ⟨gb380, 0, none⟩ = some (.slice Ao37 t373.length co37) := (blk_cell BK380.out 0).trans rfl; have hcz182_1 : w181.cell? ⟨gb380, 1, none⟩ = some (.slice Ao42 t376.length co42) := (blk_cell BK380.out 1).trans rfl; have hfz182_0 := blk_frozen BK380.out 0; have hfz182_1 := blk_frozen BK380.out 1) | ((with_reducible refine gate_callee (f := 15) rfl ?_); refine goesL_ (some 75) rfl rfl Try.func15 (by kernel_rfl) rfl #[.agg #[.slice Ao37 t394.length co37, .slice Ao42 t395.length co42], .int .i64 1] rfl (by (try simp only [List.map_toArray, List.map_cons, List.map_nil]); first | done | (rw [show t394.length = t373.length from (Kd.R_reads' HO_381000.out).1.symm, show t395.length = t376.length from (Kd.R_reads' HO_381001.out).1.symm] <;> rfl) | rfl | (simp only [List.length_drop, List.length_take]; rfl)) ?_; (with_reducible refine (laws_heldDisk.calls kj65 _ _ t394 _ _ t395 1 t396 _ ?side1 ?side2 ?side3 ?side4 A98.out).mono ?_); (case side1 => repeat (first | exact (Kd.R_reads' HO_381000.out).2.2 | (with_reducible refine Kd.C_alloc ?_ _) | (with_reducible refine Kd.C_drewN ?_ _) | (with_reducible refine Kd.C_drew ?_))); (case side2 => rw [show t394.length = t373.length from (Kd.R_reads' HO_381000.out).1.symm]; exact (Kd.R_reads' HO_381000.out).2.1); (case side3 => repeat (first | exact (Kd.R_reads' HO_381001.out).2.2 | (with_reducible refine Kd.C_alloc ?_ _) | (with_reducible refine Kd.C_drewN ?_ _) | (with_reducible refine Kd.C_drew ?_))); (case side4 => rw [show t395.length = t376.length from (Kd.R_reads' HO_381001.out).1.symm]; exact (Kd.R_reads' HO_381001.out).2.1); rintro e w183 ⟨rfl, hb⟩; refine ⟨_, rfl, ?_⟩; have n0_ := Aside0.mk (Kd.R_below (by (with_reducible repeat (first | apply Kd.R_alloc | apply Kd.R_drewN | apply Kd.R_drew)); exact HO_366000.out) hb); have n1_ := Aside0.mk (Kd.R_below (by (with_reducible repeat (first | apply Kd.R_alloc | apply Kd.R_drewN | apply Kd.R_drew)); exact HO_366001.out) hb); have n2_ := Aside0.mk (Kd.R_below (by (with_reducible repeat (first | apply Kd.R_alloc | apply Kd.R_drewN | apply Kd.R_drew)); exact HO_373000.out) hb); have n3_ := Aside0.mk (Kd.R_below (by (with_reducible repeat (first | apply Kd.R_alloc | apply Kd.R_drewN | apply Kd.R_drew)); exact HO_373001.out) hb); have n4_ := Aside0.mk (Kd.R_below (by (with_reducible repeat (first | apply Kd.R_alloc | apply Kd.R_drewN | apply Kd.R_drew)); exact HO_381000.out) hb); have n5_ := Aside0.mk (Kd.R_below (by (with_reducible repeat (first | apply Kd.R_alloc | apply Kd.R_drewN | apply Kd.R_drew)); exact HO_381001.out) hb); have n6_ := Aside0.mk (blk_below (g := gb350) (o := .cells #[.slice A0_0 l0_0.length c0_0, .slice A0_1 l0_1.length c0_1] 25 (0, 0)) (by (with_reducible repeat (first | refine blk_drewN ?_ _ | refine blk_drew ?_ | refine blk_alloc ?_ _)); exact BK350.out) hb); have n7_ := Aside0.mk (blk_below (g := gb365) (o := .cells #[.slice Ao23 t358.length co23, .slice Ao26 t361.length co26] 29 (0, 0)) (by (with_reducible repeat (first | refine blk_drewN ?_ _ | refine blk_drew ?_ | refine blk_alloc ?_ _)); exact BK365.out) hb); have n8_ := Aside0.mk (blk_below (g := gb372) (o := .cells #[.slice Ao30 t390.length co30, .slice Ao34 t391.length co34] 29 (0, 0)) (by (with_reducible repeat (first | refine blk_drewN ?_ _ | refine blk_drew ?_ | refine blk_alloc ?_ _)); exact BK372.out) hb); have n9_ := Aside0.mk (blk_below (g := gb380) (o := .cells #[.slice Ao37 t373.length co37, .slice Ao42 t376.length co42] 29 (0, 0)) (by (with_reducible repeat (first | refine blk_drewN ?_ _ | refine blk_drew ?_ | refine blk_alloc ?_ _)); exact BK380.out) hb); have n10_ := Aside0.mk (below_step (by repeat (first | (with_reducible first | exact HB.out | apply below_alloc | apply pw_below_drewN | apply below_drew1 | refine below_set ?_ GE350.out | refine below_set ?_ GE365.out | refine below_set ?_ GE372.out | refine below_set ?_ GE380.out) | exact HB.out)) hb); clear HO_366000; clear HO_366001; clear HO_373000; clear HO_373001; clear HO_381000; clear HO_381001; clear BK350; clear BK365; clear BK372; clear BK380; clear HB; have HO_366000 := n0_; have HO_366001 := n1_; have HO_373000 := n2_; have HO_373001 := n3_; have HO_381000 := n4_; have HO_381001 := n5_; have BK350 := n6_; have BK365 := n7_; have BK372 := n8_; have BK380 := n9_; have HB := n10_; clear n0_ n1_ n2_ n3_ n4_ n5_ n6_ n7_ n8_ n9_ n10_; (try clear hb); (try clear hb2); (try clear hk); (try clear hi)))
           go_ret
           exact ⟨by first | rfl | (simp [errW_none, errW_some] <;> rfl) | (simp [*, errW_none, errW_some] <;> rfl), by repeat (first | (with_reducible first | exact HB.out | apply below_alloc | apply pw_below_drewN | apply below_drew1 | refine below_set ?_ GE350.out | refine below_set ?_ GE365.out | refine below_set ?_ GE372.out | refine below_set ?_ GE380.out) | exact HB.out)⟩
     ·replace c64 := Bool.eq_false_iff.mpr c64
      subst c64
      have H1 : (some false) = some r := by rw [if_neg (show ¬ (false = true) by decide)] at H; exact H
      clear H
      have H := H1
      clear H1
      obtain rfl := Option.some.inj H
      try go_wp2
      have n0_ := Aside0.mk (Kd.R_drew HO_366000.out)
      have n1_ := Aside0.mk (Kd.R_drew HO_366001.out)
      have n2_ := Aside0.mk (Kd.R_drew HO_373000.out)
      have n3_ := Aside0.mk (Kd.R_drew HO_373001.out)
      have n4_ := Aside0.mk (Kd.R_drew HO_381000.out)
      have n5_ := Aside0.mk (Kd.R_drew HO_381001.out)
      have n6_ := Aside0.mk (blk_drew BK350.out)
      have n7_ := Aside0.mk (blk_drew BK365.out)
      have n8_ := Aside0.mk (blk_drew BK372.out)
      have n9_ := Aside0.mk (blk_drew BK380.out)
      have n10_ := Aside0.mk (below_drew1 HB.out)
      clear HO_366000
      clear HO_366001
      clear HO_373000
      clear HO_373001
      clear HO_381000
      clear HO_381001
      clear BK350
      clear BK365
      clear BK372
      clear BK380
      clear HB
      have HO_366000 := n0_
      have HO_366001 := n1_
      have HO_373000 := n2_
      have HO_373001 := n3_
      have HO_381000 := n4_
      have HO_381001 := n5_
      have BK350 := n6_
      have BK365 := n7_
      have BK372 := n8_
      have BK380 := n9_
      have HB := n10_
      clear n0_ n1_ n2_ n3_ n4_ n5_ n6_ n7_ n8_ n9_ n10_
      refine start_ (n := 5) (S := fun w' => w'.cell? ⟨gb372, 0, none⟩ = some (.slice Ao30 t366.length co30) ∧ w'.cell? ⟨gb372, 1, none⟩ = some (.slice Ao34 t369.length co34) ∧ w'.cell? ⟨gb350, 0, none⟩ = some (.slice A0_0 l0_0.length c0_0) ∧ w'.cell? ⟨gb350, 1, none⟩ = some (.slice A0_1 l0_1.length c0_1)) (ds := []) #[false, false, false, false, false] (by kernel_rfl) rfl rfl ⟨(blk_cell BK372.out 0).trans rfl, (blk_cell BK372.out 1).trans rfl, (blk_cell BK350.out 0).trans rfl, (blk_cell BK350.out 1).trans rfl⟩ (fun hHeld => ?_)
      generalize wc.drew = w184 at HO_366000 HO_366001 HO_373000 HO_373001 HO_381000 HO_381001 BK350 BK365 BK372 BK380 HB hHeld ⊢
      refine take_ (i := 0) (N := some 49) (v := ?_) (a' := ?_) #[true, false, false, false, false] rfl rfl (by kernel_rfl) (fun _ _ _ h => h) (Or.inl ⟨by rfl, ?_⟩) hHeld ?_ ?_
      rotate_left
      ·rintro w' ⟨s0, s1, s2, s3⟩
       go_simp
       with_reducible rfl
      rotate_left
      ·simp only [Act.put, List.setIfInBounds_toArray, List.set_cons_zero, List.set_cons_succ, i64_w, i32_w]
       rfl
      refine take_ (i := 1) (N := some 50) (v := ?_) (a' := ?_) #[true, true, false, false, false] rfl rfl (by kernel_rfl) (fun _ _ _ h => h) (Or.inl ⟨by rfl, ?_⟩) hHeld ?_ ?_
      rotate_left
      ·rintro w' ⟨s0, s1, s2, s3⟩
       go_simp
       with_reducible rfl
      rotate_left
      ·simp only [Act.put, List.setIfInBounds_toArray, List.set_cons_zero, List.set_cons_succ, i64_w, i32_w]
       rfl
      refine one_ (i := 2) (N := some 51) #[true, true, true, false, false] rfl rfl (by kernel_rfl) (by decide) (fun K hK => ?_)
      refine goes_ Try.func11 (by kernel_rfl) rfl #[.agg #[.slice A0_0 l0_0.length c0_0, .slice A0_1 l0_1.length c0_1]] (by rfl) rfl rfl (by (try simp only [List.map_toArray, List.map_cons, List.map_nil]); first | done | rfl | (simp only [List.length_drop, List.length_take]; rfl)) ?_
      with_reducible refine (laws_toDisk.calls kj12 _ _ l0_0 _ _ l0_1 t382 t385 _ ?side1 ?side2 ?side3 ?side4 A62.out).mono ?_
      (case side1 => repeat (first | exact (Kd.C_below HR0_0.out HB.out) | (with_reducible refine Kd.C_alloc ?_ _) | (with_reducible refine Kd.C_drewN ?_ _) | (with_reducible refine Kd.C_drew ?_)))
      (case side2 => exact HC0_0.out)
      (case side3 => repeat (first | exact (Kd.C_below HR0_1.out HB.out) | (with_reducible refine Kd.C_alloc ?_ _) | (with_reducible refine Kd.C_drewN ?_ _) | (with_reducible refine Kd.C_drew ?_)))
      (case side4 => exact HC0_1.out)
      rintro e w185 ⟨v383, v386, rfl, ho0, ho1, hb⟩
      refine ⟨_, rfl, ?_⟩
      have n0_ := Aside0.mk (Kd.R_elder' (by (with_reducible repeat (first | apply Kd.R_alloc | apply Kd.R_drewN | apply Kd.R_drew)); exact HO_366000.out) (Kd.R_base ho0) hb)
      have n1_ := Aside0.mk (Kd.R_elder' (by (with_reducible repeat (first | apply Kd.R_alloc | apply Kd.R_drewN | apply Kd.R_drew)); exact HO_366001.out) (Kd.R_base ho1) hb)
      have n2_ := Aside0.mk (Kd.R_elder' (by (with_reducible repeat (first | apply Kd.R_alloc | apply Kd.R_drewN | apply Kd.R_drew)); exact HO_373000.out) (Kd.R_base ho0) hb)
      have n3_ := Aside0.mk (Kd.R_elder' (by (with_reducible repeat (first | apply Kd.R_alloc | apply Kd.R_drewN | apply Kd.R_drew)); exact HO_373001.out) (Kd.R_base ho1) hb)
      have n4_ := Aside0.mk (Kd.R_elder' (by (with_reducible repeat (first | apply Kd.R_alloc | apply Kd.R_drewN | apply Kd.R_drew)); exact HO_381000.out) (Kd.R_base ho0) hb)
      have n5_ := Aside0.mk (Kd.R_elder' (by (with_reducible repeat (first | apply Kd.R_alloc | apply Kd.R_drewN | apply Kd.R_drew)); exact HO_381001.out) (Kd.R_base ho1) hb)
      have n6_ := Aside0.mk (Kd.R_lower (Kd.R_new' (Kd.R_new' (Kd.R_new' ho0 (Kd.R_lt (by (with_reducible repeat (first | apply Kd.R_alloc | apply Kd.R_drewN | apply Kd.R_drew)); exact HO_366000.out))) (Kd.R_lt (by (with_reducible repeat (first | apply Kd.R_alloc | apply Kd.R_drewN | apply Kd.R_drew)); exact HO_373000.out))) (Kd.R_lt (by (with_reducible repeat (first | apply Kd.R_alloc | apply Kd.R_drewN | apply Kd.R_drew)); exact HO_381000.out))) (below_size (by repeat (first | (with_reducible first | exact HB.out | apply below_alloc | apply pw_below_drewN | apply below_drew1 | refine below_set ?_ GE350.out | refine below_set ?_ GE365.out | refine below_set ?_ GE372.out | refine below_set ?_ GE380.out) | exact HB.out))))
      have n7_ := Aside0.mk (Kd.R_lower (Kd.R_new' (Kd.R_new' (Kd.R_new' ho1 (Kd.R_lt (by (with_reducible repeat (first | apply Kd.R_alloc | apply Kd.R_drewN | apply Kd.R_drew)); exact HO_366001.out))) (Kd.R_lt (by (with_reducible repeat (first | apply Kd.R_alloc | apply Kd.R_drewN | apply Kd.R_drew)); exact HO_373001.out))) (Kd.R_lt (by (with_reducible repeat (first | apply Kd.R_alloc | apply Kd.R_drewN | apply Kd.R_drew)); exact HO_381001.out))) (below_size (by repeat (first | (with_reducible first | exact HB.out | apply below_alloc | apply pw_below_drewN | apply below_drew1 | refine below_set ?_ GE350.out | refine below_set ?_ GE365.out | refine below_set ?_ GE372.out | refine below_set ?_ GE380.out) | exact HB.out))))
      have n8_ := Aside0.mk (blk_below (g := gb350) (o := .cells #[.slice A0_0 l0_0.length c0_0, .slice A0_1 l0_1.length c0_1] 25 (0, 0)) (by (with_reducible repeat (first | refine blk_drewN ?_ _ | refine blk_drew ?_ | refine blk_alloc ?_ _)); exact BK350.out) hb)
      have n9_ := Aside0.mk (blk_below (g := gb365) (o := .cells #[.slice Ao23 t358.length co23, .slice Ao26 t361.length co26] 29 (0, 0)) (by (with_reducible repeat (first | refine blk_drewN ?_ _ | refine blk_drew ?_ | refine blk_alloc ?_ _)); exact BK365.out) hb)
      have n10_ := Aside0.mk (blk_below (g := gb372) (o := .cells #[.slice Ao30 t366.length co30, .slice Ao34 t369.length co34] 29 (0, 0)) (by (with_reducible repeat (first | refine blk_drewN ?_ _ | refine blk_drew ?_ | refine blk_alloc ?_ _)); exact BK372.out) hb)
      have n11_ := Aside0.mk (blk_below (g := gb380) (o := .cells #[.slice Ao37 t373.length co37, .slice Ao42 t376.length co42] 29 (0, 0)) (by (with_reducible repeat (first | refine blk_drewN ?_ _ | refine blk_drew ?_ | refine blk_alloc ?_ _)); exact BK380.out) hb)
      have n12_ := Aside0.mk (below_step (by repeat (first | (with_reducible first | exact HB.out | apply below_alloc | apply pw_below_drewN | apply below_drew1 | refine below_set ?_ GE350.out | refine below_set ?_ GE365.out | refine below_set ?_ GE372.out | refine below_set ?_ GE380.out) | exact HB.out)) hb)
      clear HO_366000
      clear HO_366001
      clear HO_373000
      clear HO_373001
      clear HO_381000
      clear HO_381001
      clear BK350
      clear BK365
      clear BK372
      clear BK380
      clear HB
      have HO_366000 := n0_
      have HO_366001 := n1_
      have HO_373000 := n2_
      have HO_373001 := n3_
      have HO_381000 := n4_
      have HO_381001 := n5_
      have HO384 := n6_
      have HO387 := n7_
      have BK350 := n8_
      have BK365 := n9_
      have BK372 := n10_
      have BK380 := n11_
      have HB := n12_
      clear n0_ n1_ n2_ n3_ n4_ n5_ n6_ n7_ n8_ n9_ n10_ n11_ n12_
      (try clear hb)
      (try clear hb2)
      (try clear hk)
      (try clear hi)
      (try clear ho0)
      (try clear ho1)
      obtain ⟨Ao186, co186, eo186⟩ := Kd.R_slice HO384.out
      (first | subst eo186 | (injection eo186 with f1_ f2_ f3_; have f4_ := f1_.symm; have f5_ := f3_.symm; clear f1_ f2_ f3_; subst f4_; subst f5_))
      obtain ⟨Ao187, co187, eo187⟩ := Kd.R_slice HO387.out
      (first | subst eo187 | (injection eo187 with f1_ f2_ f3_; have f4_ := f1_.symm; have f5_ := f3_.symm; clear f1_ f2_ f3_; subst f4_; subst f5_))
      refine hK.out _ _ ⟨(blk_cell BK372.out 0).trans rfl, (blk_cell BK372.out 1).trans rfl, (blk_cell BK350.out 0).trans rfl, (blk_cell BK350.out 1).trans rfl⟩ (fun hHeld => ?_)
      clear hK K
      refine norm_ (a' := ?_) ?_ ?_
      rotate_left
      ·show Act.put _ (some 51) _ = _
       simp only [Act.put, List.setIfInBounds_toArray, List.set_cons_zero, List.set_cons_succ, i64_w, i32_w]
       rfl
      refine one_ (i := 3) (N := some 52) #[true, true, true, true, false] rfl rfl (by kernel_rfl) (by decide) (fun K hK => ?_)
      refine goes_ Try.func13 (by kernel_rfl) rfl #[.agg #[.slice Ao30 t366.length co30, .slice Ao34 t369.length co34], .agg #[.slice Ao186 t382.length co186, .slice Ao187 t385.length co187]] (by rfl) rfl rfl (by (try simp only [List.map_toArray, List.map_cons, List.map_nil]); first | done | rfl | (simp only [List.length_drop, List.length_take]; rfl)) ?_
      with_reducible refine (laws_eqDisk.calls kj12 _ _ t366 _ _ t369 _ _ t382 _ _ t385 false _ ?side1 ?side2 ?side3 ?side4 ?side5 ?side6 ?side7 ?side8 A63.out).mono ?_
      (case side1 => repeat (first | exact (Kd.R_reads' HO_373000.out).2.2 | (with_reducible refine Kd.C_alloc ?_ _) | (with_reducible refine Kd.C_drewN ?_ _) | (with_reducible refine Kd.C_drew ?_)))
      (case side2 => exact (Kd.R_reads' HO_373000.out).2.1)
      (case side3 => repeat (first | exact (Kd.R_reads' HO_373001.out).2.2 | (with_reducible refine Kd.C_alloc ?_ _) | (with_reducible refine Kd.C_drewN ?_ _) | (with_reducible refine Kd.C_drew ?_)))
      (case side4 => exact (Kd.R_reads' HO_373001.out).2.1)
      (case side5 => repeat (first | exact (Kd.R_reads' HO384.out).2.2 | (with_reducible refine Kd.C_alloc ?_ _) | (with_reducible refine Kd.C_drewN ?_ _) | (with_reducible refine Kd.C_drew ?_)))
      (case side6 => exact (Kd.R_reads' HO384.out).2.1)
      (case side7 => repeat (first | exact (Kd.R_reads' HO387.out).2.2 | (with_reducible refine Kd.C_alloc ?_ _) | (with_reducible refine Kd.C_drewN ?_ _) | (with_reducible refine Kd.C_drew ?_)))
      (case side8 => exact (Kd.R_reads' HO387.out).2.1)
      rintro e w188 ⟨rfl, hb⟩
      refine ⟨_, rfl, ?_⟩
      have n0_ := Aside0.mk (Kd.R_below (by (with_reducible repeat (first | apply Kd.R_alloc | apply Kd.R_drewN | apply Kd.R_drew)); exact HO_366000.out) hb)
      have n1_ := Aside0.mk (Kd.R_below (by (with_reducible repeat (first | apply Kd.R_alloc | apply Kd.R_drewN | apply Kd.R_drew)); exact HO_366001.out) hb)
      have n2_ := Aside0.mk (Kd.R_below (by (with_reducible repeat (first | apply Kd.R_alloc | apply Kd.R_drewN | apply Kd.R_drew)); exact HO_373000.out) hb)
      have n3_ := Aside0.mk (Kd.R_below (by (with_reducible repeat (first | apply Kd.R_alloc | apply Kd.R_drewN | apply Kd.R_drew)); exact HO_373001.out) hb)
      have n4_ := Aside0.mk (Kd.R_below (by (with_reducible repeat (first | apply Kd.R_alloc | apply Kd.R_drewN | apply Kd.R_drew)); exact HO_381000.out) hb)
      have n5_ := Aside0.mk (Kd.R_below (by (with_reducible repeat (first | apply Kd.R_alloc | apply Kd.R_drewN | apply Kd.R_drew)); exact HO_381001.out) hb)
      have n6_ := Aside0.mk (Kd.R_below (by (with_reducible repeat (first | apply Kd.R_alloc | apply Kd.R_drewN | apply Kd.R_drew)); exact HO384.out) hb)
      have n7_ := Aside0.mk (Kd.R_below (by (with_reducible repeat (first | apply Kd.R_alloc | apply Kd.R_drewN | apply Kd.R_drew)); exact HO387.out) hb)
      have n8_ := Aside0.mk (blk_below (g := gb350) (o := .cells #[.slice A0_0 l0_0.length c0_0, .slice A0_1 l0_1.length c0_1] 25 (0, 0)) (by (with_reducible repeat (first | refine blk_drewN ?_ _ | refine blk_drew ?_ | refine blk_alloc ?_ _)); exact BK350.out) hb)
      have n9_ := Aside0.mk (blk_below (g := gb365) (o := .cells #[.slice Ao23 t358.length co23, .slice Ao26 t361.length co26] 29 (0, 0)) (by (with_reducible repeat (first | refine blk_drewN ?_ _ | refine blk_drew ?_ | refine blk_alloc ?_ _)); exact BK365.out) hb)
      have n10_ := Aside0.mk (blk_below (g := gb372) (o := .cells #[.slice Ao30 t366.length co30, .slice Ao34 t369.length co34] 29 (0, 0)) (by (with_reducible repeat (first | refine blk_drewN ?_ _ | refine blk_drew ?_ | refine blk_alloc ?_ _)); exact BK372.out) hb)
      have n11_ := Aside0.mk (blk_below (g := gb380) (o := .cells #[.slice Ao37 t373.length co37, .slice Ao42 t376.length co42] 29 (0, 0)) (by (with_reducible repeat (first | refine blk_drewN ?_ _ | refine blk_drew ?_ | refine blk_alloc ?_ _)); exact BK380.out) hb)
      have n12_ := Aside0.mk (below_step (by repeat (first | (with_reducible first | exact HB.out | apply below_alloc | apply pw_below_drewN | apply below_drew1 | refine below_set ?_ GE350.out | refine below_set ?_ GE365.out | refine below_set ?_ GE372.out | refine below_set ?_ GE380.out) | exact HB.out)) hb)
      clear HO_366000
      clear HO_366001
      clear HO_373000
      clear HO_373001
      clear HO_381000
      clear HO_381001
      clear HO384
      clear HO387
      clear BK350
      clear BK365
      clear BK372
      clear BK380
      clear HB
      have HO_366000 := n0_
      have HO_366001 := n1_
      have HO_373000 := n2_
      have HO_373001 := n3_
      have HO_381000 := n4_
      have HO_381001 := n5_
      have HO384 := n6_
      have HO387 := n7_
      have BK350 := n8_
      have BK365 := n9_
      have BK372 := n10_
      have BK380 := n11_
      have HB := n12_
      clear n0_ n1_ n2_ n3_ n4_ n5_ n6_ n7_ n8_ n9_ n10_ n11_ n12_
      (try clear hb)
      (try clear hb2)
      (try clear hk)
      (try clear hi)
      refine hK.out _ _ ⟨(blk_cell BK372.out 0).trans rfl, (blk_cell BK372.out 1).trans rfl, (blk_cell BK350.out 0).trans rfl, (blk_cell BK350.out 1).trans rfl⟩ (fun hHeld => ?_)
      clear hK K
      refine norm_ (a' := ?_) ?_ ?_
      rotate_left
      ·show Act.put _ (some 52) _ = _
       simp only [Act.put, List.setIfInBounds_toArray, List.set_cons_zero, List.set_cons_succ, i64_w, i32_w]
       rfl
      refine pure_ (i := 4) (N := some 53) (v := ?_) (a' := ?_) #[true, true, true, true, true] rfl rfl (by kernel_rfl) (fun _ _ _ h => h) (Or.inl ⟨by rfl, ?_⟩) ?_ ?_
      rotate_left
      ·intro w'
       go_simp
       with_reducible rfl
      rotate_left
      ·simp only [Act.put, List.setIfInBounds_toArray, List.set_cons_zero, List.set_cons_succ, i64_w, i32_w]
       rfl
      refine done_ (by kernel_rfl) ?_
      try go_wp2
      go_ret
      exact ⟨by first | rfl | (simp [errW_none, errW_some] <;> rfl) | (simp [*, errW_none, errW_some] <;> rfl), by repeat (first | (with_reducible first | exact HB.out | apply below_alloc | apply pw_below_drewN | apply below_drew1 | refine below_set ?_ GE350.out | refine below_set ?_ GE365.out | refine below_set ?_ GE372.out | refine below_set ?_ GE380.out) | exact HB.out)⟩
end Go.Proofs.Ytadelojhfepkeaa.Q
