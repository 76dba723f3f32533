/- What laws.FnExactLandOne reaches, part 7: the functions as Lean functions, the proofs that the program's functions answer so, and plain laws about them. -/
import Derived.Test.YtadelojhfepkeaaKFnExactLandOne1
import Derived.Test.YtadelojhfepkeaaKFnExactLandOne2
import Derived.Test.YtadelojhfepkeaaKFnExactLandOne3
import Derived.Test.YtadelojhfepkeaaKFnExactLandOne4
import Derived.Test.YtadelojhfepkeaaKFnExactLandOne6
namespace Go.Proofs.Ytadelojhfepkeaa.Q
open Go.RowKit Go.Proofs.Ytadelojhfepkeaa.Ext Go.Proofs.YtadelojhfepkeaaW.PrintWords Go.Proofs.YtadelojhfepkeaaW.PrintLast Go.Proofs.YtadelojhfepkeaaW.PrintMore
attribute [local go_sem] max2_int min2_int max_two min_two max_three min_three max_four min_four   -- for this text's walks alone
set_option linter.unusedVariables false
set_option linter.unusedSimpArgs false

set_option linter.unusedVariables false
set_option linter.unusedSimpArgs false
/-! ### laws_FnExactLandOne: function 5 -/
mutual
def laws_FnExactLandOne.j0 : Nat → Int → Int → Int → Bool → List ByteArray → List (S75) → List ByteArray → List (S76) → List ByteArray → List (S76) → List ByteArray → List (S76) → Option (Bool)
  | 0, _, _, _, _, _, _, _, _, _, _, _, _ => none
  | k + 1, x1, x7, x10, x44, x452000, x452001, x467000, x467001, x474000, x474001, x482000, x482001 => if x44 = true then (some false) else ((laws_toDisk.f k x452000 x452001).bind fun bt483 => ((laws_eqDisk.f k x474000 x474001 bt483.1 bt483.2).bind fun t489 => (if t489 = true then ((laws_markDisk.f k x474000 x474001 1).bind fun bt490 => (if bt490.1 < 0 then (laws_FnExactLandOne.j1 k x1 x7 true x452000 x452001 x467000 x467001 x482000 x482001) else ((laws_eqDisk.f k x482000 x482001 x467000 x467001).bind fun t493 => (if t493 = true then (laws_FnExactLandOne.j1 k x1 x7 (x10 != x7) x452000 x452001 x467000 x467001 x482000 x482001) else (laws_FnExactLandOne.j1 k x1 x7 true x452000 x452001 x467000 x467001 x482000 x482001))))) else (some false))))
def laws_FnExactLandOne.j1 : Nat → Int → Int → Bool → List ByteArray → List (S75) → List ByteArray → List (S76) → List ByteArray → List (S76) → Option (Bool)
  | 0, _, _, _, _, _, _, _, _, _ => none
  | k + 1, x1, x7, x65, x452000, x452001, x467000, x467001, x482000, x482001 => if x65 = true then (some false) else ((laws_markDisk.f k x482000 x482001 1).bind fun bt494 => ((laws_heldDisk.f k bt494.2.1 bt494.2.2 1).bind fun t497 => (if t497 < 0 then (some false) else (if t497 = bt494.1 then ((laws_toDisk.f k x452000 x452001).bind fun bt498 => ((impl_LandOne.f k bt498.1 bt498.2 x1).bind fun bt504 => ((laws_eqDisk.f k bt504.1 bt504.2.1 x467000 x467001).bind fun t512 => (if t512 = true then (laws_FnExactLandOne.j2 k bt494.1 (bt504.2.2 != x7) bt494.2.1 bt494.2.2) else (laws_FnExactLandOne.j2 k bt494.1 true bt494.2.1 bt494.2.2))))) else (some false)))))
def laws_FnExactLandOne.j2 : Nat → Int → Bool → List ByteArray → List (S76) → Option (Bool)
  | 0, _, _, _, _ => none
  | k + 1, x12, x92, x482000, x482001 => if x92 = true then (some false) else ((laws_heldDisk.f k x482000 x482001 1).bind fun t513 => (if t513 < 0 then (some false) else (if t513 = x12 then (some true) else (some false))))
end
def laws_FnExactLandOne.f (k : Nat) (l0_0 : List ByteArray) (l0_1 : List (S75)) (a1 : Int) : Option (Bool) := (laws_szDisk.f k l0_0 l0_1 1048576).bind fun t452 => (if t452 < 0 then (some true) else ((laws_toDisk.f k l0_0 l0_1).bind fun bt453 => ((spec_LandOne.f k bt453.1 bt453.2 a1).bind fun bt459 => ((laws_toDisk.f k l0_0 l0_1).bind fun bt467 => ((impl_LandOne.f k bt467.1 bt467.2 a1).bind fun bt474 => ((laws_eqDisk.f k bt474.1 bt474.2.1 bt459.1 bt459.2.1).bind fun t482 => (if t482 = true then (laws_FnExactLandOne.j0 k a1 bt459.2.2 bt474.2.2 (bt474.2.2 != bt459.2.2) l0_0 l0_1 bt459.1 bt459.2.1 bt467.1 bt467.2 bt474.1 bt474.2.1) else (laws_FnExactLandOne.j0 k a1 bt459.2.2 bt474.2.2 true l0_0 l0_1 bt459.1 bt459.2.1 bt467.1 bt467.2 bt474.1 bt474.2.1))))))))
theorem laws_FnExactLandOne.mono_l : ∀ k, (∀ y0 y1 y2 y3 y4 y5 y6 y7 y8 y9 y10 y11, LeO (laws_FnExactLandOne.j0 k y0 y1 y2 y3 y4 y5 y6 y7 y8 y9 y10 y11) (laws_FnExactLandOne.j0 (k + 1) y0 y1 y2 y3 y4 y5 y6 y7 y8 y9 y10 y11)) ∧ (∀ y0 y1 y2 y3 y4 y5 y6 y7 y8, LeO (laws_FnExactLandOne.j1 k y0 y1 y2 y3 y4 y5 y6 y7 y8) (laws_FnExactLandOne.j1 (k + 1) y0 y1 y2 y3 y4 y5 y6 y7 y8)) ∧ (∀ y0 y1 y2 y3, LeO (laws_FnExactLandOne.j2 k y0 y1 y2 y3) (laws_FnExactLandOne.j2 (k + 1) y0 y1 y2 y3))
  | 0 => ⟨fun _ _ _ _ _ _ _ _ _ _ _ _ r h => by simp [laws_FnExactLandOne.j0] at h, fun _ _ _ _ _ _ _ _ _ r h => by simp [laws_FnExactLandOne.j1] at h, fun _ _ _ _ r h => by simp [laws_FnExactLandOne.j2] at h⟩
  | k + 1 => by
    obtain ⟨ih0, ih1, ih2⟩ := laws_FnExactLandOne.mono_l k
    refine ⟨?_, ?_, ?_⟩
    · intro y0 y1 y2 y3 y4 y5 y6 y7 y8 y9 y10 y11
      unfold laws_FnExactLandOne.j0
      repeat' first
      | (with_reducible exact ih0 _ _ _ _ _ _ _ _ _ _ _ _)
      | (with_reducible exact ih1 _ _ _ _ _ _ _ _ _)
      | (with_reducible exact ih2 _ _ _ _)
      | (with_reducible exact impl_LandOne.mono _ _ _ _)
      | (with_reducible exact laws_eqDisk.mono _ _ _ _ _)
      | (with_reducible exact laws_heldDisk.mono _ _ _ _)
      | (with_reducible exact laws_markDisk.mono _ _ _ _)
      | (with_reducible exact laws_szDisk.mono _ _ _ _)
      | (with_reducible exact laws_toDisk.mono _ _ _)
      | (with_reducible exact spec_LandOne.mono _ _ _ _)
      | (with_reducible exact LeO.refl _)
      | (with_reducible exact LeO.none _)
      | (with_reducible refine LeO.ite ?_ ?_)
      | (with_reducible refine LeO.bind ?_ (fun _ => ?_))
      | exact ih0 _ _ _ _ _ _ _ _ _ _ _ _
      | exact ih1 _ _ _ _ _ _ _ _ _
      | exact ih2 _ _ _ _
      | exact impl_LandOne.mono _ _ _ _
      | exact laws_eqDisk.mono _ _ _ _ _
      | exact laws_heldDisk.mono _ _ _ _
      | exact laws_markDisk.mono _ _ _ _
      | exact laws_szDisk.mono _ _ _ _
      | exact laws_toDisk.mono _ _ _
      | exact spec_LandOne.mono _ _ _ _
      | exact LeO.none _
      | refine LeO.ite ?_ ?_
      | refine LeO.bind ?_ (fun _ => ?_)
    · intro y0 y1 y2 y3 y4 y5 y6 y7 y8
      unfold laws_FnExactLandOne.j1
      repeat' first
      | (with_reducible exact ih0 _ _ _ _ _ _ _ _ _ _ _ _)
      | (with_reducible exact ih1 _ _ _ _ _ _ _ _ _)
      | (with_reducible exact ih2 _ _ _ _)
      | (with_reducible exact impl_LandOne.mono _ _ _ _)
      | (with_reducible exact laws_eqDisk.mono _ _ _ _ _)
      | (with_reducible exact laws_heldDisk.mono _ _ _ _)
      | (with_reducible exact laws_markDisk.mono _ _ _ _)
      | (with_reducible exact laws_szDisk.mono _ _ _ _)
      | (with_reducible exact laws_toDisk.mono _ _ _)
      | (with_reducible exact spec_LandOne.mono _ _ _ _)
      | (with_reducible exact LeO.refl _)
      | (with_reducible exact LeO.none _)
      | (with_reducible refine LeO.ite ?_ ?_)
      | (with_reducible refine LeO.bind ?_ (fun _ => ?_))
      | exact ih0 _ _ _ _ _ _ _ _ _ _ _ _
      | exact ih1 _ _ _ _ _ _ _ _ _
      | exact ih2 _ _ _ _
      | exact impl_LandOne.mono _ _ _ _
      | exact laws_eqDisk.mono _ _ _ _ _
      | exact laws_heldDisk.mono _ _ _ _
      | exact laws_markDisk.mono _ _ _ _
      | exact laws_szDisk.mono _ _ _ _
      | exact laws_toDisk.mono _ _ _
      | exact spec_LandOne.mono _ _ _ _
      | exact LeO.none _
      | refine LeO.ite ?_ ?_
      | refine LeO.bind ?_ (fun _ => ?_)
    · intro y0 y1 y2 y3
      unfold laws_FnExactLandOne.j2
      repeat' first
      | (with_reducible exact ih0 _ _ _ _ _ _ _ _ _ _ _ _)
      | (with_reducible exact ih1 _ _ _ _ _ _ _ _ _)
      | (with_reducible exact ih2 _ _ _ _)
      | (with_reducible exact impl_LandOne.mono _ _ _ _)
      | (with_reducible exact laws_eqDisk.mono _ _ _ _ _)
      | (with_reducible exact laws_heldDisk.mono _ _ _ _)
      | (with_reducible exact laws_markDisk.mono _ _ _ _)
      | (with_reducible exact laws_szDisk.mono _ _ _ _)
      | (with_reducible exact laws_toDisk.mono _ _ _)
      | (with_reducible exact spec_LandOne.mono _ _ _ _)
      | (with_reducible exact LeO.refl _)
      | (with_reducible exact LeO.none _)
      | (with_reducible refine LeO.ite ?_ ?_)
      | (with_reducible refine LeO.bind ?_ (fun _ => ?_))
      | exact ih0 _ _ _ _ _ _ _ _ _ _ _ _
      | exact ih1 _ _ _ _ _ _ _ _ _
      | exact ih2 _ _ _ _
      | exact impl_LandOne.mono _ _ _ _
      | exact laws_eqDisk.mono _ _ _ _ _
      | exact laws_heldDisk.mono _ _ _ _
      | exact laws_markDisk.mono _ _ _ _
      | exact laws_szDisk.mono _ _ _ _
      | exact laws_toDisk.mono _ _ _
      | exact spec_LandOne.mono _ _ _ _
      | exact LeO.none _
      | refine LeO.ite ?_ ?_
      | refine LeO.bind ?_ (fun _ => ?_)
theorem laws_FnExactLandOne.mono : ∀ a0 a1 a2 k, LeO (laws_FnExactLandOne.f k a0 a1 a2) (laws_FnExactLandOne.f (k + 1) a0 a1 a2) := by
  intro a0 a1 a2 k
  obtain ⟨ih0, ih1, ih2⟩ := laws_FnExactLandOne.mono_l k
  unfold laws_FnExactLandOne.f
  repeat' first
      | (with_reducible exact ih0 _ _ _ _ _ _ _ _ _ _ _ _)
      | (with_reducible exact ih1 _ _ _ _ _ _ _ _ _)
      | (with_reducible exact ih2 _ _ _ _)
      | (with_reducible exact impl_LandOne.mono _ _ _ _)
      | (with_reducible exact laws_eqDisk.mono _ _ _ _ _)
      | (with_reducible exact laws_heldDisk.mono _ _ _ _)
      | (with_reducible exact laws_markDisk.mono _ _ _ _)
      | (with_reducible exact laws_szDisk.mono _ _ _ _)
      | (with_reducible exact laws_toDisk.mono _ _ _)
      | (with_reducible exact spec_LandOne.mono _ _ _ _)
      | (with_reducible exact LeO.refl _)
      | (with_reducible exact LeO.none _)
      | (with_reducible refine LeO.ite ?_ ?_)
      | (with_reducible refine LeO.bind ?_ (fun _ => ?_))
      | exact ih0 _ _ _ _ _ _ _ _ _ _ _ _
      | exact ih1 _ _ _ _ _ _ _ _ _
      | exact ih2 _ _ _ _
      | exact impl_LandOne.mono _ _ _ _
      | exact laws_eqDisk.mono _ _ _ _ _
      | exact laws_heldDisk.mono _ _ _ _
      | exact laws_markDisk.mono _ _ _ _
      | exact laws_szDisk.mono _ _ _ _
      | exact laws_toDisk.mono _ _ _
      | exact spec_LandOne.mono _ _ _ _
      | exact LeO.none _
      | refine LeO.ite ?_ ?_
      | refine LeO.bind ?_ (fun _ => ?_)
set_option maxHeartbeats 8000000 in
set_option maxRecDepth 100000 in
theorem laws_FnExactLandOne.calls (k : Nat) (A0_0 : Option Addr) (c0_0 : Nat) (l0_0 : List ByteArray) (A0_1 : Option Addr) (c0_1 : Nat) (l0_1 : List (S75)) (a1 : Int) (r : Bool) (w : World) (hr0_0 : Kd.C Kd.string w A0_0 l0_0.length l0_0) (hc0_0 : l0_0.length ≤ c0_0) (hr0_1 : Kd.C k75 w A0_1 l0_1.length l0_1) (hc0_1 : l0_1.length ≤ c0_1) (h : laws_FnExactLandOne.f k l0_0 l0_1 a1 = some r) :
    Calls Try.prog 5 #[.agg #[.slice A0_0 l0_0.length c0_0, .slice A0_1 l0_1.length c0_1], .int .i64 a1] w fun e w' => e = .returned (.bool r) ∧ Below w.heap.size w w' := by
 have hu25 := Try.underlying25
 have hu29 := Try.underlying29
 have HR0_0 := Aside0.mk hr0_0
 have HC0_0 := Aside0.mk hc0_0
 clear hr0_0 hc0_0
 have HR0_1 := Aside0.mk hr0_1
 have HC0_1 := Aside0.mk hc0_1
 clear hr0_1 hc0_1
 have HB := Aside0.mk (Below.refl w.heap.size w)
 have H : ((laws_szDisk.f k l0_0 l0_1 1048576).bind fun t452 => (if t452 < 0 then (some true) else ((laws_toDisk.f k l0_0 l0_1).bind fun bt453 => ((spec_LandOne.f k bt453.1 bt453.2 a1).bind fun bt459 => ((laws_toDisk.f k l0_0 l0_1).bind fun bt467 => ((impl_LandOne.f k bt467.1 bt467.2 a1).bind fun bt474 => ((laws_eqDisk.f k bt474.1 bt474.2.1 bt459.1 bt459.2.1).bind fun t482 => (if t482 = true then (laws_FnExactLandOne.j0 k a1 bt459.2.2 bt474.2.2 (bt474.2.2 != bt459.2.2) l0_0 l0_1 bt459.1 bt459.2.1 bt467.1 bt467.2 bt474.1 bt474.2.1) else (laws_FnExactLandOne.j0 k a1 bt459.2.2 bt474.2.2 true l0_0 l0_1 bt459.1 bt459.2.1 bt467.1 bt467.2 bt474.1 bt474.2.1))))))))) = some r := h
 clear h
 replace H := Option.bind_eq_some_iff.mp H
 obtain ⟨t452, A30, H⟩ := H
 replace H : (if t452 < 0 then (some true) else ((laws_toDisk.f k l0_0 l0_1).bind fun bt453 => ((spec_LandOne.f k bt453.1 bt453.2 a1).bind fun bt459 => ((laws_toDisk.f k l0_0 l0_1).bind fun bt467 => ((impl_LandOne.f k bt467.1 bt467.2 a1).bind fun bt474 => ((laws_eqDisk.f k bt474.1 bt474.2.1 bt459.1 bt459.2.1).bind fun t482 => (if t482 = true then (laws_FnExactLandOne.j0 k a1 bt459.2.2 bt474.2.2 (bt474.2.2 != bt459.2.2) l0_0 l0_1 bt459.1 bt459.2.1 bt467.1 bt467.2 bt474.1 bt474.2.1) else (laws_FnExactLandOne.j0 k a1 bt459.2.2 bt474.2.2 true l0_0 l0_1 bt459.1 bt459.2.1 bt467.1 bt467.2 bt474.1 bt474.2.1)))))))) = some r := H
 have A3 := Aside0.mk A30
 clear A30
 by_cases c4 : t452 < 0
 ·rw [if_pos c4] at H
  have c4b0 : decide (t452 < 0) = true := decide_eq_true c4
  clear c4
  obtain rfl := Option.some.inj H
  go_enter Try.func5, Try.ntmps5
  go_wp2_with (first | ((with_reducible refine gate_dst (N := 2) rfl ?_); refine box_event ?hg (N := 2) ?hd (cs := #[.slice A0_0 l0_0.length c0_0, .slice A0_1 l0_1.length c0_1]) (t := 25) ?hr ?_; (case hd => rfl); (case hg => rfl); (case hr => first | (go_simp; done) | (go_simp; rfl)); intro gb451 hg w5 hbox hb; have n0_ := Aside0.mk (below_step (by repeat (first | (with_reducible first | exact HB.out | apply below_alloc | apply pw_below_drewN | apply below_drew1) | exact HB.out)) hb); have n1_ := Aside0.mk (hbox); have n2_ := Aside0.mk ((by rw [hg]; exact (below_size (by repeat (first | (with_reducible first | exact HB.out | apply below_alloc | apply pw_below_drewN | apply below_drew1) | exact HB.out))) : w.heap.size ≤ gb451)); have n3_ := Aside0.mk ((by rw [hg]; exact (below_size (by repeat (first | (with_reducible first | exact HB.out | apply below_alloc | apply pw_below_drewN | apply below_drew1) | exact HB.out))) : w.heap.size ≤ gb451)); clear HB; have HB := n0_; have BK451 := n1_; have GW451 := n2_; have GE451 := n3_; clear n0_ n1_ n2_ n3_; clear hb hbox hg; have hcz6_0 : w5.cell? ⟨gb451, 0, none⟩ = some (.slice A0_0 l0_0.length c0_0) := (blk_cell BK451.out 0).trans rfl; have hcz6_1 : w5.cell? ⟨gb451, 1, none⟩ = some (.slice A0_1 l0_1.length c0_1) := (blk_cell BK451.out 1).trans rfl; have hfz6_0 := blk_frozen BK451.out 0; have hfz6_1 := blk_frozen BK451.out 1) | ((with_reducible refine gate_callee (f := 9) rfl ?_); refine goesL_ (some 18) rfl rfl Try.func9 (by kernel_rfl) rfl #[.agg #[.slice A0_0 l0_0.length c0_0, .slice A0_1 l0_1.length c0_1], .int .i64 1048576] rfl (by (try simp only [List.map_toArray, List.map_cons, List.map_nil]); first | done | rfl | (simp only [List.length_drop, List.length_take]; rfl)) ?_; (with_reducible refine (laws_szDisk.calls k _ _ l0_0 _ _ l0_1 1048576 t452 _ ?side1 ?side2 ?side3 ?side4 A3.out).mono ?_); (case side1 => repeat (first | exact (Kd.C_below HR0_0.out HB.out) | (with_reducible refine Kd.C_alloc ?_ _) | (with_reducible refine Kd.C_drewN ?_ _) | (with_reducible refine Kd.C_drew ?_))); (case side2 => exact HC0_0.out); (case side3 => repeat (first | exact (Kd.C_below HR0_1.out HB.out) | (with_reducible refine Kd.C_alloc ?_ _) | (with_reducible refine Kd.C_drewN ?_ _) | (with_reducible refine Kd.C_drew ?_))); (case side4 => exact HC0_1.out); rintro e w7 ⟨rfl, hb⟩; refine ⟨_, rfl, ?_⟩; have n0_ := Aside0.mk (blk_below (g := gb451) (o := .cells #[.slice A0_0 l0_0.length c0_0, .slice A0_1 l0_1.length c0_1] 25 (0, 0)) (by (with_reducible repeat (first | refine blk_drewN ?_ _ | refine blk_drew ?_ | refine blk_alloc ?_ _)); exact BK451.out) hb); have n1_ := Aside0.mk (below_step (by repeat (first | (with_reducible first | exact HB.out | apply below_alloc | apply pw_below_drewN | apply below_drew1 | refine below_set ?_ GE451.out) | exact HB.out)) hb); clear BK451; clear HB; have BK451 := n0_; have HB := n1_; clear n0_ n1_; (try clear hb); (try clear hb2); (try clear hk); (try clear hi)))
  go_ret
  exact ⟨by first | rfl | (simp [errW_none, errW_some] <;> rfl) | (simp [*, errW_none, errW_some] <;> rfl), by repeat (first | (with_reducible first | exact HB.out | apply below_alloc | apply pw_below_drewN | apply below_drew1 | refine below_set ?_ GE451.out) | exact HB.out)⟩
 ·rw [if_neg c4] at H
  have c4b0 : decide (t452 < 0) = false := decide_eq_false c4
  clear c4
  replace H := Option.bind_eq_some_iff.mp H
  obtain ⟨⟨t453, t456⟩, A80, H⟩ := H
  replace H : ((spec_LandOne.f k t453 t456 a1).bind fun bt459 => ((laws_toDisk.f k l0_0 l0_1).bind fun bt467 => ((impl_LandOne.f k bt467.1 bt467.2 a1).bind fun bt474 => ((laws_eqDisk.f k bt474.1 bt474.2.1 bt459.1 bt459.2.1).bind fun t482 => (if t482 = true then (laws_FnExactLandOne.j0 k a1 bt459.2.2 bt474.2.2 (bt474.2.2 != bt459.2.2) l0_0 l0_1 bt459.1 bt459.2.1 bt467.1 bt467.2 bt474.1 bt474.2.1) else (laws_FnExactLandOne.j0 k a1 bt459.2.2 bt474.2.2 true l0_0 l0_1 bt459.1 bt459.2.1 bt467.1 bt467.2 bt474.1 bt474.2.1)))))) = some r := H
  have A8 := Aside0.mk A80
  clear A80
  replace H := Option.bind_eq_some_iff.mp H
  obtain ⟨⟨t459, t462, t465⟩, A90, H⟩ := H
  replace H : ((laws_toDisk.f k l0_0 l0_1).bind fun bt467 => ((impl_LandOne.f k bt467.1 bt467.2 a1).bind fun bt474 => ((laws_eqDisk.f k bt474.1 bt474.2.1 t459 t462).bind fun t482 => (if t482 = true then (laws_FnExactLandOne.j0 k a1 t465 bt474.2.2 (bt474.2.2 != t465) l0_0 l0_1 t459 t462 bt467.1 bt467.2 bt474.1 bt474.2.1) else (laws_FnExactLandOne.j0 k a1 t465 bt474.2.2 true l0_0 l0_1 t459 t462 bt467.1 bt467.2 bt474.1 bt474.2.1))))) = some r := H
  have A9 := Aside0.mk A90
  clear A90
  replace H := Option.bind_eq_some_iff.mp H
  obtain ⟨⟨t467, t470⟩, A100, H⟩ := H
  replace H : ((impl_LandOne.f k t467 t470 a1).bind fun bt474 => ((laws_eqDisk.f k bt474.1 bt474.2.1 t459 t462).bind fun t482 => (if t482 = true then (laws_FnExactLandOne.j0 k a1 t465 bt474.2.2 (bt474.2.2 != t465) l0_0 l0_1 t459 t462 t467 t470 bt474.1 bt474.2.1) else (laws_FnExactLandOne.j0 k a1 t465 bt474.2.2 true l0_0 l0_1 t459 t462 t467 t470 bt474.1 bt474.2.1)))) = some r := H
  have A10 := Aside0.mk A100
  clear A100
  replace H := Option.bind_eq_some_iff.mp H
  obtain ⟨⟨t474, t477, t480⟩, A110, H⟩ := H
  replace H : ((laws_eqDisk.f k t474 t477 t459 t462).bind fun t482 => (if t482 = true then (laws_FnExactLandOne.j0 k a1 t465 t480 (t480 != t465) l0_0 l0_1 t459 t462 t467 t470 t474 t477) else (laws_FnExactLandOne.j0 k a1 t465 t480 true l0_0 l0_1 t459 t462 t467 t470 t474 t477))) = some r := H
  have A11 := Aside0.mk A110
  clear A110
  have HC12 := Aside0.mk H
  clear H
  go_enter Try.func5, Try.ntmps5
  go_upto_region 8 with (first | ((with_reducible refine gate_dst (N := 2) rfl ?_); refine box_event ?hg (N := 2) ?hd (cs := #[.slice A0_0 l0_0.length c0_0, .slice A0_1 l0_1.length c0_1]) (t := 25) ?hr ?_; (case hd => rfl); (case hg => rfl); (case hr => first | (go_simp; done) | (go_simp; rfl)); intro gb451 hg w13 hbox hb; have n0_ := Aside0.mk (below_step (by repeat (first | (with_reducible first | exact HB.out | apply below_alloc | apply pw_below_drewN | apply below_drew1) | exact HB.out)) hb); have n1_ := Aside0.mk (hbox); have n2_ := Aside0.mk ((by rw [hg]; exact (below_size (by repeat (first | (with_reducible first | exact HB.out | apply below_alloc | apply pw_below_drewN | apply below_drew1) | exact HB.out))) : w.heap.size ≤ gb451)); have n3_ := Aside0.mk ((by rw [hg]; exact (below_size (by repeat (first | (with_reducible first | exact HB.out | apply below_alloc | apply pw_below_drewN | apply below_drew1) | exact HB.out))) : w.heap.size ≤ gb451)); clear HB; have HB := n0_; have BK451 := n1_; have GW451 := n2_; have GE451 := n3_; clear n0_ n1_ n2_ n3_; clear hb hbox hg; have hcz14_0 : w13.cell? ⟨gb451, 0, none⟩ = some (.slice A0_0 l0_0.length c0_0) := (blk_cell BK451.out 0).trans rfl; have hcz14_1 : w13.cell? ⟨gb451, 1, none⟩ = some (.slice A0_1 l0_1.length c0_1) := (blk_cell BK451.out 1).trans rfl; have hfz14_0 := blk_frozen BK451.out 0; have hfz14_1 := blk_frozen BK451.out 1) | ((with_reducible refine gate_callee (f := 9) rfl ?_); refine goesL_ (some 18) rfl rfl Try.func9 (by kernel_rfl) rfl #[.agg #[.slice A0_0 l0_0.length c0_0, .slice A0_1 l0_1.length c0_1], .int .i64 1048576] rfl (by (try simp only [List.map_toArray, List.map_cons, List.map_nil]); first | done | rfl | (simp only [List.length_drop, List.length_take]; rfl)) ?_; (with_reducible refine (laws_szDisk.calls k _ _ l0_0 _ _ l0_1 1048576 t452 _ ?side1 ?side2 ?side3 ?side4 A3.out).mono ?_); (case side1 => repeat (first | exact (Kd.C_below HR0_0.out HB.out) | (with_reducible refine Kd.C_alloc ?_ _) | (with_reducible refine Kd.C_drewN ?_ _) | (with_reducible refine Kd.C_drew ?_))); (case side2 => exact HC0_0.out); (case side3 => repeat (first | exact (Kd.C_below HR0_1.out HB.out) | (with_reducible refine Kd.C_alloc ?_ _) | (with_reducible refine Kd.C_drewN ?_ _) | (with_reducible refine Kd.C_drew ?_))); (case side4 => exact HC0_1.out); rintro e w15 ⟨rfl, hb⟩; refine ⟨_, rfl, ?_⟩; have n0_ := Aside0.mk (blk_below (g := gb451) (o := .cells #[.slice A0_0 l0_0.length c0_0, .slice A0_1 l0_1.length c0_1] 25 (0, 0)) (by (with_reducible repeat (first | refine blk_drewN ?_ _ | refine blk_drew ?_ | refine blk_alloc ?_ _)); exact BK451.out) hb); have n1_ := Aside0.mk (below_step (by repeat (first | (with_reducible first | exact HB.out | apply below_alloc | apply pw_below_drewN | apply below_drew1 | refine below_set ?_ GE451.out) | exact HB.out)) hb); clear BK451; clear HB; have BK451 := n0_; have HB := n1_; clear n0_ n1_; (try clear hb); (try clear hb2); (try clear hk); (try clear hi); have hcz16_0 : w15.cell? ⟨gb451, 0, none⟩ = some (.slice A0_0 l0_0.length c0_0) := (blk_cell BK451.out 0).trans rfl; have hcz16_1 : w15.cell? ⟨gb451, 1, none⟩ = some (.slice A0_1 l0_1.length c0_1) := (blk_cell BK451.out 1).trans rfl; have hfz16_0 := blk_frozen BK451.out 0; have hfz16_1 := blk_frozen BK451.out 1) | ((with_reducible refine gate_callee (f := 11) rfl ?_); refine goesL_ (some 23) rfl rfl Try.func11 (by kernel_rfl) rfl #[.agg #[.slice A0_0 l0_0.length c0_0, .slice A0_1 l0_1.length c0_1]] rfl (by (try simp only [List.map_toArray, List.map_cons, List.map_nil]); first | done | rfl | (simp only [List.length_drop, List.length_take]; rfl)) ?_; (with_reducible refine (laws_toDisk.calls k _ _ l0_0 _ _ l0_1 t453 t456 _ ?side1 ?side2 ?side3 ?side4 A8.out).mono ?_); (case side1 => repeat (first | exact (Kd.C_below HR0_0.out HB.out) | (with_reducible refine Kd.C_alloc ?_ _) | (with_reducible refine Kd.C_drewN ?_ _) | (with_reducible refine Kd.C_drew ?_))); (case side2 => exact HC0_0.out); (case side3 => repeat (first | exact (Kd.C_below HR0_1.out HB.out) | (with_reducible refine Kd.C_alloc ?_ _) | (with_reducible refine Kd.C_drewN ?_ _) | (with_reducible refine Kd.C_drew ?_))); (case side4 => exact HC0_1.out); rintro e w17 ⟨v454, v457, rfl, ho0, ho1, hb⟩; refine ⟨_, rfl, ?_⟩; have n0_ := Aside0.mk (Kd.R_lower ho0 (below_size (by repeat (first | (with_reducible first | exact HB.out | apply below_alloc | apply pw_below_drewN | apply below_drew1 | refine below_set ?_ GE451.out) | exact HB.out)))); have n1_ := Aside0.mk (Kd.R_lower ho1 (below_size (by repeat (first | (with_reducible first | exact HB.out | apply below_alloc | apply pw_below_drewN | apply below_drew1 | refine below_set ?_ GE451.out) | exact HB.out)))); have n2_ := Aside0.mk (blk_below (g := gb451) (o := .cells #[.slice A0_0 l0_0.length c0_0, .slice A0_1 l0_1.length c0_1] 25 (0, 0)) (by (with_reducible repeat (first | refine blk_drewN ?_ _ | refine blk_drew ?_ | refine blk_alloc ?_ _)); exact BK451.out) hb); have n3_ := Aside0.mk (below_step (by repeat (first | (with_reducible first | exact HB.out | apply below_alloc | apply pw_below_drewN | apply below_drew1 | refine below_set ?_ GE451.out) | exact HB.out)) hb); clear BK451; clear HB; have HO455 := n0_; have HO458 := n1_; have BK451 := n2_; have HB := n3_; clear n0_ n1_ n2_ n3_; (try clear hb); (try clear hb2); (try clear hk); (try clear hi); (try clear ho0); (try clear ho1); obtain ⟨Ao18, co18, eo18⟩ := Kd.R_slice HO455.out; subst eo18; obtain ⟨Ao19, co19, eo19⟩ := Kd.R_slice HO458.out; subst eo19) | ((with_reducible refine gate_callee (f := 18) rfl ?_); refine goesL_ (some 25) rfl rfl Try.func18 (by kernel_rfl) rfl #[.agg #[.slice Ao18 t453.length co18, .slice Ao19 t456.length co19], .int .i64 a1] rfl (by (try simp only [List.map_toArray, List.map_cons, List.map_nil]); first | done | rfl | (simp only [List.length_drop, List.length_take]; rfl)) ?_; (with_reducible refine (spec_LandOne.calls k _ _ t453 _ _ t456 a1 t459 t462 t465 _ ?side1 ?side2 ?side3 ?side4 A9.out).mono ?_); (case side1 => repeat (first | exact (Kd.R_reads' HO455.out).2.2 | (with_reducible refine Kd.C_alloc ?_ _) | (with_reducible refine Kd.C_drewN ?_ _) | (with_reducible refine Kd.C_drew ?_))); (case side2 => exact (Kd.R_reads' HO455.out).2.1); (case side3 => repeat (first | exact (Kd.R_reads' HO458.out).2.2 | (with_reducible refine Kd.C_alloc ?_ _) | (with_reducible refine Kd.C_drewN ?_ _) | (with_reducible refine Kd.C_drew ?_))); (case side4 => exact (Kd.R_reads' HO458.out).2.1); rintro e w20 ⟨v460, v463, rfl, ho0, ho1, hb⟩; refine ⟨_, rfl, ?_⟩; have n0_ := Aside0.mk (Kd.R_elder' (by (with_reducible repeat (first | apply Kd.R_alloc | apply Kd.R_drewN | apply Kd.R_drew)); exact HO455.out) (Kd.R_base ho0) hb); have n1_ := Aside0.mk (Kd.R_elder' (by (with_reducible repeat (first | apply Kd.R_alloc | apply Kd.R_drewN | apply Kd.R_drew)); exact HO458.out) (Kd.R_base ho1) hb); have n2_ := Aside0.mk (Kd.R_lower (Kd.R_new' ho0 (Kd.R_lt (by (with_reducible repeat (first | apply Kd.R_alloc | apply Kd.R_drewN | apply Kd.R_drew)); exact HO455.out))) (below_size (by repeat (first | (with_reducible first | exact HB.out | apply below_alloc | apply pw_below_drewN | apply below_drew1 | refine below_set ?_ GE451.out) | exact HB.out)))); have n3_ := Aside0.mk (Kd.R_lower (Kd.R_new' ho1 (Kd.R_lt (by (with_reducible repeat (first | apply Kd.R_alloc | apply Kd.R_drewN | apply Kd.R_drew)); exact HO458.out))) (below_size (by repeat (first | (with_reducible first | exact HB.out | apply below_alloc | apply pw_below_drewN | apply below_drew1 | refine below_set ?_ GE451.out) | exact HB.out)))); have n4_ := Aside0.mk (blk_below (g := gb451) (o := .cells #[.slice A0_0 l0_0.length c0_0, .slice A0_1 l0_1.length c0_1] 25 (0, 0)) (by (with_reducible repeat (first | refine blk_drewN ?_ _ | refine blk_drew ?_ | refine blk_alloc ?_ _)); exact BK451.out) hb); have n5_ := Aside0.mk (below_step (by repeat (first | (with_reducible first | exact HB.out | apply below_alloc | apply pw_below_drewN | apply below_drew1 | refine below_set ?_ GE451.out) | exact HB.out)) hb); clear HO455; clear HO458; clear BK451; clear HB; have HO455 := n0_; have HO458 := n1_; have HO461 := n2_; have HO464 := n3_; have BK451 := n4_; have HB := n5_; clear n0_ n1_ n2_ n3_ n4_ n5_; (try clear hb); (try clear hb2); (try clear hk); (try clear hi); (try clear ho0); (try clear ho1)) | ((with_reducible refine gate_dst (N := 6) rfl ?_); refine box_event ?hg (N := 6) ?hd (cs := #[.slice none 0 0, .slice none 0 0]) (t := 29) ?hr ?_; (case hd => rfl); (case hg => rfl); (case hr => first | (go_simp; done) | (go_simp; rfl)); intro gb466 hg w21 hbox hb; have n0_ := Aside0.mk (Kd.R_below (by (with_reducible repeat (first | apply Kd.R_alloc | apply Kd.R_drewN | apply Kd.R_drew)); exact HO455.out) hb); have n1_ := Aside0.mk (Kd.R_below (by (with_reducible repeat (first | apply Kd.R_alloc | apply Kd.R_drewN | apply Kd.R_drew)); exact HO458.out) hb); have n2_ := Aside0.mk (Kd.R_below (by (with_reducible repeat (first | apply Kd.R_alloc | apply Kd.R_drewN | apply Kd.R_drew)); exact HO461.out) hb); have n3_ := Aside0.mk (Kd.R_below (by (with_reducible repeat (first | apply Kd.R_alloc | apply Kd.R_drewN | apply Kd.R_drew)); exact HO464.out) hb); have n4_ := Aside0.mk (blk_below (g := gb451) (o := .cells #[.slice A0_0 l0_0.length c0_0, .slice A0_1 l0_1.length c0_1] 25 (0, 0)) (by (with_reducible repeat (first | refine blk_drewN ?_ _ | refine blk_drew ?_ | refine blk_alloc ?_ _)); exact BK451.out) hb); have n5_ := Aside0.mk (below_step (by repeat (first | (with_reducible first | exact HB.out | apply below_alloc | apply pw_below_drewN | apply below_drew1 | refine below_set ?_ GE451.out) | exact HB.out)) hb); have n6_ := Aside0.mk (hbox); have n7_ := Aside0.mk ((by rw [hg]; exact (below_size (by repeat (first | (with_reducible first | exact HB.out | apply below_alloc | apply pw_below_drewN | apply below_drew1 | refine below_set ?_ GE451.out) | exact HB.out))) : w.heap.size ≤ gb466)); have n8_ := Aside0.mk ((by rw [hg]; exact (below_size (by repeat (first | (with_reducible first | exact HB.out | apply below_alloc | apply pw_below_drewN | apply below_drew1 | refine below_set ?_ GE451.out) | exact HB.out))) : w.heap.size ≤ gb466)); have n9_ := Aside0.mk ((by rw [hg]; exact Nat.ne_of_lt (blk_lt (g := gb451) (o := .cells #[.slice A0_0 l0_0.length c0_0, .slice A0_1 l0_1.length c0_1] 25 (0, 0)) (by (with_reducible repeat (first | refine blk_drewN ?_ _ | refine blk_drew ?_ | refine blk_alloc ?_ _)); exact BK451.out)) : gb451 ≠ gb466)); have n10_ := Aside0.mk ((by rw [hg]; exact Nat.ne_of_gt (blk_lt (g := gb451) (o := .cells #[.slice A0_0 l0_0.length c0_0, .slice A0_1 l0_1.length c0_1] 25 (0, 0)) (by (with_reducible repeat (first | refine blk_drewN ?_ _ | refine blk_drew ?_ | refine blk_alloc ?_ _)); exact BK451.out)) : gb466 ≠ gb451)); clear HO455; clear HO458; clear HO461; clear HO464; clear BK451; clear HB; have HO455 := n0_; have HO458 := n1_; have HO461 := n2_; have HO464 := n3_; have BK451 := n4_; have HB := n5_; have BK466 := n6_; have GW466 := n7_; have GE466 := n8_; have NB451_466 := n9_; have NB466_451 := n10_; clear n0_ n1_ n2_ n3_ n4_ n5_ n6_ n7_ n8_ n9_ n10_; clear hb hbox hg; obtain ⟨Ao22, co22, eo22⟩ := Kd.R_slice HO461.out; subst eo22; have hnb23 := NB466_451.out; have hnc23 := NB451_466.out; have hcz24_0 : w21.cell? ⟨gb466, 0, none⟩ = some (.slice none 0 0) := (blk_cell BK466.out 0).trans rfl; have hcz24_1 : w21.cell? ⟨gb466, 1, none⟩ = some (.slice none 0 0) := (blk_cell BK466.out 1).trans rfl; have hfz24_0 := blk_frozen BK466.out 0; have hfz24_1 := blk_frozen BK466.out 1; obtain ⟨Ao25, co25, eo25⟩ := Kd.R_slice HO464.out; subst eo25; have hcz26_0 : w21.cell? ⟨gb451, 0, none⟩ = some (.slice A0_0 l0_0.length c0_0) := (blk_cell BK451.out 0).trans rfl; have hcz26_1 : w21.cell? ⟨gb451, 1, none⟩ = some (.slice A0_1 l0_1.length c0_1) := (blk_cell BK451.out 1).trans rfl; have hfz26_0 := blk_frozen BK451.out 0; have hfz26_1 := blk_frozen BK451.out 1) | ((with_reducible refine gate_callee (f := 11) rfl ?_); refine goesL_ (some 29) rfl rfl Try.func11 (by kernel_rfl) rfl #[.agg #[.slice A0_0 l0_0.length c0_0, .slice A0_1 l0_1.length c0_1]] rfl (by (try simp only [List.map_toArray, List.map_cons, List.map_nil]); first | done | rfl | (simp only [List.length_drop, List.length_take]; rfl)) ?_; (with_reducible refine (laws_toDisk.calls k _ _ l0_0 _ _ l0_1 t467 t470 _ ?side1 ?side2 ?side3 ?side4 A10.out).mono ?_); (case side1 => exact Kd.C_below HR0_0.out (by repeat (first | (with_reducible first | exact HB.out | apply below_alloc | apply pw_below_drewN | apply below_drew1 | refine below_set ?_ GE451.out | refine below_set ?_ GE466.out) | exact HB.out))); (case side2 => exact HC0_0.out); (case side3 => exact Kd.C_below HR0_1.out (by repeat (first | (with_reducible first | exact HB.out | apply below_alloc | apply pw_below_drewN | apply below_drew1 | refine below_set ?_ GE451.out | refine below_set ?_ GE466.out) | exact HB.out))); (case side4 => exact HC0_1.out); rintro e w27 ⟨v468, v471, rfl, ho0, ho1, hb⟩; refine ⟨_, rfl, ?_⟩; have n0_ := Aside0.mk (Kd.R_elder' (by (with_reducible repeat (first | apply Kd.R_alloc | apply Kd.R_drewN | apply Kd.R_drew)); exact (Kd.R_mono (Kd.R_far (p := ⟨gb466, 1, none⟩) (Kd.R_far (p := ⟨gb466, 0, none⟩) (Kd.R_types HO455.out BK466.out (by decide)) (fun _ hk => hk.2) (.slice Ao22 t459.length co22)) (fun _ hk => hk.2) (.slice Ao25 t462.length co25)) (fun _ h_ => h_.1))) (Kd.R_base ho0) hb); have n1_ := Aside0.mk (Kd.R_elder' (by (with_reducible repeat (first | apply Kd.R_alloc | apply Kd.R_drewN | apply Kd.R_drew)); exact (Kd.R_mono (Kd.R_far (p := ⟨gb466, 1, none⟩) (Kd.R_far (p := ⟨gb466, 0, none⟩) (Kd.R_types HO458.out BK466.out (by decide)) (fun _ hk => hk.2) (.slice Ao22 t459.length co22)) (fun _ hk => hk.2) (.slice Ao25 t462.length co25)) (fun _ h_ => h_.1))) (Kd.R_base ho1) hb); have n2_ := Aside0.mk (Kd.R_elder' (by (with_reducible repeat (first | apply Kd.R_alloc | apply Kd.R_drewN | apply Kd.R_drew)); exact (Kd.R_mono (Kd.R_far (p := ⟨gb466, 1, none⟩) (Kd.R_far (p := ⟨gb466, 0, none⟩) (Kd.R_types HO461.out BK466.out (by decide)) (fun _ hk => hk.2) (.slice Ao22 t459.length co22)) (fun _ hk => hk.2) (.slice Ao25 t462.length co25)) (fun _ h_ => h_.1))) (Kd.R_base ho0) hb); have n3_ := Aside0.mk (Kd.R_elder' (by (with_reducible repeat (first | apply Kd.R_alloc | apply Kd.R_drewN | apply Kd.R_drew)); exact (Kd.R_mono (Kd.R_far (p := ⟨gb466, 1, none⟩) (Kd.R_far (p := ⟨gb466, 0, none⟩) (Kd.R_types HO464.out BK466.out (by decide)) (fun _ hk => hk.2) (.slice Ao22 t459.length co22)) (fun _ hk => hk.2) (.slice Ao25 t462.length co25)) (fun _ h_ => h_.1))) (Kd.R_base ho1) hb); have n4_ := Aside0.mk (Kd.R_lower (Kd.R_new' (Kd.R_new' ho0 (Kd.R_lt (by (with_reducible repeat (first | apply Kd.R_alloc | apply Kd.R_drewN | apply Kd.R_drew)); exact (Kd.R_mono (Kd.R_far (p := ⟨gb466, 1, none⟩) (Kd.R_far (p := ⟨gb466, 0, none⟩) (Kd.R_types HO455.out BK466.out (by decide)) (fun _ hk => hk.2) (.slice Ao22 t459.length co22)) (fun _ hk => hk.2) (.slice Ao25 t462.length co25)) (fun _ h_ => h_.1))))) (Kd.R_lt (by (with_reducible repeat (first | apply Kd.R_alloc | apply Kd.R_drewN | apply Kd.R_drew)); exact (Kd.R_mono (Kd.R_far (p := ⟨gb466, 1, none⟩) (Kd.R_far (p := ⟨gb466, 0, none⟩) (Kd.R_types HO461.out BK466.out (by decide)) (fun _ hk => hk.2) (.slice Ao22 t459.length co22)) (fun _ hk => hk.2) (.slice Ao25 t462.length co25)) (fun _ h_ => h_.1))))) (below_size (by repeat (first | (with_reducible first | exact HB.out | apply below_alloc | apply pw_below_drewN | apply below_drew1 | refine below_set ?_ GE451.out | refine below_set ?_ GE466.out) | exact HB.out)))); have n5_ := Aside0.mk (Kd.R_lower (Kd.R_new' (Kd.R_new' ho1 (Kd.R_lt (by (with_reducible repeat (first | apply Kd.R_alloc | apply Kd.R_drewN | apply Kd.R_drew)); exact (Kd.R_mono (Kd.R_far (p := ⟨gb466, 1, none⟩) (Kd.R_far (p := ⟨gb466, 0, none⟩) (Kd.R_types HO458.out BK466.out (by decide)) (fun _ hk => hk.2) (.slice Ao22 t459.length co22)) (fun _ hk => hk.2) (.slice Ao25 t462.length co25)) (fun _ h_ => h_.1))))) (Kd.R_lt (by (with_reducible repeat (first | apply Kd.R_alloc | apply Kd.R_drewN | apply Kd.R_drew)); exact (Kd.R_mono (Kd.R_far (p := ⟨gb466, 1, none⟩) (Kd.R_far (p := ⟨gb466, 0, none⟩) (Kd.R_types HO464.out BK466.out (by decide)) (fun _ hk => hk.2) (.slice Ao22 t459.length co22)) (fun _ hk => hk.2) (.slice Ao25 t462.length co25)) (fun _ h_ => h_.1))))) (below_size (by repeat (first | (with_reducible first | exact HB.out | apply below_alloc | apply pw_below_drewN | apply below_drew1 | refine below_set ?_ GE451.out | refine below_set ?_ GE466.out) | exact HB.out)))); have n6_ := Aside0.mk (blk_below (g := gb451) (o := .cells #[.slice A0_0 l0_0.length c0_0, .slice A0_1 l0_1.length c0_1] 25 (0, 0)) (by (with_reducible repeat (first | refine blk_drewN ?_ _ | refine blk_drew ?_ | refine blk_alloc ?_ _)); refine blk_far ?_ NB451_466.out _; (with_reducible repeat (first | refine blk_drewN ?_ _ | refine blk_drew ?_ | refine blk_alloc ?_ _)); refine blk_far ?_ NB451_466.out _; (with_reducible repeat (first | refine blk_drewN ?_ _ | refine blk_drew ?_ | refine blk_alloc ?_ _)); exact BK451.out) hb); have n7_ := Aside0.mk (blk_below (g := gb466) (o := .cells #[.slice Ao22 t459.length co22, .slice Ao25 t462.length co25] 29 (0, 0)) (by (with_reducible repeat (first | refine blk_drewN ?_ _ | refine blk_drew ?_ | refine blk_alloc ?_ _)); refine blk_put (cs := #[.slice Ao22 t459.length co22, .slice none 0 0]) ?_ 1 _ rfl; (with_reducible repeat (first | refine blk_drewN ?_ _ | refine blk_drew ?_ | refine blk_alloc ?_ _)); refine blk_put (cs := #[.slice none 0 0, .slice none 0 0]) ?_ 0 _ rfl; (with_reducible repeat (first | refine blk_drewN ?_ _ | refine blk_drew ?_ | refine blk_alloc ?_ _)); exact BK466.out) hb); have n8_ := Aside0.mk (below_step (by repeat (first | (with_reducible first | exact HB.out | apply below_alloc | apply pw_below_drewN | apply below_drew1 | refine below_set ?_ GE451.out | refine below_set ?_ GE466.out) | exact HB.out)) hb); clear HO455; clear HO458; clear HO461; clear HO464; clear BK451; clear BK466; clear HB; have HO455 := n0_; have HO458 := n1_; have HO461 := n2_; have HO464 := n3_; have HO469 := n4_; have HO472 := n5_; have BK451 := n6_; have BK466 := n7_; have HB := n8_; clear n0_ n1_ n2_ n3_ n4_ n5_ n6_ n7_ n8_; (try clear hb); (try clear hb2); (try clear hk); (try clear hi); (try clear ho0); (try clear ho1)) | ((with_reducible refine gate_dst (N := 8) rfl ?_); refine box_event ?hg (N := 8) ?hd (cs := #[.slice none 0 0, .slice none 0 0]) (t := 29) ?hr ?_; (case hd => rfl); (case hg => rfl); (case hr => first | (go_simp; done) | (go_simp; rfl)); intro gb473 hg w28 hbox hb; have n0_ := Aside0.mk (Kd.R_below (by (with_reducible repeat (first | apply Kd.R_alloc | apply Kd.R_drewN | apply Kd.R_drew)); exact HO455.out) hb); have n1_ := Aside0.mk (Kd.R_below (by (with_reducible repeat (first | apply Kd.R_alloc | apply Kd.R_drewN | apply Kd.R_drew)); exact HO458.out) hb); have n2_ := Aside0.mk (Kd.R_below (by (with_reducible repeat (first | apply Kd.R_alloc | apply Kd.R_drewN | apply Kd.R_drew)); exact HO461.out) hb); have n3_ := Aside0.mk (Kd.R_below (by (with_reducible repeat (first | apply Kd.R_alloc | apply Kd.R_drewN | apply Kd.R_drew)); exact HO464.out) hb); have n4_ := Aside0.mk (Kd.R_below (by (with_reducible repeat (first | apply Kd.R_alloc | apply Kd.R_drewN | apply Kd.R_drew)); exact HO469.out) hb); have n5_ := Aside0.mk (Kd.R_below (by (with_reducible repeat (first | apply Kd.R_alloc | apply Kd.R_drewN | apply Kd.R_drew)); exact HO472.out) hb); have n6_ := Aside0.mk (blk_below (g := gb451) (o := .cells #[.slice A0_0 l0_0.length c0_0, .slice A0_1 l0_1.length c0_1] 25 (0, 0)) (by (with_reducible repeat (first | refine blk_drewN ?_ _ | refine blk_drew ?_ | refine blk_alloc ?_ _)); exact BK451.out) hb); have n7_ := Aside0.mk (blk_below (g := gb466) (o := .cells #[.slice Ao22 t459.length co22, .slice Ao25 t462.length co25] 29 (0, 0)) (by (with_reducible repeat (first | refine blk_drewN ?_ _ | refine blk_drew ?_ | refine blk_alloc ?_ _)); exact BK466.out) hb); have n8_ := Aside0.mk (below_step (by repeat (first | (with_reducible first | exact HB.out | apply below_alloc | apply pw_below_drewN | apply below_drew1 | refine below_set ?_ GE451.out | refine below_set ?_ GE466.out) | exact HB.out)) hb); have n9_ := Aside0.mk (hbox); have n10_ := Aside0.mk ((by rw [hg]; exact (below_size (by repeat (first | (with_reducible first | exact HB.out | apply below_alloc | apply pw_below_drewN | apply below_drew1 | refine below_set ?_ GE451.out | refine below_set ?_ GE466.out) | exact HB.out))) : w.heap.size ≤ gb473)); have n11_ := Aside0.mk ((by rw [hg]; exact (below_size (by repeat (first | (with_reducible first | exact HB.out | apply below_alloc | apply pw_below_drewN | apply below_drew1 | refine below_set ?_ GE451.out | refine below_set ?_ GE466.out) | exact HB.out))) : w.heap.size ≤ gb473)); have n12_ := Aside0.mk ((by rw [hg]; exact Nat.ne_of_lt (blk_lt (g := gb451) (o := .cells #[.slice A0_0 l0_0.length c0_0, .slice A0_1 l0_1.length c0_1] 25 (0, 0)) (by (with_reducible repeat (first | refine blk_drewN ?_ _ | refine blk_drew ?_ | refine blk_alloc ?_ _)); exact BK451.out)) : gb451 ≠ gb473)); have n13_ := Aside0.mk ((by rw [hg]; exact Nat.ne_of_gt (blk_lt (g := gb451) (o := .cells #[.slice A0_0 l0_0.length c0_0, .slice A0_1 l0_1.length c0_1] 25 (0, 0)) (by (with_reducible repeat (first | refine blk_drewN ?_ _ | refine blk_drew ?_ | refine blk_alloc ?_ _)); exact BK451.out)) : gb473 ≠ gb451)); have n14_ := Aside0.mk ((by rw [hg]; exact Nat.ne_of_lt (blk_lt (g := gb466) (o := .cells #[.slice Ao22 t459.length co22, .slice Ao25 t462.length co25] 29 (0, 0)) (by (with_reducible repeat (first | refine blk_drewN ?_ _ | refine blk_drew ?_ | refine blk_alloc ?_ _)); exact BK466.out)) : gb466 ≠ gb473)); have n15_ := Aside0.mk ((by rw [hg]; exact Nat.ne_of_gt (blk_lt (g := gb466) (o := .cells #[.slice Ao22 t459.length co22, .slice Ao25 t462.length co25] 29 (0, 0)) (by (with_reducible repeat (first | refine blk_drewN ?_ _ | refine blk_drew ?_ | refine blk_alloc ?_ _)); exact BK466.out)) : gb473 ≠ gb466)); clear HO455; clear HO458; clear HO461; clear HO464; clear HO469; clear HO472; clear BK451; clear BK466; clear HB; have HO455 := n0_; have HO458 := n1_; have HO461 := n2_; have HO464 := n3_; have HO469 := n4_; have HO472 := n5_; have BK451 := n6_; have BK466 := n7_; have HB := n8_; have BK473 := n9_; have GW473 := n10_; have GE473 := n11_; have NB451_473 := n12_; have NB473_451 := n13_; have NB466_473 := n14_; have NB473_466 := n15_; clear n0_ n1_ n2_ n3_ n4_ n5_ n6_ n7_ n8_ n9_ n10_ n11_ n12_ n13_ n14_ n15_; clear hb hbox hg; obtain ⟨Ao29, co29, eo29⟩ := Kd.R_slice HO469.out; subst eo29; have hnb30 := NB473_451.out; have hnc30 := NB451_473.out; have hnb31 := NB473_466.out; have hnc31 := NB466_473.out; have hcz32_0 : w28.cell? ⟨gb473, 0, none⟩ = some (.slice none 0 0) := (blk_cell BK473.out 0).trans rfl; have hcz32_1 : w28.cell? ⟨gb473, 1, none⟩ = some (.slice none 0 0) := (blk_cell BK473.out 1).trans rfl; have hfz32_0 := blk_frozen BK473.out 0; have hfz32_1 := blk_frozen BK473.out 1; obtain ⟨Ao33, co33, eo33⟩ := Kd.R_slice HO472.out; subst eo33) | ((with_reducible refine gate_callee (f := 19) rfl ?_); refine goesL_ (some 33) rfl rfl Try.func19 (by kernel_rfl) rfl #[.agg #[.slice Ao29 t467.length co29, .slice Ao33 t470.length co33], .int .i64 a1] rfl (by (try simp only [List.map_toArray, List.map_cons, List.map_nil]); first | done | rfl | (simp only [List.length_drop, List.length_take]; rfl)) ?_; (with_reducible refine (impl_LandOne.calls k _ _ t467 _ _ t470 a1 t474 t477 t480 _ ?side1 ?side2 ?side3 ?side4 A11.out).mono ?_); (case side1 => refine (Kd.R_reads' (e := 9) (base := w.heap.size) (ok := fun k_ => ((True ∧ some k_ ≠ (.slice Ao18 t453.length co18 : Value).ownBlock) ∧ some k_ ≠ (.slice Ao22 t459.length co22 : Value).ownBlock)) (n := t467.length) (c := co29) ?_).2.2; exact (by (with_reducible repeat (first | apply Kd.R_alloc | apply Kd.R_drewN | apply Kd.R_drew)); exact (Kd.R_mono (Kd.R_far (p := ⟨gb473, 1, none⟩) (Kd.R_far (p := ⟨gb473, 0, none⟩) (Kd.R_types HO469.out BK473.out (by decide)) (fun _ hk => hk.2) (.slice Ao29 t467.length co29)) (fun _ hk => hk.2) (.slice Ao33 t470.length co33)) (fun _ h_ => h_.1)))); (case side2 => exact (Kd.R_reads' HO469.out).2.1); (case side3 => refine (Kd.R_reads' (e := 76) (base := w.heap.size) (ok := fun k_ => ((True ∧ some k_ ≠ (.slice Ao19 t456.length co19 : Value).ownBlock) ∧ some k_ ≠ (.slice Ao25 t462.length co25 : Value).ownBlock)) (n := t470.length) (c := co33) ?_).2.2; exact (by (with_reducible repeat (first | apply Kd.R_alloc | apply Kd.R_drewN | apply Kd.R_drew)); exact (Kd.R_mono (Kd.R_far (p := ⟨gb473, 1, none⟩) (Kd.R_far (p := ⟨gb473, 0, none⟩) (Kd.R_types HO472.out BK473.out (by decide)) (fun _ hk => hk.2) (.slice Ao29 t467.length co29)) (fun _ hk => hk.2) (.slice Ao33 t470.length co33)) (fun _ h_ => h_.1)))); (case side4 => exact (Kd.R_reads' HO472.out).2.1); rintro e w34 ⟨v475, v478, rfl, ho0, ho1, hb⟩; refine ⟨_, rfl, ?_⟩; have n0_ := Aside0.mk (Kd.R_elder' (by (with_reducible repeat (first | apply Kd.R_alloc | apply Kd.R_drewN | apply Kd.R_drew)); exact (Kd.R_mono (Kd.R_far (p := ⟨gb473, 1, none⟩) (Kd.R_far (p := ⟨gb473, 0, none⟩) (Kd.R_types HO455.out BK473.out (by decide)) (fun _ hk => hk.2) (.slice Ao29 t467.length co29)) (fun _ hk => hk.2) (.slice Ao33 t470.length co33)) (fun _ h_ => h_.1))) (Kd.R_base ho0) hb); have n1_ := Aside0.mk (Kd.R_elder' (by (with_reducible repeat (first | apply Kd.R_alloc | apply Kd.R_drewN | apply Kd.R_drew)); exact (Kd.R_mono (Kd.R_far (p := ⟨gb473, 1, none⟩) (Kd.R_far (p := ⟨gb473, 0, none⟩) (Kd.R_types HO458.out BK473.out (by decide)) (fun _ hk => hk.2) (.slice Ao29 t467.length co29)) (fun _ hk => hk.2) (.slice Ao33 t470.length co33)) (fun _ h_ => h_.1))) (Kd.R_base ho1) hb); have n2_ := Aside0.mk (Kd.R_elder' (by (with_reducible repeat (first | apply Kd.R_alloc | apply Kd.R_drewN | apply Kd.R_drew)); exact (Kd.R_mono (Kd.R_far (p := ⟨gb473, 1, none⟩) (Kd.R_far (p := ⟨gb473, 0, none⟩) (Kd.R_types HO461.out BK473.out (by decide)) (fun _ hk => hk.2) (.slice Ao29 t467.length co29)) (fun _ hk => hk.2) (.slice Ao33 t470.length co33)) (fun _ h_ => h_.1))) (Kd.R_base ho0) hb); have n3_ := Aside0.mk (Kd.R_elder' (by (with_reducible repeat (first | apply Kd.R_alloc | apply Kd.R_drewN | apply Kd.R_drew)); exact (Kd.R_mono (Kd.R_far (p := ⟨gb473, 1, none⟩) (Kd.R_far (p := ⟨gb473, 0, none⟩) (Kd.R_types HO464.out BK473.out (by decide)) (fun _ hk => hk.2) (.slice Ao29 t467.length co29)) (fun _ hk => hk.2) (.slice Ao33 t470.length co33)) (fun _ h_ => h_.1))) (Kd.R_base ho1) hb); have n4_ := Aside0.mk (Kd.R_elder' (by (with_reducible repeat (first | apply Kd.R_alloc | apply Kd.R_drewN | apply Kd.R_drew)); exact (Kd.R_mono (Kd.R_far (p := ⟨gb473, 1, none⟩) (Kd.R_far (p := ⟨gb473, 0, none⟩) (Kd.R_types HO469.out BK473.out (by decide)) (fun _ hk => hk.2) (.slice Ao29 t467.length co29)) (fun _ hk => hk.2) (.slice Ao33 t470.length co33)) (fun _ h_ => h_.1))) (Kd.R_base ho0) hb); have n5_ := Aside0.mk (Kd.R_elder' (by (with_reducible repeat (first | apply Kd.R_alloc | apply Kd.R_drewN | apply Kd.R_drew)); exact (Kd.R_mono (Kd.R_far (p := ⟨gb473, 1, none⟩) (Kd.R_far (p := ⟨gb473, 0, none⟩) (Kd.R_types HO472.out BK473.out (by decide)) (fun _ hk => hk.2) (.slice Ao29 t467.length co29)) (fun _ hk => hk.2) (.slice Ao33 t470.length co33)) (fun _ h_ => h_.1))) (Kd.R_base ho1) hb); have n6_ := Aside0.mk (Kd.R_lower (Kd.R_new' (Kd.R_new' (Kd.R_new' ho0 (Kd.R_lt (by (with_reducible repeat (first | apply Kd.R_alloc | apply Kd.R_drewN | apply Kd.R_drew)); exact (Kd.R_mono (Kd.R_far (p := ⟨gb473, 1, none⟩) (Kd.R_far (p := ⟨gb473, 0, none⟩) (Kd.R_types HO455.out BK473.out (by decide)) (fun _ hk => hk.2) (.slice Ao29 t467.length co29)) (fun _ hk => hk.2) (.slice Ao33 t470.length co33)) (fun _ h_ => h_.1))))) (Kd.R_lt (by (with_reducible repeat (first | apply Kd.R_alloc | apply Kd.R_drewN | apply Kd.R_drew)); exact (Kd.R_mono (Kd.R_far (p := ⟨gb473, 1, none⟩) (Kd.R_far (p := ⟨gb473, 0, none⟩) (Kd.R_types HO461.out BK473.out (by decide)) (fun _ hk => hk.2) (.slice Ao29 t467.length co29)) (fun _ hk => hk.2) (.slice Ao33 t470.length co33)) (fun _ h_ => h_.1))))) (Kd.R_lt (by (with_reducible repeat (first | apply Kd.R_alloc | apply Kd.R_drewN | apply Kd.R_drew)); exact (Kd.R_mono (Kd.R_far (p := ⟨gb473, 1, none⟩) (Kd.R_far (p := ⟨gb473, 0, none⟩) (Kd.R_types HO469.out BK473.out (by decide)) (fun _ hk => hk.2) (.slice Ao29 t467.length co29)) (fun _ hk => hk.2) (.slice Ao33 t470.length co33)) (fun _ h_ => h_.1))))) (below_size (by repeat (first | (with_reducible first | exact HB.out | apply below_alloc | apply pw_below_drewN | apply below_drew1 | refine below_set ?_ GE451.out | refine below_set ?_ GE466.out | refine below_set ?_ GE473.out) | exact HB.out)))); have n7_ := Aside0.mk (Kd.R_lower (Kd.R_new' (Kd.R_new' (Kd.R_new' ho1 (Kd.R_lt (by (with_reducible repeat (first | apply Kd.R_alloc | apply Kd.R_drewN | apply Kd.R_drew)); exact (Kd.R_mono (Kd.R_far (p := ⟨gb473, 1, none⟩) (Kd.R_far (p := ⟨gb473, 0, none⟩) (Kd.R_types HO458.out BK473.out (by decide)) (fun _ hk => hk.2) (.slice Ao29 t467.length co29)) (fun _ hk => hk.2) (.slice Ao33 t470.length co33)) (fun _ h_ => h_.1))))) (Kd.R_lt (by (with_reducible repeat (first | apply Kd.R_alloc | apply Kd.R_drewN | apply Kd.R_drew)); exact (Kd.R_mono (Kd.R_far (p := ⟨gb473, 1, none⟩) (Kd.R_far (p := ⟨gb473, 0, none⟩) (Kd.R_types HO464.out BK473.out (by decide)) (fun _ hk => hk.2) (.slice Ao29 t467.length co29)) (fun _ hk => hk.2) (.slice Ao33 t470.length co33)) (fun _ h_ => h_.1))))) (Kd.R_lt (by (with_reducible repeat (first | apply Kd.R_alloc | apply Kd.R_drewN | apply Kd.R_drew)); exact (Kd.R_mono (Kd.R_far (p := ⟨gb473, 1, none⟩) (Kd.R_far (p := ⟨gb473, 0, none⟩) (Kd.R_types HO472.out BK473.out (by decide)) (fun _ hk => hk.2) (.slice Ao29 t467.length co29)) (fun _ hk => hk.2) (.slice Ao33 t470.length co33)) (fun _ h_ => h_.1))))) (below_size (by repeat (first | (with_reducible first | exact HB.out | apply below_alloc | apply pw_below_drewN | apply below_drew1 | refine below_set ?_ GE451.out | refine below_set ?_ GE466.out | refine below_set ?_ GE473.out) | exact HB.out)))); have n8_ := Aside0.mk (blk_below (g := gb451) (o := .cells #[.slice A0_0 l0_0.length c0_0, .slice A0_1 l0_1.length c0_1] 25 (0, 0)) (by (with_reducible repeat (first | refine blk_drewN ?_ _ | refine blk_drew ?_ | refine blk_alloc ?_ _)); refine blk_far ?_ NB451_473.out _; (with_reducible repeat (first | refine blk_drewN ?_ _ | refine blk_drew ?_ | refine blk_alloc ?_ _)); refine blk_far ?_ NB451_473.out _; (with_reducible repeat (first | refine blk_drewN ?_ _ | refine blk_drew ?_ | refine blk_alloc ?_ _)); exact BK451.out) hb); have n9_ := Aside0.mk (blk_below (g := gb466) (o := .cells #[.slice Ao22 t459.length co22, .slice Ao25 t462.length co25] 29 (0, 0)) (by (with_reducible repeat (first | refine blk_drewN ?_ _ | refine blk_drew ?_ | refine blk_alloc ?_ _)); refine blk_far ?_ NB466_473.out _; (with_reducible repeat (first | refine blk_drewN ?_ _ | refine blk_drew ?_ | refine blk_alloc ?_ _)); refine blk_far ?_ NB466_473.out _; (with_reducible repeat (first | refine blk_drewN ?_ _ | refine blk_drew ?_ | refine blk_alloc ?_ _)); exact BK466.out) hb); have n10_ := Aside0.mk (blk_below (g := gb473) (o := .cells #[.slice Ao29 t467.length co29, .slice Ao33 t470.length co33] 29 (0, 0)) (by (with_reducible repeat (first | refine blk_drewN ?_ _ | refine blk_drew ?_ | refine blk_alloc ?_ _)); refine blk_put (cs := #[.slice Ao29 t467.length co29, .slice none 0 0]) ?_ 1 _ rfl; (with_reducible repeat (first | refine blk_drewN ?_ _ | refine blk_drew ?_ | refine blk_alloc ?_ _)); refine blk_put (cs := #[.slice none 0 0, .slice none 0 0]) ?_ 0 _ rfl; (with_reducible repeat (first | refine blk_drewN ?_ _ | refine blk_drew ?_ | refine blk_alloc ?_ _)); exact BK473.out) hb); have n11_ := Aside0.mk (below_step (by repeat (first | (with_reducible first | exact HB.out | apply below_alloc | apply pw_below_drewN | apply below_drew1 | refine below_set ?_ GE451.out | refine below_set ?_ GE466.out | refine below_set ?_ GE473.out) | exact HB.out)) hb); clear HO455; clear HO458; clear HO461; clear HO464; clear HO469; clear HO472; clear BK451; clear BK466; clear BK473; clear HB; have HO455 := n0_; have HO458 := n1_; have HO461 := n2_; have HO464 := n3_; have HO469 := n4_; have HO472 := n5_; have HO476 := n6_; have HO479 := n7_; have BK451 := n8_; have BK466 := n9_; have BK473 := n10_; have HB := n11_; clear n0_ n1_ n2_ n3_ n4_ n5_ n6_ n7_ n8_ n9_ n10_ n11_; (try clear hb); (try clear hb2); (try clear hk); (try clear hi); (try clear ho0); (try clear ho1)) | ((with_reducible refine gate_dst (N := 9) rfl ?_); refine box_event ?hg (N := 9) ?hd (cs := #[.slice none 0 0, .slice none 0 0]) (t := 29) ?hr ?_; (case hd => rfl); (case hg => rfl); (case hr => first | (go_simp; done) | (go_simp; rfl)); intro gb481 hg w35 hbox hb; have n0_ := Aside0.mk (Kd.R_below (by (with_reducible repeat (first | apply Kd.R_alloc | apply Kd.R_drewN | apply Kd.R_drew)); exact HO455.out) hb); have n1_ := Aside0.mk (Kd.R_below (by (with_reducible repeat (first | apply Kd.R_alloc | apply Kd.R_drewN | apply Kd.R_drew)); exact HO458.out) hb); have n2_ := Aside0.mk (Kd.R_below (by (with_reducible repeat (first | apply Kd.R_alloc | apply Kd.R_drewN | apply Kd.R_drew)); exact HO461.out) hb); have n3_ := Aside0.mk (Kd.R_below (by (with_reducible repeat (first | apply Kd.R_alloc | apply Kd.R_drewN | apply Kd.R_drew)); exact HO464.out) hb); have n4_ := Aside0.mk (Kd.R_below (by (with_reducible repeat (first | apply Kd.R_alloc | apply Kd.R_drewN | apply Kd.R_drew)); exact HO469.out) hb); have n5_ := Aside0.mk (Kd.R_below (by (with_reducible repeat (first | apply Kd.R_alloc | apply Kd.R_drewN | apply Kd.R_drew)); exact HO472.out) hb); have n6_ := Aside0.mk (Kd.R_below (by (with_reducible repeat (first | apply Kd.R_alloc | apply Kd.R_drewN | apply Kd.R_drew)); exact HO476.out) hb); have n7_ := Aside0.mk (Kd.R_below (by (with_reducible repeat (first | apply Kd.R_alloc | apply Kd.R_drewN | apply Kd.R_drew)); exact HO479.out) hb); have n8_ := Aside0.mk (blk_below (g := gb451) (o := .cells #[.slice A0_0 l0_0.length c0_0, .slice A0_1 l0_1.length c0_1] 25 (0, 0)) (by (with_reducible repeat (first | refine blk_drewN ?_ _ | refine blk_drew ?_ | refine blk_alloc ?_ _)); exact BK451.out) hb); have n9_ := Aside0.mk (blk_below (g := gb466) (o := .cells #[.slice Ao22 t459.length co22, .slice Ao25 t462.length co25] 29 (0, 0)) (by (with_reducible repeat (first | refine blk_drewN ?_ _ | refine blk_drew ?_ | refine blk_alloc ?_ _)); exact BK466.out) hb); have n10_ := Aside0.mk (blk_below (g := gb473) (o := .cells #[.slice Ao29 t467.length co29, .slice Ao33 t470.length co33] 29 (0, 0)) (by (with_reducible repeat (first | refine blk_drewN ?_ _ | refine blk_drew ?_ | refine blk_alloc ?_ _)); exact BK473.out) hb); have n11_ := Aside0.mk (below_step (by repeat (first | (with_reducible first | exact HB.out | apply below_alloc | apply pw_below_drewN | apply below_drew1 | refine below_set ?_ GE451.out | refine below_set ?_ GE466.out | refine below_set ?_ GE473.out) | exact HB.out)) hb); have n12_ := Aside0.mk (hbox); have n13_ := Aside0.mk ((by rw [hg]; exact (below_size (by repeat (first | (with_reducible first | exact HB.out | apply below_alloc | apply pw_below_drewN | apply below_drew1 | refine below_set ?_ GE451.out | refine below_set ?_ GE466.out | refine below_set ?_ GE473.out) | exact HB.out))) : w.heap.size ≤ gb481)); have n14_ := Aside0.mk ((by rw [hg]; exact (below_size (by repeat (first | (with_reducible first | exact HB.out | apply below_alloc | apply pw_below_drewN | apply below_drew1 | refine below_set ?_ GE451.out | refine below_set ?_ GE466.out | refine below_set ?_ GE473.out) | exact HB.out))) : w.heap.size ≤ gb481)); have n15_ := Aside0.mk ((by rw [hg]; exact Nat.ne_of_lt (blk_lt (g := gb451) (o := .cells #[.slice A0_0 l0_0.length c0_0, .slice A0_1 l0_1.length c0_1] 25 (0, 0)) (by (with_reducible repeat (first | refine blk_drewN ?_ _ | refine blk_drew ?_ | refine blk_alloc ?_ _)); exact BK451.out)) : gb451 ≠ gb481)); have n16_ := Aside0.mk ((by rw [hg]; exact Nat.ne_of_gt (blk_lt (g := gb451) (o := .cells #[.slice A0_0 l0_0.length c0_0, .slice A0_1 l0_1.length c0_1] 25 (0, 0)) (by (with_reducible repeat (first | refine blk_drewN ?_ _ | refine blk_drew ?_ | refine blk_alloc ?_ _)); exact BK451.out)) : gb481 ≠ gb451)); have n17_ := Aside0.mk ((by rw [hg]; exact Nat.ne_of_lt (blk_lt (g := gb466) (o := .cells #[.slice Ao22 t459.length co22, .slice Ao25 t462.length co25] 29 (0, 0)) (by (with_reducible repeat (first | refine blk_drewN ?_ _ | refine blk_drew ?_ | refine blk_alloc ?_ _)); exact BK466.out)) : gb466 ≠ gb481)); have n18_ := Aside0.mk ((by rw [hg]; exact Nat.ne_of_gt (blk_lt (g := gb466) (o := .cells #[.slice Ao22 t459.length co22, .slice Ao25 t462.length co25] 29 (0, 0)) (by (with_reducible repeat (first | refine blk_drewN ?_ _ | refine blk_drew ?_ | refine blk_alloc ?_ _)); exact BK466.out)) : gb481 ≠ gb466)); have n19_ := Aside0.mk ((by rw [hg]; exact Nat.ne_of_lt (blk_lt (g := gb473) (o := .cells #[.slice Ao29 t467.length co29, .slice Ao33 t470.length co33] 29 (0, 0)) (by (with_reducible repeat (first | refine blk_drewN ?_ _ | refine blk_drew ?_ | refine blk_alloc ?_ _)); exact BK473.out)) : gb473 ≠ gb481)); have n20_ := Aside0.mk ((by rw [hg]; exact Nat.ne_of_gt (blk_lt (g := gb473) (o := .cells #[.slice Ao29 t467.length co29, .slice Ao33 t470.length co33] 29 (0, 0)) (by (with_reducible repeat (first | refine blk_drewN ?_ _ | refine blk_drew ?_ | refine blk_alloc ?_ _)); exact BK473.out)) : gb481 ≠ gb473)); clear HO455; clear HO458; clear HO461; clear HO464; clear HO469; clear HO472; clear HO476; clear HO479; clear BK451; clear BK466; clear BK473; clear HB; have HO455 := n0_; have HO458 := n1_; have HO461 := n2_; have HO464 := n3_; have HO469 := n4_; have HO472 := n5_; have HO476 := n6_; have HO479 := n7_; have BK451 := n8_; have BK466 := n9_; have BK473 := n10_; have HB := n11_; have BK481 := n12_; have GW481 := n13_; have GE481 := n14_; have NB451_481 := n15_; have NB481_451 := n16_; have NB466_481 := n17_; have NB481_466 := n18_; have NB473_481 := n19_; have NB481_473 := n20_; clear n0_ n1_ n2_ n3_ n4_ n5_ n6_ n7_ n8_ n9_ n10_ n11_ n12_ n13_ n14_ n15_ n16_ n17_ n18_ n19_ n20_; clear hb hbox hg; obtain ⟨Ao36, co36, eo36⟩ := Kd.R_slice HO476.out; subst eo36; have hnb37 := NB481_451.out; have hnc37 := NB451_481.out; have hnb38 := NB481_466.out; have hnc38 := NB466_481.out; have hnb39 := NB481_473.out; have hnc39 := NB473_481.out; have hcz40_0 : w35.cell? ⟨gb481, 0, none⟩ = some (.slice none 0 0) := (blk_cell BK481.out 0).trans rfl; have hcz40_1 : w35.cell? ⟨gb481, 1, none⟩ = some (.slice none 0 0) := (blk_cell BK481.out 1).trans rfl; have hfz40_0 := blk_frozen BK481.out 0; have hfz40_1 := blk_frozen BK481.out 1; obtain ⟨Ao41, co41, eo41⟩ := Kd.R_slice HO479.out; subst eo41))
  (try simp only [Act.put, List.setIfInBounds_toArray, List.set_cons_zero, List.set_cons_succ])
  go_cut [44] (fun v44 wc => ∃ (kq : Nat) (x44_11 : Bool), v44 = .bool x44_11 ∧ Aside0 (laws_FnExactLandOne.j0 kq a1 t465 t480 x44_11 l0_0 l0_1 t459 t462 t467 t470 t474 t477 = some r) ∧ Aside0 (kq ≤ k) ∧ Aside0 (Kd.R Kd.string 9 wc w.heap.size (fun k_ => some k_ ≠ ((.slice Ao29 t467.length co29) : Value).ownBlock ∧ some k_ ≠ ((.slice Ao36 t474.length co36) : Value).ownBlock) (.slice Ao22 t459.length co22) t459) ∧ Aside0 (Kd.R k76 76 wc w.heap.size (fun k_ => some k_ ≠ ((.slice Ao33 t470.length co33) : Value).ownBlock ∧ some k_ ≠ ((.slice Ao41 t477.length co41) : Value).ownBlock) (.slice Ao25 t462.length co25) t462) ∧ Aside0 (Kd.R Kd.string 9 wc w.heap.size (fun k_ => some k_ ≠ ((.slice Ao22 t459.length co22) : Value).ownBlock ∧ some k_ ≠ ((.slice Ao36 t474.length co36) : Value).ownBlock) (.slice Ao29 t467.length co29) t467) ∧ Aside0 (Kd.R k76 76 wc w.heap.size (fun k_ => some k_ ≠ ((.slice Ao25 t462.length co25) : Value).ownBlock ∧ some k_ ≠ ((.slice Ao41 t477.length co41) : Value).ownBlock) (.slice Ao33 t470.length co33) t470) ∧ Aside0 (Kd.R Kd.string 9 wc w.heap.size (fun k_ => some k_ ≠ ((.slice Ao22 t459.length co22) : Value).ownBlock ∧ some k_ ≠ ((.slice Ao29 t467.length co29) : Value).ownBlock) (.slice Ao36 t474.length co36) t474) ∧ Aside0 (Kd.R k76 76 wc w.heap.size (fun k_ => some k_ ≠ ((.slice Ao25 t462.length co25) : Value).ownBlock ∧ some k_ ≠ ((.slice Ao33 t470.length co33) : Value).ownBlock) (.slice Ao41 t477.length co41) t477) ∧ Aside0 (wc.heap[gb451]? = some (.cells #[(.slice A0_0 l0_0.length c0_0), (.slice A0_1 l0_1.length c0_1)] 25 (0, 0))) ∧ Aside0 (wc.heap[gb466]? = some (.cells #[(.slice Ao22 t459.length co22), (.slice Ao25 t462.length co25)] 29 (0, 0))) ∧ Aside0 (wc.heap[gb473]? = some (.cells #[(.slice Ao29 t467.length co29), (.slice Ao33 t470.length co33)] 29 (0, 0))) ∧ Aside0 (wc.heap[gb481]? = some (.cells #[(.slice Ao36 t474.length co36), (.slice Ao41 t477.length co41)] 29 (0, 0))) ∧ Aside0 (Below w.heap.size w wc))
  case first =>
   have H := HC12.out
   clear HC12
   replace H := Option.bind_eq_some_iff.mp H
   obtain ⟨t482, A420, H⟩ := H
   replace H : (if t482 = true then (laws_FnExactLandOne.j0 k a1 t465 t480 (t480 != t465) l0_0 l0_1 t459 t462 t467 t470 t474 t477) else (laws_FnExactLandOne.j0 k a1 t465 t480 true l0_0 l0_1 t459 t462 t467 t470 t474 t477)) = some r := H
   have A42 := Aside0.mk A420
   clear A420
   by_cases c43 : t482 = true
   ·subst c43
    have H1 : (laws_FnExactLandOne.j0 k a1 t465 t480 (t480 != t465) l0_0 l0_1 t459 t462 t467 t470 t474 t477) = some r := by rw [if_pos rfl] at H; exact H
    clear H
    have H := H1
    clear H1
    have H' := Aside0.mk H
    clear H
    have hnb44 := NB481_451.out
    have hnc44 := NB451_481.out
    have hnb45 := NB481_466.out
    have hnc45 := NB466_481.out
    have hnb46 := NB481_473.out
    have hnc46 := NB473_481.out
    have hcz47_0 : w35.cell? ⟨gb481, 0, none⟩ = some (.slice none 0 0) := (blk_cell BK481.out 0).trans rfl
    have hcz47_1 : w35.cell? ⟨gb481, 1, none⟩ = some (.slice none 0 0) := (blk_cell BK481.out 1).trans rfl
    have hfz47_0 := blk_frozen BK481.out 0
    have hfz47_1 := blk_frozen BK481.out 1
    have hnb48 := NB466_451.out
    have hnc48 := NB451_466.out
    have hnb49 := NB466_473.out
    have hnc49 := NB473_466.out
    have hcz50_0 : w35.cell? ⟨gb466, 0, none⟩ = some (.slice Ao22 t459.length co22) := (blk_cell BK466.out 0).trans rfl
    have hcz50_1 : w35.cell? ⟨gb466, 1, none⟩ = some (.slice Ao25 t462.length co25) := (blk_cell BK466.out 1).trans rfl
    have hfz50_0 := blk_frozen BK466.out 0
    have hfz50_1 := blk_frozen BK466.out 1
    go_wp2_with (first | ((with_reducible refine gate_callee (f := 13) rfl ?_); refine goesL_ (some 38) rfl rfl Try.func13 (by kernel_rfl) rfl #[.agg #[.slice Ao36 t474.length co36, .slice Ao41 t477.length co41], .agg #[.slice Ao22 t459.length co22, .slice Ao25 t462.length co25]] rfl (by (try simp only [List.map_toArray, List.map_cons, List.map_nil]); first | done | rfl | (simp only [List.length_drop, List.length_take]; rfl)) ?_; (with_reducible refine (laws_eqDisk.calls k _ _ t474 _ _ t477 _ _ t459 _ _ t462 true _ ?side1 ?side2 ?side3 ?side4 ?side5 ?side6 ?side7 ?side8 A42.out).mono ?_); (case side1 => refine (Kd.R_reads' (e := 9) (base := w.heap.size) (ok := fun k_ => (((True ∧ some k_ ≠ (.slice Ao18 t453.length co18 : Value).ownBlock) ∧ some k_ ≠ (.slice Ao22 t459.length co22 : Value).ownBlock) ∧ some k_ ≠ (.slice Ao29 t467.length co29 : Value).ownBlock)) (n := t474.length) (c := co36) ?_).2.2; exact (by (with_reducible repeat (first | apply Kd.R_alloc | apply Kd.R_drewN | apply Kd.R_drew)); exact (Kd.R_mono (Kd.R_far (p := ⟨gb481, 1, none⟩) (Kd.R_far (p := ⟨gb481, 0, none⟩) (Kd.R_types HO476.out BK481.out (by decide)) (fun _ hk => hk.2) (.slice Ao36 t474.length co36)) (fun _ hk => hk.2) (.slice Ao41 t477.length co41)) (fun _ h_ => h_.1)))); (case side2 => exact (Kd.R_reads' HO476.out).2.1); (case side3 => refine (Kd.R_reads' (e := 76) (base := w.heap.size) (ok := fun k_ => (((True ∧ some k_ ≠ (.slice Ao19 t456.length co19 : Value).ownBlock) ∧ some k_ ≠ (.slice Ao25 t462.length co25 : Value).ownBlock) ∧ some k_ ≠ (.slice Ao33 t470.length co33 : Value).ownBlock)) (n := t477.length) (c := co41) ?_).2.2; exact (by (with_reducible repeat (first | apply Kd.R_alloc | apply Kd.R_drewN | apply Kd.R_drew)); exact (Kd.R_mono (Kd.R_far (p := ⟨gb481, 1, none⟩) (Kd.R_far (p := ⟨gb481, 0, none⟩) (Kd.R_types HO479.out BK481.out (by decide)) (fun _ hk => hk.2) (.slice Ao36 t474.length co36)) (fun _ hk => hk.2) (.slice Ao41 t477.length co41)) (fun _ h_ => h_.1)))); (case side4 => exact (Kd.R_reads' HO479.out).2.1); (case side5 => refine (Kd.R_reads' (e := 9) (base := w.heap.size) (ok := fun k_ => (((True ∧ some k_ ≠ (.slice Ao18 t453.length co18 : Value).ownBlock) ∧ some k_ ≠ (.slice Ao29 t467.length co29 : Value).ownBlock) ∧ some k_ ≠ (.slice Ao36 t474.length co36 : Value).ownBlock)) (n := t459.length) (c := co22) ?_).2.2; exact (by (with_reducible repeat (first | apply Kd.R_alloc | apply Kd.R_drewN | apply Kd.R_drew)); exact (Kd.R_mono (Kd.R_far (p := ⟨gb481, 1, none⟩) (Kd.R_far (p := ⟨gb481, 0, none⟩) (Kd.R_types HO461.out BK481.out (by decide)) (fun _ hk => hk.2) (.slice Ao36 t474.length co36)) (fun _ hk => hk.2) (.slice Ao41 t477.length co41)) (fun _ h_ => h_.1)))); (case side6 => exact (Kd.R_reads' HO461.out).2.1); (case side7 => refine (Kd.R_reads' (e := 76) (base := w.heap.size) (ok := fun k_ => (((True ∧ some k_ ≠ (.slice Ao19 t456.length co19 : Value).ownBlock) ∧ some k_ ≠ (.slice Ao33 t470.length co33 : Value).ownBlock) ∧ some k_ ≠ (.slice Ao41 t477.length co41 : Value).ownBlock)) (n := t462.length) (c := co25) ?_).2.2; exact (by (with_reducible repeat (first | apply Kd.R_alloc | apply Kd.R_drewN | apply Kd.R_drew)); exact (Kd.R_mono (Kd.R_far (p := ⟨gb481, 1, none⟩) (Kd.R_far (p := ⟨gb481, 0, none⟩) (Kd.R_types HO464.out BK481.out (by decide)) (fun _ hk => hk.2) (.slice Ao36 t474.length co36)) (fun _ hk => hk.2) (.slice Ao41 t477.length co41)) (fun _ h_ => h_.1)))); (case side8 => exact (Kd.R_reads' HO464.out).2.1); rintro e w51 ⟨rfl, hb⟩; refine ⟨_, rfl, ?_⟩; have n0_ := Aside0.mk (Kd.R_below (by (with_reducible repeat (first | apply Kd.R_alloc | apply Kd.R_drewN | apply Kd.R_drew)); exact (Kd.R_mono (Kd.R_far (p := ⟨gb481, 1, none⟩) (Kd.R_far (p := ⟨gb481, 0, none⟩) (Kd.R_types HO455.out BK481.out (by decide)) (fun _ hk => hk.2) (.slice Ao36 t474.length co36)) (fun _ hk => hk.2) (.slice Ao41 t477.length co41)) (fun _ h_ => h_.1))) hb); have n1_ := Aside0.mk (Kd.R_below (by (with_reducible repeat (first | apply Kd.R_alloc | apply Kd.R_drewN | apply Kd.R_drew)); exact (Kd.R_mono (Kd.R_far (p := ⟨gb481, 1, none⟩) (Kd.R_far (p := ⟨gb481, 0, none⟩) (Kd.R_types HO458.out BK481.out (by decide)) (fun _ hk => hk.2) (.slice Ao36 t474.length co36)) (fun _ hk => hk.2) (.slice Ao41 t477.length co41)) (fun _ h_ => h_.1))) hb); have n2_ := Aside0.mk (Kd.R_below (by (with_reducible repeat (first | apply Kd.R_alloc | apply Kd.R_drewN | apply Kd.R_drew)); exact (Kd.R_mono (Kd.R_far (p := ⟨gb481, 1, none⟩) (Kd.R_far (p := ⟨gb481, 0, none⟩) (Kd.R_types HO461.out BK481.out (by decide)) (fun _ hk => hk.2) (.slice Ao36 t474.length co36)) (fun _ hk => hk.2) (.slice Ao41 t477.length co41)) (fun _ h_ => h_.1))) hb); have n3_ := Aside0.mk (Kd.R_below (by (with_reducible repeat (first | apply Kd.R_alloc | apply Kd.R_drewN | apply Kd.R_drew)); exact (Kd.R_mono (Kd.R_far (p := ⟨gb481, 1, none⟩) (Kd.R_far (p := ⟨gb481, 0, none⟩) (Kd.R_types HO464.out BK481.out (by decide)) (fun _ hk => hk.2) (.slice Ao36 t474.length co36)) (fun _ hk => hk.2) (.slice Ao41 t477.length co41)) (fun _ h_ => h_.1))) hb); have n4_ := Aside0.mk (Kd.R_below (by (with_reducible repeat (first | apply Kd.R_alloc | apply Kd.R_drewN | apply Kd.R_drew)); exact (Kd.R_mono (Kd.R_far (p := ⟨gb481, 1, none⟩) (Kd.R_far (p := ⟨gb481, 0, none⟩) (Kd.R_types HO469.out BK481.out (by decide)) (fun _ hk => hk.2) (.slice Ao36 t474.length co36)) (fun _ hk => hk.2) (.slice Ao41 t477.length co41)) (fun _ h_ => h_.1))) hb); have n5_ := Aside0.mk (Kd.R_below (by (with_reducible repeat (first | apply Kd.R_alloc | apply Kd.R_drewN | apply Kd.R_drew)); exact (Kd.R_mono (Kd.R_far (p := ⟨gb481, 1, none⟩) (Kd.R_far (p := ⟨gb481, 0, none⟩) (Kd.R_types HO472.out BK481.out (by decide)) (fun _ hk => hk.2) (.slice Ao36 t474.length co36)) (fun _ hk => hk.2) (.slice Ao41 t477.length co41)) (fun _ h_ => h_.1))) hb); have n6_ := Aside0.mk (Kd.R_below (by (with_reducible repeat (first | apply Kd.R_alloc | apply Kd.R_drewN | apply Kd.R_drew)); exact (Kd.R_mono (Kd.R_far (p := ⟨gb481, 1, none⟩) (Kd.R_far (p := ⟨gb481, 0, none⟩) (Kd.R_types HO476.out BK481.out (by decide)) (fun _ hk => hk.2) (.slice Ao36 t474.length co36)) (fun _ hk => hk.2) (.slice Ao41 t477.length co41)) (fun _ h_ => h_.1))) hb); have n7_ := Aside0.mk (Kd.R_below (by (with_reducible repeat (first | apply Kd.R_alloc | apply Kd.R_drewN | apply Kd.R_drew)); exact (Kd.R_mono (Kd.R_far (p := ⟨gb481, 1, none⟩) (Kd.R_far (p := ⟨gb481, 0, none⟩) (Kd.R_types HO479.out BK481.out (by decide)) (fun _ hk => hk.2) (.slice Ao36 t474.length co36)) (fun _ hk => hk.2) (.slice Ao41 t477.length co41)) (fun _ h_ => h_.1))) hb); have n8_ := Aside0.mk (blk_below (g := gb451) (o := .cells #[.slice A0_0 l0_0.length c0_0, .slice A0_1 l0_1.length c0_1] 25 (0, 0)) (by (with_reducible repeat (first | refine blk_drewN ?_ _ | refine blk_drew ?_ | refine blk_alloc ?_ _)); refine blk_far ?_ NB451_481.out _; (with_reducible repeat (first | refine blk_drewN ?_ _ | refine blk_drew ?_ | refine blk_alloc ?_ _)); refine blk_far ?_ NB451_481.out _; (with_reducible repeat (first | refine blk_drewN ?_ _ | refine blk_drew ?_ | refine blk_alloc ?_ _)); exact BK451.out) hb); have n9_ := Aside0.mk (blk_below (g := gb466) (o := .cells #[.slice Ao22 t459.length co22, .slice Ao25 t462.length co25] 29 (0, 0)) (by (with_reducible repeat (first | refine blk_drewN ?_ _ | refine blk_drew ?_ | refine blk_alloc ?_ _)); refine blk_far ?_ NB466_481.out _; (with_reducible repeat (first | refine blk_drewN ?_ _ | refine blk_drew ?_ | refine blk_alloc ?_ _)); refine blk_far ?_ NB466_481.out _; (with_reducible repeat (first | refine blk_drewN ?_ _ | refine blk_drew ?_ | refine blk_alloc ?_ _)); exact BK466.out) hb); have n10_ := Aside0.mk (blk_below (g := gb473) (o := .cells #[.slice Ao29 t467.length co29, .slice Ao33 t470.length co33] 29 (0, 0)) (by (with_reducible repeat (first | refine blk_drewN ?_ _ | refine blk_drew ?_ | refine blk_alloc ?_ _)); refine blk_far ?_ NB473_481.out _; (with_reducible repeat (first | refine blk_drewN ?_ _ | refine blk_drew ?_ | refine blk_alloc ?_ _)); refine blk_far ?_ NB473_481.out _; (with_reducible repeat (first | refine blk_drewN ?_ _ | refine blk_drew ?_ | refine blk_alloc ?_ _)); exact BK473.out) hb); have n11_ := Aside0.mk (blk_below (g := gb481) (o := .cells #[.slice Ao36 t474.length co36, .slice Ao41 t477.length co41] 29 (0, 0)) (by (with_reducible repeat (first | refine blk_drewN ?_ _ | refine blk_drew ?_ | refine blk_alloc ?_ _)); refine blk_put (cs := #[.slice Ao36 t474.length co36, .slice none 0 0]) ?_ 1 _ rfl; (with_reducible repeat (first | refine blk_drewN ?_ _ | refine blk_drew ?_ | refine blk_alloc ?_ _)); refine blk_put (cs := #[.slice none 0 0, .slice none 0 0]) ?_ 0 _ rfl; (with_reducible repeat (first | refine blk_drewN ?_ _ | refine blk_drew ?_ | refine blk_alloc ?_ _)); exact BK481.out) hb); have n12_ := Aside0.mk (below_step (by repeat (first | (with_reducible first | exact HB.out | apply below_alloc | apply pw_below_drewN | apply below_drew1 | refine below_set ?_ GE451.out | refine below_set ?_ GE466.out | refine below_set ?_ GE473.out | refine below_set ?_ GE481.out) | exact HB.out)) hb); clear HO455; clear HO458; clear HO461; clear HO464; clear HO469; clear HO472; clear HO476; clear HO479; clear BK451; clear BK466; clear BK473; clear BK481; clear HB; have HO455 := n0_; have HO458 := n1_; have HO461 := n2_; have HO464 := n3_; have HO469 := n4_; have HO472 := n5_; have HO476 := n6_; have HO479 := n7_; have BK451 := n8_; have BK466 := n9_; have BK473 := n10_; have BK481 := n11_; have HB := n12_; clear n0_ n1_ n2_ n3_ n4_ n5_ n6_ n7_ n8_ n9_ n10_ n11_ n12_; (try clear hb); (try clear hb2); (try clear hk); (try clear hi)))
    go_meet
    case rel => exact ⟨_, ((t480 != t465)), (by first | rfl | (simp; done) | (simp [*]; done)), H', ⟨by first | omega | exact Nat.le_refl _⟩, ⟨by (with_reducible repeat (first | apply Kd.R_alloc | apply Kd.R_drewN | apply Kd.R_drew)); exact Kd.R_mono HO461.out (fun _ hk => ⟨hk.1.2, hk.2⟩)⟩, ⟨by (with_reducible repeat (first | apply Kd.R_alloc | apply Kd.R_drewN | apply Kd.R_drew)); exact Kd.R_mono HO464.out (fun _ hk => ⟨hk.1.2, hk.2⟩)⟩, ⟨by (with_reducible repeat (first | apply Kd.R_alloc | apply Kd.R_drewN | apply Kd.R_drew)); exact Kd.R_mono HO469.out (fun _ hk => ⟨hk.1.2, hk.2⟩)⟩, ⟨by (with_reducible repeat (first | apply Kd.R_alloc | apply Kd.R_drewN | apply Kd.R_drew)); exact Kd.R_mono HO472.out (fun _ hk => ⟨hk.1.2, hk.2⟩)⟩, ⟨by (with_reducible repeat (first | apply Kd.R_alloc | apply Kd.R_drewN | apply Kd.R_drew)); exact Kd.R_mono HO476.out (fun _ hk => ⟨hk.1.2, hk.2⟩)⟩, ⟨by (with_reducible repeat (first | apply Kd.R_alloc | apply Kd.R_drewN | apply Kd.R_drew)); exact Kd.R_mono HO479.out (fun _ hk => ⟨hk.1.2, hk.2⟩)⟩, ⟨by (with_reducible repeat (first | refine blk_drewN ?_ _ | refine blk_drew ?_ | refine blk_alloc ?_ _)); exact BK451.out⟩, ⟨by (with_reducible repeat (first | refine blk_drewN ?_ _ | refine blk_drew ?_ | refine blk_alloc ?_ _)); exact BK466.out⟩, ⟨by (with_reducible repeat (first | refine blk_drewN ?_ _ | refine blk_drew ?_ | refine blk_alloc ?_ _)); exact BK473.out⟩, ⟨by (with_reducible repeat (first | refine blk_drewN ?_ _ | refine blk_drew ?_ | refine blk_alloc ?_ _)); exact BK481.out⟩, ⟨by repeat (first | (with_reducible first | exact HB.out | apply below_alloc | apply pw_below_drewN | apply below_drew1 | refine below_set ?_ GE451.out | refine below_set ?_ GE466.out | refine below_set ?_ GE473.out | refine below_set ?_ GE481.out) | exact HB.out)⟩⟩
   ·replace c43 := Bool.eq_false_iff.mpr c43
    subst c43
    have H1 : (laws_FnExactLandOne.j0 k a1 t465 t480 true l0_0 l0_1 t459 t462 t467 t470 t474 t477) = some r := by rw [if_neg (show ¬ (false = true) by decide)] at H; exact H
    clear H
    have H := H1
    clear H1
    have H' := Aside0.mk H
    clear H
    have hnb52 := NB481_451.out
    have hnc52 := NB451_481.out
    have hnb53 := NB481_466.out
    have hnc53 := NB466_481.out
    have hnb54 := NB481_473.out
    have hnc54 := NB473_481.out
    have hcz55_0 : w35.cell? ⟨gb481, 0, none⟩ = some (.slice none 0 0) := (blk_cell BK481.out 0).trans rfl
    have hcz55_1 : w35.cell? ⟨gb481, 1, none⟩ = some (.slice none 0 0) := (blk_cell BK481.out 1).trans rfl
    have hfz55_0 := blk_frozen BK481.out 0
    have hfz55_1 := blk_frozen BK481.out 1
    have hnb56 := NB466_451.out
    have hnc56 := NB451_466.out
    have hnb57 := NB466_473.out
    have hnc57 := NB473_466.out
    have hcz58_0 : w35.cell? ⟨gb466, 0, none⟩ = some (.slice Ao22 t459.length co22) := (blk_cell BK466.out 0).trans rfl
    have hcz58_1 : w35.cell? ⟨gb466, 1, none⟩ = some (.slice Ao25 t462.length co25) := (blk_cell BK466.out 1).trans rfl
    have hfz58_0 := blk_frozen BK466.out 0
    have hfz58_1 := blk_frozen BK466.out 1
    go_wp2_with (first | ((with_reducible refine gate_callee (f := 13) rfl ?_); refine goesL_ (some 38) rfl rfl Try.func13 (by kernel_rfl) rfl #[.agg #[.slice Ao36 t474.length co36, .slice Ao41 t477.length co41], .agg #[.slice Ao22 t459.length co22, .slice Ao25 t462.length co25]] rfl (by (try simp only [List.map_toArray, List.map_cons, List.map_nil]); first | done | rfl | (simp only [List.length_drop, List.length_take]; rfl)) ?_; (with_reducible refine (laws_eqDisk.calls k _ _ t474 _ _ t477 _ _ t459 _ _ t462 false _ ?side1 ?side2 ?side3 ?side4 ?side5 ?side6 ?side7 ?side8 A42.out).mono ?_); (case side1 => refine (Kd.R_reads' (e := 9) (base := w.heap.size) (ok := fun k_ => (((True ∧ some k_ ≠ (.slice Ao18 t453.length co18 : Value).ownBlock) ∧ some k_ ≠ (.slice Ao22 t459.length co22 : Value).ownBlock) ∧ some k_ ≠ (.slice Ao29 t467.length co29 : Value).ownBlock)) (n := t474.length) (c := co36) ?_).2.2; exact (by (with_reducible repeat (first | apply Kd.R_alloc | apply Kd.R_drewN | apply Kd.R_drew)); exact (Kd.R_mono (Kd.R_far (p := ⟨gb481, 1, none⟩) (Kd.R_far (p := ⟨gb481, 0, none⟩) (Kd.R_types HO476.out BK481.out (by decide)) (fun _ hk => hk.2) (.slice Ao36 t474.length co36)) (fun _ hk => hk.2) (.slice Ao41 t477.length co41)) (fun _ h_ => h_.1)))); (case side2 => exact (Kd.R_reads' HO476.out).2.1); (case side3 => refine (Kd.R_reads' (e := 76) (base := w.heap.size) (ok := fun k_ => (((True ∧ some k_ ≠ (.slice Ao19 t456.length co19 : Value).ownBlock) ∧ some k_ ≠ (.slice Ao25 t462.length co25 : Value).ownBlock) ∧ some k_ ≠ (.slice Ao33 t470.length co33 : Value).ownBlock)) (n := t477.length) (c := co41) ?_).2.2; exact (by (with_reducible repeat (first | apply Kd.R_alloc | apply Kd.R_drewN | apply Kd.R_drew)); exact (Kd.R_mono (Kd.R_far (p := ⟨gb481, 1, none⟩) (Kd.R_far (p := ⟨gb481, 0, none⟩) (Kd.R_types HO479.out BK481.out (by decide)) (fun _ hk => hk.2) (.slice Ao36 t474.length co36)) (fun _ hk => hk.2) (.slice Ao41 t477.length co41)) (fun _ h_ => h_.1)))); (case side4 => exact (Kd.R_reads' HO479.out).2.1); (case side5 => refine (Kd.R_reads' (e := 9) (base := w.heap.size) (ok := fun k_ => (((True ∧ some k_ ≠ (.slice Ao18 t453.length co18 : Value).ownBlock) ∧ some k_ ≠ (.slice Ao29 t467.length co29 : Value).ownBlock) ∧ some k_ ≠ (.slice Ao36 t474.length co36 : Value).ownBlock)) (n := t459.length) (c := co22) ?_).2.2; exact (by (with_reducible repeat (first | apply Kd.R_alloc | apply Kd.R_drewN | apply Kd.R_drew)); exact (Kd.R_mono (Kd.R_far (p := ⟨gb481, 1, none⟩) (Kd.R_far (p := ⟨gb481, 0, none⟩) (Kd.R_types HO461.out BK481.out (by decide)) (fun _ hk => hk.2) (.slice Ao36 t474.length co36)) (fun _ hk => hk.2) (.slice Ao41 t477.length co41)) (fun _ h_ => h_.1)))); (case side6 => exact (Kd.R_reads' HO461.out).2.1); (case side7 => refine (Kd.R_reads' (e := 76) (base := w.heap.size) (ok := fun k_ => (((True ∧ some k_ ≠ (.slice Ao19 t456.length co19 : Value).ownBlock) ∧ some k_ ≠ (.slice Ao33 t470.length co33 : Value).ownBlock) ∧ some k_ ≠ (.slice Ao41 t477.length co41 : Value).ownBlock)) (n := t462.length) (c := co25) ?_).2.2; exact (by (with_reducible repeat (first | apply Kd.R_alloc | apply Kd.R_drewN | apply Kd.R_drew)); exact (Kd.R_mono (Kd.R_far (p := ⟨gb481, 1, none⟩) (Kd.R_far (p := ⟨gb481, 0, none⟩) (Kd.R_types HO464.out BK481.out (by decide)) (fun _ hk => hk.2) (.slice Ao36 t474.length co36)) (fun _ hk => hk.2) (.slice Ao41 t477.length co41)) (fun _ h_ => h_.1)))); (case side8 => exact (Kd.R_reads' HO464.out).2.1); rintro e w59 ⟨rfl, hb⟩; refine ⟨_, rfl, ?_⟩; have n0_ := Aside0.mk (Kd.R_below (by (with_reducible repeat (first | apply Kd.R_alloc | apply Kd.R_drewN | apply Kd.R_drew)); exact (Kd.R_mono (Kd.R_far (p := ⟨gb481, 1, none⟩) (Kd.R_far (p := ⟨gb481, 0, none⟩) (Kd.R_types HO455.out BK481.out (by decide)) (fun _ hk => hk.2) (.slice Ao36 t474.length co36)) (fun _ hk => hk.2) (.slice Ao41 t477.length co41)) (fun _ h_ => h_.1))) hb); have n1_ := Aside0.mk (Kd.R_below (by (with_reducible repeat (first | apply Kd.R_alloc | apply Kd.R_drewN | apply Kd.R_drew)); exact (Kd.R_mono (Kd.R_far (p := ⟨gb481, 1, none⟩) (Kd.R_far (p := ⟨gb481, 0, none⟩) (Kd.R_types HO458.out BK481.out (by decide)) (fun _ hk => hk.2) (.slice Ao36 t474.length co36)) (fun _ hk => hk.2) (.slice Ao41 t477.length co41)) (fun _ h_ => h_.1))) hb); have n2_ := Aside0.mk (Kd.R_below (by (with_reducible repeat (first | apply Kd.R_alloc | apply Kd.R_drewN | apply Kd.R_drew)); exact (Kd.R_mono (Kd.R_far (p := ⟨gb481, 1, none⟩) (Kd.R_far (p := ⟨gb481, 0, none⟩) (Kd.R_types HO461.out BK481.out (by decide)) (fun _ hk => hk.2) (.slice Ao36 t474.length co36)) (fun _ hk => hk.2) (.slice Ao41 t477.length co41)) (fun _ h_ => h_.1))) hb); have n3_ := Aside0.mk (Kd.R_below (by (with_reducible repeat (first | apply Kd.R_alloc | apply Kd.R_drewN | apply Kd.R_drew)); exact (Kd.R_mono (Kd.R_far (p := ⟨gb481, 1, none⟩) (Kd.R_far (p := ⟨gb481, 0, none⟩) (Kd.R_types HO464.out BK481.out (by decide)) (fun _ hk => hk.2) (.slice Ao36 t474.length co36)) (fun _ hk => hk.2) (.slice Ao41 t477.length co41)) (fun _ h_ => h_.1))) hb); have n4_ := Aside0.mk (Kd.R_below (by (with_reducible repeat (first | apply Kd.R_alloc | apply Kd.R_drewN | apply Kd.R_drew)); exact (Kd.R_mono (Kd.R_far (p := ⟨gb481, 1, none⟩) (Kd.R_far (p := ⟨gb481, 0, none⟩) (Kd.R_types HO469.out BK481.out (by decide)) (fun _ hk => hk.2) (.slice Ao36 t474.length co36)) (fun _ hk => hk.2) (.slice Ao41 t477.length co41)) (fun _ h_ => h_.1))) hb); have n5_ := Aside0.mk (Kd.R_below (by (with_reducible repeat (first | apply Kd.R_alloc | apply Kd.R_drewN | apply Kd.R_drew)); exact (Kd.R_mono (Kd.R_far (p := ⟨gb481, 1, none⟩) (Kd.R_far (p := ⟨gb481, 0, none⟩) (Kd.R_types HO472.out BK481.out (by decide)) (fun _ hk => hk.2) (.slice Ao36 t474.length co36)) (fun _ hk => hk.2) (.slice Ao41 t477.length co41)) (fun _ h_ => h_.1))) hb); have n6_ := Aside0.mk (Kd.R_below (by (with_reducible repeat (first | apply Kd.R_alloc | apply Kd.R_drewN | apply Kd.R_drew)); exact (Kd.R_mono (Kd.R_far (p := ⟨gb481, 1, none⟩) (Kd.R_far (p := ⟨gb481, 0, none⟩) (Kd.R_types HO476.out BK481.out (by decide)) (fun _ hk => hk.2) (.slice Ao36 t474.length co36)) (fun _ hk => hk.2) (.slice Ao41 t477.length co41)) (fun _ h_ => h_.1))) hb); have n7_ := Aside0.mk (Kd.R_below (by (with_reducible repeat (first | apply Kd.R_alloc | apply Kd.R_drewN | apply Kd.R_drew)); exact (Kd.R_mono (Kd.R_far (p := ⟨gb481, 1, none⟩) (Kd.R_far (p := ⟨gb481, 0, none⟩) (Kd.R_types HO479.out BK481.out (by decide)) (fun _ hk => hk.2) (.slice Ao36 t474.length co36)) (fun _ hk => hk.2) (.slice Ao41 t477.length co41)) (fun _ h_ => h_.1))) hb); have n8_ := Aside0.mk (blk_below (g := gb451) (o := .cells #[.slice A0_0 l0_0.length c0_0, .slice A0_1 l0_1.length c0_1] 25 (0, 0)) (by (with_reducible repeat (first | refine blk_drewN ?_ _ | refine blk_drew ?_ | refine blk_alloc ?_ _)); refine blk_far ?_ NB451_481.out _; (with_reducible repeat (first | refine blk_drewN ?_ _ | refine blk_drew ?_ | refine blk_alloc ?_ _)); refine blk_far ?_ NB451_481.out _; (with_reducible repeat (first | refine blk_drewN ?_ _ | refine blk_drew ?_ | refine blk_alloc ?_ _)); exact BK451.out) hb); have n9_ := Aside0.mk (blk_below (g := gb466) (o := .cells #[.slice Ao22 t459.length co22, .slice Ao25 t462.length co25] 29 (0, 0)) (by (with_reducible repeat (first | refine blk_drewN ?_ _ | refine blk_drew ?_ | refine blk_alloc ?_ _)); refine blk_far ?_ NB466_481.out _; (with_reducible repeat (first | refine blk_drewN ?_ _ | refine blk_drew ?_ | refine blk_alloc ?_ _)); refine blk_far ?_ NB466_481.out _; (with_reducible repeat (first | refine blk_drewN ?_ _ | refine blk_drew ?_ | refine blk_alloc ?_ _)); exact BK466.out) hb); have n10_ := Aside0.mk (blk_below (g := gb473) (o := .cells #[.slice Ao29 t467.length co29, .slice Ao33 t470.length co33] 29 (0, 0)) (by (with_reducible repeat (first | refine blk_drewN ?_ _ | refine blk_drew ?_ | refine blk_alloc ?_ _)); refine blk_far ?_ NB473_481.out _; (with_reducible repeat (first | refine blk_drewN ?_ _ | refine blk_drew ?_ | refine blk_alloc ?_ _)); refine blk_far ?_ NB473_481.out _; (with_reducible repeat (first | refine blk_drewN ?_ _ | refine blk_drew ?_ | refine blk_alloc ?_ _)); exact BK473.out) hb); have n11_ := Aside0.mk (blk_below (g := gb481) (o := .cells #[.slice Ao36 t474.length co36, .slice Ao41 t477.length co41] 29 (0, 0)) (by (with_reducible repeat (first | refine blk_drewN ?_ _ | refine blk_drew ?_ | refine blk_alloc ?_ _)); refine blk_put (cs := #[.slice Ao36 t474.length co36, .slice none 0 0]) ?_ 1 _ rfl; (with_reducible repeat (first | refine blk_drewN ?_ _ | refine blk_drew ?_ | refine blk_alloc ?_ _)); refine blk_put (cs := #[.slice none 0 0, .slice none 0 0]) ?_ 0 _ rfl; (with_reducible repeat (first | refine blk_drewN ?_ _ | refine blk_drew ?_ | refine blk_alloc ?_ _)); exact BK481.out) hb); have n12_ := Aside0.mk (below_step (by repeat (first | (with_reducible first | exact HB.out | apply below_alloc | apply pw_below_drewN | apply below_drew1 | refine below_set ?_ GE451.out | refine below_set ?_ GE466.out | refine below_set ?_ GE473.out | refine below_set ?_ GE481.out) | exact HB.out)) hb); clear HO455; clear HO458; clear HO461; clear HO464; clear HO469; clear HO472; clear HO476; clear HO479; clear BK451; clear BK466; clear BK473; clear BK481; clear HB; have HO455 := n0_; have HO458 := n1_; have HO461 := n2_; have HO464 := n3_; have HO469 := n4_; have HO472 := n5_; have HO476 := n6_; have HO479 := n7_; have BK451 := n8_; have BK466 := n9_; have BK473 := n10_; have BK481 := n11_; have HB := n12_; clear n0_ n1_ n2_ n3_ n4_ n5_ n6_ n7_ n8_ n9_ n10_ n11_ n12_; (try clear hb); (try clear hb2); (try clear hk); (try clear hi)))
    go_meet
    case rel => exact ⟨_, (true), (by first | rfl | (simp; done) | (simp [*]; done)), H', ⟨by first | omega | exact Nat.le_refl _⟩, ⟨by (with_reducible repeat (first | apply Kd.R_alloc | apply Kd.R_drewN | apply Kd.R_drew)); exact Kd.R_mono HO461.out (fun _ hk => ⟨hk.1.2, hk.2⟩)⟩, ⟨by (with_reducible repeat (first | apply Kd.R_alloc | apply Kd.R_drewN | apply Kd.R_drew)); exact Kd.R_mono HO464.out (fun _ hk => ⟨hk.1.2, hk.2⟩)⟩, ⟨by (with_reducible repeat (first | apply Kd.R_alloc | apply Kd.R_drewN | apply Kd.R_drew)); exact Kd.R_mono HO469.out (fun _ hk => ⟨hk.1.2, hk.2⟩)⟩, ⟨by (with_reducible repeat (first | apply Kd.R_alloc | apply Kd.R_drewN | apply Kd.R_drew)); exact Kd.R_mono HO472.out (fun _ hk => ⟨hk.1.2, hk.2⟩)⟩, ⟨by (with_reducible repeat (first | apply Kd.R_alloc | apply Kd.R_drewN | apply Kd.R_drew)); exact Kd.R_mono HO476.out (fun _ hk => ⟨hk.1.2, hk.2⟩)⟩, ⟨by (with_reducible repeat (first | apply Kd.R_alloc | apply Kd.R_drewN | apply Kd.R_drew)); exact Kd.R_mono HO479.out (fun _ hk => ⟨hk.1.2, hk.2⟩)⟩, ⟨by (with_reducible repeat (first | refine blk_drewN ?_ _ | refine blk_drew ?_ | refine blk_alloc ?_ _)); exact BK451.out⟩, ⟨by (with_reducible repeat (first | refine blk_drewN ?_ _ | refine blk_drew ?_ | refine blk_alloc ?_ _)); exact BK466.out⟩, ⟨by (with_reducible repeat (first | refine blk_drewN ?_ _ | refine blk_drew ?_ | refine blk_alloc ?_ _)); exact BK473.out⟩, ⟨by (with_reducible repeat (first | refine blk_drewN ?_ _ | refine blk_drew ?_ | refine blk_alloc ?_ _)); exact BK481.out⟩, ⟨by repeat (first | (with_reducible first | exact HB.out | apply below_alloc | apply pw_below_drewN | apply below_drew1 | refine below_set ?_ GE451.out | refine below_set ?_ GE466.out | refine below_set ?_ GE473.out | refine below_set ?_ GE481.out) | exact HB.out)⟩⟩
  case rest =>
   clear HC12
   try clear c1
   try clear c2
   try clear p2
   try clear c3
   try clear c4
   try clear c4b0
   try clear c5
   try clear c9
   try clear c11
   try clear c13
   try clear c18
   try clear c19
   try clear c23
   try clear c30
   try clear c31
   try clear c37
   try clear c38
   try clear c39
   try clear c43
   try clear c44
   try clear c45
   try clear c46
   try clear c48
   try clear c49
   try clear c52
   try clear c53
   try clear c54
   try clear c56
   try clear c57
   try clear hcz14_0
   try clear hcz14_1
   try clear hcz16_0
   try clear hcz16_1
   try clear hcz24_0
   try clear hcz24_1
   try clear hcz26_0
   try clear hcz26_1
   try clear hcz32_0
   try clear hcz32_1
   try clear hcz40_0
   try clear hcz40_1
   try clear hcz47_0
   try clear hcz47_1
   try clear hcz50_0
   try clear hcz50_1
   try clear hcz55_0
   try clear hcz55_1
   try clear hcz58_0
   try clear hcz58_1
   try clear hcz6_0
   try clear hcz6_1
   try clear hfz14_0
   try clear hfz14_1
   try clear hfz16_0
   try clear hfz16_1
   try clear hfz24_0
   try clear hfz24_1
   try clear hfz26_0
   try clear hfz26_1
   try clear hfz32_0
   try clear hfz32_1
   try clear hfz40_0
   try clear hfz40_1
   try clear hfz47_0
   try clear hfz47_1
   try clear hfz50_0
   try clear hfz50_1
   try clear hfz55_0
   try clear hfz55_1
   try clear hfz58_0
   try clear hfz58_1
   try clear hfz6_0
   try clear hfz6_1
   obtain ⟨kq, x44_11, rfl, HA, HJ11, HO_467000, HO_467001, HO_474000, HO_474001, HO_482000, HO_482001, BK451, BK466, BK473, BK481, HB⟩ := hcut
   cases kq with
   | zero => exact absurd HA.out (by simp [laws_FnExactLandOne.j0])
   | succ kj11 =>
    have H := HA.out
    clear HA
    simp only [laws_FnExactLandOne.j0] at H
    by_cases c60 : x44_11 = true
    ·subst c60
     have H1 : (some false) = some r := by rw [if_pos rfl] at H; exact H
     clear H
     have H := H1
     clear H1
     obtain rfl := Option.some.inj H
     go_wp2
     go_ret
     exact ⟨by first | rfl | (simp [errW_none, errW_some] <;> rfl) | (simp [*, errW_none, errW_some] <;> rfl), by repeat (first | (with_reducible first | exact HB.out | apply below_alloc | apply pw_below_drewN | apply below_drew1 | refine below_set ?_ GE451.out | refine below_set ?_ GE466.out | refine below_set ?_ GE473.out | refine below_set ?_ GE481.out) | exact HB.out)⟩
    ·replace c60 := Bool.eq_false_iff.mpr c60
     subst c60
     have H1 : ((laws_toDisk.f kj11 l0_0 l0_1).bind fun bt483 => ((laws_eqDisk.f kj11 t467 t470 bt483.1 bt483.2).bind fun t489 => (if t489 = true then ((laws_markDisk.f kj11 t467 t470 1).bind fun bt490 => (if bt490.1 < 0 then (laws_FnExactLandOne.j1 kj11 a1 t465 true l0_0 l0_1 t459 t462 t474 t477) else ((laws_eqDisk.f kj11 t474 t477 t459 t462).bind fun t493 => (if t493 = true then (laws_FnExactLandOne.j1 kj11 a1 t465 (t480 != t465) l0_0 l0_1 t459 t462 t474 t477) else (laws_FnExactLandOne.j1 kj11 a1 t465 true l0_0 l0_1 t459 t462 t474 t477))))) else (some false)))) = some r := by rw [if_neg (show ¬ (false = true) by decide)] at H; exact H
     clear H
     have H := H1
     clear H1
     replace H := Option.bind_eq_some_iff.mp H
     obtain ⟨⟨t483, t486⟩, A610, H⟩ := H
     replace H : ((laws_eqDisk.f kj11 t467 t470 t483 t486).bind fun t489 => (if t489 = true then ((laws_markDisk.f kj11 t467 t470 1).bind fun bt490 => (if bt490.1 < 0 then (laws_FnExactLandOne.j1 kj11 a1 t465 true l0_0 l0_1 t459 t462 t474 t477) else ((laws_eqDisk.f kj11 t474 t477 t459 t462).bind fun t493 => (if t493 = true then (laws_FnExactLandOne.j1 kj11 a1 t465 (t480 != t465) l0_0 l0_1 t459 t462 t474 t477) else (laws_FnExactLandOne.j1 kj11 a1 t465 true l0_0 l0_1 t459 t462 t474 t477))))) else (some false))) = some r := H
     have A61 := Aside0.mk A610
     clear A610
     replace H := Option.bind_eq_some_iff.mp H
     obtain ⟨t489, A620, H⟩ := H
     replace H : (if t489 = true then ((laws_markDisk.f kj11 t467 t470 1).bind fun bt490 => (if bt490.1 < 0 then (laws_FnExactLandOne.j1 kj11 a1 t465 true l0_0 l0_1 t459 t462 t474 t477) else ((laws_eqDisk.f kj11 t474 t477 t459 t462).bind fun t493 => (if t493 = true then (laws_FnExactLandOne.j1 kj11 a1 t465 (t480 != t465) l0_0 l0_1 t459 t462 t474 t477) else (laws_FnExactLandOne.j1 kj11 a1 t465 true l0_0 l0_1 t459 t462 t474 t477))))) else (some false)) = some r := H
     have A62 := Aside0.mk A620
     clear A620
     by_cases c63 : t489 = true
     ·subst c63
      have H1 : ((laws_markDisk.f kj11 t467 t470 1).bind fun bt490 => (if bt490.1 < 0 then (laws_FnExactLandOne.j1 kj11 a1 t465 true l0_0 l0_1 t459 t462 t474 t477) else ((laws_eqDisk.f kj11 t474 t477 t459 t462).bind fun t493 => (if t493 = true then (laws_FnExactLandOne.j1 kj11 a1 t465 (t480 != t465) l0_0 l0_1 t459 t462 t474 t477) else (laws_FnExactLandOne.j1 kj11 a1 t465 true l0_0 l0_1 t459 t462 t474 t477))))) = some r := by rw [if_pos rfl] at H; exact H
      clear H
      have H := H1
      clear H1
      replace H := Option.bind_eq_some_iff.mp H
      obtain ⟨⟨t490, t491, t492⟩, A640, H⟩ := H
      replace H : (if t490 < 0 then (laws_FnExactLandOne.j1 kj11 a1 t465 true l0_0 l0_1 t459 t462 t474 t477) else ((laws_eqDisk.f kj11 t474 t477 t459 t462).bind fun t493 => (if t493 = true then (laws_FnExactLandOne.j1 kj11 a1 t465 (t480 != t465) l0_0 l0_1 t459 t462 t474 t477) else (laws_FnExactLandOne.j1 kj11 a1 t465 true l0_0 l0_1 t459 t462 t474 t477)))) = some r := H
      have A64 := Aside0.mk A640
      clear A640
      have HC65 := Aside0.mk H
      clear H
      try go_wp2
      have n0_ := Aside0.mk (Kd.R_drew HO_467000.out)
      have n1_ := Aside0.mk (Kd.R_drew HO_467001.out)
      have n2_ := Aside0.mk (Kd.R_drew HO_474000.out)
      have n3_ := Aside0.mk (Kd.R_drew HO_474001.out)
      have n4_ := Aside0.mk (Kd.R_drew HO_482000.out)
      have n5_ := Aside0.mk (Kd.R_drew HO_482001.out)
      have n6_ := Aside0.mk (blk_drew BK451.out)
      have n7_ := Aside0.mk (blk_drew BK466.out)
      have n8_ := Aside0.mk (blk_drew BK473.out)
      have n9_ := Aside0.mk (blk_drew BK481.out)
      have n10_ := Aside0.mk (below_drew1 HB.out)
      clear HO_467000
      clear HO_467001
      clear HO_474000
      clear HO_474001
      clear HO_482000
      clear HO_482001
      clear BK451
      clear BK466
      clear BK473
      clear BK481
      clear HB
      have HO_467000 := n0_
      have HO_467001 := n1_
      have HO_474000 := n2_
      have HO_474001 := n3_
      have HO_482000 := n4_
      have HO_482001 := n5_
      have BK451 := n6_
      have BK466 := n7_
      have BK473 := n8_
      have BK481 := n9_
      have HB := n10_
      clear n0_ n1_ n2_ n3_ n4_ n5_ n6_ n7_ n8_ n9_ n10_
      refine start_ (n := 5) (S := fun w' => w'.cell? ⟨gb473, 0, none⟩ = some (.slice Ao29 t467.length co29) ∧ w'.cell? ⟨gb473, 1, none⟩ = some (.slice Ao33 t470.length co33) ∧ w'.cell? ⟨gb451, 0, none⟩ = some (.slice A0_0 l0_0.length c0_0) ∧ w'.cell? ⟨gb451, 1, none⟩ = some (.slice A0_1 l0_1.length c0_1)) (ds := []) #[false, false, false, false, false] (by kernel_rfl) rfl rfl ⟨(blk_cell BK473.out 0).trans rfl, (blk_cell BK473.out 1).trans rfl, (blk_cell BK451.out 0).trans rfl, (blk_cell BK451.out 1).trans rfl⟩ (fun hHeld => ?_)
      generalize wc.drew = w66 at HO_467000 HO_467001 HO_474000 HO_474001 HO_482000 HO_482001 BK451 BK466 BK473 BK481 HB hHeld ⊢
      refine take_ (i := 0) (N := some 45) (v := ?_) (a' := ?_) #[true, false, false, false, false] rfl rfl (by kernel_rfl) (fun _ _ _ h => h) (Or.inl ⟨by rfl, ?_⟩) hHeld ?_ ?_
      rotate_left
      ·rintro w' ⟨s0, s1, s2, s3⟩
       go_simp
       with_reducible rfl
      rotate_left
      ·simp only [Act.put, List.setIfInBounds_toArray, List.set_cons_zero, List.set_cons_succ, i64_w, i32_w]
       rfl
      refine take_ (i := 1) (N := some 46) (v := ?_) (a' := ?_) #[true, true, false, false, false] rfl rfl (by kernel_rfl) (fun _ _ _ h => h) (Or.inl ⟨by rfl, ?_⟩) hHeld ?_ ?_
      rotate_left
      ·rintro w' ⟨s0, s1, s2, s3⟩
       go_simp
       with_reducible rfl
      rotate_left
      ·simp only [Act.put, List.setIfInBounds_toArray, List.set_cons_zero, List.set_cons_succ, i64_w, i32_w]
       rfl
      refine one_ (i := 2) (N := some 47) #[true, true, true, false, false] rfl rfl (by kernel_rfl) (by decide) (fun K hK => ?_)
      refine goes_ Try.func11 (by kernel_rfl) rfl #[.agg #[.slice A0_0 l0_0.length c0_0, .slice A0_1 l0_1.length c0_1]] (by rfl) rfl rfl (by (try simp only [List.map_toArray, List.map_cons, List.map_nil]); first | done | rfl | (simp only [List.length_drop, List.length_take]; rfl)) ?_
      with_reducible refine (laws_toDisk.calls kj11 _ _ l0_0 _ _ l0_1 t483 t486 _ ?side1 ?side2 ?side3 ?side4 A61.out).mono ?_
      (case side1 => repeat (first | exact (Kd.C_below HR0_0.out HB.out) | (with_reducible refine Kd.C_alloc ?_ _) | (with_reducible refine Kd.C_drewN ?_ _) | (with_reducible refine Kd.C_drew ?_)))
      (case side2 => exact HC0_0.out)
      (case side3 => repeat (first | exact (Kd.C_below HR0_1.out HB.out) | (with_reducible refine Kd.C_alloc ?_ _) | (with_reducible refine Kd.C_drewN ?_ _) | (with_reducible refine Kd.C_drew ?_)))
      (case side4 => exact HC0_1.out)
      rintro e w67 ⟨v484, v487, rfl, ho0, ho1, hb⟩
      refine ⟨_, rfl, ?_⟩
      have n0_ := Aside0.mk (Kd.R_elder' (by (with_reducible repeat (first | apply Kd.R_alloc | apply Kd.R_drewN | apply Kd.R_drew)); exact HO_467000.out) (Kd.R_base ho0) hb)
      have n1_ := Aside0.mk (Kd.R_elder' (by (with_reducible repeat (first | apply Kd.R_alloc | apply Kd.R_drewN | apply Kd.R_drew)); exact HO_467001.out) (Kd.R_base ho1) hb)
      have n2_ := Aside0.mk (Kd.R_elder' (by (with_reducible repeat (first | apply Kd.R_alloc | apply Kd.R_drewN | apply Kd.R_drew)); exact HO_474000.out) (Kd.R_base ho0) hb)
      have n3_ := Aside0.mk (Kd.R_elder' (by (with_reducible repeat (first | apply Kd.R_alloc | apply Kd.R_drewN | apply Kd.R_drew)); exact HO_474001.out) (Kd.R_base ho1) hb)
      have n4_ := Aside0.mk (Kd.R_elder' (by (with_reducible repeat (first | apply Kd.R_alloc | apply Kd.R_drewN | apply Kd.R_drew)); exact HO_482000.out) (Kd.R_base ho0) hb)
      have n5_ := Aside0.mk (Kd.R_elder' (by (with_reducible repeat (first | apply Kd.R_alloc | apply Kd.R_drewN | apply Kd.R_drew)); exact HO_482001.out) (Kd.R_base ho1) hb)
      have n6_ := Aside0.mk (Kd.R_lower (Kd.R_new' (Kd.R_new' (Kd.R_new' ho0 (Kd.R_lt (by (with_reducible repeat (first | apply Kd.R_alloc | apply Kd.R_drewN | apply Kd.R_drew)); exact HO_467000.out))) (Kd.R_lt (by (with_reducible repeat (first | apply Kd.R_alloc | apply Kd.R_drewN | apply Kd.R_drew)); exact HO_474000.out))) (Kd.R_lt (by (with_reducible repeat (first | apply Kd.R_alloc | apply Kd.R_drewN | apply Kd.R_drew)); exact HO_482000.out))) (below_size (by repeat (first | (with_reducible first | exact HB.out | apply below_alloc | apply pw_below_drewN | apply below_drew1 | refine below_set ?_ GE451.out | refine below_set ?_ GE466.out | refine below_set ?_ GE473.out | refine below_set ?_ GE481.out) | exact HB.out))))
      have n7_ := Aside0.mk (Kd.R_lower (Kd.R_new' (Kd.R_new' (Kd.R_new' ho1 (Kd.R_lt (by (with_reducible repeat (first | apply Kd.R_alloc | apply Kd.R_drewN | apply Kd.R_drew)); exact HO_467001.out))) (Kd.R_lt (by (with_reducible repeat (first | apply Kd.R_alloc | apply Kd.R_drewN | apply Kd.R_drew)); exact HO_474001.out))) (Kd.R_lt (by (with_reducible repeat (first | apply Kd.R_alloc | apply Kd.R_drewN | apply Kd.R_drew)); exact HO_482001.out))) (below_size (by repeat (first | (with_reducible first | exact HB.out | apply below_alloc | apply pw_below_drewN | apply below_drew1 | refine below_set ?_ GE451.out | refine below_set ?_ GE466.out | refine below_set ?_ GE473.out | refine below_set ?_ GE481.out) | exact HB.out))))
      have n8_ := Aside0.mk (blk_below (g := gb451) (o := .cells #[.slice A0_0 l0_0.length c0_0, .slice A0_1 l0_1.length c0_1] 25 (0, 0)) (by (with_reducible repeat (first | refine blk_drewN ?_ _ | refine blk_drew ?_ | refine blk_alloc ?_ _)); exact BK451.out) hb)
      have n9_ := Aside0.mk (blk_below (g := gb466) (o := .cells #[.slice Ao22 t459.length co22, .slice Ao25 t462.length co25] 29 (0, 0)) (by (with_reducible repeat (first | refine blk_drewN ?_ _ | refine blk_drew ?_ | refine blk_alloc ?_ _)); exact BK466.out) hb)
      have n10_ := Aside0.mk (blk_below (g := gb473) (o := .cells #[.slice Ao29 t467.length co29, .slice Ao33 t470.length co33] 29 (0, 0)) (by (with_reducible repeat (first | refine blk_drewN ?_ _ | refine blk_drew ?_ | refine blk_alloc ?_ _)); exact BK473.out) hb)
      have n11_ := Aside0.mk (blk_below (g := gb481) (o := .cells #[.slice Ao36 t474.length co36, .slice Ao41 t477.length co41] 29 (0, 0)) (by (with_reducible repeat (first | refine blk_drewN ?_ _ | refine blk_drew ?_ | refine blk_alloc ?_ _)); exact BK481.out) hb)
      have n12_ := Aside0.mk (below_step (by repeat (first | (with_reducible first | exact HB.out | apply below_alloc | apply pw_below_drewN | apply below_drew1 | refine below_set ?_ GE451.out | refine below_set ?_ GE466.out | refine below_set ?_ GE473.out | refine below_set ?_ GE481.out) | exact HB.out)) hb)
      clear HO_467000
      clear HO_467001
      clear HO_474000
      clear HO_474001
      clear HO_482000
      clear HO_482001
      clear BK451
      clear BK466
      clear BK473
      clear BK481
      clear HB
      have HO_467000 := n0_
      have HO_467001 := n1_
      have HO_474000 := n2_
      have HO_474001 := n3_
      have HO_482000 := n4_
      have HO_482001 := n5_
      have HO485 := n6_
      have HO488 := n7_
      have BK451 := n8_
      have BK466 := n9_
      have BK473 := n10_
      have BK481 := n11_
      have HB := n12_
      clear n0_ n1_ n2_ n3_ n4_ n5_ n6_ n7_ n8_ n9_ n10_ n11_ n12_
      (try clear hb)
      (try clear hb2)
      (try clear hk)
      (try clear hi)
      (try clear ho0)
      (try clear ho1)
      obtain ⟨Ao68, co68, eo68⟩ := Kd.R_slice HO485.out
      (first | subst eo68 | (injection eo68 with f1_ f2_ f3_; have f4_ := f1_.symm; have f5_ := f3_.symm; clear f1_ f2_ f3_; subst f4_; subst f5_))
      obtain ⟨Ao69, co69, eo69⟩ := Kd.R_slice HO488.out
      (first | subst eo69 | (injection eo69 with f1_ f2_ f3_; have f4_ := f1_.symm; have f5_ := f3_.symm; clear f1_ f2_ f3_; subst f4_; subst f5_))
      refine hK.out _ _ ⟨(blk_cell BK473.out 0).trans rfl, (blk_cell BK473.out 1).trans rfl, (blk_cell BK451.out 0).trans rfl, (blk_cell BK451.out 1).trans rfl⟩ (fun hHeld => ?_)
      clear hK K
      refine norm_ (a' := ?_) ?_ ?_
      rotate_left
      ·show Act.put _ (some 47) _ = _
       simp only [Act.put, List.setIfInBounds_toArray, List.set_cons_zero, List.set_cons_succ, i64_w, i32_w]
       rfl
      refine one_ (i := 3) (N := some 48) #[true, true, true, true, false] rfl rfl (by kernel_rfl) (by decide) (fun K hK => ?_)
      refine goes_ Try.func13 (by kernel_rfl) rfl #[.agg #[.slice Ao29 t467.length co29, .slice Ao33 t470.length co33], .agg #[.slice Ao68 t483.length co68, .slice Ao69 t486.length co69]] (by rfl) rfl rfl (by (try simp only [List.map_toArray, List.map_cons, List.map_nil]); first | done | rfl | (simp only [List.length_drop, List.length_take]; rfl)) ?_
      with_reducible refine (laws_eqDisk.calls kj11 _ _ t467 _ _ t470 _ _ t483 _ _ t486 true _ ?side1 ?side2 ?side3 ?side4 ?side5 ?side6 ?side7 ?side8 A62.out).mono ?_
      (case side1 => repeat (first | exact (Kd.R_reads' HO_474000.out).2.2 | (with_reducible refine Kd.C_alloc ?_ _) | (with_reducible refine Kd.C_drewN ?_ _) | (with_reducible refine Kd.C_drew ?_)))
      (case side2 => exact (Kd.R_reads' HO_474000.out).2.1)
      (case side3 => repeat (first | exact (Kd.R_reads' HO_474001.out).2.2 | (with_reducible refine Kd.C_alloc ?_ _) | (with_reducible refine Kd.C_drewN ?_ _) | (with_reducible refine Kd.C_drew ?_)))
      (case side4 => exact (Kd.R_reads' HO_474001.out).2.1)
      (case side5 => repeat (first | exact (Kd.R_reads' HO485.out).2.2 | (with_reducible refine Kd.C_alloc ?_ _) | (with_reducible refine Kd.C_drewN ?_ _) | (with_reducible refine Kd.C_drew ?_)))
      (case side6 => exact (Kd.R_reads' HO485.out).2.1)
      (case side7 => repeat (first | exact (Kd.R_reads' HO488.out).2.2 | (with_reducible refine Kd.C_alloc ?_ _) | (with_reducible refine Kd.C_drewN ?_ _) | (with_reducible refine Kd.C_drew ?_)))
      (case side8 => exact (Kd.R_reads' HO488.out).2.1)
      rintro e w70 ⟨rfl, hb⟩
      refine ⟨_, rfl, ?_⟩
      have n0_ := Aside0.mk (Kd.R_below (by (with_reducible repeat (first | apply Kd.R_alloc | apply Kd.R_drewN | apply Kd.R_drew)); exact HO_467000.out) hb)
      have n1_ := Aside0.mk (Kd.R_below (by (with_reducible repeat (first | apply Kd.R_alloc | apply Kd.R_drewN | apply Kd.R_drew)); exact HO_467001.out) hb)
      have n2_ := Aside0.mk (Kd.R_below (by (with_reducible repeat (first | apply Kd.R_alloc | apply Kd.R_drewN | apply Kd.R_drew)); exact HO_474000.out) hb)
      have n3_ := Aside0.mk (Kd.R_below (by (with_reducible repeat (first | apply Kd.R_alloc | apply Kd.R_drewN | apply Kd.R_drew)); exact HO_474001.out) hb)
      have n4_ := Aside0.mk (Kd.R_below (by (with_reducible repeat (first | apply Kd.R_alloc | apply Kd.R_drewN | apply Kd.R_drew)); exact HO_482000.out) hb)
      have n5_ := Aside0.mk (Kd.R_below (by (with_reducible repeat (first | apply Kd.R_alloc | apply Kd.R_drewN | apply Kd.R_drew)); exact HO_482001.out) hb)
      have n6_ := Aside0.mk (Kd.R_below (by (with_reducible repeat (first | apply Kd.R_alloc | apply Kd.R_drewN | apply Kd.R_drew)); exact HO485.out) hb)
      have n7_ := Aside0.mk (Kd.R_below (by (with_reducible repeat (first | apply Kd.R_alloc | apply Kd.R_drewN | apply Kd.R_drew)); exact HO488.out) hb)
      have n8_ := Aside0.mk (blk_below (g := gb451) (o := .cells #[.slice A0_0 l0_0.length c0_0, .slice A0_1 l0_1.length c0_1] 25 (0, 0)) (by (with_reducible repeat (first | refine blk_drewN ?_ _ | refine blk_drew ?_ | refine blk_alloc ?_ _)); exact BK451.out) hb)
      have n9_ := Aside0.mk (blk_below (g := gb466) (o := .cells #[.slice Ao22 t459.length co22, .slice Ao25 t462.length co25] 29 (0, 0)) (by (with_reducible repeat (first | refine blk_drewN ?_ _ | refine blk_drew ?_ | refine blk_alloc ?_ _)); exact BK466.out) hb)
      have n10_ := Aside0.mk (blk_below (g := gb473) (o := .cells #[.slice Ao29 t467.length co29, .slice Ao33 t470.length co33] 29 (0, 0)) (by (with_reducible repeat (first | refine blk_drewN ?_ _ | refine blk_drew ?_ | refine blk_alloc ?_ _)); exact BK473.out) hb)
      have n11_ := Aside0.mk (blk_below (g := gb481) (o := .cells #[.slice Ao36 t474.length co36, .slice Ao41 t477.length co41] 29 (0, 0)) (by (with_reducible repeat (first | refine blk_drewN ?_ _ | refine blk_drew ?_ | refine blk_alloc ?_ _)); exact BK481.out) hb)
      have n12_ := Aside0.mk (below_step (by repeat (first | (with_reducible first | exact HB.out | apply below_alloc | apply pw_below_drewN | apply below_drew1 | refine below_set ?_ GE451.out | refine below_set ?_ GE466.out | refine below_set ?_ GE473.out | refine below_set ?_ GE481.out) | exact HB.out)) hb)
      clear HO_467000
      clear HO_467001
      clear HO_474000
      clear HO_474001
      clear HO_482000
      clear HO_482001
      clear HO485
      clear HO488
      clear BK451
      clear BK466
      clear BK473
      clear BK481
      clear HB
      have HO_467000 := n0_
      have HO_467001 := n1_
      have HO_474000 := n2_
      have HO_474001 := n3_
      have HO_482000 := n4_
      have HO_482001 := n5_
      have HO485 := n6_
      have HO488 := n7_
      have BK451 := n8_
      have BK466 := n9_
      have BK473 := n10_
      have BK481 := n11_
      have HB := n12_
      clear n0_ n1_ n2_ n3_ n4_ n5_ n6_ n7_ n8_ n9_ n10_ n11_ n12_
      (try clear hb)
      (try clear hb2)
      (try clear hk)
      (try clear hi)
      refine hK.out _ _ ⟨(blk_cell BK473.out 0).trans rfl, (blk_cell BK473.out 1).trans rfl, (blk_cell BK451.out 0).trans rfl, (blk_cell BK451.out 1).trans rfl⟩ (fun hHeld => ?_)
      clear hK K
      refine norm_ (a' := ?_) ?_ ?_
      rotate_left
      ·show Act.put _ (some 48) _ = _
       simp only [Act.put, List.setIfInBounds_toArray, List.set_cons_zero, List.set_cons_succ, i64_w, i32_w]
       rfl
      refine pure_ (i := 4) (N := some 49) (v := ?_) (a' := ?_) #[true, true, true, true, true] rfl rfl (by kernel_rfl) (fun _ _ _ h => h) (Or.inl ⟨by rfl, ?_⟩) ?_ ?_
      rotate_left
      ·intro w'
       go_simp
       with_reducible rfl
      rotate_left
      ·simp only [Act.put, List.setIfInBounds_toArray, List.set_cons_zero, List.set_cons_succ, i64_w, i32_w]
       rfl
      refine done_ (by kernel_rfl) ?_
      have hnb71 := NB473_451.out
      have hnc71 := NB451_473.out
      have hnb72 := NB473_466.out
      have hnc72 := NB466_473.out
      have hnb73 := NB473_481.out
      have hnc73 := NB481_473.out
      have hcz74_0 : w70.cell? ⟨gb473, 0, none⟩ = some (.slice Ao29 t467.length co29) := (blk_cell BK473.out 0).trans rfl
      have hcz74_1 : w70.cell? ⟨gb473, 1, none⟩ = some (.slice Ao33 t470.length co33) := (blk_cell BK473.out 1).trans rfl
      have hfz74_0 := blk_frozen BK473.out 0
      have hfz74_1 := blk_frozen BK473.out 1
      go_upto_region 14 with (first | ((with_reducible refine gate_callee (f := 14) rfl ?_); refine goesL_ (some 52) rfl rfl Try.func14 (by kernel_rfl) rfl #[.agg #[.slice Ao29 t467.length co29, .slice Ao33 t470.length co33], .int .i64 1] rfl (by (try simp only [List.map_toArray, List.map_cons, List.map_nil]); first | done | rfl | (simp only [List.length_drop, List.length_take]; rfl)) ?_; (with_reducible refine (laws_markDisk.calls kj11 (fun k_ => some k_ = (.slice Ao29 t467.length co29 : Value).ownBlock) (.slice Ao29 t467.length co29) t467 (fun k_ => some k_ = (.slice Ao33 t470.length co33 : Value).ownBlock) (.slice Ao33 t470.length co33) t470 1 t490 t491 t492 w _ ?side1 ?side2 ?side3 A64.out).mono ?_); (case side1 => repeat (first | (with_reducible first | exact HB.out | apply below_alloc | apply pw_below_drewN | apply below_drew1 | refine below_set ?_ GE451.out | refine below_set ?_ GE466.out | refine below_set ?_ GE473.out | refine below_set ?_ GE481.out) | exact HB.out)); (case side2 => exact Kd.R_tight rfl HO_474000.out); (case side3 => exact Kd.R_tight rfl HO_474001.out); rintro e w75 ⟨rfl, hy0, hy1, hb, hkp⟩; refine ⟨_, rfl, ?_⟩; have n0_ := Aside0.mk (Kd.R_mono (ok' := fun k_ => some k_ ≠ (.slice Ao29 t467.length co29 : Value).ownBlock ∧ some k_ ≠ (.slice Ao36 t474.length co36 : Value).ownBlock ∧ some k_ ≠ (.slice Ao68 t483.length co68 : Value).ownBlock) (Kd.R_keptB ((Kd.R_apart' HO_467000.out (Kd.R_typed HO_474001.out) (by decide))) hkp (fun k_ hk_ hs_ => Or.elim hs_ (fun e_ => (hk_.1.1.1) e_) (fun e_ => (hk_.2) e_))) (fun k_ hk_ => ⟨hk_.1.1.1.1, hk_.1.1.1.2, hk_.1.1.2⟩)); have n1_ := Aside0.mk (Kd.R_mono (ok' := fun k_ => some k_ ≠ (.slice Ao33 t470.length co33 : Value).ownBlock ∧ some k_ ≠ (.slice Ao41 t477.length co41 : Value).ownBlock ∧ some k_ ≠ (.slice Ao69 t486.length co69 : Value).ownBlock) (Kd.R_keptB ((Kd.R_apart' HO_467001.out (Kd.R_typed HO_474000.out) (by decide))) hkp (fun k_ hk_ hs_ => Or.elim hs_ (fun e_ => (hk_.2) e_) (fun e_ => (hk_.1.1.1) e_))) (fun k_ hk_ => ⟨hk_.1.1.1.1, hk_.1.1.1.2, hk_.1.1.2⟩)); have n2_ := Aside0.mk (Kd.R_reok rfl hy0 (fun k_ e_ => HO_474000.out.1 k_ e_)); have n3_ := Aside0.mk (Kd.R_reok rfl hy1 (fun k_ e_ => HO_474001.out.1 k_ e_)); have n4_ := Aside0.mk (Kd.R_mono (ok' := fun k_ => some k_ ≠ (.slice Ao22 t459.length co22 : Value).ownBlock ∧ some k_ ≠ (.slice Ao29 t467.length co29 : Value).ownBlock ∧ some k_ ≠ (.slice Ao68 t483.length co68 : Value).ownBlock) (Kd.R_keptB ((Kd.R_apart' HO_482000.out (Kd.R_typed HO_474001.out) (by decide))) hkp (fun k_ hk_ hs_ => Or.elim hs_ (fun e_ => (hk_.1.1.2) e_) (fun e_ => (hk_.2) e_))) (fun k_ hk_ => ⟨hk_.1.1.1.1, hk_.1.1.1.2, hk_.1.1.2⟩)); have n5_ := Aside0.mk (Kd.R_mono (ok' := fun k_ => some k_ ≠ (.slice Ao25 t462.length co25 : Value).ownBlock ∧ some k_ ≠ (.slice Ao33 t470.length co33 : Value).ownBlock ∧ some k_ ≠ (.slice Ao69 t486.length co69 : Value).ownBlock) (Kd.R_keptB ((Kd.R_apart' HO_482001.out (Kd.R_typed HO_474000.out) (by decide))) hkp (fun k_ hk_ hs_ => Or.elim hs_ (fun e_ => (hk_.2) e_) (fun e_ => (hk_.1.1.2) e_))) (fun k_ hk_ => ⟨hk_.1.1.1.1, hk_.1.1.1.2, hk_.1.1.2⟩)); have n6_ := Aside0.mk (blk_kept (by (with_reducible repeat (first | refine blk_drewN ?_ _ | refine blk_drew ?_ | refine blk_alloc ?_ _)); exact BK451.out) hkp (fun hs_ => Or.elim hs_ (fun e_ => (fun e_ => (Kd.R_ne HO_474000.out BK451.out (by decide)) e_) e_) (fun e_ => (fun e_ => (Kd.R_ne HO_474001.out BK451.out (by decide)) e_) e_))); have n7_ := Aside0.mk (blk_kept (by (with_reducible repeat (first | refine blk_drewN ?_ _ | refine blk_drew ?_ | refine blk_alloc ?_ _)); exact BK466.out) hkp (fun hs_ => Or.elim hs_ (fun e_ => (fun e_ => (Kd.R_ne HO_474000.out BK466.out (by decide)) e_) e_) (fun e_ => (fun e_ => (Kd.R_ne HO_474001.out BK466.out (by decide)) e_) e_))); have n8_ := Aside0.mk (blk_kept (by (with_reducible repeat (first | refine blk_drewN ?_ _ | refine blk_drew ?_ | refine blk_alloc ?_ _)); exact BK473.out) hkp (fun hs_ => Or.elim hs_ (fun e_ => (fun e_ => (Kd.R_ne HO_474000.out BK473.out (by decide)) e_) e_) (fun e_ => (fun e_ => (Kd.R_ne HO_474001.out BK473.out (by decide)) e_) e_))); have n9_ := Aside0.mk (blk_kept (by (with_reducible repeat (first | refine blk_drewN ?_ _ | refine blk_drew ?_ | refine blk_alloc ?_ _)); exact BK481.out) hkp (fun hs_ => Or.elim hs_ (fun e_ => (fun e_ => (Kd.R_ne HO_474000.out BK481.out (by decide)) e_) e_) (fun e_ => (fun e_ => (Kd.R_ne HO_474001.out BK481.out (by decide)) e_) e_))); have n10_ := Aside0.mk (Kd.R_mono (ok' := fun k_ => some k_ ≠ (.slice Ao22 t459.length co22 : Value).ownBlock ∧ some k_ ≠ (.slice Ao29 t467.length co29 : Value).ownBlock ∧ some k_ ≠ (.slice Ao36 t474.length co36 : Value).ownBlock) (Kd.R_keptB ((Kd.R_apart' HO485.out (Kd.R_typed HO_474001.out) (by decide))) hkp (fun k_ hk_ hs_ => Or.elim hs_ (fun e_ => (hk_.1.1.2) e_) (fun e_ => (hk_.2) e_))) (fun k_ hk_ => ⟨hk_.1.1.1.1.2, hk_.1.1.1.2, hk_.1.1.2⟩)); have n11_ := Aside0.mk (Kd.R_mono (ok' := fun k_ => some k_ ≠ (.slice Ao25 t462.length co25 : Value).ownBlock ∧ some k_ ≠ (.slice Ao33 t470.length co33 : Value).ownBlock ∧ some k_ ≠ (.slice Ao41 t477.length co41 : Value).ownBlock) (Kd.R_keptB ((Kd.R_apart' HO488.out (Kd.R_typed HO_474000.out) (by decide))) hkp (fun k_ hk_ hs_ => Or.elim hs_ (fun e_ => (hk_.2) e_) (fun e_ => (hk_.1.1.2) e_))) (fun k_ hk_ => ⟨hk_.1.1.1.1.2, hk_.1.1.1.2, hk_.1.1.2⟩)); have n12_ := Aside0.mk (hb); clear HO_467000; clear HO_467001; clear HO_474000; clear HO_474001; clear HO_482000; clear HO_482001; clear BK451; clear BK466; clear BK473; clear BK481; clear HO485; clear HO488; clear HB; have HO_467000 := n0_; have HO_467001 := n1_; have HO_474000 := n2_; have HO_474001 := n3_; have HO_482000 := n4_; have HO_482001 := n5_; have BK451 := n6_; have BK466 := n7_; have BK473 := n8_; have BK481 := n9_; have HO485 := n10_; have HO488 := n11_; have HB := n12_; clear n0_ n1_ n2_ n3_ n4_ n5_ n6_ n7_ n8_ n9_ n10_ n11_ n12_; (try clear hb); (try clear hkp); (try clear hy0); (try clear hy1)))
      (try simp only [Act.put, List.setIfInBounds_toArray, List.set_cons_zero, List.set_cons_succ])
      go_cut [65] (fun v65 wc => ∃ (kq : Nat) (x65_64 : Bool), v65 = .bool x65_64 ∧ Aside0 (laws_FnExactLandOne.j1 kq a1 t465 x65_64 l0_0 l0_1 t459 t462 t474 t477 = some r) ∧ Aside0 (kq ≤ kj11) ∧ Aside0 (Kd.R Kd.string 9 wc w.heap.size (fun k_ => some k_ ≠ ((.slice Ao29 t467.length co29) : Value).ownBlock ∧ some k_ ≠ ((.slice Ao36 t474.length co36) : Value).ownBlock) (.slice Ao22 t459.length co22) t459) ∧ Aside0 (Kd.R k76 76 wc w.heap.size (fun k_ => some k_ ≠ ((.slice Ao33 t470.length co33) : Value).ownBlock ∧ some k_ ≠ ((.slice Ao41 t477.length co41) : Value).ownBlock) (.slice Ao25 t462.length co25) t462) ∧ Aside0 (Kd.R Kd.string 9 wc w.heap.size (fun k_ => some k_ ≠ ((.slice Ao22 t459.length co22) : Value).ownBlock ∧ some k_ ≠ ((.slice Ao36 t474.length co36) : Value).ownBlock) (.slice Ao29 t467.length co29) t491) ∧ Aside0 (Kd.R k76 76 wc w.heap.size (fun k_ => some k_ ≠ ((.slice Ao25 t462.length co25) : Value).ownBlock ∧ some k_ ≠ ((.slice Ao41 t477.length co41) : Value).ownBlock) (.slice Ao33 t470.length co33) t492) ∧ Aside0 (Kd.R Kd.string 9 wc w.heap.size (fun k_ => some k_ ≠ ((.slice Ao22 t459.length co22) : Value).ownBlock ∧ some k_ ≠ ((.slice Ao29 t467.length co29) : Value).ownBlock) (.slice Ao36 t474.length co36) t474) ∧ Aside0 (Kd.R k76 76 wc w.heap.size (fun k_ => some k_ ≠ ((.slice Ao25 t462.length co25) : Value).ownBlock ∧ some k_ ≠ ((.slice Ao33 t470.length co33) : Value).ownBlock) (.slice Ao41 t477.length co41) t477) ∧ Aside0 (wc.heap[gb451]? = some (.cells #[(.slice A0_0 l0_0.length c0_0), (.slice A0_1 l0_1.length c0_1)] 25 (0, 0))) ∧ Aside0 (wc.heap[gb466]? = some (.cells #[(.slice Ao22 t459.length co22), (.slice Ao25 t462.length co25)] 29 (0, 0))) ∧ Aside0 (wc.heap[gb473]? = some (.cells #[(.slice Ao29 t467.length co29), (.slice Ao33 t470.length co33)] 29 (0, 0))) ∧ Aside0 (wc.heap[gb481]? = some (.cells #[(.slice Ao36 t474.length co36), (.slice Ao41 t477.length co41)] 29 (0, 0))) ∧ Aside0 (Below w.heap.size w wc))
      case first =>
       have H := HC65.out
       clear HC65
       by_cases c76 : t490 < 0
       ·rw [if_pos c76] at H
        have c76b0 : decide (t490 < 0) = true := decide_eq_true c76
        clear c76
        (first | rw [c76b0] | (simp only [i64_w, i32_w]; rw [c76b0]) | skip)
        have H' := Aside0.mk H
        clear H
        go_wp2
        go_meet
        case rel => exact ⟨_, (true), (by first | rfl | (simp; done) | (simp [*]; done)), H', ⟨by have := HJ11.out; first | omega | exact Nat.le_refl _⟩, ⟨by (with_reducible repeat (first | apply Kd.R_alloc | apply Kd.R_drewN | apply Kd.R_drew)); exact Kd.R_mono HO_467000.out (fun _ hk => ⟨hk.1, hk.2.1⟩)⟩, ⟨by (with_reducible repeat (first | apply Kd.R_alloc | apply Kd.R_drewN | apply Kd.R_drew)); exact Kd.R_mono HO_467001.out (fun _ hk => ⟨hk.1, hk.2.1⟩)⟩, ⟨by (with_reducible repeat (first | apply Kd.R_alloc | apply Kd.R_drewN | apply Kd.R_drew)); exact Kd.R_mono HO_474000.out (fun _ hk => ⟨hk.1.1, hk.1.2⟩)⟩, ⟨by (with_reducible repeat (first | apply Kd.R_alloc | apply Kd.R_drewN | apply Kd.R_drew)); exact Kd.R_mono HO_474001.out (fun _ hk => ⟨hk.1.1, hk.1.2⟩)⟩, ⟨by (with_reducible repeat (first | apply Kd.R_alloc | apply Kd.R_drewN | apply Kd.R_drew)); exact Kd.R_mono HO_482000.out (fun _ hk => ⟨hk.1, hk.2.1⟩)⟩, ⟨by (with_reducible repeat (first | apply Kd.R_alloc | apply Kd.R_drewN | apply Kd.R_drew)); exact Kd.R_mono HO_482001.out (fun _ hk => ⟨hk.1, hk.2.1⟩)⟩, ⟨by (with_reducible repeat (first | refine blk_drewN ?_ _ | refine blk_drew ?_ | refine blk_alloc ?_ _)); exact BK451.out⟩, ⟨by (with_reducible repeat (first | refine blk_drewN ?_ _ | refine blk_drew ?_ | refine blk_alloc ?_ _)); exact BK466.out⟩, ⟨by (with_reducible repeat (first | refine blk_drewN ?_ _ | refine blk_drew ?_ | refine blk_alloc ?_ _)); exact BK473.out⟩, ⟨by (with_reducible repeat (first | refine blk_drewN ?_ _ | refine blk_drew ?_ | refine blk_alloc ?_ _)); exact BK481.out⟩, ⟨by repeat (first | (with_reducible first | exact HB.out | apply below_alloc | apply pw_below_drewN | apply below_drew1 | refine below_set ?_ GE451.out | refine below_set ?_ GE466.out | refine below_set ?_ GE473.out | refine below_set ?_ GE481.out) | exact HB.out)⟩⟩
       ·rw [if_neg c76] at H
        have c76b0 : decide (t490 < 0) = false := decide_eq_false c76
        clear c76
        (first | rw [c76b0] | (simp only [i64_w, i32_w]; rw [c76b0]) | skip)
        replace H := Option.bind_eq_some_iff.mp H
        obtain ⟨t493, A770, H⟩ := H
        replace H : (if t493 = true then (laws_FnExactLandOne.j1 kj11 a1 t465 (t480 != t465) l0_0 l0_1 t459 t462 t474 t477) else (laws_FnExactLandOne.j1 kj11 a1 t465 true l0_0 l0_1 t459 t462 t474 t477)) = some r := H
        have A77 := Aside0.mk A770
        clear A770
        by_cases c78 : t493 = true
        ·subst c78
         have H1 : (laws_FnExactLandOne.j1 kj11 a1 t465 (t480 != t465) l0_0 l0_1 t459 t462 t474 t477) = some r := by rw [if_pos rfl] at H; exact H
         clear H
         have H := H1
         clear H1
         have H' := Aside0.mk H
         clear H
         have hnb79 := NB481_451.out
         have hnc79 := NB451_481.out
         have hnb80 := NB481_466.out
         have hnc80 := NB466_481.out
         have hnb81 := NB481_473.out
         have hnc81 := NB473_481.out
         have hcz82_0 : w75.cell? ⟨gb481, 0, none⟩ = some (.slice Ao36 t474.length co36) := (blk_cell BK481.out 0).trans rfl
         have hcz82_1 : w75.cell? ⟨gb481, 1, none⟩ = some (.slice Ao41 t477.length co41) := (blk_cell BK481.out 1).trans rfl
         have hfz82_0 := blk_frozen BK481.out 0
         have hfz82_1 := blk_frozen BK481.out 1
         have hnb83 := NB466_451.out
         have hnc83 := NB451_466.out
         have hnb84 := NB466_473.out
         have hnc84 := NB473_466.out
         have hcz85_0 : w75.cell? ⟨gb466, 0, none⟩ = some (.slice Ao22 t459.length co22) := (blk_cell BK466.out 0).trans rfl
         have hcz85_1 : w75.cell? ⟨gb466, 1, none⟩ = some (.slice Ao25 t462.length co25) := (blk_cell BK466.out 1).trans rfl
         have hfz85_0 := blk_frozen BK466.out 0
         have hfz85_1 := blk_frozen BK466.out 1
         go_wp2_with (first | (go_at_call 13; (with_reducible refine (laws_eqDisk.calls kj11 _ _ t474 _ _ t477 _ _ t459 _ _ t462 true _ ?side1 ?side2 ?side3 ?side4 ?side5 ?side6 ?side7 ?side8 A77.out).mono ?_); (case side1 => repeat (first | exact (Kd.R_reads' HO_482000.out).2.2 | (with_reducible refine Kd.C_alloc ?_ _) | (with_reducible refine Kd.C_drewN ?_ _) | (with_reducible refine Kd.C_drew ?_))); (case side2 => exact (Kd.R_reads' HO_482000.out).2.1); (case side3 => repeat (first | exact (Kd.R_reads' HO_482001.out).2.2 | (with_reducible refine Kd.C_alloc ?_ _) | (with_reducible refine Kd.C_drewN ?_ _) | (with_reducible refine Kd.C_drew ?_))); (case side4 => exact (Kd.R_reads' HO_482001.out).2.1); (case side5 => repeat (first | exact (Kd.R_reads' HO_467000.out).2.2 | (with_reducible refine Kd.C_alloc ?_ _) | (with_reducible refine Kd.C_drewN ?_ _) | (with_reducible refine Kd.C_drew ?_))); (case side6 => exact (Kd.R_reads' HO_467000.out).2.1); (case side7 => repeat (first | exact (Kd.R_reads' HO_467001.out).2.2 | (with_reducible refine Kd.C_alloc ?_ _) | (with_reducible refine Kd.C_drewN ?_ _) | (with_reducible refine Kd.C_drew ?_))); (case side8 => exact (Kd.R_reads' HO_467001.out).2.1); rintro e w86 ⟨rfl, hb⟩; have n0_ := Aside0.mk (Kd.R_below (by (with_reducible repeat (first | apply Kd.R_alloc | apply Kd.R_drewN | apply Kd.R_drew)); exact HO_467000.out) hb); have n1_ := Aside0.mk (Kd.R_below (by (with_reducible repeat (first | apply Kd.R_alloc | apply Kd.R_drewN | apply Kd.R_drew)); exact HO_467001.out) hb); have n2_ := Aside0.mk (Kd.R_below (by (with_reducible repeat (first | apply Kd.R_alloc | apply Kd.R_drewN | apply Kd.R_drew)); exact HO_474000.out) hb); have n3_ := Aside0.mk (Kd.R_below (by (with_reducible repeat (first | apply Kd.R_alloc | apply Kd.R_drewN | apply Kd.R_drew)); exact HO_474001.out) hb); have n4_ := Aside0.mk (Kd.R_below (by (with_reducible repeat (first | apply Kd.R_alloc | apply Kd.R_drewN | apply Kd.R_drew)); exact HO_482000.out) hb); have n5_ := Aside0.mk (Kd.R_below (by (with_reducible repeat (first | apply Kd.R_alloc | apply Kd.R_drewN | apply Kd.R_drew)); exact HO_482001.out) hb); have n6_ := Aside0.mk (Kd.R_below (by (with_reducible repeat (first | apply Kd.R_alloc | apply Kd.R_drewN | apply Kd.R_drew)); exact HO485.out) hb); have n7_ := Aside0.mk (Kd.R_below (by (with_reducible repeat (first | apply Kd.R_alloc | apply Kd.R_drewN | apply Kd.R_drew)); exact HO488.out) hb); have n8_ := Aside0.mk (blk_below (g := gb451) (o := .cells #[.slice A0_0 l0_0.length c0_0, .slice A0_1 l0_1.length c0_1] 25 (0, 0)) (by (with_reducible repeat (first | refine blk_drewN ?_ _ | refine blk_drew ?_ | refine blk_alloc ?_ _)); exact BK451.out) hb); have n9_ := Aside0.mk (blk_below (g := gb466) (o := .cells #[.slice Ao22 t459.length co22, .slice Ao25 t462.length co25] 29 (0, 0)) (by (with_reducible repeat (first | refine blk_drewN ?_ _ | refine blk_drew ?_ | refine blk_alloc ?_ _)); exact BK466.out) hb); have n10_ := Aside0.mk (blk_below (g := gb473) (o := .cells #[.slice Ao29 t467.length co29, .slice Ao33 t470.length co33] 29 (0, 0)) (by (with_reducible repeat (first | refine blk_drewN ?_ _ | refine blk_drew ?_ | refine blk_alloc ?_ _)); exact BK473.out) hb); have n11_ := Aside0.mk (blk_below (g := gb481) (o := .cells #[.slice Ao36 t474.length co36, .slice Ao41 t477.length co41] 29 (0, 0)) (by (with_reducible repeat (first | refine blk_drewN ?_ _ | refine blk_drew ?_ | refine blk_alloc ?_ _)); exact BK481.out) hb); have n12_ := Aside0.mk (below_step (by repeat (first | (with_reducible first | exact HB.out | apply below_alloc | apply pw_below_drewN | apply below_drew1 | refine below_set ?_ GE451.out | refine below_set ?_ GE466.out | refine below_set ?_ GE473.out | refine below_set ?_ GE481.out) | exact HB.out)) hb); clear HO_467000; clear HO_467001; clear HO_474000; clear HO_474001; clear HO_482000; clear HO_482001; clear HO485; clear HO488; clear BK451; clear BK466; clear BK473; clear BK481; clear HB; have HO_467000 := n0_; have HO_467001 := n1_; have HO_474000 := n2_; have HO_474001 := n3_; have HO_482000 := n4_; have HO_482001 := n5_; have HO485 := n6_; have HO488 := n7_; have BK451 := n8_; have BK466 := n9_; have BK473 := n10_; have BK481 := n11_; have HB := n12_; clear n0_ n1_ n2_ n3_ n4_ n5_ n6_ n7_ n8_ n9_ n10_ n11_ n12_; (try clear hb); (try clear hb2); (try clear hk); (try clear hi)))
         go_meet
         case rel => exact ⟨_, ((t480 != t465)), (by first | rfl | (simp; done) | (simp [*]; done)), H', ⟨by have := HJ11.out; first | omega | exact Nat.le_refl _⟩, ⟨by (with_reducible repeat (first | apply Kd.R_alloc | apply Kd.R_drewN | apply Kd.R_drew)); exact Kd.R_mono HO_467000.out (fun _ hk => ⟨hk.1, hk.2.1⟩)⟩, ⟨by (with_reducible repeat (first | apply Kd.R_alloc | apply Kd.R_drewN | apply Kd.R_drew)); exact Kd.R_mono HO_467001.out (fun _ hk => ⟨hk.1, hk.2.1⟩)⟩, ⟨by (with_reducible repeat (first | apply Kd.R_alloc | apply Kd.R_drewN | apply Kd.R_drew)); exact Kd.R_mono HO_474000.out (fun _ hk => ⟨hk.1.1, hk.1.2⟩)⟩, ⟨by (with_reducible repeat (first | apply Kd.R_alloc | apply Kd.R_drewN | apply Kd.R_drew)); exact Kd.R_mono HO_474001.out (fun _ hk => ⟨hk.1.1, hk.1.2⟩)⟩, ⟨by (with_reducible repeat (first | apply Kd.R_alloc | apply Kd.R_drewN | apply Kd.R_drew)); exact Kd.R_mono HO_482000.out (fun _ hk => ⟨hk.1, hk.2.1⟩)⟩, ⟨by (with_reducible repeat (first | apply Kd.R_alloc | apply Kd.R_drewN | apply Kd.R_drew)); exact Kd.R_mono HO_482001.out (fun _ hk => ⟨hk.1, hk.2.1⟩)⟩, ⟨by (with_reducible repeat (first | refine blk_drewN ?_ _ | refine blk_drew ?_ | refine blk_alloc ?_ _)); exact BK451.out⟩, ⟨by (with_reducible repeat (first | refine blk_drewN ?_ _ | refine blk_drew ?_ | refine blk_alloc ?_ _)); exact BK466.out⟩, ⟨by (with_reducible repeat (first | refine blk_drewN ?_ _ | refine blk_drew ?_ | refine blk_alloc ?_ _)); exact BK473.out⟩, ⟨by (with_reducible repeat (first | refine blk_drewN ?_ _ | refine blk_drew ?_ | refine blk_alloc ?_ _)); exact BK481.out⟩, ⟨by repeat (first | (with_reducible first | exact HB.out | apply below_alloc | apply pw_below_drewN | apply below_drew1 | refine below_set ?_ GE451.out | refine below_set ?_ GE466.out | refine below_set ?_ GE473.out | refine below_set ?_ GE481.out) | exact HB.out)⟩⟩
        ·replace c78 := Bool.eq_false_iff.mpr c78
         subst c78
         have H1 : (laws_FnExactLandOne.j1 kj11 a1 t465 true l0_0 l0_1 t459 t462 t474 t477) = some r := by rw [if_neg (show ¬ (false = true) by decide)] at H; exact H
         clear H
         have H := H1
         clear H1
         have H' := Aside0.mk H
         clear H
         have hnb87 := NB481_451.out
         have hnc87 := NB451_481.out
         have hnb88 := NB481_466.out
         have hnc88 := NB466_481.out
         have hnb89 := NB481_473.out
         have hnc89 := NB473_481.out
         have hcz90_0 : w75.cell? ⟨gb481, 0, none⟩ = some (.slice Ao36 t474.length co36) := (blk_cell BK481.out 0).trans rfl
         have hcz90_1 : w75.cell? ⟨gb481, 1, none⟩ = some (.slice Ao41 t477.length co41) := (blk_cell BK481.out 1).trans rfl
         have hfz90_0 := blk_frozen BK481.out 0
         have hfz90_1 := blk_frozen BK481.out 1
         have hnb91 := NB466_451.out
         have hnc91 := NB451_466.out
         have hnb92 := NB466_473.out
         have hnc92 := NB473_466.out
         have hcz93_0 : w75.cell? ⟨gb466, 0, none⟩ = some (.slice Ao22 t459.length co22) := (blk_cell BK466.out 0).trans rfl
         have hcz93_1 : w75.cell? ⟨gb466, 1, none⟩ = some (.slice Ao25 t462.length co25) := (blk_cell BK466.out 1).trans rfl
         have hfz93_0 := blk_frozen BK466.out 0
         have hfz93_1 := blk_frozen BK466.out 1
         go_wp2_with (first | (go_at_call 13; (with_reducible refine (laws_eqDisk.calls kj11 _ _ t474 _ _ t477 _ _ t459 _ _ t462 false _ ?side1 ?side2 ?side3 ?side4 ?side5 ?side6 ?side7 ?side8 A77.out).mono ?_); (case side1 => repeat (first | exact (Kd.R_reads' HO_482000.out).2.2 | (with_reducible refine Kd.C_alloc ?_ _) | (with_reducible refine Kd.C_drewN ?_ _) | (with_reducible refine Kd.C_drew ?_))); (case side2 => exact (Kd.R_reads' HO_482000.out).2.1); (case side3 => repeat (first | exact (Kd.R_reads' HO_482001.out).2.2 | (with_reducible refine Kd.C_alloc ?_ _) | (with_reducible refine Kd.C_drewN ?_ _) | (with_reducible refine Kd.C_drew ?_))); (case side4 => exact (Kd.R_reads' HO_482001.out).2.1); (case side5 => repeat (first | exact (Kd.R_reads' HO_467000.out).2.2 | (with_reducible refine Kd.C_alloc ?_ _) | (with_reducible refine Kd.C_drewN ?_ _) | (with_reducible refine Kd.C_drew ?_))); (case side6 => exact (Kd.R_reads' HO_467000.out).2.1); (case side7 => repeat (first | exact (Kd.R_reads' HO_467001.out).2.2 | (with_reducible refine Kd.C_alloc ?_ _) | (with_reducible refine Kd.C_drewN ?_ _) | (with_reducible refine Kd.C_drew ?_))); (case side8 => exact (Kd.R_reads' HO_467001.out).2.1); rintro e w94 ⟨rfl, hb⟩; have n0_ := Aside0.mk (Kd.R_below (by (with_reducible repeat (first | apply Kd.R_alloc | apply Kd.R_drewN | apply Kd.R_drew)); exact HO_467000.out) hb); have n1_ := Aside0.mk (Kd.R_below (by (with_reducible repeat (first | apply Kd.R_alloc | apply Kd.R_drewN | apply Kd.R_drew)); exact HO_467001.out) hb); have n2_ := Aside0.mk (Kd.R_below (by (with_reducible repeat (first | apply Kd.R_alloc | apply Kd.R_drewN | apply Kd.R_drew)); exact HO_474000.out) hb); have n3_ := Aside0.mk (Kd.R_below (by (with_reducible repeat (first | apply Kd.R_alloc | apply Kd.R_drewN | apply Kd.R_drew)); exact HO_474001.out) hb); have n4_ := Aside0.mk (Kd.R_below (by (with_reducible repeat (first | apply Kd.R_alloc | apply Kd.R_drewN | apply Kd.R_drew)); exact HO_482000.out) hb); have n5_ := Aside0.mk (Kd.R_below (by (with_reducible repeat (first | apply Kd.R_alloc | apply Kd.R_drewN | apply Kd.R_drew)); exact HO_482001.out) hb); have n6_ := Aside0.mk (Kd.R_below (by (with_reducible repeat (first | apply Kd.R_alloc | apply Kd.R_drewN | apply Kd.R_drew)); exact HO485.out) hb); have n7_ := Aside0.mk (Kd.R_below (by (with_reducible repeat (first | apply Kd.R_alloc | apply Kd.R_drewN | apply Kd.R_drew)); exact HO488.out) hb); have n8_ := Aside0.mk (blk_below (g := gb451) (o := .cells #[.slice A0_0 l0_0.length c0_0, .slice A0_1 l0_1.length c0_1] 25 (0, 0)) (by (with_reducible repeat (first | refine blk_drewN ?_ _ | refine blk_drew ?_ | refine blk_alloc ?_ _)); exact BK451.out) hb); have n9_ := Aside0.mk (blk_below (g := gb466) (o := .cells #[.slice Ao22 t459.length co22, .slice Ao25 t462.length co25] 29 (0, 0)) (by (with_reducible repeat (first | refine blk_drewN ?_ _ | refine blk_drew ?_ | refine blk_alloc ?_ _)); exact BK466.out) hb); have n10_ := Aside0.mk (blk_below (g := gb473) (o := .cells #[.slice Ao29 t467.length co29, .slice Ao33 t470.length co33] 29 (0, 0)) (by (with_reducible repeat (first | refine blk_drewN ?_ _ | refine blk_drew ?_ | refine blk_alloc ?_ _)); exact BK473.out) hb); have n11_ := Aside0.mk (blk_below (g := gb481) (o := .cells #[.slice Ao36 t474.length co36, .slice Ao41 t477.length co41] 29 (0, 0)) (by (with_reducible repeat (first | refine blk_drewN ?_ _ | refine blk_drew ?_ | refine blk_alloc ?_ _)); exact BK481.out) hb); have n12_ := Aside0.mk (below_step (by repeat (first | (with_reducible first | exact HB.out | apply below_alloc | apply pw_below_drewN | apply below_drew1 | refine below_set ?_ GE451.out | refine below_set ?_ GE466.out | refine below_set ?_ GE473.out | refine below_set ?_ GE481.out) | exact HB.out)) hb); clear HO_467000; clear HO_467001; clear HO_474000; clear HO_474001; clear HO_482000; clear HO_482001; clear HO485; clear HO488; clear BK451; clear BK466; clear BK473; clear BK481; clear HB; have HO_467000 := n0_; have HO_467001 := n1_; have HO_474000 := n2_; have HO_474001 := n3_; have HO_482000 := n4_; have HO_482001 := n5_; have HO485 := n6_; have HO488 := n7_; have BK451 := n8_; have BK466 := n9_; have BK473 := n10_; have BK481 := n11_; have HB := n12_; clear n0_ n1_ n2_ n3_ n4_ n5_ n6_ n7_ n8_ n9_ n10_ n11_ n12_; (try clear hb); (try clear hb2); (try clear hk); (try clear hi)))
         go_meet
         case rel => exact ⟨_, (true), (by first | rfl | (simp; done) | (simp [*]; done)), H', ⟨by have := HJ11.out; first | omega | exact Nat.le_refl _⟩, ⟨by (with_reducible repeat (first | apply Kd.R_alloc | apply Kd.R_drewN | apply Kd.R_drew)); exact Kd.R_mono HO_467000.out (fun _ hk => ⟨hk.1, hk.2.1⟩)⟩, ⟨by (with_reducible repeat (first | apply Kd.R_alloc | apply Kd.R_drewN | apply Kd.R_drew)); exact Kd.R_mono HO_467001.out (fun _ hk => ⟨hk.1, hk.2.1⟩)⟩, ⟨by (with_reducible repeat (first | apply Kd.R_alloc | apply Kd.R_drewN | apply Kd.R_drew)); exact Kd.R_mono HO_474000.out (fun _ hk => ⟨hk.1.1, hk.1.2⟩)⟩, ⟨by (with_reducible repeat (first | apply Kd.R_alloc | apply Kd.R_drewN | apply Kd.R_drew)); exact Kd.R_mono HO_474001.out (fun _ hk => ⟨hk.1.1, hk.1.2⟩)⟩, ⟨by (with_reducible repeat (first | apply Kd.R_alloc | apply Kd.R_drewN | apply Kd.R_drew)); exact Kd.R_mono HO_482000.out (fun _ hk => ⟨hk.1, hk.2.1⟩)⟩, ⟨by (with_reducible repeat (first | apply Kd.R_alloc | apply Kd.R_drewN | apply Kd.R_drew)); exact Kd.R_mono HO_482001.out (fun _ hk => ⟨hk.1, hk.2.1⟩)⟩, ⟨by (with_reducible repeat (first | refine blk_drewN ?_ _ | refine blk_drew ?_ | refine blk_alloc ?_ _)); exact BK451.out⟩, ⟨by (with_reducible repeat (first | refine blk_drewN ?_ _ | refine blk_drew ?_ | refine blk_alloc ?_ _)); exact BK466.out⟩, ⟨by (with_reducible repeat (first | refine blk_drewN ?_ _ | refine blk_drew ?_ | refine blk_alloc ?_ _)); exact BK473.out⟩, ⟨by (with_reducible repeat (first | refine blk_drewN ?_ _ | refine blk_drew ?_ | refine blk_alloc ?_ _)); exact BK481.out⟩, ⟨by repeat (first | (with_reducible first | exact HB.out | apply below_alloc | apply pw_below_drewN | apply below_drew1 | refine below_set ?_ GE451.out | refine below_set ?_ GE466.out | refine below_set ?_ GE473.out | refine below_set ?_ GE481.out) | exact HB.out)⟩⟩
      case rest =>
       clear HC65
       try clear c1
       try clear c2
       try clear p2
       try clear c3
       try clear c4
       try clear c4b0
       try clear c5
       try clear c6
       try clear c7
       try clear c8
       try clear c9
       try clear c11
       try clear c13
       try clear c14
       try clear c18
       try clear c19
       try clear c23
       try clear c30
       try clear c31
       try clear c37
       try clear c38
       try clear c39
       try clear c43
       try clear c44
       try clear c45
       try clear c46
       try clear c48
       try clear c49
       try clear c52
       try clear c53
       try clear c54
       try clear c56
       try clear c57
       try clear c60
       try clear c63
       try clear c71
       try clear c72
       try clear c73
       try clear c76
       try clear c76b0
       try clear c78
       try clear c79
       try clear c80
       try clear c81
       try clear c83
       try clear c84
       try clear c87
       try clear c88
       try clear c89
       try clear c91
       try clear c92
       try clear hcz14_0
       try clear hcz14_1
       try clear hcz16_0
       try clear hcz16_1
       try clear hcz24_0
       try clear hcz24_1
       try clear hcz26_0
       try clear hcz26_1
       try clear hcz32_0
       try clear hcz32_1
       try clear hcz40_0
       try clear hcz40_1
       try clear hcz47_0
       try clear hcz47_1
       try clear hcz50_0
       try clear hcz50_1
       try clear hcz55_0
       try clear hcz55_1
       try clear hcz58_0
       try clear hcz58_1
       try clear hcz6_0
       try clear hcz6_1
       try clear hcz74_0
       try clear hcz74_1
       try clear hcz82_0
       try clear hcz82_1
       try clear hcz85_0
       try clear hcz85_1
       try clear hcz90_0
       try clear hcz90_1
       try clear hcz93_0
       try clear hcz93_1
       try clear hfz14_0
       try clear hfz14_1
       try clear hfz16_0
       try clear hfz16_1
       try clear hfz24_0
       try clear hfz24_1
       try clear hfz26_0
       try clear hfz26_1
       try clear hfz32_0
       try clear hfz32_1
       try clear hfz40_0
       try clear hfz40_1
       try clear hfz47_0
       try clear hfz47_1
       try clear hfz50_0
       try clear hfz50_1
       try clear hfz55_0
       try clear hfz55_1
       try clear hfz58_0
       try clear hfz58_1
       try clear hfz6_0
       try clear hfz6_1
       try clear hfz74_0
       try clear hfz74_1
       try clear hfz82_0
       try clear hfz82_1
       try clear hfz85_0
       try clear hfz85_1
       try clear hfz90_0
       try clear hfz90_1
       try clear hfz93_0
       try clear hfz93_1
       try clear p2
       obtain ⟨kq, x65_64, rfl, HA, HJ64, HO_467000, HO_467001, HO_474000, HO_474001, HO_482000, HO_482001, BK451, BK466, BK473, BK481, HB⟩ := hcut
       have hl474000_64 := (Kd.R_reads' HO_474000.out).1
       rw [hl474000_64] at HO_474000
       (try simp only [hl474000_64])
       (try simp only [hl474000_64] at BK451)
       (try simp only [hl474000_64] at BK466)
       (try simp only [hl474000_64] at BK473)
       (try simp only [hl474000_64] at BK481)
       (try simp only [hl474000_64] at HO_467000)
       (try simp only [hl474000_64] at HO_467001)
       (try simp only [hl474000_64] at HO_474001)
       (try simp only [hl474000_64] at HO_482000)
       (try simp only [hl474000_64] at HO_482001)
       have hl474001_64 := (Kd.R_reads' HO_474001.out).1
       rw [hl474001_64] at HO_474001
       (try simp only [hl474001_64])
       (try simp only [hl474001_64] at BK451)
       (try simp only [hl474001_64] at BK466)
       (try simp only [hl474001_64] at BK473)
       (try simp only [hl474001_64] at BK481)
       (try simp only [hl474001_64] at HO_467000)
       (try simp only [hl474001_64] at HO_467001)
       (try simp only [hl474001_64] at HO_474000)
       (try simp only [hl474001_64] at HO_482000)
       (try simp only [hl474001_64] at HO_482001)
       cases kq with
       | zero => exact absurd HA.out (by simp [laws_FnExactLandOne.j1])
       | succ kj64 =>
        have H := HA.out
        clear HA
        simp only [laws_FnExactLandOne.j1] at H
        by_cases c95 : x65_64 = true
        ·subst c95
         have H1 : (some false) = some r := by rw [if_pos rfl] at H; exact H
         clear H
         have H := H1
         clear H1
         obtain rfl := Option.some.inj H
         go_wp2
         go_ret
         exact ⟨by first | rfl | (simp [errW_none, errW_some] <;> rfl) | (simp [*, errW_none, errW_some] <;> rfl), by repeat (first | (with_reducible first | exact HB.out | apply below_alloc | apply pw_below_drewN | apply below_drew1 | refine below_set ?_ GE451.out | refine below_set ?_ GE466.out | refine below_set ?_ GE473.out | refine below_set ?_ GE481.out) | exact HB.out)⟩
        ·replace c95 := Bool.eq_false_iff.mpr c95
         subst c95
         have H1 : ((laws_markDisk.f kj64 t474 t477 1).bind fun bt494 => ((laws_heldDisk.f kj64 bt494.2.1 bt494.2.2 1).bind fun t497 => (if t497 < 0 then (some false) else (if t497 = bt494.1 then ((laws_toDisk.f kj64 l0_0 l0_1).bind fun bt498 => ((impl_LandOne.f kj64 bt498.1 bt498.2 a1).bind fun bt504 => ((laws_eqDisk.f kj64 bt504.1 bt504.2.1 t459 t462).bind fun t512 => (if t512 = true then (laws_FnExactLandOne.j2 kj64 bt494.1 (bt504.2.2 != t465) bt494.2.1 bt494.2.2) else (laws_FnExactLandOne.j2 kj64 bt494.1 true bt494.2.1 bt494.2.2))))) else (some false))))) = some r := by rw [if_neg (show ¬ (false = true) by decide)] at H; exact H
         clear H
         have H := H1
         clear H1
         replace H := Option.bind_eq_some_iff.mp H
         obtain ⟨⟨t494, t495, t496⟩, A960, H⟩ := H
         replace H : ((laws_heldDisk.f kj64 t495 t496 1).bind fun t497 => (if t497 < 0 then (some false) else (if t497 = t494 then ((laws_toDisk.f kj64 l0_0 l0_1).bind fun bt498 => ((impl_LandOne.f kj64 bt498.1 bt498.2 a1).bind fun bt504 => ((laws_eqDisk.f kj64 bt504.1 bt504.2.1 t459 t462).bind fun t512 => (if t512 = true then (laws_FnExactLandOne.j2 kj64 t494 (bt504.2.2 != t465) t495 t496) else (laws_FnExactLandOne.j2 kj64 t494 true t495 t496))))) else (some false)))) = some r := H
         have A96 := Aside0.mk A960
         clear A960
         replace H := Option.bind_eq_some_iff.mp H
         obtain ⟨t497, A970, H⟩ := H
         replace H : (if t497 < 0 then (some false) else (if t497 = t494 then ((laws_toDisk.f kj64 l0_0 l0_1).bind fun bt498 => ((impl_LandOne.f kj64 bt498.1 bt498.2 a1).bind fun bt504 => ((laws_eqDisk.f kj64 bt504.1 bt504.2.1 t459 t462).bind fun t512 => (if t512 = true then (laws_FnExactLandOne.j2 kj64 t494 (bt504.2.2 != t465) t495 t496) else (laws_FnExactLandOne.j2 kj64 t494 true t495 t496))))) else (some false))) = some r := H
         have A97 := Aside0.mk A970
         clear A970
         by_cases c98 : t497 < 0
         ·rw [if_pos c98] at H
          have c98b0 : decide (t497 < 0) = true := decide_eq_true c98
          clear c98
          obtain rfl := Option.some.inj H
          have hnb99 := NB481_451.out
          have hnc99 := NB451_481.out
          have hnb100 := NB481_466.out
          have hnc100 := NB466_481.out
          have hnb101 := NB481_473.out
          have hnc101 := NB473_481.out
          have hcz102_0 : wc.cell? ⟨gb481, 0, none⟩ = some (.slice Ao36 t474.length co36) := (blk_cell BK481.out 0).trans rfl
          have hcz102_1 : wc.cell? ⟨gb481, 1, none⟩ = some (.slice Ao41 t477.length co41) := (blk_cell BK481.out 1).trans rfl
          have hfz102_0 := blk_frozen BK481.out 0
          have hfz102_1 := blk_frozen BK481.out 1
          go_wp2_with (first | ((with_reducible refine gate_callee (f := 14) rfl ?_); refine goesL_ (some 68) rfl rfl Try.func14 (by kernel_rfl) rfl #[.agg #[.slice Ao36 t474.length co36, .slice Ao41 t477.length co41], .int .i64 1] rfl (by (try simp only [List.map_toArray, List.map_cons, List.map_nil]); first | done | rfl | (simp only [List.length_drop, List.length_take]; rfl)) ?_; (with_reducible refine (laws_markDisk.calls kj64 (fun k_ => some k_ = (.slice Ao36 t474.length co36 : Value).ownBlock) (.slice Ao36 t474.length co36) t474 (fun k_ => some k_ = (.slice Ao41 t477.length co41 : Value).ownBlock) (.slice Ao41 t477.length co41) t477 1 t494 t495 t496 w _ ?side1 ?side2 ?side3 A96.out).mono ?_); (case side1 => repeat (first | (with_reducible first | exact HB.out | apply below_alloc | apply pw_below_drewN | apply below_drew1 | refine below_set ?_ GE451.out | refine below_set ?_ GE466.out | refine below_set ?_ GE473.out | refine below_set ?_ GE481.out) | exact HB.out)); (case side2 => exact Kd.R_tight rfl HO_482000.out); (case side3 => exact Kd.R_tight rfl HO_482001.out); rintro e w103 ⟨rfl, hy0, hy1, hb, hkp⟩; refine ⟨_, rfl, ?_⟩; have n0_ := Aside0.mk (Kd.R_mono (ok' := fun k_ => some k_ ≠ (.slice Ao29 t491.length co29 : Value).ownBlock ∧ some k_ ≠ (.slice Ao36 t474.length co36 : Value).ownBlock) (Kd.R_keptB ((Kd.R_apart' HO_467000.out (Kd.R_typed HO_482001.out) (by decide))) hkp (fun k_ hk_ hs_ => Or.elim hs_ (fun e_ => (hk_.1.2) e_) (fun e_ => (hk_.2) e_))) (fun k_ hk_ => ⟨hk_.1.1.1, hk_.1.1.2⟩)); have n1_ := Aside0.mk (Kd.R_mono (ok' := fun k_ => some k_ ≠ (.slice Ao33 t492.length co33 : Value).ownBlock ∧ some k_ ≠ (.slice Ao41 t477.length co41 : Value).ownBlock) (Kd.R_keptB ((Kd.R_apart' HO_467001.out (Kd.R_typed HO_482000.out) (by decide))) hkp (fun k_ hk_ hs_ => Or.elim hs_ (fun e_ => (hk_.2) e_) (fun e_ => (hk_.1.2) e_))) (fun k_ hk_ => ⟨hk_.1.1.1, hk_.1.1.2⟩)); have n2_ := Aside0.mk (Kd.R_mono (ok' := fun k_ => some k_ ≠ (.slice Ao22 t459.length co22 : Value).ownBlock ∧ some k_ ≠ (.slice Ao36 t474.length co36 : Value).ownBlock) (Kd.R_keptB ((Kd.R_apart' HO_474000.out (Kd.R_typed HO_482001.out) (by decide))) hkp (fun k_ hk_ hs_ => Or.elim hs_ (fun e_ => (hk_.1.2) e_) (fun e_ => (hk_.2) e_))) (fun k_ hk_ => ⟨hk_.1.1.1, hk_.1.1.2⟩)); have n3_ := Aside0.mk (Kd.R_mono (ok' := fun k_ => some k_ ≠ (.slice Ao25 t462.length co25 : Value).ownBlock ∧ some k_ ≠ (.slice Ao41 t477.length co41 : Value).ownBlock) (Kd.R_keptB ((Kd.R_apart' HO_474001.out (Kd.R_typed HO_482000.out) (by decide))) hkp (fun k_ hk_ hs_ => Or.elim hs_ (fun e_ => (hk_.2) e_) (fun e_ => (hk_.1.2) e_))) (fun k_ hk_ => ⟨hk_.1.1.1, hk_.1.1.2⟩)); have n4_ := Aside0.mk (Kd.R_reok rfl hy0 (fun k_ e_ => HO_482000.out.1 k_ e_)); have n5_ := Aside0.mk (Kd.R_reok rfl hy1 (fun k_ e_ => HO_482001.out.1 k_ e_)); have n6_ := Aside0.mk (blk_kept (by (with_reducible repeat (first | refine blk_drewN ?_ _ | refine blk_drew ?_ | refine blk_alloc ?_ _)); exact BK451.out) hkp (fun hs_ => Or.elim hs_ (fun e_ => (fun e_ => (Kd.R_ne HO_482000.out BK451.out (by decide)) e_) e_) (fun e_ => (fun e_ => (Kd.R_ne HO_482001.out BK451.out (by decide)) e_) e_))); have n7_ := Aside0.mk (blk_kept (by (with_reducible repeat (first | refine blk_drewN ?_ _ | refine blk_drew ?_ | refine blk_alloc ?_ _)); exact BK466.out) hkp (fun hs_ => Or.elim hs_ (fun e_ => (fun e_ => (Kd.R_ne HO_482000.out BK466.out (by decide)) e_) e_) (fun e_ => (fun e_ => (Kd.R_ne HO_482001.out BK466.out (by decide)) e_) e_))); have n8_ := Aside0.mk (blk_kept (by (with_reducible repeat (first | refine blk_drewN ?_ _ | refine blk_drew ?_ | refine blk_alloc ?_ _)); exact BK473.out) hkp (fun hs_ => Or.elim hs_ (fun e_ => (fun e_ => (Kd.R_ne HO_482000.out BK473.out (by decide)) e_) e_) (fun e_ => (fun e_ => (Kd.R_ne HO_482001.out BK473.out (by decide)) e_) e_))); have n9_ := Aside0.mk (blk_kept (by (with_reducible repeat (first | refine blk_drewN ?_ _ | refine blk_drew ?_ | refine blk_alloc ?_ _)); exact BK481.out) hkp (fun hs_ => Or.elim hs_ (fun e_ => (fun e_ => (Kd.R_ne HO_482000.out BK481.out (by decide)) e_) e_) (fun e_ => (fun e_ => (Kd.R_ne HO_482001.out BK481.out (by decide)) e_) e_))); have n10_ := Aside0.mk (hb); clear HO_467000; clear HO_467001; clear HO_474000; clear HO_474001; clear HO_482000; clear HO_482001; clear BK451; clear BK466; clear BK473; clear BK481; clear HB; have HO_467000 := n0_; have HO_467001 := n1_; have HO_474000 := n2_; have HO_474001 := n3_; have HO_482000 := n4_; have HO_482001 := n5_; have BK451 := n6_; have BK466 := n7_; have BK473 := n8_; have BK481 := n9_; have HB := n10_; clear n0_ n1_ n2_ n3_ n4_ n5_ n6_ n7_ n8_ n9_ n10_; (try clear hb); (try clear hkp); (try clear hy0); (try clear hy1); have hcz104_0 : w103.cell? ⟨gb481, 0, none⟩ = some (.slice Ao36 t474.length co36) := (blk_cell BK481.out 0).trans rfl; have hcz104_1 : w103.cell? ⟨gb481, 1, none⟩ = some (.slice Ao41 t477.length co41) := (blk_cell BK481.out 1).trans rfl; have hfz104_0 := blk_frozen BK481.out 0; have hfz104_1 := blk_frozen BK481.out 1) | ((with_reducible refine gate_callee (f := 15) rfl ?_); refine goesL_ (some 71) rfl rfl Try.func15 (by kernel_rfl) rfl #[.agg #[.slice Ao36 t495.length co36, .slice Ao41 t496.length co41], .int .i64 1] rfl (by (try simp only [List.map_toArray, List.map_cons, List.map_nil]); first | done | (rw [show t495.length = t474.length from (Kd.R_reads' HO_482000.out).1.symm, show t496.length = t477.length from (Kd.R_reads' HO_482001.out).1.symm] <;> rfl) | rfl | (simp only [List.length_drop, List.length_take]; rfl)) ?_; (with_reducible refine (laws_heldDisk.calls kj64 _ _ t495 _ _ t496 1 t497 _ ?side1 ?side2 ?side3 ?side4 A97.out).mono ?_); (case side1 => repeat (first | exact (Kd.R_reads' HO_482000.out).2.2 | (with_reducible refine Kd.C_alloc ?_ _) | (with_reducible refine Kd.C_drewN ?_ _) | (with_reducible refine Kd.C_drew ?_))); (case side2 => rw [show t495.length = t474.length from (Kd.R_reads' HO_482000.out).1.symm]; exact (Kd.R_reads' HO_482000.out).2.1); (case side3 => repeat (first | exact (Kd.R_reads' HO_482001.out).2.2 | (with_reducible refine Kd.C_alloc ?_ _) | (with_reducible refine Kd.C_drewN ?_ _) | (with_reducible refine Kd.C_drew ?_))); (case side4 => rw [show t496.length = t477.length from (Kd.R_reads' HO_482001.out).1.symm]; exact (Kd.R_reads' HO_482001.out).2.1); rintro e w105 ⟨rfl, hb⟩; refine ⟨_, rfl, ?_⟩; have n0_ := Aside0.mk (Kd.R_below (by (with_reducible repeat (first | apply Kd.R_alloc | apply Kd.R_drewN | apply Kd.R_drew)); exact HO_467000.out) hb); have n1_ := Aside0.mk (Kd.R_below (by (with_reducible repeat (first | apply Kd.R_alloc | apply Kd.R_drewN | apply Kd.R_drew)); exact HO_467001.out) hb); have n2_ := Aside0.mk (Kd.R_below (by (with_reducible repeat (first | apply Kd.R_alloc | apply Kd.R_drewN | apply Kd.R_drew)); exact HO_474000.out) hb); have n3_ := Aside0.mk (Kd.R_below (by (with_reducible repeat (first | apply Kd.R_alloc | apply Kd.R_drewN | apply Kd.R_drew)); exact HO_474001.out) hb); have n4_ := Aside0.mk (Kd.R_below (by (with_reducible repeat (first | apply Kd.R_alloc | apply Kd.R_drewN | apply Kd.R_drew)); exact HO_482000.out) hb); have n5_ := Aside0.mk (Kd.R_below (by (with_reducible repeat (first | apply Kd.R_alloc | apply Kd.R_drewN | apply Kd.R_drew)); exact HO_482001.out) hb); have n6_ := Aside0.mk (blk_below (g := gb451) (o := .cells #[.slice A0_0 l0_0.length c0_0, .slice A0_1 l0_1.length c0_1] 25 (0, 0)) (by (with_reducible repeat (first | refine blk_drewN ?_ _ | refine blk_drew ?_ | refine blk_alloc ?_ _)); exact BK451.out) hb); have n7_ := Aside0.mk (blk_below (g := gb466) (o := .cells #[.slice Ao22 t459.length co22, .slice Ao25 t462.length co25] 29 (0, 0)) (by (with_reducible repeat (first | refine blk_drewN ?_ _ | refine blk_drew ?_ | refine blk_alloc ?_ _)); exact BK466.out) hb); have n8_ := Aside0.mk (blk_below (g := gb473) (o := .cells #[.slice Ao29 t491.length co29, .slice Ao33 t492.length co33] 29 (0, 0)) (by (with_reducible repeat (first | refine blk_drewN ?_ _ | refine blk_drew ?_ | refine blk_alloc ?_ _)); exact BK473.out) hb); have n9_ := Aside0.mk (blk_below (g := gb481) (o := .cells #[.slice Ao36 t474.length co36, .slice Ao41 t477.length co41] 29 (0, 0)) (by (with_reducible repeat (first | refine blk_drewN ?_ _ | refine blk_drew ?_ | refine blk_alloc ?_ _)); exact BK481.out) hb); have n10_ := Aside0.mk (below_step (by repeat (first | (with_reducible first | exact HB.out | apply below_alloc | apply pw_below_drewN | apply below_drew1 | refine below_set ?_ GE451.out | refine below_set ?_ GE466.out | refine below_set ?_ GE473.out | refine below_set ?_ GE481.out) | exact HB.out)) hb); clear HO_467000; clear HO_467001; clear HO_474000; clear HO_474001; clear HO_482000; clear HO_482001; clear BK451; clear BK466; clear BK473; clear BK481; clear HB; have HO_467000 := n0_; have HO_467001 := n1_; have HO_474000 := n2_; have HO_474001 := n3_; have HO_482000 := n4_; have HO_482001 := n5_; have BK451 := n6_; have BK466 := n7_; have BK473 := n8_; have BK481 := n9_; have HB := n10_; clear n0_ n1_ n2_ n3_ n4_ n5_ n6_ n7_ n8_ n9_ n10_; (try clear hb); (try clear hb2); (try clear hk); (try clear hi)))
          go_ret
          exact ⟨by first | rfl | (simp [errW_none, errW_some] <;> rfl) | (simp [*, errW_none, errW_some] <;> rfl), by repeat (first | (with_reducible first | exact HB.out | apply below_alloc | apply pw_below_drewN | apply below_drew1 | refine below_set ?_ GE451.out | refine below_set ?_ GE466.out | refine below_set ?_ GE473.out | refine below_set ?_ GE481.out) | exact HB.out)⟩
         ·rw [if_neg c98] at H
          have c98b0 : decide (t497 < 0) = false := decide_eq_false c98
          clear c98
          by_cases c106 : t497 = t494
          ·rw [if_pos c106] at H
           have c106b0 : (t497 == t494) = true := beq_iff_eq.mpr c106
           have c106b1 : (t497 != t494) = false := bne_eq_false_iff_eq.mpr c106
           clear c106
           replace H := Option.bind_eq_some_iff.mp H
           obtain ⟨⟨t498, t501⟩, A1070, H⟩ := H
           replace H : ((impl_LandOne.f kj64 t498 t501 a1).bind fun bt504 => ((laws_eqDisk.f kj64 bt504.1 bt504.2.1 t459 t462).bind fun t512 => (if t512 = true then (laws_FnExactLandOne.j2 kj64 t494 (bt504.2.2 != t465) t495 t496) else (laws_FnExactLandOne.j2 kj64 t494 true t495 t496)))) = some r := H
           have A107 := Aside0.mk A1070
           clear A1070
           replace H := Option.bind_eq_some_iff.mp H
           obtain ⟨⟨t504, t507, t510⟩, A1080, H⟩ := H
           replace H : ((laws_eqDisk.f kj64 t504 t507 t459 t462).bind fun t512 => (if t512 = true then (laws_FnExactLandOne.j2 kj64 t494 (t510 != t465) t495 t496) else (laws_FnExactLandOne.j2 kj64 t494 true t495 t496))) = some r := H
           have A108 := Aside0.mk A1080
           clear A1080
           have HC109 := Aside0.mk H
           clear H
           have hnb110 := NB481_451.out
           have hnc110 := NB451_481.out
           have hnb111 := NB481_466.out
           have hnc111 := NB466_481.out
           have hnb112 := NB481_473.out
           have hnc112 := NB473_481.out
           have hcz113_0 : wc.cell? ⟨gb481, 0, none⟩ = some (.slice Ao36 t474.length co36) := (blk_cell BK481.out 0).trans rfl
           have hcz113_1 : wc.cell? ⟨gb481, 1, none⟩ = some (.slice Ao41 t477.length co41) := (blk_cell BK481.out 1).trans rfl
           have hfz113_0 := blk_frozen BK481.out 0
           have hfz113_1 := blk_frozen BK481.out 1
           go_upto_region 25 with (first | ((with_reducible refine gate_callee (f := 14) rfl ?_); refine goesL_ (some 68) rfl rfl Try.func14 (by kernel_rfl) rfl #[.agg #[.slice Ao36 t474.length co36, .slice Ao41 t477.length co41], .int .i64 1] rfl (by (try simp only [List.map_toArray, List.map_cons, List.map_nil]); first | done | rfl | (simp only [List.length_drop, List.length_take]; rfl)) ?_; (with_reducible refine (laws_markDisk.calls kj64 (fun k_ => some k_ = (.slice Ao36 t474.length co36 : Value).ownBlock) (.slice Ao36 t474.length co36) t474 (fun k_ => some k_ = (.slice Ao41 t477.length co41 : Value).ownBlock) (.slice Ao41 t477.length co41) t477 1 t494 t495 t496 w _ ?side1 ?side2 ?side3 A96.out).mono ?_); (case side1 => repeat (first | (with_reducible first | exact HB.out | apply below_alloc | apply pw_below_drewN | apply below_drew1 | refine below_set ?_ GE451.out | refine below_set ?_ GE466.out | refine below_set ?_ GE473.out | refine below_set ?_ GE481.out) | exact HB.out)); (case side2 => exact Kd.R_tight rfl HO_482000.out); (case side3 => exact Kd.R_tight rfl HO_482001.out); rintro e w114 ⟨rfl, hy0, hy1, hb, hkp⟩; refine ⟨_, rfl, ?_⟩; have n0_ := Aside0.mk (Kd.R_mono (ok' := fun k_ => some k_ ≠ (.slice Ao29 t491.length co29 : Value).ownBlock ∧ some k_ ≠ (.slice Ao36 t474.length co36 : Value).ownBlock) (Kd.R_keptB ((Kd.R_apart' HO_467000.out (Kd.R_typed HO_482001.out) (by decide))) hkp (fun k_ hk_ hs_ => Or.elim hs_ (fun e_ => (hk_.1.2) e_) (fun e_ => (hk_.2) e_))) (fun k_ hk_ => ⟨hk_.1.1.1, hk_.1.1.2⟩)); have n1_ := Aside0.mk (Kd.R_mono (ok' := fun k_ => some k_ ≠ (.slice Ao33 t492.length co33 : Value).ownBlock ∧ some k_ ≠ (.slice Ao41 t477.length co41 : Value).ownBlock) (Kd.R_keptB ((Kd.R_apart' HO_467001.out (Kd.R_typed HO_482000.out) (by decide))) hkp (fun k_ hk_ hs_ => Or.elim hs_ (fun e_ => (hk_.2) e_) (fun e_ => (hk_.1.2) e_))) (fun k_ hk_ => ⟨hk_.1.1.1, hk_.1.1.2⟩)); have n2_ := Aside0.mk (Kd.R_mono (ok' := fun k_ => some k_ ≠ (.slice Ao22 t459.length co22 : Value).ownBlock ∧ some k_ ≠ (.slice Ao36 t474.length co36 : Value).ownBlock) (Kd.R_keptB ((Kd.R_apart' HO_474000.out (Kd.R_typed HO_482001.out) (by decide))) hkp (fun k_ hk_ hs_ => Or.elim hs_ (fun e_ => (hk_.1.2) e_) (fun e_ => (hk_.2) e_))) (fun k_ hk_ => ⟨hk_.1.1.1, hk_.1.1.2⟩)); have n3_ := Aside0.mk (Kd.R_mono (ok' := fun k_ => some k_ ≠ (.slice Ao25 t462.length co25 : Value).ownBlock ∧ some k_ ≠ (.slice Ao41 t477.length co41 : Value).ownBlock) (Kd.R_keptB ((Kd.R_apart' HO_474001.out (Kd.R_typed HO_482000.out) (by decide))) hkp (fun k_ hk_ hs_ => Or.elim hs_ (fun e_ => (hk_.2) e_) (fun e_ => (hk_.1.2) e_))) (fun k_ hk_ => ⟨hk_.1.1.1, hk_.1.1.2⟩)); have n4_ := Aside0.mk (Kd.R_reok rfl hy0 (fun k_ e_ => HO_482000.out.1 k_ e_)); have n5_ := Aside0.mk (Kd.R_reok rfl hy1 (fun k_ e_ => HO_482001.out.1 k_ e_)); have n6_ := Aside0.mk (blk_kept (by (with_reducible repeat (first | refine blk_drewN ?_ _ | refine blk_drew ?_ | refine blk_alloc ?_ _)); exact BK451.out) hkp (fun hs_ => Or.elim hs_ (fun e_ => (fun e_ => (Kd.R_ne HO_482000.out BK451.out (by decide)) e_) e_) (fun e_ => (fun e_ => (Kd.R_ne HO_482001.out BK451.out (by decide)) e_) e_))); have n7_ := Aside0.mk (blk_kept (by (with_reducible repeat (first | refine blk_drewN ?_ _ | refine blk_drew ?_ | refine blk_alloc ?_ _)); exact BK466.out) hkp (fun hs_ => Or.elim hs_ (fun e_ => (fun e_ => (Kd.R_ne HO_482000.out BK466.out (by decide)) e_) e_) (fun e_ => (fun e_ => (Kd.R_ne HO_482001.out BK466.out (by decide)) e_) e_))); have n8_ := Aside0.mk (blk_kept (by (with_reducible repeat (first | refine blk_drewN ?_ _ | refine blk_drew ?_ | refine blk_alloc ?_ _)); exact BK473.out) hkp (fun hs_ => Or.elim hs_ (fun e_ => (fun e_ => (Kd.R_ne HO_482000.out BK473.out (by decide)) e_) e_) (fun e_ => (fun e_ => (Kd.R_ne HO_482001.out BK473.out (by decide)) e_) e_))); have n9_ := Aside0.mk (blk_kept (by (with_reducible repeat (first | refine blk_drewN ?_ _ | refine blk_drew ?_ | refine blk_alloc ?_ _)); exact BK481.out) hkp (fun hs_ => Or.elim hs_ (fun e_ => (fun e_ => (Kd.R_ne HO_482000.out BK481.out (by decide)) e_) e_) (fun e_ => (fun e_ => (Kd.R_ne HO_482001.out BK481.out (by decide)) e_) e_))); have n10_ := Aside0.mk (hb); clear HO_467000; clear HO_467001; clear HO_474000; clear HO_474001; clear HO_482000; clear HO_482001; clear BK451; clear BK466; clear BK473; clear BK481; clear HB; have HO_467000 := n0_; have HO_467001 := n1_; have HO_474000 := n2_; have HO_474001 := n3_; have HO_482000 := n4_; have HO_482001 := n5_; have BK451 := n6_; have BK466 := n7_; have BK473 := n8_; have BK481 := n9_; have HB := n10_; clear n0_ n1_ n2_ n3_ n4_ n5_ n6_ n7_ n8_ n9_ n10_; (try clear hb); (try clear hkp); (try clear hy0); (try clear hy1); have hcz115_0 : w114.cell? ⟨gb481, 0, none⟩ = some (.slice Ao36 t474.length co36) := (blk_cell BK481.out 0).trans rfl; have hcz115_1 : w114.cell? ⟨gb481, 1, none⟩ = some (.slice Ao41 t477.length co41) := (blk_cell BK481.out 1).trans rfl; have hfz115_0 := blk_frozen BK481.out 0; have hfz115_1 := blk_frozen BK481.out 1) | ((with_reducible refine gate_callee (f := 15) rfl ?_); refine goesL_ (some 71) rfl rfl Try.func15 (by kernel_rfl) rfl #[.agg #[.slice Ao36 t495.length co36, .slice Ao41 t496.length co41], .int .i64 1] rfl (by (try simp only [List.map_toArray, List.map_cons, List.map_nil]); first | done | (rw [show t495.length = t474.length from (Kd.R_reads' HO_482000.out).1.symm, show t496.length = t477.length from (Kd.R_reads' HO_482001.out).1.symm] <;> rfl) | rfl | (simp only [List.length_drop, List.length_take]; rfl)) ?_; (with_reducible refine (laws_heldDisk.calls kj64 _ _ t495 _ _ t496 1 t497 _ ?side1 ?side2 ?side3 ?side4 A97.out).mono ?_); (case side1 => repeat (first | exact (Kd.R_reads' HO_482000.out).2.2 | (with_reducible refine Kd.C_alloc ?_ _) | (with_reducible refine Kd.C_drewN ?_ _) | (with_reducible refine Kd.C_drew ?_))); (case side2 => rw [show t495.length = t474.length from (Kd.R_reads' HO_482000.out).1.symm]; exact (Kd.R_reads' HO_482000.out).2.1); (case side3 => repeat (first | exact (Kd.R_reads' HO_482001.out).2.2 | (with_reducible refine Kd.C_alloc ?_ _) | (with_reducible refine Kd.C_drewN ?_ _) | (with_reducible refine Kd.C_drew ?_))); (case side4 => rw [show t496.length = t477.length from (Kd.R_reads' HO_482001.out).1.symm]; exact (Kd.R_reads' HO_482001.out).2.1); rintro e w116 ⟨rfl, hb⟩; refine ⟨_, rfl, ?_⟩; have n0_ := Aside0.mk (Kd.R_below (by (with_reducible repeat (first | apply Kd.R_alloc | apply Kd.R_drewN | apply Kd.R_drew)); exact HO_467000.out) hb); have n1_ := Aside0.mk (Kd.R_below (by (with_reducible repeat (first | apply Kd.R_alloc | apply Kd.R_drewN | apply Kd.R_drew)); exact HO_467001.out) hb); have n2_ := Aside0.mk (Kd.R_below (by (with_reducible repeat (first | apply Kd.R_alloc | apply Kd.R_drewN | apply Kd.R_drew)); exact HO_474000.out) hb); have n3_ := Aside0.mk (Kd.R_below (by (with_reducible repeat (first | apply Kd.R_alloc | apply Kd.R_drewN | apply Kd.R_drew)); exact HO_474001.out) hb); have n4_ := Aside0.mk (Kd.R_below (by (with_reducible repeat (first | apply Kd.R_alloc | apply Kd.R_drewN | apply Kd.R_drew)); exact HO_482000.out) hb); have n5_ := Aside0.mk (Kd.R_below (by (with_reducible repeat (first | apply Kd.R_alloc | apply Kd.R_drewN | apply Kd.R_drew)); exact HO_482001.out) hb); have n6_ := Aside0.mk (blk_below (g := gb451) (o := .cells #[.slice A0_0 l0_0.length c0_0, .slice A0_1 l0_1.length c0_1] 25 (0, 0)) (by (with_reducible repeat (first | refine blk_drewN ?_ _ | refine blk_drew ?_ | refine blk_alloc ?_ _)); exact BK451.out) hb); have n7_ := Aside0.mk (blk_below (g := gb466) (o := .cells #[.slice Ao22 t459.length co22, .slice Ao25 t462.length co25] 29 (0, 0)) (by (with_reducible repeat (first | refine blk_drewN ?_ _ | refine blk_drew ?_ | refine blk_alloc ?_ _)); exact BK466.out) hb); have n8_ := Aside0.mk (blk_below (g := gb473) (o := .cells #[.slice Ao29 t491.length co29, .slice Ao33 t492.length co33] 29 (0, 0)) (by (with_reducible repeat (first | refine blk_drewN ?_ _ | refine blk_drew ?_ | refine blk_alloc ?_ _)); exact BK473.out) hb); have n9_ := Aside0.mk (blk_below (g := gb481) (o := .cells #[.slice Ao36 t474.length co36, .slice Ao41 t477.length co41] 29 (0, 0)) (by (with_reducible repeat (first | refine blk_drewN ?_ _ | refine blk_drew ?_ | refine blk_alloc ?_ _)); exact BK481.out) hb); have n10_ := Aside0.mk (below_step (by repeat (first | (with_reducible first | exact HB.out | apply below_alloc | apply pw_below_drewN | apply below_drew1 | refine below_set ?_ GE451.out | refine below_set ?_ GE466.out | refine below_set ?_ GE473.out | refine below_set ?_ GE481.out) | exact HB.out)) hb); clear HO_467000; clear HO_467001; clear HO_474000; clear HO_474001; clear HO_482000; clear HO_482001; clear BK451; clear BK466; clear BK473; clear BK481; clear HB; have HO_467000 := n0_; have HO_467001 := n1_; have HO_474000 := n2_; have HO_474001 := n3_; have HO_482000 := n4_; have HO_482001 := n5_; have BK451 := n6_; have BK466 := n7_; have BK473 := n8_; have BK481 := n9_; have HB := n10_; clear n0_ n1_ n2_ n3_ n4_ n5_ n6_ n7_ n8_ n9_ n10_; (try clear hb); (try clear hb2); (try clear hk); (try clear hi); have hnb117 := NB451_466.out; have hnc117 := NB466_451.out; have hnb118 := NB451_473.out; have hnc118 := NB473_451.out; have hcz119_0 : w116.cell? ⟨gb451, 0, none⟩ = some (.slice A0_0 l0_0.length c0_0) := (blk_cell BK451.out 0).trans rfl; have hcz119_1 : w116.cell? ⟨gb451, 1, none⟩ = some (.slice A0_1 l0_1.length c0_1) := (blk_cell BK451.out 1).trans rfl; have hfz119_0 := blk_frozen BK451.out 0; have hfz119_1 := blk_frozen BK451.out 1) | ((with_reducible refine gate_callee (f := 11) rfl ?_); refine goesL_ (some 79) rfl rfl Try.func11 (by kernel_rfl) rfl #[.agg #[.slice A0_0 l0_0.length c0_0, .slice A0_1 l0_1.length c0_1]] rfl (by (try simp only [List.map_toArray, List.map_cons, List.map_nil]); first | done | rfl | (simp only [List.length_drop, List.length_take]; rfl)) ?_; (with_reducible refine (laws_toDisk.calls kj64 _ _ l0_0 _ _ l0_1 t498 t501 _ ?side1 ?side2 ?side3 ?side4 A107.out).mono ?_); (case side1 => repeat (first | exact (Kd.C_below HR0_0.out HB.out) | (with_reducible refine Kd.C_alloc ?_ _) | (with_reducible refine Kd.C_drewN ?_ _) | (with_reducible refine Kd.C_drew ?_))); (case side2 => exact HC0_0.out); (case side3 => repeat (first | exact (Kd.C_below HR0_1.out HB.out) | (with_reducible refine Kd.C_alloc ?_ _) | (with_reducible refine Kd.C_drewN ?_ _) | (with_reducible refine Kd.C_drew ?_))); (case side4 => exact HC0_1.out); rintro e w120 ⟨v499, v502, rfl, ho0, ho1, hb⟩; refine ⟨_, rfl, ?_⟩; have n0_ := Aside0.mk (Kd.R_elder' (by (with_reducible repeat (first | apply Kd.R_alloc | apply Kd.R_drewN | apply Kd.R_drew)); exact HO_467000.out) (Kd.R_base ho0) hb); have n1_ := Aside0.mk (Kd.R_elder' (by (with_reducible repeat (first | apply Kd.R_alloc | apply Kd.R_drewN | apply Kd.R_drew)); exact HO_467001.out) (Kd.R_base ho1) hb); have n2_ := Aside0.mk (Kd.R_elder' (by (with_reducible repeat (first | apply Kd.R_alloc | apply Kd.R_drewN | apply Kd.R_drew)); exact HO_474000.out) (Kd.R_base ho0) hb); have n3_ := Aside0.mk (Kd.R_elder' (by (with_reducible repeat (first | apply Kd.R_alloc | apply Kd.R_drewN | apply Kd.R_drew)); exact HO_474001.out) (Kd.R_base ho1) hb); have n4_ := Aside0.mk (Kd.R_elder' (by (with_reducible repeat (first | apply Kd.R_alloc | apply Kd.R_drewN | apply Kd.R_drew)); exact HO_482000.out) (Kd.R_base ho0) hb); have n5_ := Aside0.mk (Kd.R_elder' (by (with_reducible repeat (first | apply Kd.R_alloc | apply Kd.R_drewN | apply Kd.R_drew)); exact HO_482001.out) (Kd.R_base ho1) hb); have n6_ := Aside0.mk (Kd.R_lower (Kd.R_new' (Kd.R_new' (Kd.R_new' ho0 (Kd.R_lt (by (with_reducible repeat (first | apply Kd.R_alloc | apply Kd.R_drewN | apply Kd.R_drew)); exact HO_467000.out))) (Kd.R_lt (by (with_reducible repeat (first | apply Kd.R_alloc | apply Kd.R_drewN | apply Kd.R_drew)); exact HO_474000.out))) (Kd.R_lt (by (with_reducible repeat (first | apply Kd.R_alloc | apply Kd.R_drewN | apply Kd.R_drew)); exact HO_482000.out))) (below_size (by repeat (first | (with_reducible first | exact HB.out | apply below_alloc | apply pw_below_drewN | apply below_drew1 | refine below_set ?_ GE451.out | refine below_set ?_ GE466.out | refine below_set ?_ GE473.out | refine below_set ?_ GE481.out) | exact HB.out)))); have n7_ := Aside0.mk (Kd.R_lower (Kd.R_new' (Kd.R_new' (Kd.R_new' ho1 (Kd.R_lt (by (with_reducible repeat (first | apply Kd.R_alloc | apply Kd.R_drewN | apply Kd.R_drew)); exact HO_467001.out))) (Kd.R_lt (by (with_reducible repeat (first | apply Kd.R_alloc | apply Kd.R_drewN | apply Kd.R_drew)); exact HO_474001.out))) (Kd.R_lt (by (with_reducible repeat (first | apply Kd.R_alloc | apply Kd.R_drewN | apply Kd.R_drew)); exact HO_482001.out))) (below_size (by repeat (first | (with_reducible first | exact HB.out | apply below_alloc | apply pw_below_drewN | apply below_drew1 | refine below_set ?_ GE451.out | refine below_set ?_ GE466.out | refine below_set ?_ GE473.out | refine below_set ?_ GE481.out) | exact HB.out)))); have n8_ := Aside0.mk (blk_below (g := gb451) (o := .cells #[.slice A0_0 l0_0.length c0_0, .slice A0_1 l0_1.length c0_1] 25 (0, 0)) (by (with_reducible repeat (first | refine blk_drewN ?_ _ | refine blk_drew ?_ | refine blk_alloc ?_ _)); exact BK451.out) hb); have n9_ := Aside0.mk (blk_below (g := gb466) (o := .cells #[.slice Ao22 t459.length co22, .slice Ao25 t462.length co25] 29 (0, 0)) (by (with_reducible repeat (first | refine blk_drewN ?_ _ | refine blk_drew ?_ | refine blk_alloc ?_ _)); exact BK466.out) hb); have n10_ := Aside0.mk (blk_below (g := gb473) (o := .cells #[.slice Ao29 t491.length co29, .slice Ao33 t492.length co33] 29 (0, 0)) (by (with_reducible repeat (first | refine blk_drewN ?_ _ | refine blk_drew ?_ | refine blk_alloc ?_ _)); exact BK473.out) hb); have n11_ := Aside0.mk (blk_below (g := gb481) (o := .cells #[.slice Ao36 t474.length co36, .slice Ao41 t477.length co41] 29 (0, 0)) (by (with_reducible repeat (first | refine blk_drewN ?_ _ | refine blk_drew ?_ | refine blk_alloc ?_ _)); exact BK481.out) hb); have n12_ := Aside0.mk (below_step (by repeat (first | (with_reducible first | exact HB.out | apply below_alloc | apply pw_below_drewN | apply below_drew1 | refine below_set ?_ GE451.out | refine below_set ?_ GE466.out | refine below_set ?_ GE473.out | refine below_set ?_ GE481.out) | exact HB.out)) hb); clear HO_467000; clear HO_467001; clear HO_474000; clear HO_474001; clear HO_482000; clear HO_482001; clear BK451; clear BK466; clear BK473; clear BK481; clear HB; have HO_467000 := n0_; have HO_467001 := n1_; have HO_474000 := n2_; have HO_474001 := n3_; have HO_482000 := n4_; have HO_482001 := n5_; have HO500 := n6_; have HO503 := n7_; have BK451 := n8_; have BK466 := n9_; have BK473 := n10_; have BK481 := n11_; have HB := n12_; clear n0_ n1_ n2_ n3_ n4_ n5_ n6_ n7_ n8_ n9_ n10_ n11_ n12_; (try clear hb); (try clear hb2); (try clear hk); (try clear hi); (try clear ho0); (try clear ho1); obtain ⟨Ao121, co121, eo121⟩ := Kd.R_slice HO500.out; subst eo121; obtain ⟨Ao122, co122, eo122⟩ := Kd.R_slice HO503.out; subst eo122) | ((with_reducible refine gate_callee (f := 19) rfl ?_); refine goesL_ (some 81) rfl rfl Try.func19 (by kernel_rfl) rfl #[.agg #[.slice Ao121 t498.length co121, .slice Ao122 t501.length co122], .int .i64 a1] rfl (by (try simp only [List.map_toArray, List.map_cons, List.map_nil]); first | done | rfl | (simp only [List.length_drop, List.length_take]; rfl)) ?_; (with_reducible refine (impl_LandOne.calls kj64 _ _ t498 _ _ t501 a1 t504 t507 t510 _ ?side1 ?side2 ?side3 ?side4 A108.out).mono ?_); (case side1 => repeat (first | exact (Kd.R_reads' HO500.out).2.2 | (with_reducible refine Kd.C_alloc ?_ _) | (with_reducible refine Kd.C_drewN ?_ _) | (with_reducible refine Kd.C_drew ?_))); (case side2 => exact (Kd.R_reads' HO500.out).2.1); (case side3 => repeat (first | exact (Kd.R_reads' HO503.out).2.2 | (with_reducible refine Kd.C_alloc ?_ _) | (with_reducible refine Kd.C_drewN ?_ _) | (with_reducible refine Kd.C_drew ?_))); (case side4 => exact (Kd.R_reads' HO503.out).2.1); rintro e w123 ⟨v505, v508, rfl, ho0, ho1, hb⟩; refine ⟨_, rfl, ?_⟩; have n0_ := Aside0.mk (Kd.R_elder' (by (with_reducible repeat (first | apply Kd.R_alloc | apply Kd.R_drewN | apply Kd.R_drew)); exact HO_467000.out) (Kd.R_base ho0) hb); have n1_ := Aside0.mk (Kd.R_elder' (by (with_reducible repeat (first | apply Kd.R_alloc | apply Kd.R_drewN | apply Kd.R_drew)); exact HO_467001.out) (Kd.R_base ho1) hb); have n2_ := Aside0.mk (Kd.R_elder' (by (with_reducible repeat (first | apply Kd.R_alloc | apply Kd.R_drewN | apply Kd.R_drew)); exact HO_474000.out) (Kd.R_base ho0) hb); have n3_ := Aside0.mk (Kd.R_elder' (by (with_reducible repeat (first | apply Kd.R_alloc | apply Kd.R_drewN | apply Kd.R_drew)); exact HO_474001.out) (Kd.R_base ho1) hb); have n4_ := Aside0.mk (Kd.R_elder' (by (with_reducible repeat (first | apply Kd.R_alloc | apply Kd.R_drewN | apply Kd.R_drew)); exact HO_482000.out) (Kd.R_base ho0) hb); have n5_ := Aside0.mk (Kd.R_elder' (by (with_reducible repeat (first | apply Kd.R_alloc | apply Kd.R_drewN | apply Kd.R_drew)); exact HO_482001.out) (Kd.R_base ho1) hb); have n6_ := Aside0.mk (Kd.R_elder' (by (with_reducible repeat (first | apply Kd.R_alloc | apply Kd.R_drewN | apply Kd.R_drew)); exact HO500.out) (Kd.R_base ho0) hb); have n7_ := Aside0.mk (Kd.R_elder' (by (with_reducible repeat (first | apply Kd.R_alloc | apply Kd.R_drewN | apply Kd.R_drew)); exact HO503.out) (Kd.R_base ho1) hb); have n8_ := Aside0.mk (Kd.R_lower (Kd.R_new' (Kd.R_new' (Kd.R_new' (Kd.R_new' ho0 (Kd.R_lt (by (with_reducible repeat (first | apply Kd.R_alloc | apply Kd.R_drewN | apply Kd.R_drew)); exact HO_467000.out))) (Kd.R_lt (by (with_reducible repeat (first | apply Kd.R_alloc | apply Kd.R_drewN | apply Kd.R_drew)); exact HO_474000.out))) (Kd.R_lt (by (with_reducible repeat (first | apply Kd.R_alloc | apply Kd.R_drewN | apply Kd.R_drew)); exact HO_482000.out))) (Kd.R_lt (by (with_reducible repeat (first | apply Kd.R_alloc | apply Kd.R_drewN | apply Kd.R_drew)); exact HO500.out))) (below_size (by repeat (first | (with_reducible first | exact HB.out | apply below_alloc | apply pw_below_drewN | apply below_drew1 | refine below_set ?_ GE451.out | refine below_set ?_ GE466.out | refine below_set ?_ GE473.out | refine below_set ?_ GE481.out) | exact HB.out)))); have n9_ := Aside0.mk (Kd.R_lower (Kd.R_new' (Kd.R_new' (Kd.R_new' (Kd.R_new' ho1 (Kd.R_lt (by (with_reducible repeat (first | apply Kd.R_alloc | apply Kd.R_drewN | apply Kd.R_drew)); exact HO_467001.out))) (Kd.R_lt (by (with_reducible repeat (first | apply Kd.R_alloc | apply Kd.R_drewN | apply Kd.R_drew)); exact HO_474001.out))) (Kd.R_lt (by (with_reducible repeat (first | apply Kd.R_alloc | apply Kd.R_drewN | apply Kd.R_drew)); exact HO_482001.out))) (Kd.R_lt (by (with_reducible repeat (first | apply Kd.R_alloc | apply Kd.R_drewN | apply Kd.R_drew)); exact HO503.out))) (below_size (by repeat (first | (with_reducible first | exact HB.out | apply below_alloc | apply pw_below_drewN | apply below_drew1 | refine below_set ?_ GE451.out | refine below_set ?_ GE466.out | refine below_set ?_ GE473.out | refine below_set ?_ GE481.out) | exact HB.out)))); have n10_ := Aside0.mk (blk_below (g := gb451) (o := .cells #[.slice A0_0 l0_0.length c0_0, .slice A0_1 l0_1.length c0_1] 25 (0, 0)) (by (with_reducible repeat (first | refine blk_drewN ?_ _ | refine blk_drew ?_ | refine blk_alloc ?_ _)); exact BK451.out) hb); have n11_ := Aside0.mk (blk_below (g := gb466) (o := .cells #[.slice Ao22 t459.length co22, .slice Ao25 t462.length co25] 29 (0, 0)) (by (with_reducible repeat (first | refine blk_drewN ?_ _ | refine blk_drew ?_ | refine blk_alloc ?_ _)); exact BK466.out) hb); have n12_ := Aside0.mk (blk_below (g := gb473) (o := .cells #[.slice Ao29 t491.length co29, .slice Ao33 t492.length co33] 29 (0, 0)) (by (with_reducible repeat (first | refine blk_drewN ?_ _ | refine blk_drew ?_ | refine blk_alloc ?_ _)); exact BK473.out) hb); have n13_ := Aside0.mk (blk_below (g := gb481) (o := .cells #[.slice Ao36 t474.length co36, .slice Ao41 t477.length co41] 29 (0, 0)) (by (with_reducible repeat (first | refine blk_drewN ?_ _ | refine blk_drew ?_ | refine blk_alloc ?_ _)); exact BK481.out) hb); have n14_ := Aside0.mk (below_step (by repeat (first | (with_reducible first | exact HB.out | apply below_alloc | apply pw_below_drewN | apply below_drew1 | refine below_set ?_ GE451.out | refine below_set ?_ GE466.out | refine below_set ?_ GE473.out | refine below_set ?_ GE481.out) | exact HB.out)) hb); clear HO_467000; clear HO_467001; clear HO_474000; clear HO_474001; clear HO_482000; clear HO_482001; clear HO500; clear HO503; clear BK451; clear BK466; clear BK473; clear BK481; clear HB; have HO_467000 := n0_; have HO_467001 := n1_; have HO_474000 := n2_; have HO_474001 := n3_; have HO_482000 := n4_; have HO_482001 := n5_; have HO500 := n6_; have HO503 := n7_; have HO506 := n8_; have HO509 := n9_; have BK451 := n10_; have BK466 := n11_; have BK473 := n12_; have BK481 := n13_; have HB := n14_; clear n0_ n1_ n2_ n3_ n4_ n5_ n6_ n7_ n8_ n9_ n10_ n11_ n12_ n13_ n14_; (try clear hb); (try clear hb2); (try clear hk); (try clear hi); (try clear ho0); (try clear ho1)) | ((with_reducible refine gate_dst (N := 14) rfl ?_); refine box_event ?hg (N := 14) ?hd (cs := #[.slice none 0 0, .slice none 0 0]) (t := 29) ?hr ?_; (case hd => rfl); (case hg => rfl); (case hr => first | (go_simp; done) | (go_simp; rfl)); intro gb511 hg w124 hbox hb; have n0_ := Aside0.mk (Kd.R_below (by (with_reducible repeat (first | apply Kd.R_alloc | apply Kd.R_drewN | apply Kd.R_drew)); exact HO_467000.out) hb); have n1_ := Aside0.mk (Kd.R_below (by (with_reducible repeat (first | apply Kd.R_alloc | apply Kd.R_drewN | apply Kd.R_drew)); exact HO_467001.out) hb); have n2_ := Aside0.mk (Kd.R_below (by (with_reducible repeat (first | apply Kd.R_alloc | apply Kd.R_drewN | apply Kd.R_drew)); exact HO_474000.out) hb); have n3_ := Aside0.mk (Kd.R_below (by (with_reducible repeat (first | apply Kd.R_alloc | apply Kd.R_drewN | apply Kd.R_drew)); exact HO_474001.out) hb); have n4_ := Aside0.mk (Kd.R_below (by (with_reducible repeat (first | apply Kd.R_alloc | apply Kd.R_drewN | apply Kd.R_drew)); exact HO_482000.out) hb); have n5_ := Aside0.mk (Kd.R_below (by (with_reducible repeat (first | apply Kd.R_alloc | apply Kd.R_drewN | apply Kd.R_drew)); exact HO_482001.out) hb); have n6_ := Aside0.mk (Kd.R_below (by (with_reducible repeat (first | apply Kd.R_alloc | apply Kd.R_drewN | apply Kd.R_drew)); exact HO500.out) hb); have n7_ := Aside0.mk (Kd.R_below (by (with_reducible repeat (first | apply Kd.R_alloc | apply Kd.R_drewN | apply Kd.R_drew)); exact HO503.out) hb); have n8_ := Aside0.mk (Kd.R_below (by (with_reducible repeat (first | apply Kd.R_alloc | apply Kd.R_drewN | apply Kd.R_drew)); exact HO506.out) hb); have n9_ := Aside0.mk (Kd.R_below (by (with_reducible repeat (first | apply Kd.R_alloc | apply Kd.R_drewN | apply Kd.R_drew)); exact HO509.out) hb); have n10_ := Aside0.mk (blk_below (g := gb451) (o := .cells #[.slice A0_0 l0_0.length c0_0, .slice A0_1 l0_1.length c0_1] 25 (0, 0)) (by (with_reducible repeat (first | refine blk_drewN ?_ _ | refine blk_drew ?_ | refine blk_alloc ?_ _)); exact BK451.out) hb); have n11_ := Aside0.mk (blk_below (g := gb466) (o := .cells #[.slice Ao22 t459.length co22, .slice Ao25 t462.length co25] 29 (0, 0)) (by (with_reducible repeat (first | refine blk_drewN ?_ _ | refine blk_drew ?_ | refine blk_alloc ?_ _)); exact BK466.out) hb); have n12_ := Aside0.mk (blk_below (g := gb473) (o := .cells #[.slice Ao29 t491.length co29, .slice Ao33 t492.length co33] 29 (0, 0)) (by (with_reducible repeat (first | refine blk_drewN ?_ _ | refine blk_drew ?_ | refine blk_alloc ?_ _)); exact BK473.out) hb); have n13_ := Aside0.mk (blk_below (g := gb481) (o := .cells #[.slice Ao36 t474.length co36, .slice Ao41 t477.length co41] 29 (0, 0)) (by (with_reducible repeat (first | refine blk_drewN ?_ _ | refine blk_drew ?_ | refine blk_alloc ?_ _)); exact BK481.out) hb); have n14_ := Aside0.mk (below_step (by repeat (first | (with_reducible first | exact HB.out | apply below_alloc | apply pw_below_drewN | apply below_drew1 | refine below_set ?_ GE451.out | refine below_set ?_ GE466.out | refine below_set ?_ GE473.out | refine below_set ?_ GE481.out) | exact HB.out)) hb); have n15_ := Aside0.mk (hbox); have n16_ := Aside0.mk ((by rw [hg]; exact (below_size (by repeat (first | (with_reducible first | exact HB.out | apply below_alloc | apply pw_below_drewN | apply below_drew1 | refine below_set ?_ GE451.out | refine below_set ?_ GE466.out | refine below_set ?_ GE473.out | refine below_set ?_ GE481.out) | exact HB.out))) : w.heap.size ≤ gb511)); have n17_ := Aside0.mk ((by rw [hg]; exact (below_size (by repeat (first | (with_reducible first | exact HB.out | apply below_alloc | apply pw_below_drewN | apply below_drew1 | refine below_set ?_ GE451.out | refine below_set ?_ GE466.out | refine below_set ?_ GE473.out | refine below_set ?_ GE481.out) | exact HB.out))) : w.heap.size ≤ gb511)); have n18_ := Aside0.mk ((by rw [hg]; exact Nat.ne_of_lt (blk_lt (g := gb451) (o := .cells #[.slice A0_0 l0_0.length c0_0, .slice A0_1 l0_1.length c0_1] 25 (0, 0)) (by (with_reducible repeat (first | refine blk_drewN ?_ _ | refine blk_drew ?_ | refine blk_alloc ?_ _)); exact BK451.out)) : gb451 ≠ gb511)); have n19_ := Aside0.mk ((by rw [hg]; exact Nat.ne_of_gt (blk_lt (g := gb451) (o := .cells #[.slice A0_0 l0_0.length c0_0, .slice A0_1 l0_1.length c0_1] 25 (0, 0)) (by (with_reducible repeat (first | refine blk_drewN ?_ _ | refine blk_drew ?_ | refine blk_alloc ?_ _)); exact BK451.out)) : gb511 ≠ gb451)); have n20_ := Aside0.mk ((by rw [hg]; exact Nat.ne_of_lt (blk_lt (g := gb466) (o := .cells #[.slice Ao22 t459.length co22, .slice Ao25 t462.length co25] 29 (0, 0)) (by (with_reducible repeat (first | refine blk_drewN ?_ _ | refine blk_drew ?_ | refine blk_alloc ?_ _)); exact BK466.out)) : gb466 ≠ gb511)); have n21_ := Aside0.mk ((by rw [hg]; exact Nat.ne_of_gt (blk_lt (g := gb466) (o := .cells #[.slice Ao22 t459.length co22, .slice Ao25 t462.length co25] 29 (0, 0)) (by (with_reducible repeat (first | refine blk_drewN ?_ _ | refine blk_drew ?_ | refine blk_alloc ?_ _)); exact BK466.out)) : gb511 ≠ gb466)); have n22_ := Aside0.mk ((by rw [hg]; exact Nat.ne_of_lt (blk_lt (g := gb473) (o := .cells #[.slice Ao29 t491.length co29, .slice Ao33 t492.length co33] 29 (0, 0)) (by (with_reducible repeat (first | refine blk_drewN ?_ _ | refine blk_drew ?_ | refine blk_alloc ?_ _)); exact BK473.out)) : gb473 ≠ gb511)); have n23_ := Aside0.mk ((by rw [hg]; exact Nat.ne_of_gt (blk_lt (g := gb473) (o := .cells #[.slice Ao29 t491.length co29, .slice Ao33 t492.length co33] 29 (0, 0)) (by (with_reducible repeat (first | refine blk_drewN ?_ _ | refine blk_drew ?_ | refine blk_alloc ?_ _)); exact BK473.out)) : gb511 ≠ gb473)); have n24_ := Aside0.mk ((by rw [hg]; exact Nat.ne_of_lt (blk_lt (g := gb481) (o := .cells #[.slice Ao36 t474.length co36, .slice Ao41 t477.length co41] 29 (0, 0)) (by (with_reducible repeat (first | refine blk_drewN ?_ _ | refine blk_drew ?_ | refine blk_alloc ?_ _)); exact BK481.out)) : gb481 ≠ gb511)); have n25_ := Aside0.mk ((by rw [hg]; exact Nat.ne_of_gt (blk_lt (g := gb481) (o := .cells #[.slice Ao36 t474.length co36, .slice Ao41 t477.length co41] 29 (0, 0)) (by (with_reducible repeat (first | refine blk_drewN ?_ _ | refine blk_drew ?_ | refine blk_alloc ?_ _)); exact BK481.out)) : gb511 ≠ gb481)); clear HO_467000; clear HO_467001; clear HO_474000; clear HO_474001; clear HO_482000; clear HO_482001; clear HO500; clear HO503; clear HO506; clear HO509; clear BK451; clear BK466; clear BK473; clear BK481; clear HB; have HO_467000 := n0_; have HO_467001 := n1_; have HO_474000 := n2_; have HO_474001 := n3_; have HO_482000 := n4_; have HO_482001 := n5_; have HO500 := n6_; have HO503 := n7_; have HO506 := n8_; have HO509 := n9_; have BK451 := n10_; have BK466 := n11_; have BK473 := n12_; have BK481 := n13_; have HB := n14_; have BK511 := n15_; have GW511 := n16_; have GE511 := n17_; have NB451_511 := n18_; have NB511_451 := n19_; have NB466_511 := n20_; have NB511_466 := n21_; have NB473_511 := n22_; have NB511_473 := n23_; have NB481_511 := n24_; have NB511_481 := n25_; clear n0_ n1_ n2_ n3_ n4_ n5_ n6_ n7_ n8_ n9_ n10_ n11_ n12_ n13_ n14_ n15_ n16_ n17_ n18_ n19_ n20_ n21_ n22_ n23_ n24_ n25_; clear hb hbox hg; obtain ⟨Ao125, co125, eo125⟩ := Kd.R_slice HO506.out; subst eo125; have hnb126 := NB511_451.out; have hnc126 := NB451_511.out; have hnb127 := NB511_466.out; have hnc127 := NB466_511.out; have hnb128 := NB511_473.out; have hnc128 := NB473_511.out; have hnb129 := NB511_481.out; have hnc129 := NB481_511.out; have hcz130_0 : w124.cell? ⟨gb511, 0, none⟩ = some (.slice none 0 0) := (blk_cell BK511.out 0).trans rfl; have hcz130_1 : w124.cell? ⟨gb511, 1, none⟩ = some (.slice none 0 0) := (blk_cell BK511.out 1).trans rfl; have hfz130_0 := blk_frozen BK511.out 0; have hfz130_1 := blk_frozen BK511.out 1; obtain ⟨Ao131, co131, eo131⟩ := Kd.R_slice HO509.out; subst eo131))
           (try simp only [Act.put, List.setIfInBounds_toArray, List.set_cons_zero, List.set_cons_succ])
           go_cut [92] (fun v92 wc => ∃ (kq : Nat) (x92_108 : Bool), v92 = .bool x92_108 ∧ Aside0 (laws_FnExactLandOne.j2 kq t494 x92_108 t495 t496 = some r) ∧ Aside0 (kq ≤ kj64) ∧ Aside0 (Kd.R Kd.string 9 wc w.heap.size (fun k_ => some k_ ≠ ((.slice Ao29 t491.length co29) : Value).ownBlock ∧ some k_ ≠ ((.slice Ao36 t474.length co36) : Value).ownBlock ∧ some k_ ≠ ((.slice Ao125 t504.length co125) : Value).ownBlock) (.slice Ao22 t459.length co22) t459) ∧ Aside0 (Kd.R k76 76 wc w.heap.size (fun k_ => some k_ ≠ ((.slice Ao33 t492.length co33) : Value).ownBlock ∧ some k_ ≠ ((.slice Ao41 t477.length co41) : Value).ownBlock ∧ some k_ ≠ ((.slice Ao131 t507.length co131) : Value).ownBlock) (.slice Ao25 t462.length co25) t462) ∧ Aside0 (Kd.R Kd.string 9 wc w.heap.size (fun k_ => some k_ ≠ ((.slice Ao22 t459.length co22) : Value).ownBlock ∧ some k_ ≠ ((.slice Ao36 t474.length co36) : Value).ownBlock ∧ some k_ ≠ ((.slice Ao125 t504.length co125) : Value).ownBlock) (.slice Ao29 t491.length co29) t491) ∧ Aside0 (Kd.R k76 76 wc w.heap.size (fun k_ => some k_ ≠ ((.slice Ao25 t462.length co25) : Value).ownBlock ∧ some k_ ≠ ((.slice Ao41 t477.length co41) : Value).ownBlock ∧ some k_ ≠ ((.slice Ao131 t507.length co131) : Value).ownBlock) (.slice Ao33 t492.length co33) t492) ∧ Aside0 (Kd.R Kd.string 9 wc w.heap.size (fun k_ => some k_ ≠ ((.slice Ao22 t459.length co22) : Value).ownBlock ∧ some k_ ≠ ((.slice Ao29 t491.length co29) : Value).ownBlock ∧ some k_ ≠ ((.slice Ao125 t504.length co125) : Value).ownBlock) (.slice Ao36 t474.length co36) t495) ∧ Aside0 (Kd.R k76 76 wc w.heap.size (fun k_ => some k_ ≠ ((.slice Ao25 t462.length co25) : Value).ownBlock ∧ some k_ ≠ ((.slice Ao33 t492.length co33) : Value).ownBlock ∧ some k_ ≠ ((.slice Ao131 t507.length co131) : Value).ownBlock) (.slice Ao41 t477.length co41) t496) ∧ Aside0 (Kd.R Kd.string 9 wc w.heap.size (fun k_ => some k_ ≠ ((.slice Ao22 t459.length co22) : Value).ownBlock ∧ some k_ ≠ ((.slice Ao29 t491.length co29) : Value).ownBlock ∧ some k_ ≠ ((.slice Ao36 t474.length co36) : Value).ownBlock) (.slice Ao125 t504.length co125) t504) ∧ Aside0 (Kd.R k76 76 wc w.heap.size (fun k_ => some k_ ≠ ((.slice Ao25 t462.length co25) : Value).ownBlock ∧ some k_ ≠ ((.slice Ao33 t492.length co33) : Value).ownBlock ∧ some k_ ≠ ((.slice Ao41 t477.length co41) : Value).ownBlock) (.slice Ao131 t507.length co131) t507) ∧ Aside0 (wc.heap[gb451]? = some (.cells #[(.slice A0_0 l0_0.length c0_0), (.slice A0_1 l0_1.length c0_1)] 25 (0, 0))) ∧ Aside0 (wc.heap[gb466]? = some (.cells #[(.slice Ao22 t459.length co22), (.slice Ao25 t462.length co25)] 29 (0, 0))) ∧ Aside0 (wc.heap[gb473]? = some (.cells #[(.slice Ao29 t491.length co29), (.slice Ao33 t492.length co33)] 29 (0, 0))) ∧ Aside0 (wc.heap[gb481]? = some (.cells #[(.slice Ao36 t474.length co36), (.slice Ao41 t477.length co41)] 29 (0, 0))) ∧ Aside0 (wc.heap[gb511]? = some (.cells #[(.slice Ao125 t504.length co125), (.slice Ao131 t507.length co131)] 29 (0, 0))) ∧ Aside0 (Below w.heap.size w wc))
           case first =>
            have H := HC109.out
            clear HC109
            replace H := Option.bind_eq_some_iff.mp H
            obtain ⟨t512, A1320, H⟩ := H
            replace H : (if t512 = true then (laws_FnExactLandOne.j2 kj64 t494 (t510 != t465) t495 t496) else (laws_FnExactLandOne.j2 kj64 t494 true t495 t496)) = some r := H
            have A132 := Aside0.mk A1320
            clear A1320
            by_cases c133 : t512 = true
            ·subst c133
             have H1 : (laws_FnExactLandOne.j2 kj64 t494 (t510 != t465) t495 t496) = some r := by rw [if_pos rfl] at H; exact H
             clear H
             have H := H1
             clear H1
             have H' := Aside0.mk H
             clear H
             have hnb134 := NB511_451.out
             have hnc134 := NB451_511.out
             have hnb135 := NB511_466.out
             have hnc135 := NB466_511.out
             have hnb136 := NB511_473.out
             have hnc136 := NB473_511.out
             have hnb137 := NB511_481.out
             have hnc137 := NB481_511.out
             have hcz138_0 : w124.cell? ⟨gb511, 0, none⟩ = some (.slice none 0 0) := (blk_cell BK511.out 0).trans rfl
             have hcz138_1 : w124.cell? ⟨gb511, 1, none⟩ = some (.slice none 0 0) := (blk_cell BK511.out 1).trans rfl
             have hfz138_0 := blk_frozen BK511.out 0
             have hfz138_1 := blk_frozen BK511.out 1
             have hnb139 := NB466_451.out
             have hnc139 := NB451_466.out
             have hnb140 := NB466_473.out
             have hnc140 := NB473_466.out
             have hnb141 := NB466_481.out
             have hnc141 := NB481_466.out
             have hcz142_0 : w124.cell? ⟨gb466, 0, none⟩ = some (.slice Ao22 t459.length co22) := (blk_cell BK466.out 0).trans rfl
             have hcz142_1 : w124.cell? ⟨gb466, 1, none⟩ = some (.slice Ao25 t462.length co25) := (blk_cell BK466.out 1).trans rfl
             have hfz142_0 := blk_frozen BK466.out 0
             have hfz142_1 := blk_frozen BK466.out 1
             go_wp2_with (first | ((with_reducible refine gate_callee (f := 13) rfl ?_); refine goesL_ (some 86) rfl rfl Try.func13 (by kernel_rfl) rfl #[.agg #[.slice Ao125 t504.length co125, .slice Ao131 t507.length co131], .agg #[.slice Ao22 t459.length co22, .slice Ao25 t462.length co25]] rfl (by (try simp only [List.map_toArray, List.map_cons, List.map_nil]); first | done | rfl | (simp only [List.length_drop, List.length_take]; rfl)) ?_; (with_reducible refine (laws_eqDisk.calls kj64 _ _ t504 _ _ t507 _ _ t459 _ _ t462 true _ ?side1 ?side2 ?side3 ?side4 ?side5 ?side6 ?side7 ?side8 A132.out).mono ?_); (case side1 => refine (Kd.R_reads' (e := 9) (base := w.heap.size) (ok := fun k_ => ((((True ∧ some k_ ≠ (.slice Ao22 t459.length co22 : Value).ownBlock) ∧ some k_ ≠ (.slice Ao29 t491.length co29 : Value).ownBlock) ∧ some k_ ≠ (.slice Ao36 t474.length co36 : Value).ownBlock) ∧ some k_ ≠ (.slice Ao121 t498.length co121 : Value).ownBlock)) (n := t504.length) (c := co125) ?_).2.2; exact (by (with_reducible repeat (first | apply Kd.R_alloc | apply Kd.R_drewN | apply Kd.R_drew)); exact (Kd.R_mono (Kd.R_far (p := ⟨gb511, 1, none⟩) (Kd.R_far (p := ⟨gb511, 0, none⟩) (Kd.R_types HO506.out BK511.out (by decide)) (fun _ hk => hk.2) (.slice Ao125 t504.length co125)) (fun _ hk => hk.2) (.slice Ao131 t507.length co131)) (fun _ h_ => h_.1)))); (case side2 => exact (Kd.R_reads' HO506.out).2.1); (case side3 => refine (Kd.R_reads' (e := 76) (base := w.heap.size) (ok := fun k_ => ((((True ∧ some k_ ≠ (.slice Ao25 t462.length co25 : Value).ownBlock) ∧ some k_ ≠ (.slice Ao33 t492.length co33 : Value).ownBlock) ∧ some k_ ≠ (.slice Ao41 t477.length co41 : Value).ownBlock) ∧ some k_ ≠ (.slice Ao122 t501.length co122 : Value).ownBlock)) (n := t507.length) (c := co131) ?_).2.2; exact (by (with_reducible repeat (first | apply Kd.R_alloc | apply Kd.R_drewN | apply Kd.R_drew)); exact (Kd.R_mono (Kd.R_far (p := ⟨gb511, 1, none⟩) (Kd.R_far (p := ⟨gb511, 0, none⟩) (Kd.R_types HO509.out BK511.out (by decide)) (fun _ hk => hk.2) (.slice Ao125 t504.length co125)) (fun _ hk => hk.2) (.slice Ao131 t507.length co131)) (fun _ h_ => h_.1)))); (case side4 => exact (Kd.R_reads' HO509.out).2.1); (case side5 => refine (Kd.R_reads' (e := 9) (base := w.heap.size) (ok := fun k_ => (((some k_ ≠ (.slice Ao29 t491.length co29 : Value).ownBlock ∧ some k_ ≠ (.slice Ao36 t474.length co36 : Value).ownBlock) ∧ some k_ ≠ (.slice Ao121 t498.length co121 : Value).ownBlock) ∧ some k_ ≠ (.slice Ao125 t504.length co125 : Value).ownBlock)) (n := t459.length) (c := co22) ?_).2.2; exact (by (with_reducible repeat (first | apply Kd.R_alloc | apply Kd.R_drewN | apply Kd.R_drew)); exact (Kd.R_mono (Kd.R_far (p := ⟨gb511, 1, none⟩) (Kd.R_far (p := ⟨gb511, 0, none⟩) (Kd.R_types HO_467000.out BK511.out (by decide)) (fun _ hk => hk.2) (.slice Ao125 t504.length co125)) (fun _ hk => hk.2) (.slice Ao131 t507.length co131)) (fun _ h_ => h_.1)))); (case side6 => exact (Kd.R_reads' HO_467000.out).2.1); (case side7 => refine (Kd.R_reads' (e := 76) (base := w.heap.size) (ok := fun k_ => (((some k_ ≠ (.slice Ao33 t492.length co33 : Value).ownBlock ∧ some k_ ≠ (.slice Ao41 t477.length co41 : Value).ownBlock) ∧ some k_ ≠ (.slice Ao122 t501.length co122 : Value).ownBlock) ∧ some k_ ≠ (.slice Ao131 t507.length co131 : Value).ownBlock)) (n := t462.length) (c := co25) ?_).2.2; exact (by (with_reducible repeat (first | apply Kd.R_alloc | apply Kd.R_drewN | apply Kd.R_drew)); exact (Kd.R_mono (Kd.R_far (p := ⟨gb511, 1, none⟩) (Kd.R_far (p := ⟨gb511, 0, none⟩) (Kd.R_types HO_467001.out BK511.out (by decide)) (fun _ hk => hk.2) (.slice Ao125 t504.length co125)) (fun _ hk => hk.2) (.slice Ao131 t507.length co131)) (fun _ h_ => h_.1)))); (case side8 => exact (Kd.R_reads' HO_467001.out).2.1); rintro e w143 ⟨rfl, hb⟩; refine ⟨_, rfl, ?_⟩; have n0_ := Aside0.mk (Kd.R_below (by (with_reducible repeat (first | apply Kd.R_alloc | apply Kd.R_drewN | apply Kd.R_drew)); exact (Kd.R_mono (Kd.R_far (p := ⟨gb511, 1, none⟩) (Kd.R_far (p := ⟨gb511, 0, none⟩) (Kd.R_types HO_467000.out BK511.out (by decide)) (fun _ hk => hk.2) (.slice Ao125 t504.length co125)) (fun _ hk => hk.2) (.slice Ao131 t507.length co131)) (fun _ h_ => h_.1))) hb); have n1_ := Aside0.mk (Kd.R_below (by (with_reducible repeat (first | apply Kd.R_alloc | apply Kd.R_drewN | apply Kd.R_drew)); exact (Kd.R_mono (Kd.R_far (p := ⟨gb511, 1, none⟩) (Kd.R_far (p := ⟨gb511, 0, none⟩) (Kd.R_types HO_467001.out BK511.out (by decide)) (fun _ hk => hk.2) (.slice Ao125 t504.length co125)) (fun _ hk => hk.2) (.slice Ao131 t507.length co131)) (fun _ h_ => h_.1))) hb); have n2_ := Aside0.mk (Kd.R_below (by (with_reducible repeat (first | apply Kd.R_alloc | apply Kd.R_drewN | apply Kd.R_drew)); exact (Kd.R_mono (Kd.R_far (p := ⟨gb511, 1, none⟩) (Kd.R_far (p := ⟨gb511, 0, none⟩) (Kd.R_types HO_474000.out BK511.out (by decide)) (fun _ hk => hk.2) (.slice Ao125 t504.length co125)) (fun _ hk => hk.2) (.slice Ao131 t507.length co131)) (fun _ h_ => h_.1))) hb); have n3_ := Aside0.mk (Kd.R_below (by (with_reducible repeat (first | apply Kd.R_alloc | apply Kd.R_drewN | apply Kd.R_drew)); exact (Kd.R_mono (Kd.R_far (p := ⟨gb511, 1, none⟩) (Kd.R_far (p := ⟨gb511, 0, none⟩) (Kd.R_types HO_474001.out BK511.out (by decide)) (fun _ hk => hk.2) (.slice Ao125 t504.length co125)) (fun _ hk => hk.2) (.slice Ao131 t507.length co131)) (fun _ h_ => h_.1))) hb); have n4_ := Aside0.mk (Kd.R_below (by (with_reducible repeat (first | apply Kd.R_alloc | apply Kd.R_drewN | apply Kd.R_drew)); exact (Kd.R_mono (Kd.R_far (p := ⟨gb511, 1, none⟩) (Kd.R_far (p := ⟨gb511, 0, none⟩) (Kd.R_types HO_482000.out BK511.out (by decide)) (fun _ hk => hk.2) (.slice Ao125 t504.length co125)) (fun _ hk => hk.2) (.slice Ao131 t507.length co131)) (fun _ h_ => h_.1))) hb); have n5_ := Aside0.mk (Kd.R_below (by (with_reducible repeat (first | apply Kd.R_alloc | apply Kd.R_drewN | apply Kd.R_drew)); exact (Kd.R_mono (Kd.R_far (p := ⟨gb511, 1, none⟩) (Kd.R_far (p := ⟨gb511, 0, none⟩) (Kd.R_types HO_482001.out BK511.out (by decide)) (fun _ hk => hk.2) (.slice Ao125 t504.length co125)) (fun _ hk => hk.2) (.slice Ao131 t507.length co131)) (fun _ h_ => h_.1))) hb); have n6_ := Aside0.mk (Kd.R_below (by (with_reducible repeat (first | apply Kd.R_alloc | apply Kd.R_drewN | apply Kd.R_drew)); exact (Kd.R_mono (Kd.R_far (p := ⟨gb511, 1, none⟩) (Kd.R_far (p := ⟨gb511, 0, none⟩) (Kd.R_types HO500.out BK511.out (by decide)) (fun _ hk => hk.2) (.slice Ao125 t504.length co125)) (fun _ hk => hk.2) (.slice Ao131 t507.length co131)) (fun _ h_ => h_.1))) hb); have n7_ := Aside0.mk (Kd.R_below (by (with_reducible repeat (first | apply Kd.R_alloc | apply Kd.R_drewN | apply Kd.R_drew)); exact (Kd.R_mono (Kd.R_far (p := ⟨gb511, 1, none⟩) (Kd.R_far (p := ⟨gb511, 0, none⟩) (Kd.R_types HO503.out BK511.out (by decide)) (fun _ hk => hk.2) (.slice Ao125 t504.length co125)) (fun _ hk => hk.2) (.slice Ao131 t507.length co131)) (fun _ h_ => h_.1))) hb); have n8_ := Aside0.mk (Kd.R_below (by (with_reducible repeat (first | apply Kd.R_alloc | apply Kd.R_drewN | apply Kd.R_drew)); exact (Kd.R_mono (Kd.R_far (p := ⟨gb511, 1, none⟩) (Kd.R_far (p := ⟨gb511, 0, none⟩) (Kd.R_types HO506.out BK511.out (by decide)) (fun _ hk => hk.2) (.slice Ao125 t504.length co125)) (fun _ hk => hk.2) (.slice Ao131 t507.length co131)) (fun _ h_ => h_.1))) hb); have n9_ := Aside0.mk (Kd.R_below (by (with_reducible repeat (first | apply Kd.R_alloc | apply Kd.R_drewN | apply Kd.R_drew)); exact (Kd.R_mono (Kd.R_far (p := ⟨gb511, 1, none⟩) (Kd.R_far (p := ⟨gb511, 0, none⟩) (Kd.R_types HO509.out BK511.out (by decide)) (fun _ hk => hk.2) (.slice Ao125 t504.length co125)) (fun _ hk => hk.2) (.slice Ao131 t507.length co131)) (fun _ h_ => h_.1))) hb); have n10_ := Aside0.mk (blk_below (g := gb451) (o := .cells #[.slice A0_0 l0_0.length c0_0, .slice A0_1 l0_1.length c0_1] 25 (0, 0)) (by (with_reducible repeat (first | refine blk_drewN ?_ _ | refine blk_drew ?_ | refine blk_alloc ?_ _)); refine blk_far ?_ NB451_511.out _; (with_reducible repeat (first | refine blk_drewN ?_ _ | refine blk_drew ?_ | refine blk_alloc ?_ _)); refine blk_far ?_ NB451_511.out _; (with_reducible repeat (first | refine blk_drewN ?_ _ | refine blk_drew ?_ | refine blk_alloc ?_ _)); exact BK451.out) hb); have n11_ := Aside0.mk (blk_below (g := gb466) (o := .cells #[.slice Ao22 t459.length co22, .slice Ao25 t462.length co25] 29 (0, 0)) (by (with_reducible repeat (first | refine blk_drewN ?_ _ | refine blk_drew ?_ | refine blk_alloc ?_ _)); refine blk_far ?_ NB466_511.out _; (with_reducible repeat (first | refine blk_drewN ?_ _ | refine blk_drew ?_ | refine blk_alloc ?_ _)); refine blk_far ?_ NB466_511.out _; (with_reducible repeat (first | refine blk_drewN ?_ _ | refine blk_drew ?_ | refine blk_alloc ?_ _)); exact BK466.out) hb); have n12_ := Aside0.mk (blk_below (g := gb473) (o := .cells #[.slice Ao29 t491.length co29, .slice Ao33 t492.length co33] 29 (0, 0)) (by (with_reducible repeat (first | refine blk_drewN ?_ _ | refine blk_drew ?_ | refine blk_alloc ?_ _)); refine blk_far ?_ NB473_511.out _; (with_reducible repeat (first | refine blk_drewN ?_ _ | refine blk_drew ?_ | refine blk_alloc ?_ _)); refine blk_far ?_ NB473_511.out _; (with_reducible repeat (first | refine blk_drewN ?_ _ | refine blk_drew ?_ | refine blk_alloc ?_ _)); exact BK473.out) hb); have n13_ := Aside0.mk (blk_below (g := gb481) (o := .cells #[.slice Ao36 t474.length co36, .slice Ao41 t477.length co41] 29 (0, 0)) (by (with_reducible repeat (first | refine blk_drewN ?_ _ | refine blk_drew ?_ | refine blk_alloc ?_ _)); refine blk_far ?_ NB481_511.out _; (with_reducible repeat (first | refine blk_drewN ?_ _ | refine blk_drew ?_ | refine blk_alloc ?_ _)); refine blk_far ?_ NB481_511.out _; (with_reducible repeat (first | refine blk_drewN ?_ _ | refine blk_drew ?_ | refine blk_alloc ?_ _)); exact BK481.out) hb); have n14_ := Aside0.mk (blk_below (g := gb511) (o := .cells #[.slice Ao125 t504.length co125, .slice Ao131 t507.length co131] 29 (0, 0)) (by (with_reducible repeat (first | refine blk_drewN ?_ _ | refine blk_drew ?_ | refine blk_alloc ?_ _)); refine blk_put (cs := #[.slice Ao125 t504.length co125, .slice none 0 0]) ?_ 1 _ rfl; (with_reducible repeat (first | refine blk_drewN ?_ _ | refine blk_drew ?_ | refine blk_alloc ?_ _)); refine blk_put (cs := #[.slice none 0 0, .slice none 0 0]) ?_ 0 _ rfl; (with_reducible repeat (first | refine blk_drewN ?_ _ | refine blk_drew ?_ | refine blk_alloc ?_ _)); exact BK511.out) hb); have n15_ := Aside0.mk (below_step (by repeat (first | (with_reducible first | exact HB.out | apply below_alloc | apply pw_below_drewN | apply below_drew1 | refine below_set ?_ GE451.out | refine below_set ?_ GE466.out | refine below_set ?_ GE473.out | refine below_set ?_ GE481.out | refine below_set ?_ GE511.out) | exact HB.out)) hb); clear HO_467000; clear HO_467001; clear HO_474000; clear HO_474001; clear HO_482000; clear HO_482001; clear HO500; clear HO503; clear HO506; clear HO509; clear BK451; clear BK466; clear BK473; clear BK481; clear BK511; clear HB; have HO_467000 := n0_; have HO_467001 := n1_; have HO_474000 := n2_; have HO_474001 := n3_; have HO_482000 := n4_; have HO_482001 := n5_; have HO500 := n6_; have HO503 := n7_; have HO506 := n8_; have HO509 := n9_; have BK451 := n10_; have BK466 := n11_; have BK473 := n12_; have BK481 := n13_; have BK511 := n14_; have HB := n15_; clear n0_ n1_ n2_ n3_ n4_ n5_ n6_ n7_ n8_ n9_ n10_ n11_ n12_ n13_ n14_ n15_; (try clear hb); (try clear hb2); (try clear hk); (try clear hi)))
             go_meet
             case rel => exact ⟨_, ((t510 != t465)), (by first | rfl | (simp; done) | (simp [*]; done)), H', ⟨by have := HJ11.out; have := HJ64.out; first | omega | exact Nat.le_refl _⟩, ⟨by (try simp only [hl474000_64]); (try simp only [hl474001_64]); (with_reducible repeat (first | apply Kd.R_alloc | apply Kd.R_drewN | apply Kd.R_drew)); exact Kd.R_mono HO_467000.out (fun _ hk => ⟨hk.1.1.1, ⟨hk.1.1.2, hk.2⟩⟩)⟩, ⟨by (try simp only [hl474000_64]); (try simp only [hl474001_64]); (with_reducible repeat (first | apply Kd.R_alloc | apply Kd.R_drewN | apply Kd.R_drew)); exact Kd.R_mono HO_467001.out (fun _ hk => ⟨hk.1.1.1, ⟨hk.1.1.2, hk.2⟩⟩)⟩, ⟨by (try simp only [hl474000_64]); (try simp only [hl474001_64]); (with_reducible repeat (first | apply Kd.R_alloc | apply Kd.R_drewN | apply Kd.R_drew)); exact Kd.R_mono HO_474000.out (fun _ hk => ⟨hk.1.1.1, ⟨hk.1.1.2, hk.2⟩⟩)⟩, ⟨by (try simp only [hl474000_64]); (try simp only [hl474001_64]); (with_reducible repeat (first | apply Kd.R_alloc | apply Kd.R_drewN | apply Kd.R_drew)); exact Kd.R_mono HO_474001.out (fun _ hk => ⟨hk.1.1.1, ⟨hk.1.1.2, hk.2⟩⟩)⟩, ⟨by (try simp only [hl474000_64]); (try simp only [hl474001_64]); (with_reducible repeat (first | apply Kd.R_alloc | apply Kd.R_drewN | apply Kd.R_drew)); exact Kd.R_mono HO_482000.out (fun _ hk => ⟨hk.1.1.1, ⟨hk.1.1.2, hk.2⟩⟩)⟩, ⟨by (try simp only [hl474000_64]); (try simp only [hl474001_64]); (with_reducible repeat (first | apply Kd.R_alloc | apply Kd.R_drewN | apply Kd.R_drew)); exact Kd.R_mono HO_482001.out (fun _ hk => ⟨hk.1.1.1, ⟨hk.1.1.2, hk.2⟩⟩)⟩, ⟨by (try simp only [hl474000_64]); (try simp only [hl474001_64]); (with_reducible repeat (first | apply Kd.R_alloc | apply Kd.R_drewN | apply Kd.R_drew)); exact Kd.R_mono HO506.out (fun _ hk => ⟨hk.1.1.1.2, ⟨hk.1.1.2, hk.1.2⟩⟩)⟩, ⟨by (try simp only [hl474000_64]); (try simp only [hl474001_64]); (with_reducible repeat (first | apply Kd.R_alloc | apply Kd.R_drewN | apply Kd.R_drew)); exact Kd.R_mono HO509.out (fun _ hk => ⟨hk.1.1.1.2, ⟨hk.1.1.2, hk.1.2⟩⟩)⟩, ⟨by (try simp only [hl474000_64]); (try simp only [hl474001_64]); (with_reducible repeat (first | refine blk_drewN ?_ _ | refine blk_drew ?_ | refine blk_alloc ?_ _)); exact BK451.out⟩, ⟨by (try simp only [hl474000_64]); (try simp only [hl474001_64]); (with_reducible repeat (first | refine blk_drewN ?_ _ | refine blk_drew ?_ | refine blk_alloc ?_ _)); exact BK466.out⟩, ⟨by (try simp only [hl474000_64]); (try simp only [hl474001_64]); (with_reducible repeat (first | refine blk_drewN ?_ _ | refine blk_drew ?_ | refine blk_alloc ?_ _)); exact BK473.out⟩, ⟨by (try simp only [hl474000_64]); (try simp only [hl474001_64]); (with_reducible repeat (first | refine blk_drewN ?_ _ | refine blk_drew ?_ | refine blk_alloc ?_ _)); exact BK481.out⟩, ⟨by (try simp only [hl474000_64]); (try simp only [hl474001_64]); (with_reducible repeat (first | refine blk_drewN ?_ _ | refine blk_drew ?_ | refine blk_alloc ?_ _)); exact BK511.out⟩, ⟨by repeat (first | (with_reducible first | exact HB.out | apply below_alloc | apply pw_below_drewN | apply below_drew1 | refine below_set ?_ GE451.out | refine below_set ?_ GE466.out | refine below_set ?_ GE473.out | refine below_set ?_ GE481.out | refine below_set ?_ GE511.out) | exact HB.out)⟩⟩
            ·replace c133 := Bool.eq_false_iff.mpr c133
             subst c133
             have H1 : (laws_FnExactLandOne.j2 kj64 t494 true t495 t496) = some r := by rw [if_neg (show ¬ (false = true) by decide)] at H; exact H
             clear H
             have H := H1
             clear H1
             have H' := Aside0.mk H
             clear H
             have hnb144 := NB511_451.out
             have hnc144 := NB451_511.out
             have hnb145 := NB511_466.out
             have hnc145 := NB466_511.out
             have hnb146 := NB511_473.out
             have hnc146 := NB473_511.out
             have hnb147 := NB511_481.out
             have hnc147 := NB481_511.out
             have hcz148_0 : w124.cell? ⟨gb511, 0, none⟩ = some (.slice none 0 0) := (blk_cell BK511.out 0).trans rfl
             have hcz148_1 : w124.cell? ⟨gb511, 1, none⟩ = some (.slice none 0 0) := (blk_cell BK511.out 1).trans rfl
             have hfz148_0 := blk_frozen BK511.out 0
             have hfz148_1 := blk_frozen BK511.out 1
             have hnb149 := NB466_451.out
             have hnc149 := NB451_466.out
             have hnb150 := NB466_473.out
             have hnc150 := NB473_466.out
             have hnb151 := NB466_481.out
             have hnc151 := NB481_466.out
             have hcz152_0 : w124.cell? ⟨gb466, 0, none⟩ = some (.slice Ao22 t459.length co22) := (blk_cell BK466.out 0).trans rfl
             have hcz152_1 : w124.cell? ⟨gb466, 1, none⟩ = some (.slice Ao25 t462.length co25) := (blk_cell BK466.out 1).trans rfl
             have hfz152_0 := blk_frozen BK466.out 0
             have hfz152_1 := blk_frozen BK466.out 1
             go_wp2_with (first | ((with_reducible refine gate_callee (f := 13) rfl ?_); refine goesL_ (some 86) rfl rfl Try.func13 (by kernel_rfl) rfl #[.agg #[.slice Ao125 t504.length co125, .slice Ao131 t507.length co131], .agg #[.slice Ao22 t459.length co22, .slice Ao25 t462.length co25]] rfl (by (try simp only [List.map_toArray, List.map_cons, List.map_nil]); first | done | rfl | (simp only [List.length_drop, List.length_take]; rfl)) ?_; (with_reducible refine (laws_eqDisk.calls kj64 _ _ t504 _ _ t507 _ _ t459 _ _ t462 false _ ?side1 ?side2 ?side3 ?side4 ?side5 ?side6 ?side7 ?side8 A132.out).mono ?_); (case side1 => refine (Kd.R_reads' (e := 9) (base := w.heap.size) (ok := fun k_ => ((((True ∧ some k_ ≠ (.slice Ao22 t459.length co22 : Value).ownBlock) ∧ some k_ ≠ (.slice Ao29 t491.length co29 : Value).ownBlock) ∧ some k_ ≠ (.slice Ao36 t474.length co36 : Value).ownBlock) ∧ some k_ ≠ (.slice Ao121 t498.length co121 : Value).ownBlock)) (n := t504.length) (c := co125) ?_).2.2; exact (by (with_reducible repeat (first | apply Kd.R_alloc | apply Kd.R_drewN | apply Kd.R_drew)); exact (Kd.R_mono (Kd.R_far (p := ⟨gb511, 1, none⟩) (Kd.R_far (p := ⟨gb511, 0, none⟩) (Kd.R_types HO506.out BK511.out (by decide)) (fun _ hk => hk.2) (.slice Ao125 t504.length co125)) (fun _ hk => hk.2) (.slice Ao131 t507.length co131)) (fun _ h_ => h_.1)))); (case side2 => exact (Kd.R_reads' HO506.out).2.1); (case side3 => refine (Kd.R_reads' (e := 76) (base := w.heap.size) (ok := fun k_ => ((((True ∧ some k_ ≠ (.slice Ao25 t462.length co25 : Value).ownBlock) ∧ some k_ ≠ (.slice Ao33 t492.length co33 : Value).ownBlock) ∧ some k_ ≠ (.slice Ao41 t477.length co41 : Value).ownBlock) ∧ some k_ ≠ (.slice Ao122 t501.length co122 : Value).ownBlock)) (n := t507.length) (c := co131) ?_).2.2; exact (by (with_reducible repeat (first | apply Kd.R_alloc | apply Kd.R_drewN | apply Kd.R_drew)); exact (Kd.R_mono (Kd.R_far (p := ⟨gb511, 1, none⟩) (Kd.R_far (p := ⟨gb511, 0, none⟩) (Kd.R_types HO509.out BK511.out (by decide)) (fun _ hk => hk.2) (.slice Ao125 t504.length co125)) (fun _ hk => hk.2) (.slice Ao131 t507.length co131)) (fun _ h_ => h_.1)))); (case side4 => exact (Kd.R_reads' HO509.out).2.1); (case side5 => refine (Kd.R_reads' (e := 9) (base := w.heap.size) (ok := fun k_ => (((some k_ ≠ (.slice Ao29 t491.length co29 : Value).ownBlock ∧ some k_ ≠ (.slice Ao36 t474.length co36 : Value).ownBlock) ∧ some k_ ≠ (.slice Ao121 t498.length co121 : Value).ownBlock) ∧ some k_ ≠ (.slice Ao125 t504.length co125 : Value).ownBlock)) (n := t459.length) (c := co22) ?_).2.2; exact (by (with_reducible repeat (first | apply Kd.R_alloc | apply Kd.R_drewN | apply Kd.R_drew)); exact (Kd.R_mono (Kd.R_far (p := ⟨gb511, 1, none⟩) (Kd.R_far (p := ⟨gb511, 0, none⟩) (Kd.R_types HO_467000.out BK511.out (by decide)) (fun _ hk => hk.2) (.slice Ao125 t504.length co125)) (fun _ hk => hk.2) (.slice Ao131 t507.length co131)) (fun _ h_ => h_.1)))); (case side6 => exact (Kd.R_reads' HO_467000.out).2.1); (case side7 => refine (Kd.R_reads' (e := 76) (base := w.heap.size) (ok := fun k_ => (((some k_ ≠ (.slice Ao33 t492.length co33 : Value).ownBlock ∧ some k_ ≠ (.slice Ao41 t477.length co41 : Value).ownBlock) ∧ some k_ ≠ (.slice Ao122 t501.length co122 : Value).ownBlock) ∧ some k_ ≠ (.slice Ao131 t507.length co131 : Value).ownBlock)) (n := t462.length) (c := co25) ?_).2.2; exact (by (with_reducible repeat (first | apply Kd.R_alloc | apply Kd.R_drewN | apply Kd.R_drew)); exact (Kd.R_mono (Kd.R_far (p := ⟨gb511, 1, none⟩) (Kd.R_far (p := ⟨gb511, 0, none⟩) (Kd.R_types HO_467001.out BK511.out (by decide)) (fun _ hk => hk.2) (.slice Ao125 t504.length co125)) (fun _ hk => hk.2) (.slice Ao131 t507.length co131)) (fun _ h_ => h_.1)))); (case side8 => exact (Kd.R_reads' HO_467001.out).2.1); rintro e w153 ⟨rfl, hb⟩; refine ⟨_, rfl, ?_⟩; have n0_ := Aside0.mk (Kd.R_below (by (with_reducible repeat (first | apply Kd.R_alloc | apply Kd.R_drewN | apply Kd.R_drew)); exact (Kd.R_mono (Kd.R_far (p := ⟨gb511, 1, none⟩) (Kd.R_far (p := ⟨gb511, 0, none⟩) (Kd.R_types HO_467000.out BK511.out (by decide)) (fun _ hk => hk.2) (.slice Ao125 t504.length co125)) (fun _ hk => hk.2) (.slice Ao131 t507.length co131)) (fun _ h_ => h_.1))) hb); have n1_ := Aside0.mk (Kd.R_below (by (with_reducible repeat (first | apply Kd.R_alloc | apply Kd.R_drewN | apply Kd.R_drew)); exact (Kd.R_mono (Kd.R_far (p := ⟨gb511, 1, none⟩) (Kd.R_far (p := ⟨gb511, 0, none⟩) (Kd.R_types HO_467001.out BK511.out (by decide)) (fun _ hk => hk.2) (.slice Ao125 t504.length co125)) (fun _ hk => hk.2) (.slice Ao131 t507.length co131)) (fun _ h_ => h_.1))) hb); have n2_ := Aside0.mk (Kd.R_below (by (with_reducible repeat (first | apply Kd.R_alloc | apply Kd.R_drewN | apply Kd.R_drew)); exact (Kd.R_mono (Kd.R_far (p := ⟨gb511, 1, none⟩) (Kd.R_far (p := ⟨gb511, 0, none⟩) (Kd.R_types HO_474000.out BK511.out (by decide)) (fun _ hk => hk.2) (.slice Ao125 t504.length co125)) (fun _ hk => hk.2) (.slice Ao131 t507.length co131)) (fun _ h_ => h_.1))) hb); have n3_ := Aside0.mk (Kd.R_below (by (with_reducible repeat (first | apply Kd.R_alloc | apply Kd.R_drewN | apply Kd.R_drew)); exact (Kd.R_mono (Kd.R_far (p := ⟨gb511, 1, none⟩) (Kd.R_far (p := ⟨gb511, 0, none⟩) (Kd.R_types HO_474001.out BK511.out (by decide)) (fun _ hk => hk.2) (.slice Ao125 t504.length co125)) (fun _ hk => hk.2) (.slice Ao131 t507.length co131)) (fun _ h_ => h_.1))) hb); have n4_ := Aside0.mk (Kd.R_below (by (with_reducible repeat (first | apply Kd.R_alloc | apply Kd.R_drewN | apply Kd.R_drew)); exact (Kd.R_mono (Kd.R_far (p := ⟨gb511, 1, none⟩) (Kd.R_far (p := ⟨gb511, 0, none⟩) (Kd.R_types HO_482000.out BK511.out (by decide)) (fun _ hk => hk.2) (.slice Ao125 t504.length co125)) (fun _ hk => hk.2) (.slice Ao131 t507.length co131)) (fun _ h_ => h_.1))) hb); have n5_ := Aside0.mk (Kd.R_below (by (with_reducible repeat (first | apply Kd.R_alloc | apply Kd.R_drewN | apply Kd.R_drew)); exact (Kd.R_mono (Kd.R_far (p := ⟨gb511, 1, none⟩) (Kd.R_far (p := ⟨gb511, 0, none⟩) (Kd.R_types HO_482001.out BK511.out (by decide)) (fun _ hk => hk.2) (.slice Ao125 t504.length co125)) (fun _ hk => hk.2) (.slice Ao131 t507.length co131)) (fun _ h_ => h_.1))) hb); have n6_ := Aside0.mk (Kd.R_below (by (with_reducible repeat (first | apply Kd.R_alloc | apply Kd.R_drewN | apply Kd.R_drew)); exact (Kd.R_mono (Kd.R_far (p := ⟨gb511, 1, none⟩) (Kd.R_far (p := ⟨gb511, 0, none⟩) (Kd.R_types HO500.out BK511.out (by decide)) (fun _ hk => hk.2) (.slice Ao125 t504.length co125)) (fun _ hk => hk.2) (.slice Ao131 t507.length co131)) (fun _ h_ => h_.1))) hb); have n7_ := Aside0.mk (Kd.R_below (by (with_reducible repeat (first | apply Kd.R_alloc | apply Kd.R_drewN | apply Kd.R_drew)); exact (Kd.R_mono (Kd.R_far (p := ⟨gb511, 1, none⟩) (Kd.R_far (p := ⟨gb511, 0, none⟩) (Kd.R_types HO503.out BK511.out (by decide)) (fun _ hk => hk.2) (.slice Ao125 t504.length co125)) (fun _ hk => hk.2) (.slice Ao131 t507.length co131)) (fun _ h_ => h_.1))) hb); have n8_ := Aside0.mk (Kd.R_below (by (with_reducible repeat (first | apply Kd.R_alloc | apply Kd.R_drewN | apply Kd.R_drew)); exact (Kd.R_mono (Kd.R_far (p := ⟨gb511, 1, none⟩) (Kd.R_far (p := ⟨gb511, 0, none⟩) (Kd.R_types HO506.out BK511.out (by decide)) (fun _ hk => hk.2) (.slice Ao125 t504.length co125)) (fun _ hk => hk.2) (.slice Ao131 t507.length co131)) (fun _ h_ => h_.1))) hb); have n9_ := Aside0.mk (Kd.R_below (by (with_reducible repeat (first | apply Kd.R_alloc | apply Kd.R_drewN | apply Kd.R_drew)); exact (Kd.R_mono (Kd.R_far (p := ⟨gb511, 1, none⟩) (Kd.R_far (p := ⟨gb511, 0, none⟩) (Kd.R_types HO509.out BK511.out (by decide)) (fun _ hk => hk.2) (.slice Ao125 t504.length co125)) (fun _ hk => hk.2) (.slice Ao131 t507.length co131)) (fun _ h_ => h_.1))) hb); have n10_ := Aside0.mk (blk_below (g := gb451) (o := .cells #[.slice A0_0 l0_0.length c0_0, .slice A0_1 l0_1.length c0_1] 25 (0, 0)) (by (with_reducible repeat (first | refine blk_drewN ?_ _ | refine blk_drew ?_ | refine blk_alloc ?_ _)); refine blk_far ?_ NB451_511.out _; (with_reducible repeat (first | refine blk_drewN ?_ _ | refine blk_drew ?_ | refine blk_alloc ?_ _)); refine blk_far ?_ NB451_511.out _; (with_reducible repeat (first | refine blk_drewN ?_ _ | refine blk_drew ?_ | refine blk_alloc ?_ _)); exact BK451.out) hb); have n11_ := Aside0.mk (blk_below (g := gb466) (o := .cells #[.slice Ao22 t459.length co22, .slice Ao25 t462.length co25] 29 (0, 0)) (by (with_reducible repeat (first | refine blk_drewN ?_ _ | refine blk_drew ?_ | refine blk_alloc ?_ _)); refine blk_far ?_ NB466_511.out _; (with_reducible repeat (first | refine blk_drewN ?_ _ | refine blk_drew ?_ | refine blk_alloc ?_ _)); refine blk_far ?_ NB466_511.out _; (with_reducible repeat (first | refine blk_drewN ?_ _ | refine blk_drew ?_ | refine blk_alloc ?_ _)); exact BK466.out) hb); have n12_ := Aside0.mk (blk_below (g := gb473) (o := .cells #[.slice Ao29 t491.length co29, .slice Ao33 t492.length co33] 29 (0, 0)) (by (with_reducible repeat (first | refine blk_drewN ?_ _ | refine blk_drew ?_ | refine blk_alloc ?_ _)); refine blk_far ?_ NB473_511.out _; (with_reducible repeat (first | refine blk_drewN ?_ _ | refine blk_drew ?_ | refine blk_alloc ?_ _)); refine blk_far ?_ NB473_511.out _; (with_reducible repeat (first | refine blk_drewN ?_ _ | refine blk_drew ?_ | refine blk_alloc ?_ _)); exact BK473.out) hb); have n13_ := Aside0.mk (blk_below (g := gb481) (o := .cells #[.slice Ao36 t474.length co36, .slice Ao41 t477.length co41] 29 (0, 0)) (by (with_reducible repeat (first | refine blk_drewN ?_ _ | refine blk_drew ?_ | refine blk_alloc ?_ _)); refine blk_far ?_ NB481_511.out _; (with_reducible repeat (first | refine blk_drewN ?_ _ | refine blk_drew ?_ | refine blk_alloc ?_ _)); refine blk_far ?_ NB481_511.out _; (with_reducible repeat (first | refine blk_drewN ?_ _ | refine blk_drew ?_ | refine blk_alloc ?_ _)); exact BK481.out) hb); have n14_ := Aside0.mk (blk_below (g := gb511) (o := .cells #[.slice Ao125 t504.length co125, .slice Ao131 t507.length co131] 29 (0, 0)) (by (with_reducible repeat (first | refine blk_drewN ?_ _ | refine blk_drew ?_ | refine blk_alloc ?_ _)); refine blk_put (cs := #[.slice Ao125 t504.length co125, .slice none 0 0]) ?_ 1 _ rfl; (with_reducible repeat (first | refine blk_drewN ?_ _ | refine blk_drew ?_ | refine blk_alloc ?_ _)); refine blk_put (cs := #[.slice none 0 0, .slice none 0 0]) ?_ 0 _ rfl; (with_reducible repeat (first | refine blk_drewN ?_ _ | refine blk_drew ?_ | refine blk_alloc ?_ _)); exact BK511.out) hb); have n15_ := Aside0.mk (below_step (by repeat (first | (with_reducible first | exact HB.out | apply below_alloc | apply pw_below_drewN | apply below_drew1 | refine below_set ?_ GE451.out | refine below_set ?_ GE466.out | refine below_set ?_ GE473.out | refine below_set ?_ GE481.out | refine below_set ?_ GE511.out) | exact HB.out)) hb); clear HO_467000; clear HO_467001; clear HO_474000; clear HO_474001; clear HO_482000; clear HO_482001; clear HO500; clear HO503; clear HO506; clear HO509; clear BK451; clear BK466; clear BK473; clear BK481; clear BK511; clear HB; have HO_467000 := n0_; have HO_467001 := n1_; have HO_474000 := n2_; have HO_474001 := n3_; have HO_482000 := n4_; have HO_482001 := n5_; have HO500 := n6_; have HO503 := n7_; have HO506 := n8_; have HO509 := n9_; have BK451 := n10_; have BK466 := n11_; have BK473 := n12_; have BK481 := n13_; have BK511 := n14_; have HB := n15_; clear n0_ n1_ n2_ n3_ n4_ n5_ n6_ n7_ n8_ n9_ n10_ n11_ n12_ n13_ n14_ n15_; (try clear hb); (try clear hb2); (try clear hk); (try clear hi)))
             go_meet
             case rel => exact ⟨_, (true), (by first | rfl | (simp; done) | (simp [*]; done)), H', ⟨by have := HJ11.out; have := HJ64.out; first | omega | exact Nat.le_refl _⟩, ⟨by (try simp only [hl474000_64]); (try simp only [hl474001_64]); (with_reducible repeat (first | apply Kd.R_alloc | apply Kd.R_drewN | apply Kd.R_drew)); exact Kd.R_mono HO_467000.out (fun _ hk => ⟨hk.1.1.1, ⟨hk.1.1.2, hk.2⟩⟩)⟩, ⟨by (try simp only [hl474000_64]); (try simp only [hl474001_64]); (with_reducible repeat (first | apply Kd.R_alloc | apply Kd.R_drewN | apply Kd.R_drew)); exact Kd.R_mono HO_467001.out (fun _ hk => ⟨hk.1.1.1, ⟨hk.1.1.2, hk.2⟩⟩)⟩, ⟨by (try simp only [hl474000_64]); (try simp only [hl474001_64]); (with_reducible repeat (first | apply Kd.R_alloc | apply Kd.R_drewN | apply Kd.R_drew)); exact Kd.R_mono HO_474000.out (fun _ hk => ⟨hk.1.1.1, ⟨hk.1.1.2, hk.2⟩⟩)⟩, ⟨by (try simp only [hl474000_64]); (try simp only [hl474001_64]); (with_reducible repeat (first | apply Kd.R_alloc | apply Kd.R_drewN | apply Kd.R_drew)); exact Kd.R_mono HO_474001.out (fun _ hk => ⟨hk.1.1.1, ⟨hk.1.1.2, hk.2⟩⟩)⟩, ⟨by (try simp only [hl474000_64]); (try simp only [hl474001_64]); (with_reducible repeat (first | apply Kd.R_alloc | apply Kd.R_drewN | apply Kd.R_drew)); exact Kd.R_mono HO_482000.out (fun _ hk => ⟨hk.1.1.1, ⟨hk.1.1.2, hk.2⟩⟩)⟩, ⟨by (try simp only [hl474000_64]); (try simp only [hl474001_64]); (with_reducible repeat (first | apply Kd.R_alloc | apply Kd.R_drewN | apply Kd.R_drew)); exact Kd.R_mono HO_482001.out (fun _ hk => ⟨hk.1.1.1, ⟨hk.1.1.2, hk.2⟩⟩)⟩, ⟨by (try simp only [hl474000_64]); (try simp only [hl474001_64]); (with_reducible repeat (first | apply Kd.R_alloc | apply Kd.R_drewN | apply Kd.R_drew)); exact Kd.R_mono HO506.out (fun _ hk => ⟨hk.1.1.1.2, ⟨hk.1.1.2, hk.1.2⟩⟩)⟩, ⟨by (try simp only [hl474000_64]); (try simp only [hl474001_64]); (with_reducible repeat (first | apply Kd.R_alloc | apply Kd.R_drewN | apply Kd.R_drew)); exact Kd.R_mono HO509.out (fun _ hk => ⟨hk.1.1.1.2, ⟨hk.1.1.2, hk.1.2⟩⟩)⟩, ⟨by (try simp only [hl474000_64]); (try simp only [hl474001_64]); (with_reducible repeat (first | refine blk_drewN ?_ _ | refine blk_drew ?_ | refine blk_alloc ?_ _)); exact BK451.out⟩, ⟨by (try simp only [hl474000_64]); (try simp only [hl474001_64]); (with_reducible repeat (first | refine blk_drewN ?_ _ | refine blk_drew ?_ | refine blk_alloc ?_ _)); exact BK466.out⟩, ⟨by (try simp only [hl474000_64]); (try simp only [hl474001_64]); (with_reducible repeat (first | refine blk_drewN ?_ _ | refine blk_drew ?_ | refine blk_alloc ?_ _)); exact BK473.out⟩, ⟨by (try simp only [hl474000_64]); (try simp only [hl474001_64]); (with_reducible repeat (first | refine blk_drewN ?_ _ | refine blk_drew ?_ | refine blk_alloc ?_ _)); exact BK481.out⟩, ⟨by (try simp only [hl474000_64]); (try simp only [hl474001_64]); (with_reducible repeat (first | refine blk_drewN ?_ _ | refine blk_drew ?_ | refine blk_alloc ?_ _)); exact BK511.out⟩, ⟨by repeat (first | (with_reducible first | exact HB.out | apply below_alloc | apply pw_below_drewN | apply below_drew1 | refine below_set ?_ GE451.out | refine below_set ?_ GE466.out | refine below_set ?_ GE473.out | refine below_set ?_ GE481.out | refine below_set ?_ GE511.out) | exact HB.out)⟩⟩
           case rest =>
            clear HC109
            try clear c1
            try clear c2
            try clear p2
            try clear c3
            try clear c4
            try clear c4b0
            try clear c5
            try clear c6
            try clear c7
            try clear c8
            try clear c9
            try clear c10
            try clear c11
            try clear c12
            try clear c13
            try clear c14
            try clear c15
            try clear c18
            try clear c19
            try clear c23
            try clear c30
            try clear c31
            try clear c37
            try clear c38
            try clear c39
            try clear c43
            try clear c44
            try clear c45
            try clear c46
            try clear c48
            try clear c49
            try clear c52
            try clear c53
            try clear c54
            try clear c56
            try clear c57
            try clear c60
            try clear c63
            try clear c71
            try clear c72
            try clear c73
            try clear c76
            try clear c76b0
            try clear c78
            try clear c79
            try clear c80
            try clear c81
            try clear c83
            try clear c84
            try clear c87
            try clear c88
            try clear c89
            try clear c91
            try clear c92
            try clear c95
            try clear c98
            try clear c98b0
            try clear c99
            try clear c100
            try clear c101
            try clear c106
            try clear c106b0
            try clear c106b1
            try clear c110
            try clear c111
            try clear c112
            try clear c117
            try clear c118
            try clear c126
            try clear c127
            try clear c128
            try clear c129
            try clear c133
            try clear c134
            try clear c135
            try clear c136
            try clear c137
            try clear c139
            try clear c140
            try clear c141
            try clear c144
            try clear c145
            try clear c146
            try clear c147
            try clear c149
            try clear c150
            try clear c151
            try clear hcz102_0
            try clear hcz102_1
            try clear hcz104_0
            try clear hcz104_1
            try clear hcz113_0
            try clear hcz113_1
            try clear hcz115_0
            try clear hcz115_1
            try clear hcz119_0
            try clear hcz119_1
            try clear hcz130_0
            try clear hcz130_1
            try clear hcz138_0
            try clear hcz138_1
            try clear hcz142_0
            try clear hcz142_1
            try clear hcz148_0
            try clear hcz148_1
            try clear hcz14_0
            try clear hcz14_1
            try clear hcz152_0
            try clear hcz152_1
            try clear hcz16_0
            try clear hcz16_1
            try clear hcz24_0
            try clear hcz24_1
            try clear hcz26_0
            try clear hcz26_1
            try clear hcz32_0
            try clear hcz32_1
            try clear hcz40_0
            try clear hcz40_1
            try clear hcz47_0
            try clear hcz47_1
            try clear hcz50_0
            try clear hcz50_1
            try clear hcz55_0
            try clear hcz55_1
            try clear hcz58_0
            try clear hcz58_1
            try clear hcz6_0
            try clear hcz6_1
            try clear hcz74_0
            try clear hcz74_1
            try clear hcz82_0
            try clear hcz82_1
            try clear hcz85_0
            try clear hcz85_1
            try clear hcz90_0
            try clear hcz90_1
            try clear hcz93_0
            try clear hcz93_1
            try clear hfz102_0
            try clear hfz102_1
            try clear hfz104_0
            try clear hfz104_1
            try clear hfz113_0
            try clear hfz113_1
            try clear hfz115_0
            try clear hfz115_1
            try clear hfz119_0
            try clear hfz119_1
            try clear hfz130_0
            try clear hfz130_1
            try clear hfz138_0
            try clear hfz138_1
            try clear hfz142_0
            try clear hfz142_1
            try clear hfz148_0
            try clear hfz148_1
            try clear hfz14_0
            try clear hfz14_1
            try clear hfz152_0
            try clear hfz152_1
            try clear hfz16_0
            try clear hfz16_1
            try clear hfz24_0
            try clear hfz24_1
            try clear hfz26_0
            try clear hfz26_1
            try clear hfz32_0
            try clear hfz32_1
            try clear hfz40_0
            try clear hfz40_1
            try clear hfz47_0
            try clear hfz47_1
            try clear hfz50_0
            try clear hfz50_1
            try clear hfz55_0
            try clear hfz55_1
            try clear hfz58_0
            try clear hfz58_1
            try clear hfz6_0
            try clear hfz6_1
            try clear hfz74_0
            try clear hfz74_1
            try clear hfz82_0
            try clear hfz82_1
            try clear hfz85_0
            try clear hfz85_1
            try clear hfz90_0
            try clear hfz90_1
            try clear hfz93_0
            try clear hfz93_1
            try clear p2
            obtain ⟨kq, x92_108, rfl, HA, HJ108, HO_467000, HO_467001, HO_474000, HO_474001, HO_482000, HO_482001, HO_512000, HO_512001, BK451, BK466, BK473, BK481, BK511, HB⟩ := hcut
            have hl482000_108 := (Kd.R_reads' HO_482000.out).1
            rw [hl482000_108] at HO_482000
            (try simp only [hl482000_108])
            (try simp only [hl482000_108] at BK451)
            (try simp only [hl482000_108] at BK466)
            (try simp only [hl482000_108] at BK473)
            (try simp only [hl482000_108] at BK481)
            (try simp only [hl482000_108] at BK511)
            (try simp only [hl482000_108] at HO_467000)
            (try simp only [hl482000_108] at HO_467001)
            (try simp only [hl482000_108] at HO_474000)
            (try simp only [hl482000_108] at HO_474001)
            (try simp only [hl482000_108] at HO_482001)
            (try simp only [hl482000_108] at HO_512000)
            (try simp only [hl482000_108] at HO_512001)
            have hl482001_108 := (Kd.R_reads' HO_482001.out).1
            rw [hl482001_108] at HO_482001
            (try simp only [hl482001_108])
            (try simp only [hl482001_108] at BK451)
            (try simp only [hl482001_108] at BK466)
            (try simp only [hl482001_108] at BK473)
            (try simp only [hl482001_108] at BK481)
            (try simp only [hl482001_108] at BK511)
            (try simp only [hl482001_108] at HO_467000)
            (try simp only [hl482001_108] at HO_467001)
            (try simp only [hl482001_108] at HO_474000)
            (try simp only [hl482001_108] at HO_474001)
            (try simp only [hl482001_108] at HO_482000)
            (try simp only [hl482001_108] at HO_512000)
            (try simp only [hl482001_108] at HO_512001)
            cases kq with
            | zero => exact absurd HA.out (by simp [laws_FnExactLandOne.j2])
            | succ kj108 =>
             have H := HA.out
             clear HA
             simp only [laws_FnExactLandOne.j2] at H
             by_cases c154 : x92_108 = true
             ·subst c154
              have H1 : (some false) = some r := by rw [if_pos rfl] at H; exact H
              clear H
              have H := H1
              clear H1
              obtain rfl := Option.some.inj H
              go_wp2
              go_ret
              exact ⟨by first | rfl | (simp [errW_none, errW_some] <;> rfl) | (simp [*, errW_none, errW_some] <;> rfl), by repeat (first | (with_reducible first | exact HB.out | apply below_alloc | apply pw_below_drewN | apply below_drew1 | refine below_set ?_ GE451.out | refine below_set ?_ GE466.out | refine below_set ?_ GE473.out | refine below_set ?_ GE481.out | refine below_set ?_ GE511.out) | exact HB.out)⟩
             ·replace c154 := Bool.eq_false_iff.mpr c154
              subst c154
              have H1 : ((laws_heldDisk.f kj108 t495 t496 1).bind fun t513 => (if t513 < 0 then (some false) else (if t513 = t494 then (some true) else (some false)))) = some r := by rw [if_neg (show ¬ (false = true) by decide)] at H; exact H
              clear H
              have H := H1
              clear H1
              replace H := Option.bind_eq_some_iff.mp H
              obtain ⟨t513, A1550, H⟩ := H
              replace H : (if t513 < 0 then (some false) else (if t513 = t494 then (some true) else (some false))) = some r := H
              have A155 := Aside0.mk A1550
              clear A1550
              by_cases c156 : t513 < 0
              ·rw [if_pos c156] at H
               have c156b0 : decide (t513 < 0) = true := decide_eq_true c156
               clear c156
               obtain rfl := Option.some.inj H
               have hnb157 := NB481_451.out
               have hnc157 := NB451_481.out
               have hnb158 := NB481_466.out
               have hnc158 := NB466_481.out
               have hnb159 := NB481_473.out
               have hnc159 := NB473_481.out
               have hnb160 := NB481_511.out
               have hnc160 := NB511_481.out
               have hcz161_0 : wc.cell? ⟨gb481, 0, none⟩ = some (.slice Ao36 t495.length co36) := (blk_cell BK481.out 0).trans rfl
               have hcz161_1 : wc.cell? ⟨gb481, 1, none⟩ = some (.slice Ao41 t496.length co41) := (blk_cell BK481.out 1).trans rfl
               have hfz161_0 := blk_frozen BK481.out 0
               have hfz161_1 := blk_frozen BK481.out 1
               go_wp2_with (first | ((with_reducible refine gate_callee (f := 15) rfl ?_); refine goesL_ (some 95) rfl rfl Try.func15 (by kernel_rfl) rfl #[.agg #[.slice Ao36 t495.length co36, .slice Ao41 t496.length co41], .int .i64 1] rfl (by (try simp only [List.map_toArray, List.map_cons, List.map_nil]); first | done | rfl | (simp only [List.length_drop, List.length_take]; rfl)) ?_; (with_reducible refine (laws_heldDisk.calls kj108 _ _ t495 _ _ t496 1 t513 _ ?side1 ?side2 ?side3 ?side4 A155.out).mono ?_); (case side1 => repeat (first | exact (Kd.R_reads' HO_482000.out).2.2 | (with_reducible refine Kd.C_alloc ?_ _) | (with_reducible refine Kd.C_drewN ?_ _) | (with_reducible refine Kd.C_drew ?_))); (case side2 => exact (Kd.R_reads' HO_482000.out).2.1); (case side3 => repeat (first | exact (Kd.R_reads' HO_482001.out).2.2 | (with_reducible refine Kd.C_alloc ?_ _) | (with_reducible refine Kd.C_drewN ?_ _) | (with_reducible refine Kd.C_drew ?_))); (case side4 => exact (Kd.R_reads' HO_482001.out).2.1); rintro e w162 ⟨rfl, hb⟩; refine ⟨_, rfl, ?_⟩; have n0_ := Aside0.mk (Kd.R_below (by (with_reducible repeat (first | apply Kd.R_alloc | apply Kd.R_drewN | apply Kd.R_drew)); exact HO_467000.out) hb); have n1_ := Aside0.mk (Kd.R_below (by (with_reducible repeat (first | apply Kd.R_alloc | apply Kd.R_drewN | apply Kd.R_drew)); exact HO_467001.out) hb); have n2_ := Aside0.mk (Kd.R_below (by (with_reducible repeat (first | apply Kd.R_alloc | apply Kd.R_drewN | apply Kd.R_drew)); exact HO_474000.out) hb); have n3_ := Aside0.mk (Kd.R_below (by (with_reducible repeat (first | apply Kd.R_alloc | apply Kd.R_drewN | apply Kd.R_drew)); exact HO_474001.out) hb); have n4_ := Aside0.mk (Kd.R_below (by (with_reducible repeat (first | apply Kd.R_alloc | apply Kd.R_drewN | apply Kd.R_drew)); exact HO_482000.out) hb); have n5_ := Aside0.mk (Kd.R_below (by (with_reducible repeat (first | apply Kd.R_alloc | apply Kd.R_drewN | apply Kd.R_drew)); exact HO_482001.out) hb); have n6_ := Aside0.mk (Kd.R_below (by (with_reducible repeat (first | apply Kd.R_alloc | apply Kd.R_drewN | apply Kd.R_drew)); exact HO_512000.out) hb); have n7_ := Aside0.mk (Kd.R_below (by (with_reducible repeat (first | apply Kd.R_alloc | apply Kd.R_drewN | apply Kd.R_drew)); exact HO_512001.out) hb); have n8_ := Aside0.mk (blk_below (g := gb451) (o := .cells #[.slice A0_0 l0_0.length c0_0, .slice A0_1 l0_1.length c0_1] 25 (0, 0)) (by (with_reducible repeat (first | refine blk_drewN ?_ _ | refine blk_drew ?_ | refine blk_alloc ?_ _)); exact BK451.out) hb); have n9_ := Aside0.mk (blk_below (g := gb466) (o := .cells #[.slice Ao22 t459.length co22, .slice Ao25 t462.length co25] 29 (0, 0)) (by (with_reducible repeat (first | refine blk_drewN ?_ _ | refine blk_drew ?_ | refine blk_alloc ?_ _)); exact BK466.out) hb); have n10_ := Aside0.mk (blk_below (g := gb473) (o := .cells #[.slice Ao29 t491.length co29, .slice Ao33 t492.length co33] 29 (0, 0)) (by (with_reducible repeat (first | refine blk_drewN ?_ _ | refine blk_drew ?_ | refine blk_alloc ?_ _)); exact BK473.out) hb); have n11_ := Aside0.mk (blk_below (g := gb481) (o := .cells #[.slice Ao36 t495.length co36, .slice Ao41 t496.length co41] 29 (0, 0)) (by (with_reducible repeat (first | refine blk_drewN ?_ _ | refine blk_drew ?_ | refine blk_alloc ?_ _)); exact BK481.out) hb); have n12_ := Aside0.mk (blk_below (g := gb511) (o := .cells #[.slice Ao125 t504.length co125, .slice Ao131 t507.length co131] 29 (0, 0)) (by (with_reducible repeat (first | refine blk_drewN ?_ _ | refine blk_drew ?_ | refine blk_alloc ?_ _)); exact BK511.out) hb); have n13_ := Aside0.mk (below_step (by repeat (first | (with_reducible first | exact HB.out | apply below_alloc | apply pw_below_drewN | apply below_drew1 | refine below_set ?_ GE451.out | refine below_set ?_ GE466.out | refine below_set ?_ GE473.out | refine below_set ?_ GE481.out | refine below_set ?_ GE511.out) | exact HB.out)) hb); clear HO_467000; clear HO_467001; clear HO_474000; clear HO_474001; clear HO_482000; clear HO_482001; clear HO_512000; clear HO_512001; clear BK451; clear BK466; clear BK473; clear BK481; clear BK511; clear HB; have HO_467000 := n0_; have HO_467001 := n1_; have HO_474000 := n2_; have HO_474001 := n3_; have HO_482000 := n4_; have HO_482001 := n5_; have HO_512000 := n6_; have HO_512001 := n7_; have BK451 := n8_; have BK466 := n9_; have BK473 := n10_; have BK481 := n11_; have BK511 := n12_; have HB := n13_; clear n0_ n1_ n2_ n3_ n4_ n5_ n6_ n7_ n8_ n9_ n10_ n11_ n12_ n13_; (try clear hb); (try clear hb2); (try clear hk); (try clear hi)))
               go_ret
               exact ⟨by first | rfl | (simp [errW_none, errW_some] <;> rfl) | (simp [*, errW_none, errW_some] <;> rfl), by repeat (first | (with_reducible first | exact HB.out | apply below_alloc | apply pw_below_drewN | apply below_drew1 | refine below_set ?_ GE451.out | refine below_set ?_ GE466.out | refine below_set ?_ GE473.out | refine below_set ?_ GE481.out | refine below_set ?_ GE511.out) | exact HB.out)⟩
              ·rw [if_neg c156] at H
               have c156b0 : decide (t513 < 0) = false := decide_eq_false c156
               clear c156
               by_cases c163 : t513 = t494
               ·rw [if_pos c163] at H
                have c163b0 : (t513 == t494) = true := beq_iff_eq.mpr c163
                have c163b1 : (t513 != t494) = false := bne_eq_false_iff_eq.mpr c163
                clear c163
                obtain rfl := Option.some.inj H
                have hnb164 := NB481_451.out
                have hnc164 := NB451_481.out
                have hnb165 := NB481_466.out
                have hnc165 := NB466_481.out
                have hnb166 := NB481_473.out
                have hnc166 := NB473_481.out
                have hnb167 := NB481_511.out
                have hnc167 := NB511_481.out
                have hcz168_0 : wc.cell? ⟨gb481, 0, none⟩ = some (.slice Ao36 t495.length co36) := (blk_cell BK481.out 0).trans rfl
                have hcz168_1 : wc.cell? ⟨gb481, 1, none⟩ = some (.slice Ao41 t496.length co41) := (blk_cell BK481.out 1).trans rfl
                have hfz168_0 := blk_frozen BK481.out 0
                have hfz168_1 := blk_frozen BK481.out 1
                go_wp2_with (first | ((with_reducible refine gate_callee (f := 15) rfl ?_); refine goesL_ (some 95) rfl rfl Try.func15 (by kernel_rfl) rfl #[.agg #[.slice Ao36 t495.length co36, .slice Ao41 t496.length co41], .int .i64 1] rfl (by (try simp only [List.map_toArray, List.map_cons, List.map_nil]); first | done | rfl | (simp only [List.length_drop, List.length_take]; rfl)) ?_; (with_reducible refine (laws_heldDisk.calls kj108 _ _ t495 _ _ t496 1 t513 _ ?side1 ?side2 ?side3 ?side4 A155.out).mono ?_); (case side1 => repeat (first | exact (Kd.R_reads' HO_482000.out).2.2 | (with_reducible refine Kd.C_alloc ?_ _) | (with_reducible refine Kd.C_drewN ?_ _) | (with_reducible refine Kd.C_drew ?_))); (case side2 => exact (Kd.R_reads' HO_482000.out).2.1); (case side3 => repeat (first | exact (Kd.R_reads' HO_482001.out).2.2 | (with_reducible refine Kd.C_alloc ?_ _) | (with_reducible refine Kd.C_drewN ?_ _) | (with_reducible refine Kd.C_drew ?_))); (case side4 => exact (Kd.R_reads' HO_482001.out).2.1); rintro e w169 ⟨rfl, hb⟩; refine ⟨_, rfl, ?_⟩; have n0_ := Aside0.mk (Kd.R_below (by (with_reducible repeat (first | apply Kd.R_alloc | apply Kd.R_drewN | apply Kd.R_drew)); exact HO_467000.out) hb); have n1_ := Aside0.mk (Kd.R_below (by (with_reducible repeat (first | apply Kd.R_alloc | apply Kd.R_drewN | apply Kd.R_drew)); exact HO_467001.out) hb); have n2_ := Aside0.mk (Kd.R_below (by (with_reducible repeat (first | apply Kd.R_alloc | apply Kd.R_drewN | apply Kd.R_drew)); exact HO_474000.out) hb); have n3_ := Aside0.mk (Kd.R_below (by (with_reducible repeat (first | apply Kd.R_alloc | apply Kd.R_drewN | apply Kd.R_drew)); exact HO_474001.out) hb); have n4_ := Aside0.mk (Kd.R_below (by (with_reducible repeat (first | apply Kd.R_alloc | apply Kd.R_drewN | apply Kd.R_drew)); exact HO_482000.out) hb); have n5_ := Aside0.mk (Kd.R_below (by (with_reducible repeat (first | apply Kd.R_alloc | apply Kd.R_drewN | apply Kd.R_drew)); exact HO_482001.out) hb); have n6_ := Aside0.mk (Kd.R_below (by (with_reducible repeat (first | apply Kd.R_alloc | apply Kd.R_drewN | apply Kd.R_drew)); exact HO_512000.out) hb); have n7_ := Aside0.mk (Kd.R_below (by (with_reducible repeat (first | apply Kd.R_alloc | apply Kd.R_drewN | apply Kd.R_drew)); exact HO_512001.out) hb); have n8_ := Aside0.mk (blk_below (g := gb451) (o := .cells #[.slice A0_0 l0_0.length c0_0, .slice A0_1 l0_1.length c0_1] 25 (0, 0)) (by (with_reducible repeat (first | refine blk_drewN ?_ _ | refine blk_drew ?_ | refine blk_alloc ?_ _)); exact BK451.out) hb); have n9_ := Aside0.mk (blk_below (g := gb466) (o := .cells #[.slice Ao22 t459.length co22, .slice Ao25 t462.length co25] 29 (0, 0)) (by (with_reducible repeat (first | refine blk_drewN ?_ _ | refine blk_drew ?_ | refine blk_alloc ?_ _)); exact BK466.out) hb); have n10_ := Aside0.mk (blk_below (g := gb473) (o := .cells #[.slice Ao29 t491.length co29, .slice Ao33 t492.length co33] 29 (0, 0)) (by (with_reducible repeat (first | refine blk_drewN ?_ _ | refine blk_drew ?_ | refine blk_alloc ?_ _)); exact BK473.out) hb); have n11_ := Aside0.mk (blk_below (g := gb481) (o := .cells #[.slice Ao36 t495.length co36, .slice Ao41 t496.length co41] 29 (0, 0)) (by (with_reducible repeat (first | refine blk_drewN ?_ _ | refine blk_drew ?_ | refine blk_alloc ?_ _)); exact BK481.out) hb); have n12_ := Aside0.mk (blk_below (g := gb511) (o := .cells #[.slice Ao125 t504.length co125, .slice Ao131 t507.length co131] 29 (0, 0)) (by (with_reducible repeat (first | refine blk_drewN ?_ _ | refine blk_drew ?_ | refine blk_alloc ?_ _)); exact BK511.out) hb); have n13_ := Aside0.mk (below_step (by repeat (first | (with_reducible first | exact HB.out | apply below_alloc | apply pw_below_drewN | apply below_drew1 | refine below_set ?_ GE451.out | refine below_set ?_ GE466.out | refine below_set ?_ GE473.out | refine below_set ?_ GE481.out | refine below_set ?_ GE511.out) | exact HB.out)) hb); clear HO_467000; clear HO_467001; clear HO_474000; clear HO_474001; clear HO_482000; clear HO_482001; clear HO_512000; clear HO_512001; clear BK451; clear BK466; clear BK473; clear BK481; clear BK511; clear HB; have HO_467000 := n0_; have HO_467001 := n1_; have HO_474000 := n2_; have HO_474001 := n3_; have HO_482000 := n4_; have HO_482001 := n5_; have HO_512000 := n6_; have HO_512001 := n7_; have BK451 := n8_; have BK466 := n9_; have BK473 := n10_; have BK481 := n11_; have BK511 := n12_; have HB := n13_; clear n0_ n1_ n2_ n3_ n4_ n5_ n6_ n7_ n8_ n9_ n10_ n11_ n12_ n13_; (try clear hb); (try clear hb2); (try clear hk); (try clear hi)))
                go_ret
                exact ⟨by first | rfl | (simp [errW_none, errW_some] <;> rfl) | (simp [*, errW_none, errW_some] <;> rfl), by repeat (first | (with_reducible first | exact HB.out | apply below_alloc | apply pw_below_drewN | apply below_drew1 | refine below_set ?_ GE451.out | refine below_set ?_ GE466.out | refine below_set ?_ GE473.out | refine below_set ?_ GE481.out | refine below_set ?_ GE511.out) | exact HB.out)⟩
               ·rw [if_neg c163] at H
                have c163b0 : (t513 == t494) = false := beq_eq_false_iff_ne.mpr c163
                have c163b1 : (t513 != t494) = true := bne_iff_ne.mpr c163
                obtain rfl := Option.some.inj H
                have hnb170 := NB481_451.out
                have hnc170 := NB451_481.out
                have hnb171 := NB481_466.out
                have hnc171 := NB466_481.out
                have hnb172 := NB481_473.out
                have hnc172 := NB473_481.out
                have hnb173 := NB481_511.out
                have hnc173 := NB511_481.out
                have hcz174_0 : wc.cell? ⟨gb481, 0, none⟩ = some (.slice Ao36 t495.length co36) := (blk_cell BK481.out 0).trans rfl
                have hcz174_1 : wc.cell? ⟨gb481, 1, none⟩ = some (.slice Ao41 t496.length co41) := (blk_cell BK481.out 1).trans rfl
                have hfz174_0 := blk_frozen BK481.out 0
                have hfz174_1 := blk_frozen BK481.out 1
                go_wp2_with (first | ((with_reducible refine gate_callee (f := 15) rfl ?_); refine goesL_ (some 95) rfl rfl Try.func15 (by kernel_rfl) rfl #[.agg #[.slice Ao36 t495.length co36, .slice Ao41 t496.length co41], .int .i64 1] rfl (by (try simp only [List.map_toArray, List.map_cons, List.map_nil]); first | done | rfl | (simp only [List.length_drop, List.length_take]; rfl)) ?_; (with_reducible refine (laws_heldDisk.calls kj108 _ _ t495 _ _ t496 1 t513 _ ?side1 ?side2 ?side3 ?side4 A155.out).mono ?_); (case side1 => repeat (first | exact (Kd.R_reads' HO_482000.out).2.2 | (with_reducible refine Kd.C_alloc ?_ _) | (with_reducible refine Kd.C_drewN ?_ _) | (with_reducible refine Kd.C_drew ?_))); (case side2 => exact (Kd.R_reads' HO_482000.out).2.1); (case side3 => repeat (first | exact (Kd.R_reads' HO_482001.out).2.2 | (with_reducible refine Kd.C_alloc ?_ _) | (with_reducible refine Kd.C_drewN ?_ _) | (with_reducible refine Kd.C_drew ?_))); (case side4 => exact (Kd.R_reads' HO_482001.out).2.1); rintro e w175 ⟨rfl, hb⟩; refine ⟨_, rfl, ?_⟩; have n0_ := Aside0.mk (Kd.R_below (by (with_reducible repeat (first | apply Kd.R_alloc | apply Kd.R_drewN | apply Kd.R_drew)); exact HO_467000.out) hb); have n1_ := Aside0.mk (Kd.R_below (by (with_reducible repeat (first | apply Kd.R_alloc | apply Kd.R_drewN | apply Kd.R_drew)); exact HO_467001.out) hb); have n2_ := Aside0.mk (Kd.R_below (by (with_reducible repeat (first | apply Kd.R_alloc | apply Kd.R_drewN | apply Kd.R_drew)); exact HO_474000.out) hb); have n3_ := Aside0.mk (Kd.R_below (by (with_reducible repeat (first | apply Kd.R_alloc | apply Kd.R_drewN | apply Kd.R_drew)); exact HO_474001.out) hb); have n4_ := Aside0.mk (Kd.R_below (by (with_reducible repeat (first | apply Kd.R_alloc | apply Kd.R_drewN | apply Kd.R_drew)); exact HO_482000.out) hb); have n5_ := Aside0.mk (Kd.R_below (by (with_reducible repeat (first | apply Kd.R_alloc | apply Kd.R_drewN | apply Kd.R_drew)); exact HO_482001.out) hb); have n6_ := Aside0.mk (Kd.R_below (by (with_reducible repeat (first | apply Kd.R_alloc | apply Kd.R_drewN | apply Kd.R_drew)); exact HO_512000.out) hb); have n7_ := Aside0.mk (Kd.R_below (by (with_reducible repeat (first | apply Kd.R_alloc | apply Kd.R_drewN | apply Kd.R_drew)); exact HO_512001.out) hb); have n8_ := Aside0.mk (blk_below (g := gb451) (o := .cells #[.slice A0_0 l0_0.length c0_0, .slice A0_1 l0_1.length c0_1] 25 (0, 0)) (by (with_reducible repeat (first | refine blk_drewN ?_ _ | refine blk_drew ?_ | refine blk_alloc ?_ _)); exact BK451.out) hb); have n9_ := Aside0.mk (blk_below (g := gb466) (o := .cells #[.slice Ao22 t459.length co22, .slice Ao25 t462.length co25] 29 (0, 0)) (by (with_reducible repeat (first | refine blk_drewN ?_ _ | refine blk_drew ?_ | refine blk_alloc ?_ _)); exact BK466.out) hb); have n10_ := Aside0.mk (blk_below (g := gb473) (o := .cells #[.slice Ao29 t491.length co29, .slice Ao33 t492.length co33] 29 (0, 0)) (by (with_reducible repeat (first | refine blk_drewN ?_ _ | refine blk_drew ?_ | refine blk_alloc ?_ _)); exact BK473.out) hb); have n11_ := Aside0.mk (blk_below (g := gb481) (o := .cells #[.slice Ao36 t495.length co36, .slice Ao41 t496.length co41] 29 (0, 0)) (by (with_reducible repeat (first | refine blk_drewN ?_ _ | refine blk_drew ?_ | refine blk_alloc ?_ _)); exact BK481.out) hb); have n12_ := Aside0.mk (blk_below (g := gb511) (o := .cells #[.slice Ao125 t504.length co125, .slice Ao131 t507.length co131] 29 (0, 0)) (by (with_reducible repeat (first | refine blk_drewN ?_ _ | refine blk_drew ?_ | refine blk_alloc ?_ _)); exact BK511.out) hb); have n13_ := Aside0.mk (below_step (by repeat (first | (with_reducible first | exact HB.out | apply below_alloc | apply pw_below_drewN | apply below_drew1 | refine below_set ?_ GE451.out | refine below_set ?_ GE466.out | refine below_set ?_ GE473.out | refine below_set ?_ GE481.out | refine below_set ?_ GE511.out) | exact HB.out)) hb); clear HO_467000; clear HO_467001; clear HO_474000; clear HO_474001; clear HO_482000; clear HO_482001; clear HO_512000; clear HO_512001; clear BK451; clear BK466; clear BK473; clear BK481; clear BK511; clear HB; have HO_467000 := n0_; have HO_467001 := n1_; have HO_474000 := n2_; have HO_474001 := n3_; have HO_482000 := n4_; have HO_482001 := n5_; have HO_512000 := n6_; have HO_512001 := n7_; have BK451 := n8_; have BK466 := n9_; have BK473 := n10_; have BK481 := n11_; have BK511 := n12_; have HB := n13_; clear n0_ n1_ n2_ n3_ n4_ n5_ n6_ n7_ n8_ n9_ n10_ n11_ n12_ n13_; (try clear hb); (try clear hb2); (try clear hk); (try clear hi)))
                go_ret
                exact ⟨by first | rfl | (simp [errW_none, errW_some] <;> rfl) | (simp [*, errW_none, errW_some] <;> rfl), by repeat (first | (with_reducible first | exact HB.out | apply below_alloc | apply pw_below_drewN | apply below_drew1 | refine below_set ?_ GE451.out | refine below_set ?_ GE466.out | refine below_set ?_ GE473.out | refine below_set ?_ GE481.out | refine below_set ?_ GE511.out) | exact HB.out)⟩
          ·rw [if_neg c106] at H
           have c106b0 : (t497 == t494) = false := beq_eq_false_iff_ne.mpr c106
           have c106b1 : (t497 != t494) = true := bne_iff_ne.mpr c106
           obtain rfl := Option.some.inj H
           have hnb176 := NB481_451.out
           have hnc176 := NB451_481.out
           have hnb177 := NB481_466.out
           have hnc177 := NB466_481.out
           have hnb178 := NB481_473.out
           have hnc178 := NB473_481.out
           have hcz179_0 : wc.cell? ⟨gb481, 0, none⟩ = some (.slice Ao36 t474.length co36) := (blk_cell BK481.out 0).trans rfl
           have hcz179_1 : wc.cell? ⟨gb481, 1, none⟩ = some (.slice Ao41 t477.length co41) := (blk_cell BK481.out 1).trans rfl
           have hfz179_0 := blk_frozen BK481.out 0
           have hfz179_1 := blk_frozen BK481.out 1
           go_wp2_with (first | ((with_reducible refine gate_callee (f := 14) rfl ?_); refine goesL_ (some 68) rfl rfl Try.func14 (by kernel_rfl) rfl #[.agg #[.slice Ao36 t474.length co36, .slice Ao41 t477.length co41], .int .i64 1] rfl (by (try simp only [List.map_toArray, List.map_cons, List.map_nil]); first | done | rfl | (simp only [List.length_drop, List.length_take]; rfl)) ?_; (with_reducible refine (laws_markDisk.calls kj64 (fun k_ => some k_ = (.slice Ao36 t474.length co36 : Value).ownBlock) (.slice Ao36 t474.length co36) t474 (fun k_ => some k_ = (.slice Ao41 t477.length co41 : Value).ownBlock) (.slice Ao41 t477.length co41) t477 1 t494 t495 t496 w _ ?side1 ?side2 ?side3 A96.out).mono ?_); (case side1 => repeat (first | (with_reducible first | exact HB.out | apply below_alloc | apply pw_below_drewN | apply below_drew1 | refine below_set ?_ GE451.out | refine below_set ?_ GE466.out | refine below_set ?_ GE473.out | refine below_set ?_ GE481.out) | exact HB.out)); (case side2 => exact Kd.R_tight rfl HO_482000.out); (case side3 => exact Kd.R_tight rfl HO_482001.out); rintro e w180 ⟨rfl, hy0, hy1, hb, hkp⟩; refine ⟨_, rfl, ?_⟩; have n0_ := Aside0.mk (Kd.R_mono (ok' := fun k_ => some k_ ≠ (.slice Ao29 t491.length co29 : Value).ownBlock ∧ some k_ ≠ (.slice Ao36 t474.length co36 : Value).ownBlock) (Kd.R_keptB ((Kd.R_apart' HO_467000.out (Kd.R_typed HO_482001.out) (by decide))) hkp (fun k_ hk_ hs_ => Or.elim hs_ (fun e_ => (hk_.1.2) e_) (fun e_ => (hk_.2) e_))) (fun k_ hk_ => ⟨hk_.1.1.1, hk_.1.1.2⟩)); have n1_ := Aside0.mk (Kd.R_mono (ok' := fun k_ => some k_ ≠ (.slice Ao33 t492.length co33 : Value).ownBlock ∧ some k_ ≠ (.slice Ao41 t477.length co41 : Value).ownBlock) (Kd.R_keptB ((Kd.R_apart' HO_467001.out (Kd.R_typed HO_482000.out) (by decide))) hkp (fun k_ hk_ hs_ => Or.elim hs_ (fun e_ => (hk_.2) e_) (fun e_ => (hk_.1.2) e_))) (fun k_ hk_ => ⟨hk_.1.1.1, hk_.1.1.2⟩)); have n2_ := Aside0.mk (Kd.R_mono (ok' := fun k_ => some k_ ≠ (.slice Ao22 t459.length co22 : Value).ownBlock ∧ some k_ ≠ (.slice Ao36 t474.length co36 : Value).ownBlock) (Kd.R_keptB ((Kd.R_apart' HO_474000.out (Kd.R_typed HO_482001.out) (by decide))) hkp (fun k_ hk_ hs_ => Or.elim hs_ (fun e_ => (hk_.1.2) e_) (fun e_ => (hk_.2) e_))) (fun k_ hk_ => ⟨hk_.1.1.1, hk_.1.1.2⟩)); have n3_ := Aside0.mk (Kd.R_mono (ok' := fun k_ => some k_ ≠ (.slice Ao25 t462.length co25 : Value).ownBlock ∧ some k_ ≠ (.slice Ao41 t477.length co41 : Value).ownBlock) (Kd.R_keptB ((Kd.R_apart' HO_474001.out (Kd.R_typed HO_482000.out) (by decide))) hkp (fun k_ hk_ hs_ => Or.elim hs_ (fun e_ => (hk_.2) e_) (fun e_ => (hk_.1.2) e_))) (fun k_ hk_ => ⟨hk_.1.1.1, hk_.1.1.2⟩)); have n4_ := Aside0.mk (Kd.R_reok rfl hy0 (fun k_ e_ => HO_482000.out.1 k_ e_)); have n5_ := Aside0.mk (Kd.R_reok rfl hy1 (fun k_ e_ => HO_482001.out.1 k_ e_)); have n6_ := Aside0.mk (blk_kept (by (with_reducible repeat (first | refine blk_drewN ?_ _ | refine blk_drew ?_ | refine blk_alloc ?_ _)); exact BK451.out) hkp (fun hs_ => Or.elim hs_ (fun e_ => (fun e_ => (Kd.R_ne HO_482000.out BK451.out (by decide)) e_) e_) (fun e_ => (fun e_ => (Kd.R_ne HO_482001.out BK451.out (by decide)) e_) e_))); have n7_ := Aside0.mk (blk_kept (by (with_reducible repeat (first | refine blk_drewN ?_ _ | refine blk_drew ?_ | refine blk_alloc ?_ _)); exact BK466.out) hkp (fun hs_ => Or.elim hs_ (fun e_ => (fun e_ => (Kd.R_ne HO_482000.out BK466.out (by decide)) e_) e_) (fun e_ => (fun e_ => (Kd.R_ne HO_482001.out BK466.out (by decide)) e_) e_))); have n8_ := Aside0.mk (blk_kept (by (with_reducible repeat (first | refine blk_drewN ?_ _ | refine blk_drew ?_ | refine blk_alloc ?_ _)); exact BK473.out) hkp (fun hs_ => Or.elim hs_ (fun e_ => (fun e_ => (Kd.R_ne HO_482000.out BK473.out (by decide)) e_) e_) (fun e_ => (fun e_ => (Kd.R_ne HO_482001.out BK473.out (by decide)) e_) e_))); have n9_ := Aside0.mk (blk_kept (by (with_reducible repeat (first | refine blk_drewN ?_ _ | refine blk_drew ?_ | refine blk_alloc ?_ _)); exact BK481.out) hkp (fun hs_ => Or.elim hs_ (fun e_ => (fun e_ => (Kd.R_ne HO_482000.out BK481.out (by decide)) e_) e_) (fun e_ => (fun e_ => (Kd.R_ne HO_482001.out BK481.out (by decide)) e_) e_))); have n10_ := Aside0.mk (hb); clear HO_467000; clear HO_467001; clear HO_474000; clear HO_474001; clear HO_482000; clear HO_482001; clear BK451; clear BK466; clear BK473; clear BK481; clear HB; have HO_467000 := n0_; have HO_467001 := n1_; have HO_474000 := n2_; have HO_474001 := n3_; have HO_482000 := n4_; have HO_482001 := n5_; have BK451 := n6_; have BK466 := n7_; have BK473 := n8_; have BK481 := n9_; have HB := n10_; clear n0_ n1_ n2_ n3_ n4_ n5_ n6_ n7_ n8_ n9_ n10_; (try clear hb); (try clear hkp); (try clear hy0); (try clear hy1); have hcz181_0 : w180.cell? ⟨gb481, 0, none⟩ = some (.slice Ao36 t474.length co36) := (blk_cell BK481.out 0).trans rfl; have hcz181_1 : w180.cell? ⟨gb481, 1, none⟩ = some (.slice Ao41 t477.length co41) := (blk_cell BK481.out 1).trans rfl; have hfz181_0 := blk_frozen BK481.out 0; have hfz181_1 := blk_frozen BK481.out 1) | ((with_reducible refine gate_callee (f := 15) rfl ?_); refine goesL_ (some 71) rfl rfl Try.func15 (by kernel_rfl) rfl #[.agg #[.slice Ao36 t495.length co36, .slice Ao41 t496.length co41], .int .i64 1] rfl (by (try simp only [List.map_toArray, List.map_cons, List.map_nil]); first | done | (rw [show t495.length = t474.length from (Kd.R_reads' HO_482000.out).1.symm, show t496.length = t477.length from (Kd.R_reads' HO_482001.out).1.symm] <;> rfl) | rfl | (simp only [List.length_drop, List.length_take]; rfl)) ?_; (with_reducible refine (laws_heldDisk.calls kj64 _ _ t495 _ _ t496 1 t497 _ ?side1 ?side2 ?side3 ?side4 A97.out).mono ?_); (case side1 => repeat (first | exact (Kd.R_reads' HO_482000.out).2.2 | (with_reducible refine Kd.C_alloc ?_ _) | (with_reducible refine Kd.C_drewN ?_ _) | (with_reducible refine Kd.C_drew ?_))); (case side2 => rw [show t495.length = t474.length from (Kd.R_reads' HO_482000.out).1.symm]; exact (Kd.R_reads' HO_482000.out).2.1); (case side3 => repeat (first | exact (Kd.R_reads' HO_482001.out).2.2 | (with_reducible refine Kd.C_alloc ?_ _) | (with_reducible refine Kd.C_drewN ?_ _) | (with_reducible refine Kd.C_drew ?_))); (case side4 => rw [show t496.length = t477.length from (Kd.R_reads' HO_482001.out).1.symm]; exact (Kd.R_reads' HO_482001.out).2.1); rintro e w182 ⟨rfl, hb⟩; refine ⟨_, rfl, ?_⟩; have n0_ := Aside0.mk (Kd.R_below (by (with_reducible repeat (first | apply Kd.R_alloc | apply Kd.R_drewN | apply Kd.R_drew)); exact HO_467000.out) hb); have n1_ := Aside0.mk (Kd.R_below (by (with_reducible repeat (first | apply Kd.R_alloc | apply Kd.R_drewN | apply Kd.R_drew)); exact HO_467001.out) hb); have n2_ := Aside0.mk (Kd.R_below (by (with_reducible repeat (first | apply Kd.R_alloc | apply Kd.R_drewN | apply Kd.R_drew)); exact HO_474000.out) hb); have n3_ := Aside0.mk (Kd.R_below (by (with_reducible repeat (first | apply Kd.R_alloc | apply Kd.R_drewN | apply Kd.R_drew)); exact HO_474001.out) hb); have n4_ := Aside0.mk (Kd.R_below (by (with_reducible repeat (first | apply Kd.R_alloc | apply Kd.R_drewN | apply Kd.R_drew)); exact HO_482000.out) hb); have n5_ := Aside0.mk (Kd.R_below (by (with_reducible repeat (first | apply Kd.R_alloc | apply Kd.R_drewN | apply Kd.R_drew)); exact HO_482001.out) hb); have n6_ := Aside0.mk (blk_below (g := gb451) (o := .cells #[.slice A0_0 l0_0.length c0_0, .slice A0_1 l0_1.length c0_1] 25 (0, 0)) (by (with_reducible repeat (first | refine blk_drewN ?_ _ | refine blk_drew ?_ | refine blk_alloc ?_ _)); exact BK451.out) hb); have n7_ := Aside0.mk (blk_below (g := gb466) (o := .cells #[.slice Ao22 t459.length co22, .slice Ao25 t462.length co25] 29 (0, 0)) (by (with_reducible repeat (first | refine blk_drewN ?_ _ | refine blk_drew ?_ | refine blk_alloc ?_ _)); exact BK466.out) hb); have n8_ := Aside0.mk (blk_below (g := gb473) (o := .cells #[.slice Ao29 t491.length co29, .slice Ao33 t492.length co33] 29 (0, 0)) (by (with_reducible repeat (first | refine blk_drewN ?_ _ | refine blk_drew ?_ | refine blk_alloc ?_ _)); exact BK473.out) hb); have n9_ := Aside0.mk (blk_below (g := gb481) (o := .cells #[.slice Ao36 t474.length co36, .slice Ao41 t477.length co41] 29 (0, 0)) (by (with_reducible repeat (first | refine blk_drewN ?_ _ | refine blk_drew ?_ | refine blk_alloc ?_ _)); exact BK481.out) hb); have n10_ := Aside0.mk (below_step (by repeat (first | (with_reducible first | exact HB.out | apply below_alloc | apply pw_below_drewN | apply below_drew1 | refine below_set ?_ GE451.out | refine below_set ?_ GE466.out | refine below_set ?_ GE473.out | refine below_set ?_ GE481.out) | exact HB.out)) hb); clear HO_467000; clear HO_467001; clear HO_474000; clear HO_474001; clear HO_482000; clear HO_482001; clear BK451; clear BK466; clear BK473; clear BK481; clear HB; have HO_467000 := n0_; have HO_467001 := n1_; have HO_474000 := n2_; have HO_474001 := n3_; have HO_482000 := n4_; have HO_482001 := n5_; have BK451 := n6_; have BK466 := n7_; have BK473 := n8_; have BK481 := n9_; have HB := n10_; clear n0_ n1_ n2_ n3_ n4_ n5_ n6_ n7_ n8_ n9_ n10_; (try clear hb); (try clear hb2); (try clear hk); (try clear hi)))
           go_ret
           exact ⟨by first | rfl | (simp [errW_none, errW_some] <;> rfl) | (simp [*, errW_none, errW_some] <;> rfl), by repeat (first | (with_reducible first | exact HB.out | apply below_alloc | apply pw_below_drewN | apply below_drew1 | refine below_set ?_ GE451.out | refine below_set ?_ GE466.out | refine below_set ?_ GE473.out | refine below_set ?_ GE481.out) | exact HB.out)⟩
     ·replace c63 := Bool.eq_false_iff.mpr c63
      subst c63
      have H1 : (some false) = some r := by rw [if_neg (show ¬ (false = true) by decide)] at H; exact H
      clear H
      have H := H1
      clear H1
      obtain rfl := Option.some.inj H
      try go_wp2
      have n0_ := Aside0.mk (Kd.R_drew HO_467000.out)
      have n1_ := Aside0.mk (Kd.R_drew HO_467001.out)
      have n2_ := Aside0.mk (Kd.R_drew HO_474000.out)
      have n3_ := Aside0.mk (Kd.R_drew HO_474001.out)
      have n4_ := Aside0.mk (Kd.R_drew HO_482000.out)
      have n5_ := Aside0.mk (Kd.R_drew HO_482001.out)
      have n6_ := Aside0.mk (blk_drew BK451.out)
      have n7_ := Aside0.mk (blk_drew BK466.out)
      have n8_ := Aside0.mk (blk_drew BK473.out)
      have n9_ := Aside0.mk (blk_drew BK481.out)
      have n10_ := Aside0.mk (below_drew1 HB.out)
      clear HO_467000
      clear HO_467001
      clear HO_474000
      clear HO_474001
      clear HO_482000
      clear HO_482001
      clear BK451
      clear BK466
      clear BK473
      clear BK481
      clear HB
      have HO_467000 := n0_
      have HO_467001 := n1_
      have HO_474000 := n2_
      have HO_474001 := n3_
      have HO_482000 := n4_
      have HO_482001 := n5_
      have BK451 := n6_
      have BK466 := n7_
      have BK473 := n8_
      have BK481 := n9_
      have HB := n10_
      clear n0_ n1_ n2_ n3_ n4_ n5_ n6_ n7_ n8_ n9_ n10_
      refine start_ (n := 5) (S := fun w' => w'.cell? ⟨gb473, 0, none⟩ = some (.slice Ao29 t467.length co29) ∧ w'.cell? ⟨gb473, 1, none⟩ = some (.slice Ao33 t470.length co33) ∧ w'.cell? ⟨gb451, 0, none⟩ = some (.slice A0_0 l0_0.length c0_0) ∧ w'.cell? ⟨gb451, 1, none⟩ = some (.slice A0_1 l0_1.length c0_1)) (ds := []) #[false, false, false, false, false] (by kernel_rfl) rfl rfl ⟨(blk_cell BK473.out 0).trans rfl, (blk_cell BK473.out 1).trans rfl, (blk_cell BK451.out 0).trans rfl, (blk_cell BK451.out 1).trans rfl⟩ (fun hHeld => ?_)
      generalize wc.drew = w183 at HO_467000 HO_467001 HO_474000 HO_474001 HO_482000 HO_482001 BK451 BK466 BK473 BK481 HB hHeld ⊢
      refine take_ (i := 0) (N := some 45) (v := ?_) (a' := ?_) #[true, false, false, false, false] rfl rfl (by kernel_rfl) (fun _ _ _ h => h) (Or.inl ⟨by rfl, ?_⟩) hHeld ?_ ?_
      rotate_left
      ·rintro w' ⟨s0, s1, s2, s3⟩
       go_simp
       with_reducible rfl
      rotate_left
      ·simp only [Act.put, List.setIfInBounds_toArray, List.set_cons_zero, List.set_cons_succ, i64_w, i32_w]
       rfl
      refine take_ (i := 1) (N := some 46) (v := ?_) (a' := ?_) #[true, true, false, false, false] rfl rfl (by kernel_rfl) (fun _ _ _ h => h) (Or.inl ⟨by rfl, ?_⟩) hHeld ?_ ?_
      rotate_left
      ·rintro w' ⟨s0, s1, s2, s3⟩
       go_simp
       with_reducible rfl
      rotate_left
      ·simp only [Act.put, List.setIfInBounds_toArray, List.set_cons_zero, List.set_cons_succ, i64_w, i32_w]
       rfl
      refine one_ (i := 2) (N := some 47) #[true, true, true, false, false] rfl rfl (by kernel_rfl) (by decide) (fun K hK => ?_)
      refine goes_ Try.func11 (by kernel_rfl) rfl #[.agg #[.slice A0_0 l0_0.length c0_0, .slice A0_1 l0_1.length c0_1]] (by rfl) rfl rfl (by (try simp only [List.map_toArray, List.map_cons, List.map_nil]); first | done | rfl | (simp only [List.length_drop, List.length_take]; rfl)) ?_
      with_reducible refine (laws_toDisk.calls kj11 _ _ l0_0 _ _ l0_1 t483 t486 _ ?side1 ?side2 ?side3 ?side4 A61.out).mono ?_
      (case side1 => repeat (first | exact (Kd.C_below HR0_0.out HB.out) | (with_reducible refine Kd.C_alloc ?_ _) | (with_reducible refine Kd.C_drewN ?_ _) | (with_reducible refine Kd.C_drew ?_)))
      (case side2 => exact HC0_0.out)
      (case side3 => repeat (first | exact (Kd.C_below HR0_1.out HB.out) | (with_reducible refine Kd.C_alloc ?_ _) | (with_reducible refine Kd.C_drewN ?_ _) | (with_reducible refine Kd.C_drew ?_)))
      (case side4 => exact HC0_1.out)
      rintro e w184 ⟨v484, v487, rfl, ho0, ho1, hb⟩
      refine ⟨_, rfl, ?_⟩
      have n0_ := Aside0.mk (Kd.R_elder' (by (with_reducible repeat (first | apply Kd.R_alloc | apply Kd.R_drewN | apply Kd.R_drew)); exact HO_467000.out) (Kd.R_base ho0) hb)
      have n1_ := Aside0.mk (Kd.R_elder' (by (with_reducible repeat (first | apply Kd.R_alloc | apply Kd.R_drewN | apply Kd.R_drew)); exact HO_467001.out) (Kd.R_base ho1) hb)
      have n2_ := Aside0.mk (Kd.R_elder' (by (with_reducible repeat (first | apply Kd.R_alloc | apply Kd.R_drewN | apply Kd.R_drew)); exact HO_474000.out) (Kd.R_base ho0) hb)
      have n3_ := Aside0.mk (Kd.R_elder' (by (with_reducible repeat (first | apply Kd.R_alloc | apply Kd.R_drewN | apply Kd.R_drew)); exact HO_474001.out) (Kd.R_base ho1) hb)
      have n4_ := Aside0.mk (Kd.R_elder' (by (with_reducible repeat (first | apply Kd.R_alloc | apply Kd.R_drewN | apply Kd.R_drew)); exact HO_482000.out) (Kd.R_base ho0) hb)
      have n5_ := Aside0.mk (Kd.R_elder' (by (with_reducible repeat (first | apply Kd.R_alloc | apply Kd.R_drewN | apply Kd.R_drew)); exact HO_482001.out) (Kd.R_base ho1) hb)
      have n6_ := Aside0.mk (Kd.R_lower (Kd.R_new' (Kd.R_new' (Kd.R_new' ho0 (Kd.R_lt (by (with_reducible repeat (first | apply Kd.R_alloc | apply Kd.R_drewN | apply Kd.R_drew)); exact HO_467000.out))) (Kd.R_lt (by (with_reducible repeat (first | apply Kd.R_alloc | apply Kd.R_drewN | apply Kd.R_drew)); exact HO_474000.out))) (Kd.R_lt (by (with_reducible repeat (first | apply Kd.R_alloc | apply Kd.R_drewN | apply Kd.R_drew)); exact HO_482000.out))) (below_size (by repeat (first | (with_reducible first | exact HB.out | apply below_alloc | apply pw_below_drewN | apply below_drew1 | refine below_set ?_ GE451.out | refine below_set ?_ GE466.out | refine below_set ?_ GE473.out | refine below_set ?_ GE481.out) | exact HB.out))))
      have n7_ := Aside0.mk (Kd.R_lower (Kd.R_new' (Kd.R_new' (Kd.R_new' ho1 (Kd.R_lt (by (with_reducible repeat (first | apply Kd.R_alloc | apply Kd.R_drewN | apply Kd.R_drew)); exact HO_467001.out))) (Kd.R_lt (by (with_reducible repeat (first | apply Kd.R_alloc | apply Kd.R_drewN | apply Kd.R_drew)); exact HO_474001.out))) (Kd.R_lt (by (with_reducible repeat (first | apply Kd.R_alloc | apply Kd.R_drewN | apply Kd.R_drew)); exact HO_482001.out))) (below_size (by repeat (first | (with_reducible first | exact HB.out | apply below_alloc | apply pw_below_drewN | apply below_drew1 | refine below_set ?_ GE451.out | refine below_set ?_ GE466.out | refine below_set ?_ GE473.out | refine below_set ?_ GE481.out) | exact HB.out))))
      have n8_ := Aside0.mk (blk_below (g := gb451) (o := .cells #[.slice A0_0 l0_0.length c0_0, .slice A0_1 l0_1.length c0_1] 25 (0, 0)) (by (with_reducible repeat (first | refine blk_drewN ?_ _ | refine blk_drew ?_ | refine blk_alloc ?_ _)); exact BK451.out) hb)
      have n9_ := Aside0.mk (blk_below (g := gb466) (o := .cells #[.slice Ao22 t459.length co22, .slice Ao25 t462.length co25] 29 (0, 0)) (by (with_reducible repeat (first | refine blk_drewN ?_ _ | refine blk_drew ?_ | refine blk_alloc ?_ _)); exact BK466.out) hb)
      have n10_ := Aside0.mk (blk_below (g := gb473) (o := .cells #[.slice Ao29 t467.length co29, .slice Ao33 t470.length co33] 29 (0, 0)) (by (with_reducible repeat (first | refine blk_drewN ?_ _ | refine blk_drew ?_ | refine blk_alloc ?_ _)); exact BK473.out) hb)
      have n11_ := Aside0.mk (blk_below (g := gb481) (o := .cells #[.slice Ao36 t474.length co36, .slice Ao41 t477.length co41] 29 (0, 0)) (by (with_reducible repeat (first | refine blk_drewN ?_ _ | refine blk_drew ?_ | refine blk_alloc ?_ _)); exact BK481.out) hb)
      have n12_ := Aside0.mk (below_step (by repeat (first | (with_reducible first | exact HB.out | apply below_alloc | apply pw_below_drewN | apply below_drew1 | refine below_set ?_ GE451.out | refine below_set ?_ GE466.out | refine below_set ?_ GE473.out | refine below_set ?_ GE481.out) | exact HB.out)) hb)
      clear HO_467000
      clear HO_467001
      clear HO_474000
      clear HO_474001
      clear HO_482000
      clear HO_482001
      clear BK451
      clear BK466
      clear BK473
      clear BK481
      clear HB
      have HO_467000 := n0_
      have HO_467001 := n1_
      have HO_474000 := n2_
      have HO_474001 := n3_
      have HO_482000 := n4_
      have HO_482001 := n5_
      have HO485 := n6_
      have HO488 := n7_
      have BK451 := n8_
      have BK466 := n9_
      have BK473 := n10_
      have BK481 := n11_
      have HB := n12_
      clear n0_ n1_ n2_ n3_ n4_ n5_ n6_ n7_ n8_ n9_ n10_ n11_ n12_
      (try clear hb)
      (try clear hb2)
      (try clear hk)
      (try clear hi)
      (try clear ho0)
      (try clear ho1)
      obtain ⟨Ao185, co185, eo185⟩ := Kd.R_slice HO485.out
      (first | subst eo185 | (injection eo185 with f1_ f2_ f3_; have f4_ := f1_.symm; have f5_ := f3_.symm; clear f1_ f2_ f3_; subst f4_; subst f5_))
      obtain ⟨Ao186, co186, eo186⟩ := Kd.R_slice HO488.out
      (first | subst eo186 | (injection eo186 with f1_ f2_ f3_; have f4_ := f1_.symm; have f5_ := f3_.symm; clear f1_ f2_ f3_; subst f4_; subst f5_))
      refine hK.out _ _ ⟨(blk_cell BK473.out 0).trans rfl, (blk_cell BK473.out 1).trans rfl, (blk_cell BK451.out 0).trans rfl, (blk_cell BK451.out 1).trans rfl⟩ (fun hHeld => ?_)
      clear hK K
      refine norm_ (a' := ?_) ?_ ?_
      rotate_left
      ·show Act.put _ (some 47) _ = _
       simp only [Act.put, List.setIfInBounds_toArray, List.set_cons_zero, List.set_cons_succ, i64_w, i32_w]
       rfl
      refine one_ (i := 3) (N := some 48) #[true, true, true, true, false] rfl rfl (by kernel_rfl) (by decide) (fun K hK => ?_)
      refine goes_ Try.func13 (by kernel_rfl) rfl #[.agg #[.slice Ao29 t467.length co29, .slice Ao33 t470.length co33], .agg #[.slice Ao185 t483.length co185, .slice Ao186 t486.length co186]] (by rfl) rfl rfl (by (try simp only [List.map_toArray, List.map_cons, List.map_nil]); first | done | rfl | (simp only [List.length_drop, List.length_take]; rfl)) ?_
      with_reducible refine (laws_eqDisk.calls kj11 _ _ t467 _ _ t470 _ _ t483 _ _ t486 false _ ?side1 ?side2 ?side3 ?side4 ?side5 ?side6 ?side7 ?side8 A62.out).mono ?_
      (case side1 => repeat (first | exact (Kd.R_reads' HO_474000.out).2.2 | (with_reducible refine Kd.C_alloc ?_ _) | (with_reducible refine Kd.C_drewN ?_ _) | (with_reducible refine Kd.C_drew ?_)))
      (case side2 => exact (Kd.R_reads' HO_474000.out).2.1)
      (case side3 => repeat (first | exact (Kd.R_reads' HO_474001.out).2.2 | (with_reducible refine Kd.C_alloc ?_ _) | (with_reducible refine Kd.C_drewN ?_ _) | (with_reducible refine Kd.C_drew ?_)))
      (case side4 => exact (Kd.R_reads' HO_474001.out).2.1)
      (case side5 => repeat (first | exact (Kd.R_reads' HO485.out).2.2 | (with_reducible refine Kd.C_alloc ?_ _) | (with_reducible refine Kd.C_drewN ?_ _) | (with_reducible refine Kd.C_drew ?_)))
      (case side6 => exact (Kd.R_reads' HO485.out).2.1)
      (case side7 => repeat (first | exact (Kd.R_reads' HO488.out).2.2 | (with_reducible refine Kd.C_alloc ?_ _) | (with_reducible refine Kd.C_drewN ?_ _) | (with_reducible refine Kd.C_drew ?_)))
      (case side8 => exact (Kd.R_reads' HO488.out).2.1)
      rintro e w187 ⟨rfl, hb⟩
      refine ⟨_, rfl, ?_⟩
      have n0_ := Aside0.mk (Kd.R_below (by (with_reducible repeat (first | apply Kd.R_alloc | apply Kd.R_drewN | apply Kd.R_drew)); exact HO_467000.out) hb)
      have n1_ := Aside0.mk (Kd.R_below (by (with_reducible repeat (first | apply Kd.R_alloc | apply Kd.R_drewN | apply Kd.R_drew)); exact HO_467001.out) hb)
      have n2_ := Aside0.mk (Kd.R_below (by (with_reducible repeat (first | apply Kd.R_alloc | apply Kd.R_drewN | apply Kd.R_drew)); exact HO_474000.out) hb)
      have n3_ := Aside0.mk (Kd.R_below (by (with_reducible repeat (first | apply Kd.R_alloc | apply Kd.R_drewN | apply Kd.R_drew)); exact HO_474001.out) hb)
      have n4_ := Aside0.mk (Kd.R_below (by (with_reducible repeat (first | apply Kd.R_alloc | apply Kd.R_drewN | apply Kd.R_drew)); exact HO_482000.out) hb)
      have n5_ := Aside0.mk (Kd.R_below (by (with_reducible repeat (first | apply Kd.R_alloc | apply Kd.R_drewN | apply Kd.R_drew)); exact HO_482001.out) hb)
      have n6_ := Aside0.mk (Kd.R_below (by (with_reducible repeat (first | apply Kd.R_alloc | apply Kd.R_drewN | apply Kd.R_drew)); exact HO485.out) hb)
      have n7_ := Aside0.mk (Kd.R_below (by (with_reducible repeat (first | apply Kd.R_alloc | apply Kd.R_drewN | apply Kd.R_drew)); exact HO488.out) hb)
      have n8_ := Aside0.mk (blk_below (g := gb451) (o := .cells #[.slice A0_0 l0_0.length c0_0, .slice A0_1 l0_1.length c0_1] 25 (0, 0)) (by (with_reducible repeat (first | refine blk_drewN ?_ _ | refine blk_drew ?_ | refine blk_alloc ?_ _)); exact BK451.out) hb)
      have n9_ := Aside0.mk (blk_below (g := gb466) (o := .cells #[.slice Ao22 t459.length co22, .slice Ao25 t462.length co25] 29 (0, 0)) (by (with_reducible repeat (first | refine blk_drewN ?_ _ | refine blk_drew ?_ | refine blk_alloc ?_ _)); exact BK466.out) hb)
      have n10_ := Aside0.mk (blk_below (g := gb473) (o := .cells #[.slice Ao29 t467.length co29, .slice Ao33 t470.length co33] 29 (0, 0)) (by (with_reducible repeat (first | refine blk_drewN ?_ _ | refine blk_drew ?_ | refine blk_alloc ?_ _)); exact BK473.out) hb)
      have n11_ := Aside0.mk (blk_below (g := gb481) (o := .cells #[.slice Ao36 t474.length co36, .slice Ao41 t477.length co41] 29 (0, 0)) (by (with_reducible repeat (first | refine blk_drewN ?_ _ | refine blk_drew ?_ | refine blk_alloc ?_ _)); exact BK481.out) hb)
      have n12_ := Aside0.mk (below_step (by repeat (first | (with_reducible first | exact HB.out | apply below_alloc | apply pw_below_drewN | apply below_drew1 | refine below_set ?_ GE451.out | refine below_set ?_ GE466.out | refine below_set ?_ GE473.out | refine below_set ?_ GE481.out) | exact HB.out)) hb)
      clear HO_467000
      clear HO_467001
      clear HO_474000
      clear HO_474001
      clear HO_482000
      clear HO_482001
      clear HO485
      clear HO488
      clear BK451
      clear BK466
      clear BK473
      clear BK481
      clear HB
      have HO_467000 := n0_
      have HO_467001 := n1_
      have HO_474000 := n2_
      have HO_474001 := n3_
      have HO_482000 := n4_
      have HO_482001 := n5_
      have HO485 := n6_
      have HO488 := n7_
      have BK451 := n8_
      have BK466 := n9_
      have BK473 := n10_
      have BK481 := n11_
      have HB := n12_
      clear n0_ n1_ n2_ n3_ n4_ n5_ n6_ n7_ n8_ n9_ n10_ n11_ n12_
      (try clear hb)
      (try clear hb2)
      (try clear hk)
      (try clear hi)
      refine hK.out _ _ ⟨(blk_cell BK473.out 0).trans rfl, (blk_cell BK473.out 1).trans rfl, (blk_cell BK451.out 0).trans rfl, (blk_cell BK451.out 1).trans rfl⟩ (fun hHeld => ?_)
      clear hK K
      refine norm_ (a' := ?_) ?_ ?_
      rotate_left
      ·show Act.put _ (some 48) _ = _
       simp only [Act.put, List.setIfInBounds_toArray, List.set_cons_zero, List.set_cons_succ, i64_w, i32_w]
       rfl
      refine pure_ (i := 4) (N := some 49) (v := ?_) (a' := ?_) #[true, true, true, true, true] rfl rfl (by kernel_rfl) (fun _ _ _ h => h) (Or.inl ⟨by rfl, ?_⟩) ?_ ?_
      rotate_left
      ·intro w'
       go_simp
       with_reducible rfl
      rotate_left
      ·simp only [Act.put, List.setIfInBounds_toArray, List.set_cons_zero, List.set_cons_succ, i64_w, i32_w]
       rfl
      refine done_ (by kernel_rfl) ?_
      try go_wp2
      go_ret
      exact ⟨by first | rfl | (simp [errW_none, errW_some] <;> rfl) | (simp [*, errW_none, errW_some] <;> rfl), by repeat (first | (with_reducible first | exact HB.out | apply below_alloc | apply pw_below_drewN | apply below_drew1 | refine below_set ?_ GE451.out | refine below_set ?_ GE466.out | refine below_set ?_ GE473.out | refine below_set ?_ GE481.out) | exact HB.out)⟩
end Go.Proofs.Ytadelojhfepkeaa.Q
