/- What laws.FnExactWrongRefs reaches, part 8: the functions as Lean functions, the proofs that the program's functions answer so, and plain laws about them. -/
import Derived.Test.YtdbcojeblkiidaaKFnExactWrongRefs1
import Derived.Test.YtdbcojeblkiidaaKFnExactWrongRefs2
import Derived.Test.YtdbcojeblkiidaaKFnExactWrongRefs3
import Derived.Test.YtdbcojeblkiidaaKFnExactWrongRefs4
import Derived.Test.YtdbcojeblkiidaaKFnExactWrongRefs7
namespace Go.Proofs.Ytdbcojeblkiidaa.Q
open Go.RowKit Go.Proofs.Ytdbcojeblkiidaa.Ext Go.Proofs.YtdbcojeblkiidaaW.PrintWords Go.Proofs.YtdbcojeblkiidaaW.PrintLast Go.Proofs.YtdbcojeblkiidaaW.PrintMore
attribute [local go_sem] max2_int min2_int max_two min_two max_three min_three max_four min_four   -- for this text's walks alone
set_option linter.unusedVariables false
set_option linter.unusedSimpArgs false

set_option linter.unusedVariables false
set_option linter.unusedSimpArgs false
/-! ### laws_FnExactWrongRefs: function 7 -/
mutual
def laws_FnExactWrongRefs.j0 : Nat → List Int → Int → List Int → Int → Bool → List Int → List Int → List (S59) → List Int → List Int → List Int → List (S45) → List Int → Option (Bool)
  | 0, _, _, _, _, _, _, _, _, _, _, _, _, _ => none
  | k + 1, x4, x5, x7, x8, x40, x632000, x632001, x632002, x632003, x662000, x662001, x662002, x662003 => if x40 = true then (some false) else ((laws_toImage.f k x632000 x632001 x632002 x632003).bind fun bt667 => ((laws_eqImage.f k x662000 x662001 x662002 x662003 bt667.1 bt667.2.1 bt667.2.2.1 bt667.2.2.2).bind fun t679 => (if t679 = true then ((laws_markImage.f k x662000 x662001 x662002 x662003 1).bind fun t680 => (if t680 < 0 then (laws_FnExactWrongRefs.j1 k x4 x5 x7 true x632000 x632001 x632002 x632003) else ((laws_eqIntS.f k x7 x4).bind fun t681 => (if t681 = true then (laws_FnExactWrongRefs.j1 k x4 x5 x7 (x8 != x5) x632000 x632001 x632002 x632003) else (laws_FnExactWrongRefs.j1 k x4 x5 x7 true x632000 x632001 x632002 x632003))))) else (some false))))
def laws_FnExactWrongRefs.j1 : Nat → List Int → Int → List Int → Bool → List Int → List Int → List (S59) → List Int → Option (Bool)
  | 0, _, _, _, _, _, _, _, _ => none
  | k + 1, x4, x5, x7, x61, x632000, x632001, x632002, x632003 => if x61 = true then (some false) else ((laws_markIntS.f k x7 1).bind fun bt682 => ((laws_heldIntS.f k bt682.2 1).bind fun t684 => (if t684 < 0 then (some false) else (if t684 = bt682.1 then ((laws_toImage.f k x632000 x632001 x632002 x632003).bind fun bt685 => ((impl_WrongRefs.f k bt685.1 bt685.2.1 bt685.2.2.1 bt685.2.2.2).bind fun bt697 => ((laws_eqIntS.f k bt697.1 x4).bind fun t701 => (if t701 = true then (laws_FnExactWrongRefs.j2 k bt682.2 bt682.1 (bt697.2 != x5)) else (laws_FnExactWrongRefs.j2 k bt682.2 bt682.1 true))))) else (some false)))))
def laws_FnExactWrongRefs.j2 : Nat → List Int → Int → Bool → Option (Bool)
  | 0, _, _, _ => none
  | k + 1, x7, x10, x87 => if x87 = true then (some false) else ((laws_heldIntS.f k x7 1).bind fun t702 => (if t702 < 0 then (some false) else (if t702 = x10 then (some true) else (some false))))
end
def laws_FnExactWrongRefs.f (k : Nat) (l0_0 : List Int) (l0_1 : List Int) (l0_2 : List (S59)) (l0_3 : List Int) : Option (Bool) := (laws_szImage.f k l0_0 l0_1 l0_2 l0_3 1048576).bind fun t632 => (if t632 < 0 then (some true) else ((laws_toImage.f k l0_0 l0_1 l0_2 l0_3).bind fun bt633 => ((spec_WrongRefs.f k bt633.1 bt633.2.1 bt633.2.2.1 bt633.2.2.2).bind fun bt645 => ((laws_toImage.f k l0_0 l0_1 l0_2 l0_3).bind fun bt649 => ((impl_WrongRefs.f k bt649.1 bt649.2.1 bt649.2.2.1 bt649.2.2.2).bind fun bt662 => ((laws_eqIntS.f k bt662.1 bt645.1).bind fun t666 => (if t666 = true then (laws_FnExactWrongRefs.j0 k bt645.1 bt645.2 bt662.1 bt662.2 (bt662.2 != bt645.2) l0_0 l0_1 l0_2 l0_3 bt649.1 bt649.2.1 bt649.2.2.1 bt649.2.2.2) else (laws_FnExactWrongRefs.j0 k bt645.1 bt645.2 bt662.1 bt662.2 true l0_0 l0_1 l0_2 l0_3 bt649.1 bt649.2.1 bt649.2.2.1 bt649.2.2.2))))))))
theorem laws_FnExactWrongRefs.mono_l : ∀ k, (∀ y0 y1 y2 y3 y4 y5 y6 y7 y8 y9 y10 y11 y12, LeO (laws_FnExactWrongRefs.j0 k y0 y1 y2 y3 y4 y5 y6 y7 y8 y9 y10 y11 y12) (laws_FnExactWrongRefs.j0 (k + 1) y0 y1 y2 y3 y4 y5 y6 y7 y8 y9 y10 y11 y12)) ∧ (∀ y0 y1 y2 y3 y4 y5 y6 y7, LeO (laws_FnExactWrongRefs.j1 k y0 y1 y2 y3 y4 y5 y6 y7) (laws_FnExactWrongRefs.j1 (k + 1) y0 y1 y2 y3 y4 y5 y6 y7)) ∧ (∀ y0 y1 y2, LeO (laws_FnExactWrongRefs.j2 k y0 y1 y2) (laws_FnExactWrongRefs.j2 (k + 1) y0 y1 y2))
  | 0 => ⟨fun _ _ _ _ _ _ _ _ _ _ _ _ _ r h => by simp [laws_FnExactWrongRefs.j0] at h, fun _ _ _ _ _ _ _ _ r h => by simp [laws_FnExactWrongRefs.j1] at h, fun _ _ _ r h => by simp [laws_FnExactWrongRefs.j2] at h⟩
  | k + 1 => by
    obtain ⟨ih0, ih1, ih2⟩ := laws_FnExactWrongRefs.mono_l k
    refine ⟨?_, ?_, ?_⟩
    · intro y0 y1 y2 y3 y4 y5 y6 y7 y8 y9 y10 y11 y12
      unfold laws_FnExactWrongRefs.j0
      repeat' first
      | (with_reducible exact ih0 _ _ _ _ _ _ _ _ _ _ _ _ _)
      | (with_reducible exact ih1 _ _ _ _ _ _ _ _)
      | (with_reducible exact ih2 _ _ _)
      | (with_reducible exact impl_WrongRefs.mono _ _ _ _ _)
      | (with_reducible exact laws_eqImage.mono _ _ _ _ _ _ _ _ _)
      | (with_reducible exact laws_eqIntS.mono _ _ _)
      | (with_reducible exact laws_heldIntS.mono _ _ _)
      | (with_reducible exact laws_markImage.mono _ _ _ _ _ _)
      | (with_reducible exact laws_markIntS.mono _ _ _)
      | (with_reducible exact laws_szImage.mono _ _ _ _ _ _)
      | (with_reducible exact laws_toImage.mono _ _ _ _ _)
      | (with_reducible exact spec_WrongRefs.mono _ _ _ _ _)
      | (with_reducible exact LeO.refl _)
      | (with_reducible exact LeO.none _)
      | (with_reducible refine LeO.ite ?_ ?_)
      | (with_reducible refine LeO.bind ?_ (fun _ => ?_))
      | exact ih0 _ _ _ _ _ _ _ _ _ _ _ _ _
      | exact ih1 _ _ _ _ _ _ _ _
      | exact ih2 _ _ _
      | exact impl_WrongRefs.mono _ _ _ _ _
      | exact laws_eqImage.mono _ _ _ _ _ _ _ _ _
      | exact laws_eqIntS.mono _ _ _
      | exact laws_heldIntS.mono _ _ _
      | exact laws_markImage.mono _ _ _ _ _ _
      | exact laws_markIntS.mono _ _ _
      | exact laws_szImage.mono _ _ _ _ _ _
      | exact laws_toImage.mono _ _ _ _ _
      | exact spec_WrongRefs.mono _ _ _ _ _
      | exact LeO.none _
      | refine LeO.ite ?_ ?_
      | refine LeO.bind ?_ (fun _ => ?_)
    · intro y0 y1 y2 y3 y4 y5 y6 y7
      unfold laws_FnExactWrongRefs.j1
      repeat' first
      | (with_reducible exact ih0 _ _ _ _ _ _ _ _ _ _ _ _ _)
      | (with_reducible exact ih1 _ _ _ _ _ _ _ _)
      | (with_reducible exact ih2 _ _ _)
      | (with_reducible exact impl_WrongRefs.mono _ _ _ _ _)
      | (with_reducible exact laws_eqImage.mono _ _ _ _ _ _ _ _ _)
      | (with_reducible exact laws_eqIntS.mono _ _ _)
      | (with_reducible exact laws_heldIntS.mono _ _ _)
      | (with_reducible exact laws_markImage.mono _ _ _ _ _ _)
      | (with_reducible exact laws_markIntS.mono _ _ _)
      | (with_reducible exact laws_szImage.mono _ _ _ _ _ _)
      | (with_reducible exact laws_toImage.mono _ _ _ _ _)
      | (with_reducible exact spec_WrongRefs.mono _ _ _ _ _)
      | (with_reducible exact LeO.refl _)
      | (with_reducible exact LeO.none _)
      | (with_reducible refine LeO.ite ?_ ?_)
      | (with_reducible refine LeO.bind ?_ (fun _ => ?_))
      | exact ih0 _ _ _ _ _ _ _ _ _ _ _ _ _
      | exact ih1 _ _ _ _ _ _ _ _
      | exact ih2 _ _ _
      | exact impl_WrongRefs.mono _ _ _ _ _
      | exact laws_eqImage.mono _ _ _ _ _ _ _ _ _
      | exact laws_eqIntS.mono _ _ _
      | exact laws_heldIntS.mono _ _ _
      | exact laws_markImage.mono _ _ _ _ _ _
      | exact laws_markIntS.mono _ _ _
      | exact laws_szImage.mono _ _ _ _ _ _
      | exact laws_toImage.mono _ _ _ _ _
      | exact spec_WrongRefs.mono _ _ _ _ _
      | exact LeO.none _
      | refine LeO.ite ?_ ?_
      | refine LeO.bind ?_ (fun _ => ?_)
    · intro y0 y1 y2
      unfold laws_FnExactWrongRefs.j2
      repeat' first
      | (with_reducible exact ih0 _ _ _ _ _ _ _ _ _ _ _ _ _)
      | (with_reducible exact ih1 _ _ _ _ _ _ _ _)
      | (with_reducible exact ih2 _ _ _)
      | (with_reducible exact impl_WrongRefs.mono _ _ _ _ _)
      | (with_reducible exact laws_eqImage.mono _ _ _ _ _ _ _ _ _)
      | (with_reducible exact laws_eqIntS.mono _ _ _)
      | (with_reducible exact laws_heldIntS.mono _ _ _)
      | (with_reducible exact laws_markImage.mono _ _ _ _ _ _)
      | (with_reducible exact laws_markIntS.mono _ _ _)
      | (with_reducible exact laws_szImage.mono _ _ _ _ _ _)
      | (with_reducible exact laws_toImage.mono _ _ _ _ _)
      | (with_reducible exact spec_WrongRefs.mono _ _ _ _ _)
      | (with_reducible exact LeO.refl _)
      | (with_reducible exact LeO.none _)
      | (with_reducible refine LeO.ite ?_ ?_)
      | (with_reducible refine LeO.bind ?_ (fun _ => ?_))
      | exact ih0 _ _ _ _ _ _ _ _ _ _ _ _ _
      | exact ih1 _ _ _ _ _ _ _ _
      | exact ih2 _ _ _
      | exact impl_WrongRefs.mono _ _ _ _ _
      | exact laws_eqImage.mono _ _ _ _ _ _ _ _ _
      | exact laws_eqIntS.mono _ _ _
      | exact laws_heldIntS.mono _ _ _
      | exact laws_markImage.mono _ _ _ _ _ _
      | exact laws_markIntS.mono _ _ _
      | exact laws_szImage.mono _ _ _ _ _ _
      | exact laws_toImage.mono _ _ _ _ _
      | exact spec_WrongRefs.mono _ _ _ _ _
      | exact LeO.none _
      | refine LeO.ite ?_ ?_
      | refine LeO.bind ?_ (fun _ => ?_)
theorem laws_FnExactWrongRefs.mono : ∀ a0 a1 a2 a3 k, LeO (laws_FnExactWrongRefs.f k a0 a1 a2 a3) (laws_FnExactWrongRefs.f (k + 1) a0 a1 a2 a3) := by
  intro a0 a1 a2 a3 k
  obtain ⟨ih0, ih1, ih2⟩ := laws_FnExactWrongRefs.mono_l k
  unfold laws_FnExactWrongRefs.f
  repeat' first
      | (with_reducible exact ih0 _ _ _ _ _ _ _ _ _ _ _ _ _)
      | (with_reducible exact ih1 _ _ _ _ _ _ _ _)
      | (with_reducible exact ih2 _ _ _)
      | (with_reducible exact impl_WrongRefs.mono _ _ _ _ _)
      | (with_reducible exact laws_eqImage.mono _ _ _ _ _ _ _ _ _)
      | (with_reducible exact laws_eqIntS.mono _ _ _)
      | (with_reducible exact laws_heldIntS.mono _ _ _)
      | (with_reducible exact laws_markImage.mono _ _ _ _ _ _)
      | (with_reducible exact laws_markIntS.mono _ _ _)
      | (with_reducible exact laws_szImage.mono _ _ _ _ _ _)
      | (with_reducible exact laws_toImage.mono _ _ _ _ _)
      | (with_reducible exact spec_WrongRefs.mono _ _ _ _ _)
      | (with_reducible exact LeO.refl _)
      | (with_reducible exact LeO.none _)
      | (with_reducible refine LeO.ite ?_ ?_)
      | (with_reducible refine LeO.bind ?_ (fun _ => ?_))
      | exact ih0 _ _ _ _ _ _ _ _ _ _ _ _ _
      | exact ih1 _ _ _ _ _ _ _ _
      | exact ih2 _ _ _
      | exact impl_WrongRefs.mono _ _ _ _ _
      | exact laws_eqImage.mono _ _ _ _ _ _ _ _ _
      | exact laws_eqIntS.mono _ _ _
      | exact laws_heldIntS.mono _ _ _
      | exact laws_markImage.mono _ _ _ _ _ _
      | exact laws_markIntS.mono _ _ _
      | exact laws_szImage.mono _ _ _ _ _ _
      | exact laws_toImage.mono _ _ _ _ _
      | exact spec_WrongRefs.mono _ _ _ _ _
      | exact LeO.none _
      | refine LeO.ite ?_ ?_
      | refine LeO.bind ?_ (fun _ => ?_)
set_option maxHeartbeats 8000000 in
set_option maxRecDepth 100000 in
theorem laws_FnExactWrongRefs.calls (k : Nat) (A0_0 : Option Addr) (c0_0 : Nat) (l0_0 : List Int) (A0_1 : Option Addr) (c0_1 : Nat) (l0_1 : List Int) (A0_2 : Option Addr) (c0_2 : Nat) (l0_2 : List (S59)) (A0_3 : Option Addr) (c0_3 : Nat) (l0_3 : List Int) (r : Bool) (w : World) (hr0_0 : Kd.C (Kd.int .i64) w A0_0 l0_0.length l0_0) (hc0_0 : l0_0.length ≤ c0_0) (hr0_1 : Kd.C (Kd.int .i64) w A0_1 l0_1.length l0_1) (hc0_1 : l0_1.length ≤ c0_1) (hr0_2 : Kd.C k59 w A0_2 l0_2.length l0_2) (hc0_2 : l0_2.length ≤ c0_2) (hr0_3 : Kd.C (Kd.int .i64) w A0_3 l0_3.length l0_3) (hc0_3 : l0_3.length ≤ c0_3) (h : laws_FnExactWrongRefs.f k l0_0 l0_1 l0_2 l0_3 = some r) :
    Calls Try.prog 7 #[.agg #[.slice A0_0 l0_0.length c0_0, .slice A0_1 l0_1.length c0_1, .slice A0_2 l0_2.length c0_2, .slice A0_3 l0_3.length c0_3]] w fun e w' => e = .returned (.bool r) ∧ Below w.heap.size w w' := by
 have hu25 := Try.underlying25
 have hu30 := Try.underlying30
 have HR0_0 := Aside0.mk hr0_0
 have HC0_0 := Aside0.mk hc0_0
 clear hr0_0 hc0_0
 have HR0_1 := Aside0.mk hr0_1
 have HC0_1 := Aside0.mk hc0_1
 clear hr0_1 hc0_1
 have HR0_2 := Aside0.mk hr0_2
 have HC0_2 := Aside0.mk hc0_2
 clear hr0_2 hc0_2
 have HR0_3 := Aside0.mk hr0_3
 have HC0_3 := Aside0.mk hc0_3
 clear hr0_3 hc0_3
 have HB := Aside0.mk (Below.refl w.heap.size w)
 have H : ((laws_szImage.f k l0_0 l0_1 l0_2 l0_3 1048576).bind fun t632 => (if t632 < 0 then (some true) else ((laws_toImage.f k l0_0 l0_1 l0_2 l0_3).bind fun bt633 => ((spec_WrongRefs.f k bt633.1 bt633.2.1 bt633.2.2.1 bt633.2.2.2).bind fun bt645 => ((laws_toImage.f k l0_0 l0_1 l0_2 l0_3).bind fun bt649 => ((impl_WrongRefs.f k bt649.1 bt649.2.1 bt649.2.2.1 bt649.2.2.2).bind fun bt662 => ((laws_eqIntS.f k bt662.1 bt645.1).bind fun t666 => (if t666 = true then (laws_FnExactWrongRefs.j0 k bt645.1 bt645.2 bt662.1 bt662.2 (bt662.2 != bt645.2) l0_0 l0_1 l0_2 l0_3 bt649.1 bt649.2.1 bt649.2.2.1 bt649.2.2.2) else (laws_FnExactWrongRefs.j0 k bt645.1 bt645.2 bt662.1 bt662.2 true l0_0 l0_1 l0_2 l0_3 bt649.1 bt649.2.1 bt649.2.2.1 bt649.2.2.2))))))))) = some r := h
 clear h
 replace H := Option.bind_eq_some_iff.mp H
 obtain ⟨t632, A20, H⟩ := H
 replace H : (if t632 < 0 then (some true) else ((laws_toImage.f k l0_0 l0_1 l0_2 l0_3).bind fun bt633 => ((spec_WrongRefs.f k bt633.1 bt633.2.1 bt633.2.2.1 bt633.2.2.2).bind fun bt645 => ((laws_toImage.f k l0_0 l0_1 l0_2 l0_3).bind fun bt649 => ((impl_WrongRefs.f k bt649.1 bt649.2.1 bt649.2.2.1 bt649.2.2.2).bind fun bt662 => ((laws_eqIntS.f k bt662.1 bt645.1).bind fun t666 => (if t666 = true then (laws_FnExactWrongRefs.j0 k bt645.1 bt645.2 bt662.1 bt662.2 (bt662.2 != bt645.2) l0_0 l0_1 l0_2 l0_3 bt649.1 bt649.2.1 bt649.2.2.1 bt649.2.2.2) else (laws_FnExactWrongRefs.j0 k bt645.1 bt645.2 bt662.1 bt662.2 true l0_0 l0_1 l0_2 l0_3 bt649.1 bt649.2.1 bt649.2.2.1 bt649.2.2.2)))))))) = some r := H
 have A2 := Aside0.mk A20
 clear A20
 by_cases c3 : t632 < 0
 ·rw [if_pos c3] at H
  have c3b0 : decide (t632 < 0) = true := decide_eq_true c3
  clear c3
  obtain rfl := Option.some.inj H
  go_enter Try.func7, Try.ntmps7
  go_wp2_with (first | ((with_reducible refine gate_dst (N := 1) rfl ?_); refine box_event ?hg (N := 1) ?hd (cs := #[.slice A0_0 l0_0.length c0_0, .slice A0_1 l0_1.length c0_1, .slice A0_2 l0_2.length c0_2, .slice A0_3 l0_3.length c0_3]) (t := 25) ?hr ?_; (case hd => rfl); (case hg => rfl); (case hr => first | (go_simp; done) | (go_simp; rfl)); intro gb631 hg w4 hbox hb; have n0_ := Aside0.mk (below_step (by repeat (first | (with_reducible first | exact HB.out | apply below_alloc | apply pw_below_drewN | apply below_drew1) | exact HB.out)) hb); have n1_ := Aside0.mk (hbox); have n2_ := Aside0.mk ((by rw [hg]; exact (below_size (by repeat (first | (with_reducible first | exact HB.out | apply below_alloc | apply pw_below_drewN | apply below_drew1) | exact HB.out))) : w.heap.size ≤ gb631)); have n3_ := Aside0.mk ((by rw [hg]; exact (below_size (by repeat (first | (with_reducible first | exact HB.out | apply below_alloc | apply pw_below_drewN | apply below_drew1) | exact HB.out))) : w.heap.size ≤ gb631)); clear HB; have HB := n0_; have BK631 := n1_; have GW631 := n2_; have GE631 := n3_; clear n0_ n1_ n2_ n3_; clear hb hbox hg; have hcz5_0 : w4.cell? ⟨gb631, 0, none⟩ = some (.slice A0_0 l0_0.length c0_0) := (blk_cell BK631.out 0).trans rfl; have hcz5_1 : w4.cell? ⟨gb631, 1, none⟩ = some (.slice A0_1 l0_1.length c0_1) := (blk_cell BK631.out 1).trans rfl; have hcz5_2 : w4.cell? ⟨gb631, 2, none⟩ = some (.slice A0_2 l0_2.length c0_2) := (blk_cell BK631.out 2).trans rfl; have hcz5_3 : w4.cell? ⟨gb631, 3, none⟩ = some (.slice A0_3 l0_3.length c0_3) := (blk_cell BK631.out 3).trans rfl; have hfz5_0 := blk_frozen BK631.out 0; have hfz5_1 := blk_frozen BK631.out 1; have hfz5_2 := blk_frozen BK631.out 2; have hfz5_3 := blk_frozen BK631.out 3) | ((with_reducible refine gate_callee (f := 8) rfl ?_); refine goesL_ (some 16) rfl rfl Try.func8 (by kernel_rfl) rfl #[.agg #[.slice A0_0 l0_0.length c0_0, .slice A0_1 l0_1.length c0_1, .slice A0_2 l0_2.length c0_2, .slice A0_3 l0_3.length c0_3], .int .i64 1048576] rfl (by (try simp only [List.map_toArray, List.map_cons, List.map_nil]); first | done | rfl | (simp only [List.length_drop, List.length_take]; rfl)) ?_; (with_reducible refine (laws_szImage.calls k _ _ l0_0 _ _ l0_1 _ _ l0_2 _ _ l0_3 1048576 t632 _ ?side1 ?side2 ?side3 ?side4 ?side5 ?side6 ?side7 ?side8 A2.out).mono ?_); (case side1 => repeat (first | exact (Kd.C_below HR0_0.out HB.out) | (with_reducible refine Kd.C_alloc ?_ _) | (with_reducible refine Kd.C_drewN ?_ _) | (with_reducible refine Kd.C_drew ?_))); (case side2 => exact HC0_0.out); (case side3 => repeat (first | exact (Kd.C_below HR0_1.out HB.out) | (with_reducible refine Kd.C_alloc ?_ _) | (with_reducible refine Kd.C_drewN ?_ _) | (with_reducible refine Kd.C_drew ?_))); (case side4 => exact HC0_1.out); (case side5 => repeat (first | exact (Kd.C_below HR0_2.out HB.out) | (with_reducible refine Kd.C_alloc ?_ _) | (with_reducible refine Kd.C_drewN ?_ _) | (with_reducible refine Kd.C_drew ?_))); (case side6 => exact HC0_2.out); (case side7 => repeat (first | exact (Kd.C_below HR0_3.out HB.out) | (with_reducible refine Kd.C_alloc ?_ _) | (with_reducible refine Kd.C_drewN ?_ _) | (with_reducible refine Kd.C_drew ?_))); (case side8 => exact HC0_3.out); rintro e w6 ⟨rfl, hb⟩; refine ⟨_, rfl, ?_⟩; have n0_ := Aside0.mk (blk_below (g := gb631) (o := .cells #[.slice A0_0 l0_0.length c0_0, .slice A0_1 l0_1.length c0_1, .slice A0_2 l0_2.length c0_2, .slice A0_3 l0_3.length c0_3] 25 (0, 0)) (by (with_reducible repeat (first | refine blk_drewN ?_ _ | refine blk_drew ?_ | refine blk_alloc ?_ _)); exact BK631.out) hb); have n1_ := Aside0.mk (below_step (by repeat (first | (with_reducible first | exact HB.out | apply below_alloc | apply pw_below_drewN | apply below_drew1 | refine below_set ?_ GE631.out) | exact HB.out)) hb); clear BK631; clear HB; have BK631 := n0_; have HB := n1_; clear n0_ n1_; (try clear hb); (try clear hb2); (try clear hk); (try clear hi)))
  go_ret
  exact ⟨by first | rfl | (simp [errW_none, errW_some] <;> rfl) | (simp [*, errW_none, errW_some] <;> rfl), by repeat (first | (with_reducible first | exact HB.out | apply below_alloc | apply pw_below_drewN | apply below_drew1 | refine below_set ?_ GE631.out) | exact HB.out)⟩
 ·rw [if_neg c3] at H
  have c3b0 : decide (t632 < 0) = false := decide_eq_false c3
  clear c3
  replace H := Option.bind_eq_some_iff.mp H
  obtain ⟨⟨t633, t636, t639, t642⟩, A70, H⟩ := H
  replace H : ((spec_WrongRefs.f k t633 t636 t639 t642).bind fun bt645 => ((laws_toImage.f k l0_0 l0_1 l0_2 l0_3).bind fun bt649 => ((impl_WrongRefs.f k bt649.1 bt649.2.1 bt649.2.2.1 bt649.2.2.2).bind fun bt662 => ((laws_eqIntS.f k bt662.1 bt645.1).bind fun t666 => (if t666 = true then (laws_FnExactWrongRefs.j0 k bt645.1 bt645.2 bt662.1 bt662.2 (bt662.2 != bt645.2) l0_0 l0_1 l0_2 l0_3 bt649.1 bt649.2.1 bt649.2.2.1 bt649.2.2.2) else (laws_FnExactWrongRefs.j0 k bt645.1 bt645.2 bt662.1 bt662.2 true l0_0 l0_1 l0_2 l0_3 bt649.1 bt649.2.1 bt649.2.2.1 bt649.2.2.2)))))) = some r := H
  have A7 := Aside0.mk A70
  clear A70
  replace H := Option.bind_eq_some_iff.mp H
  obtain ⟨⟨t645, t648⟩, A80, H⟩ := H
  replace H : ((laws_toImage.f k l0_0 l0_1 l0_2 l0_3).bind fun bt649 => ((impl_WrongRefs.f k bt649.1 bt649.2.1 bt649.2.2.1 bt649.2.2.2).bind fun bt662 => ((laws_eqIntS.f k bt662.1 t645).bind fun t666 => (if t666 = true then (laws_FnExactWrongRefs.j0 k t645 t648 bt662.1 bt662.2 (bt662.2 != t648) l0_0 l0_1 l0_2 l0_3 bt649.1 bt649.2.1 bt649.2.2.1 bt649.2.2.2) else (laws_FnExactWrongRefs.j0 k t645 t648 bt662.1 bt662.2 true l0_0 l0_1 l0_2 l0_3 bt649.1 bt649.2.1 bt649.2.2.1 bt649.2.2.2))))) = some r := H
  have A8 := Aside0.mk A80
  clear A80
  replace H := Option.bind_eq_some_iff.mp H
  obtain ⟨⟨t649, t652, t655, t658⟩, A90, H⟩ := H
  replace H : ((impl_WrongRefs.f k t649 t652 t655 t658).bind fun bt662 => ((laws_eqIntS.f k bt662.1 t645).bind fun t666 => (if t666 = true then (laws_FnExactWrongRefs.j0 k t645 t648 bt662.1 bt662.2 (bt662.2 != t648) l0_0 l0_1 l0_2 l0_3 t649 t652 t655 t658) else (laws_FnExactWrongRefs.j0 k t645 t648 bt662.1 bt662.2 true l0_0 l0_1 l0_2 l0_3 t649 t652 t655 t658)))) = some r := H
  have A9 := Aside0.mk A90
  clear A90
  replace H := Option.bind_eq_some_iff.mp H
  obtain ⟨⟨t662, t665⟩, A100, H⟩ := H
  replace H : ((laws_eqIntS.f k t662 t645).bind fun t666 => (if t666 = true then (laws_FnExactWrongRefs.j0 k t645 t648 t662 t665 (t665 != t648) l0_0 l0_1 l0_2 l0_3 t649 t652 t655 t658) else (laws_FnExactWrongRefs.j0 k t645 t648 t662 t665 true l0_0 l0_1 l0_2 l0_3 t649 t652 t655 t658))) = some r := H
  have A10 := Aside0.mk A100
  clear A100
  have HC11 := Aside0.mk H
  clear H
  go_enter Try.func7, Try.ntmps7
  go_upto_region 8 with (first | ((with_reducible refine gate_dst (N := 1) rfl ?_); refine box_event ?hg (N := 1) ?hd (cs := #[.slice A0_0 l0_0.length c0_0, .slice A0_1 l0_1.length c0_1, .slice A0_2 l0_2.length c0_2, .slice A0_3 l0_3.length c0_3]) (t := 25) ?hr ?_; (case hd => rfl); (case hg => rfl); (case hr => first | (go_simp; done) | (go_simp; rfl)); intro gb631 hg w12 hbox hb; have n0_ := Aside0.mk (below_step (by repeat (first | (with_reducible first | exact HB.out | apply below_alloc | apply pw_below_drewN | apply below_drew1) | exact HB.out)) hb); have n1_ := Aside0.mk (hbox); have n2_ := Aside0.mk ((by rw [hg]; exact (below_size (by repeat (first | (with_reducible first | exact HB.out | apply below_alloc | apply pw_below_drewN | apply below_drew1) | exact HB.out))) : w.heap.size ≤ gb631)); have n3_ := Aside0.mk ((by rw [hg]; exact (below_size (by repeat (first | (with_reducible first | exact HB.out | apply below_alloc | apply pw_below_drewN | apply below_drew1) | exact HB.out))) : w.heap.size ≤ gb631)); clear HB; have HB := n0_; have BK631 := n1_; have GW631 := n2_; have GE631 := n3_; clear n0_ n1_ n2_ n3_; clear hb hbox hg; have hcz13_0 : w12.cell? ⟨gb631, 0, none⟩ = some (.slice A0_0 l0_0.length c0_0) := (blk_cell BK631.out 0).trans rfl; have hcz13_1 : w12.cell? ⟨gb631, 1, none⟩ = some (.slice A0_1 l0_1.length c0_1) := (blk_cell BK631.out 1).trans rfl; have hcz13_2 : w12.cell? ⟨gb631, 2, none⟩ = some (.slice A0_2 l0_2.length c0_2) := (blk_cell BK631.out 2).trans rfl; have hcz13_3 : w12.cell? ⟨gb631, 3, none⟩ = some (.slice A0_3 l0_3.length c0_3) := (blk_cell BK631.out 3).trans rfl; have hfz13_0 := blk_frozen BK631.out 0; have hfz13_1 := blk_frozen BK631.out 1; have hfz13_2 := blk_frozen BK631.out 2; have hfz13_3 := blk_frozen BK631.out 3) | ((with_reducible refine gate_callee (f := 8) rfl ?_); refine goesL_ (some 16) rfl rfl Try.func8 (by kernel_rfl) rfl #[.agg #[.slice A0_0 l0_0.length c0_0, .slice A0_1 l0_1.length c0_1, .slice A0_2 l0_2.length c0_2, .slice A0_3 l0_3.length c0_3], .int .i64 1048576] rfl (by (try simp only [List.map_toArray, List.map_cons, List.map_nil]); first | done | rfl | (simp only [List.length_drop, List.length_take]; rfl)) ?_; (with_reducible refine (laws_szImage.calls k _ _ l0_0 _ _ l0_1 _ _ l0_2 _ _ l0_3 1048576 t632 _ ?side1 ?side2 ?side3 ?side4 ?side5 ?side6 ?side7 ?side8 A2.out).mono ?_); (case side1 => repeat (first | exact (Kd.C_below HR0_0.out HB.out) | (with_reducible refine Kd.C_alloc ?_ _) | (with_reducible refine Kd.C_drewN ?_ _) | (with_reducible refine Kd.C_drew ?_))); (case side2 => exact HC0_0.out); (case side3 => repeat (first | exact (Kd.C_below HR0_1.out HB.out) | (with_reducible refine Kd.C_alloc ?_ _) | (with_reducible refine Kd.C_drewN ?_ _) | (with_reducible refine Kd.C_drew ?_))); (case side4 => exact HC0_1.out); (case side5 => repeat (first | exact (Kd.C_below HR0_2.out HB.out) | (with_reducible refine Kd.C_alloc ?_ _) | (with_reducible refine Kd.C_drewN ?_ _) | (with_reducible refine Kd.C_drew ?_))); (case side6 => exact HC0_2.out); (case side7 => repeat (first | exact (Kd.C_below HR0_3.out HB.out) | (with_reducible refine Kd.C_alloc ?_ _) | (with_reducible refine Kd.C_drewN ?_ _) | (with_reducible refine Kd.C_drew ?_))); (case side8 => exact HC0_3.out); rintro e w14 ⟨rfl, hb⟩; refine ⟨_, rfl, ?_⟩; have n0_ := Aside0.mk (blk_below (g := gb631) (o := .cells #[.slice A0_0 l0_0.length c0_0, .slice A0_1 l0_1.length c0_1, .slice A0_2 l0_2.length c0_2, .slice A0_3 l0_3.length c0_3] 25 (0, 0)) (by (with_reducible repeat (first | refine blk_drewN ?_ _ | refine blk_drew ?_ | refine blk_alloc ?_ _)); exact BK631.out) hb); have n1_ := Aside0.mk (below_step (by repeat (first | (with_reducible first | exact HB.out | apply below_alloc | apply pw_below_drewN | apply below_drew1 | refine below_set ?_ GE631.out) | exact HB.out)) hb); clear BK631; clear HB; have BK631 := n0_; have HB := n1_; clear n0_ n1_; (try clear hb); (try clear hb2); (try clear hk); (try clear hi); have hcz15_0 : w14.cell? ⟨gb631, 0, none⟩ = some (.slice A0_0 l0_0.length c0_0) := (blk_cell BK631.out 0).trans rfl; have hcz15_1 : w14.cell? ⟨gb631, 1, none⟩ = some (.slice A0_1 l0_1.length c0_1) := (blk_cell BK631.out 1).trans rfl; have hcz15_2 : w14.cell? ⟨gb631, 2, none⟩ = some (.slice A0_2 l0_2.length c0_2) := (blk_cell BK631.out 2).trans rfl; have hcz15_3 : w14.cell? ⟨gb631, 3, none⟩ = some (.slice A0_3 l0_3.length c0_3) := (blk_cell BK631.out 3).trans rfl; have hfz15_0 := blk_frozen BK631.out 0; have hfz15_1 := blk_frozen BK631.out 1; have hfz15_2 := blk_frozen BK631.out 2; have hfz15_3 := blk_frozen BK631.out 3) | ((with_reducible refine gate_callee (f := 10) rfl ?_); refine goesL_ (some 21) rfl rfl Try.func10 (by kernel_rfl) rfl #[.agg #[.slice A0_0 l0_0.length c0_0, .slice A0_1 l0_1.length c0_1, .slice A0_2 l0_2.length c0_2, .slice A0_3 l0_3.length c0_3]] rfl (by (try simp only [List.map_toArray, List.map_cons, List.map_nil]); first | done | rfl | (simp only [List.length_drop, List.length_take]; rfl)) ?_; (with_reducible refine (laws_toImage.calls k _ _ l0_0 _ _ l0_1 _ _ l0_2 _ _ l0_3 t633 t636 t639 t642 _ ?side1 ?side2 ?side3 ?side4 ?side5 ?side6 ?side7 ?side8 A7.out).mono ?_); (case side1 => repeat (first | exact (Kd.C_below HR0_0.out HB.out) | (with_reducible refine Kd.C_alloc ?_ _) | (with_reducible refine Kd.C_drewN ?_ _) | (with_reducible refine Kd.C_drew ?_))); (case side2 => exact HC0_0.out); (case side3 => repeat (first | exact (Kd.C_below HR0_1.out HB.out) | (with_reducible refine Kd.C_alloc ?_ _) | (with_reducible refine Kd.C_drewN ?_ _) | (with_reducible refine Kd.C_drew ?_))); (case side4 => exact HC0_1.out); (case side5 => repeat (first | exact (Kd.C_below HR0_2.out HB.out) | (with_reducible refine Kd.C_alloc ?_ _) | (with_reducible refine Kd.C_drewN ?_ _) | (with_reducible refine Kd.C_drew ?_))); (case side6 => exact HC0_2.out); (case side7 => repeat (first | exact (Kd.C_below HR0_3.out HB.out) | (with_reducible refine Kd.C_alloc ?_ _) | (with_reducible refine Kd.C_drewN ?_ _) | (with_reducible refine Kd.C_drew ?_))); (case side8 => exact HC0_3.out); rintro e w16 ⟨v634, v637, v640, v643, rfl, ho0, ho1, ho2, ho3, hb⟩; refine ⟨_, rfl, ?_⟩; have n0_ := Aside0.mk (Kd.R_lower ho0 (below_size (by repeat (first | (with_reducible first | exact HB.out | apply below_alloc | apply pw_below_drewN | apply below_drew1 | refine below_set ?_ GE631.out) | exact HB.out)))); have n1_ := Aside0.mk (Kd.R_lower ho1 (below_size (by repeat (first | (with_reducible first | exact HB.out | apply below_alloc | apply pw_below_drewN | apply below_drew1 | refine below_set ?_ GE631.out) | exact HB.out)))); have n2_ := Aside0.mk (Kd.S_lower ho2 (below_size (by repeat (first | (with_reducible first | exact HB.out | apply below_alloc | apply pw_below_drewN | apply below_drew1 | refine below_set ?_ GE631.out) | exact HB.out)))); have n3_ := Aside0.mk (Kd.R_lower ho3 (below_size (by repeat (first | (with_reducible first | exact HB.out | apply below_alloc | apply pw_below_drewN | apply below_drew1 | refine below_set ?_ GE631.out) | exact HB.out)))); have n4_ := Aside0.mk (blk_below (g := gb631) (o := .cells #[.slice A0_0 l0_0.length c0_0, .slice A0_1 l0_1.length c0_1, .slice A0_2 l0_2.length c0_2, .slice A0_3 l0_3.length c0_3] 25 (0, 0)) (by (with_reducible repeat (first | refine blk_drewN ?_ _ | refine blk_drew ?_ | refine blk_alloc ?_ _)); exact BK631.out) hb); have n5_ := Aside0.mk (below_step (by repeat (first | (with_reducible first | exact HB.out | apply below_alloc | apply pw_below_drewN | apply below_drew1 | refine below_set ?_ GE631.out) | exact HB.out)) hb); clear BK631; clear HB; have HO635 := n0_; have HO638 := n1_; have HO641 := n2_; have HO644 := n3_; have BK631 := n4_; have HB := n5_; clear n0_ n1_ n2_ n3_ n4_ n5_; (try clear hb); (try clear hb2); (try clear hk); (try clear hi); (try clear ho0); (try clear ho1); (try clear ho2); (try clear ho3); obtain ⟨Ao17, co17, eo17⟩ := Kd.R_slice HO635.out; subst eo17; obtain ⟨Ao18, co18, eo18⟩ := Kd.R_slice HO638.out; subst eo18; obtain ⟨Ao19, co19, eo19⟩ := Kd.S_slice HO641.out; subst eo19; obtain ⟨Ao20, co20, eo20⟩ := Kd.R_slice HO644.out; subst eo20) | ((with_reducible refine gate_callee (f := 23) rfl ?_); refine goesL_ (some 22) rfl rfl Try.func23 (by kernel_rfl) rfl #[.agg #[.slice Ao17 t633.length co17, .slice Ao18 t636.length co18, .slice Ao19 t639.length co19, .slice Ao20 t642.length co20]] rfl (by (try simp only [List.map_toArray, List.map_cons, List.map_nil]); first | done | rfl | (simp only [List.length_drop, List.length_take]; rfl)) ?_; (with_reducible refine (spec_WrongRefs.calls k _ _ t633 _ _ t636 _ _ t639 _ _ t642 t645 t648 _ ?side1 ?side2 ?side3 ?side4 ?side5 ?side6 ?side7 ?side8 A8.out).mono ?_); (case side1 => repeat (first | exact (Kd.R_reads' HO635.out).2.2 | (with_reducible refine Kd.C_alloc ?_ _) | (with_reducible refine Kd.C_drewN ?_ _) | (with_reducible refine Kd.C_drew ?_))); (case side2 => exact (Kd.R_reads' HO635.out).2.1); (case side3 => repeat (first | exact (Kd.R_reads' HO638.out).2.2 | (with_reducible refine Kd.C_alloc ?_ _) | (with_reducible refine Kd.C_drewN ?_ _) | (with_reducible refine Kd.C_drew ?_))); (case side4 => exact (Kd.R_reads' HO638.out).2.1); (case side5 => repeat (first | exact (Kd.S_reads' HO641.out).2.2 | (with_reducible refine Kd.C_alloc ?_ _) | (with_reducible refine Kd.C_drewN ?_ _) | (with_reducible refine Kd.C_drew ?_))); (case side6 => exact (Kd.S_reads' HO641.out).2.1); (case side7 => repeat (first | exact (Kd.R_reads' HO644.out).2.2 | (with_reducible refine Kd.C_alloc ?_ _) | (with_reducible refine Kd.C_drewN ?_ _) | (with_reducible refine Kd.C_drew ?_))); (case side8 => exact (Kd.R_reads' HO644.out).2.1); rintro e w21 ⟨v646, rfl, ho0, hb⟩; refine ⟨_, rfl, ?_⟩; have n0_ := Aside0.mk (Kd.R_elder' (by (with_reducible repeat (first | apply Kd.R_alloc | apply Kd.R_drewN | apply Kd.R_drew)); exact HO635.out) (Kd.R_base ho0) hb); have n1_ := Aside0.mk (Kd.R_elder' (by (with_reducible repeat (first | apply Kd.R_alloc | apply Kd.R_drewN | apply Kd.R_drew)); exact HO638.out) (Kd.R_base ho0) hb); have n2_ := Aside0.mk (Kd.S_elder' (by (with_reducible repeat (first | apply Kd.S_alloc | apply Kd.S_drewN | apply Kd.S_drew)); exact HO641.out) (Kd.R_base ho0) hb); have n3_ := Aside0.mk (Kd.R_elder' (by (with_reducible repeat (first | apply Kd.R_alloc | apply Kd.R_drewN | apply Kd.R_drew)); exact HO644.out) (Kd.R_base ho0) hb); have n4_ := Aside0.mk (Kd.R_lower (Kd.R_new' (Kd.R_new' (Kd.R_new' ho0 (Kd.R_lt (by (with_reducible repeat (first | apply Kd.R_alloc | apply Kd.R_drewN | apply Kd.R_drew)); exact HO635.out))) (Kd.R_lt (by (with_reducible repeat (first | apply Kd.R_alloc | apply Kd.R_drewN | apply Kd.R_drew)); exact HO638.out))) (Kd.R_lt (by (with_reducible repeat (first | apply Kd.R_alloc | apply Kd.R_drewN | apply Kd.R_drew)); exact HO644.out))) (below_size (by repeat (first | (with_reducible first | exact HB.out | apply below_alloc | apply pw_below_drewN | apply below_drew1 | refine below_set ?_ GE631.out) | exact HB.out)))); have n5_ := Aside0.mk (blk_below (g := gb631) (o := .cells #[.slice A0_0 l0_0.length c0_0, .slice A0_1 l0_1.length c0_1, .slice A0_2 l0_2.length c0_2, .slice A0_3 l0_3.length c0_3] 25 (0, 0)) (by (with_reducible repeat (first | refine blk_drewN ?_ _ | refine blk_drew ?_ | refine blk_alloc ?_ _)); exact BK631.out) hb); have n6_ := Aside0.mk (below_step (by repeat (first | (with_reducible first | exact HB.out | apply below_alloc | apply pw_below_drewN | apply below_drew1 | refine below_set ?_ GE631.out) | exact HB.out)) hb); clear HO635; clear HO638; clear HO641; clear HO644; clear BK631; clear HB; have HO635 := n0_; have HO638 := n1_; have HO641 := n2_; have HO644 := n3_; have HO647 := n4_; have BK631 := n5_; have HB := n6_; clear n0_ n1_ n2_ n3_ n4_ n5_ n6_; (try clear hb); (try clear hb2); (try clear hk); (try clear hi); (try clear ho0); have hcz22_0 : w21.cell? ⟨gb631, 0, none⟩ = some (.slice A0_0 l0_0.length c0_0) := (blk_cell BK631.out 0).trans rfl; have hcz22_1 : w21.cell? ⟨gb631, 1, none⟩ = some (.slice A0_1 l0_1.length c0_1) := (blk_cell BK631.out 1).trans rfl; have hcz22_2 : w21.cell? ⟨gb631, 2, none⟩ = some (.slice A0_2 l0_2.length c0_2) := (blk_cell BK631.out 2).trans rfl; have hcz22_3 : w21.cell? ⟨gb631, 3, none⟩ = some (.slice A0_3 l0_3.length c0_3) := (blk_cell BK631.out 3).trans rfl; have hfz22_0 := blk_frozen BK631.out 0; have hfz22_1 := blk_frozen BK631.out 1; have hfz22_2 := blk_frozen BK631.out 2; have hfz22_3 := blk_frozen BK631.out 3) | ((with_reducible refine gate_callee (f := 10) rfl ?_); refine goesL_ (some 26) rfl rfl Try.func10 (by kernel_rfl) rfl #[.agg #[.slice A0_0 l0_0.length c0_0, .slice A0_1 l0_1.length c0_1, .slice A0_2 l0_2.length c0_2, .slice A0_3 l0_3.length c0_3]] rfl (by (try simp only [List.map_toArray, List.map_cons, List.map_nil]); first | done | rfl | (simp only [List.length_drop, List.length_take]; rfl)) ?_; (with_reducible refine (laws_toImage.calls k _ _ l0_0 _ _ l0_1 _ _ l0_2 _ _ l0_3 t649 t652 t655 t658 _ ?side1 ?side2 ?side3 ?side4 ?side5 ?side6 ?side7 ?side8 A9.out).mono ?_); (case side1 => repeat (first | exact (Kd.C_below HR0_0.out HB.out) | (with_reducible refine Kd.C_alloc ?_ _) | (with_reducible refine Kd.C_drewN ?_ _) | (with_reducible refine Kd.C_drew ?_))); (case side2 => exact HC0_0.out); (case side3 => repeat (first | exact (Kd.C_below HR0_1.out HB.out) | (with_reducible refine Kd.C_alloc ?_ _) | (with_reducible refine Kd.C_drewN ?_ _) | (with_reducible refine Kd.C_drew ?_))); (case side4 => exact HC0_1.out); (case side5 => repeat (first | exact (Kd.C_below HR0_2.out HB.out) | (with_reducible refine Kd.C_alloc ?_ _) | (with_reducible refine Kd.C_drewN ?_ _) | (with_reducible refine Kd.C_drew ?_))); (case side6 => exact HC0_2.out); (case side7 => repeat (first | exact (Kd.C_below HR0_3.out HB.out) | (with_reducible refine Kd.C_alloc ?_ _) | (with_reducible refine Kd.C_drewN ?_ _) | (with_reducible refine Kd.C_drew ?_))); (case side8 => exact HC0_3.out); rintro e w23 ⟨v650, v653, v656, v659, rfl, ho0, ho1, ho2, ho3, hb⟩; refine ⟨_, rfl, ?_⟩; have n0_ := Aside0.mk (Kd.R_mono (Kd.R_told (Kd.R_told (Kd.R_told (Kd.R_old (by (with_reducible repeat (first | apply Kd.R_alloc | apply Kd.R_drewN | apply Kd.R_drew)); exact HO635.out) hb) (Kd.R_base ho0)) (Kd.R_base ho1)) (Kd.R_base ho3)) (fun _ h_ => h_.1)); have n1_ := Aside0.mk (Kd.R_mono (Kd.R_told (Kd.R_told (Kd.R_told (Kd.R_old (by (with_reducible repeat (first | apply Kd.R_alloc | apply Kd.R_drewN | apply Kd.R_drew)); exact HO638.out) hb) (Kd.R_base ho0)) (Kd.R_base ho1)) (Kd.R_base ho3)) (fun _ h_ => h_.1)); have n2_ := Aside0.mk (Kd.S_mono (Kd.S_told (Kd.S_told (Kd.S_told (Kd.S_told (Kd.S_old (by (with_reducible repeat (first | apply Kd.S_alloc | apply Kd.S_drewN | apply Kd.S_drew)); exact HO641.out) hb) (Kd.R_base ho0)) (Kd.R_base ho1)) (Kd.S_base ho2)) (Kd.R_base ho3)) (fun _ h_ => h_.1)); have n3_ := Aside0.mk (Kd.R_mono (Kd.R_told (Kd.R_told (Kd.R_told (Kd.R_old (by (with_reducible repeat (first | apply Kd.R_alloc | apply Kd.R_drewN | apply Kd.R_drew)); exact HO644.out) hb) (Kd.R_base ho0)) (Kd.R_base ho1)) (Kd.R_base ho3)) (fun _ h_ => h_.1)); have n4_ := Aside0.mk (Kd.R_mono (Kd.R_told (Kd.R_told (Kd.R_told (Kd.R_old (by (with_reducible repeat (first | apply Kd.R_alloc | apply Kd.R_drewN | apply Kd.R_drew)); exact HO647.out) hb) (Kd.R_base ho0)) (Kd.R_base ho1)) (Kd.R_base ho3)) (fun _ h_ => h_.1)); have n5_ := Aside0.mk (Kd.R_lower (Kd.R_new' (Kd.R_new' (Kd.R_new' (Kd.R_new' ho0 (Kd.R_lt (by (with_reducible repeat (first | apply Kd.R_alloc | apply Kd.R_drewN | apply Kd.R_drew)); exact HO635.out))) (Kd.R_lt (by (with_reducible repeat (first | apply Kd.R_alloc | apply Kd.R_drewN | apply Kd.R_drew)); exact HO638.out))) (Kd.R_lt (by (with_reducible repeat (first | apply Kd.R_alloc | apply Kd.R_drewN | apply Kd.R_drew)); exact HO644.out))) (Kd.R_lt (by (with_reducible repeat (first | apply Kd.R_alloc | apply Kd.R_drewN | apply Kd.R_drew)); exact HO647.out))) (below_size (by repeat (first | (with_reducible first | exact HB.out | apply below_alloc | apply pw_below_drewN | apply below_drew1 | refine below_set ?_ GE631.out) | exact HB.out)))); have n6_ := Aside0.mk (Kd.R_lower (Kd.R_new' (Kd.R_new' (Kd.R_new' (Kd.R_new' ho1 (Kd.R_lt (by (with_reducible repeat (first | apply Kd.R_alloc | apply Kd.R_drewN | apply Kd.R_drew)); exact HO635.out))) (Kd.R_lt (by (with_reducible repeat (first | apply Kd.R_alloc | apply Kd.R_drewN | apply Kd.R_drew)); exact HO638.out))) (Kd.R_lt (by (with_reducible repeat (first | apply Kd.R_alloc | apply Kd.R_drewN | apply Kd.R_drew)); exact HO644.out))) (Kd.R_lt (by (with_reducible repeat (first | apply Kd.R_alloc | apply Kd.R_drewN | apply Kd.R_drew)); exact HO647.out))) (below_size (by repeat (first | (with_reducible first | exact HB.out | apply below_alloc | apply pw_below_drewN | apply below_drew1 | refine below_set ?_ GE631.out) | exact HB.out)))); have n7_ := Aside0.mk (Kd.S_lower (Kd.S_new' (Kd.S_new' (Kd.S_new' (Kd.S_new' (Kd.S_new' ho2 (Kd.R_lt (by (with_reducible repeat (first | apply Kd.R_alloc | apply Kd.R_drewN | apply Kd.R_drew)); exact HO635.out))) (Kd.R_lt (by (with_reducible repeat (first | apply Kd.R_alloc | apply Kd.R_drewN | apply Kd.R_drew)); exact HO638.out))) (Kd.S_lt (by (with_reducible repeat (first | apply Kd.S_alloc | apply Kd.S_drewN | apply Kd.S_drew)); exact HO641.out))) (Kd.R_lt (by (with_reducible repeat (first | apply Kd.R_alloc | apply Kd.R_drewN | apply Kd.R_drew)); exact HO644.out))) (Kd.R_lt (by (with_reducible repeat (first | apply Kd.R_alloc | apply Kd.R_drewN | apply Kd.R_drew)); exact HO647.out))) (below_size (by repeat (first | (with_reducible first | exact HB.out | apply below_alloc | apply pw_below_drewN | apply below_drew1 | refine below_set ?_ GE631.out) | exact HB.out)))); have n8_ := Aside0.mk (Kd.R_lower (Kd.R_new' (Kd.R_new' (Kd.R_new' (Kd.R_new' ho3 (Kd.R_lt (by (with_reducible repeat (first | apply Kd.R_alloc | apply Kd.R_drewN | apply Kd.R_drew)); exact HO635.out))) (Kd.R_lt (by (with_reducible repeat (first | apply Kd.R_alloc | apply Kd.R_drewN | apply Kd.R_drew)); exact HO638.out))) (Kd.R_lt (by (with_reducible repeat (first | apply Kd.R_alloc | apply Kd.R_drewN | apply Kd.R_drew)); exact HO644.out))) (Kd.R_lt (by (with_reducible repeat (first | apply Kd.R_alloc | apply Kd.R_drewN | apply Kd.R_drew)); exact HO647.out))) (below_size (by repeat (first | (with_reducible first | exact HB.out | apply below_alloc | apply pw_below_drewN | apply below_drew1 | refine below_set ?_ GE631.out) | exact HB.out)))); have n9_ := Aside0.mk (blk_below (g := gb631) (o := .cells #[.slice A0_0 l0_0.length c0_0, .slice A0_1 l0_1.length c0_1, .slice A0_2 l0_2.length c0_2, .slice A0_3 l0_3.length c0_3] 25 (0, 0)) (by (with_reducible repeat (first | refine blk_drewN ?_ _ | refine blk_drew ?_ | refine blk_alloc ?_ _)); exact BK631.out) hb); have n10_ := Aside0.mk (below_step (by repeat (first | (with_reducible first | exact HB.out | apply below_alloc | apply pw_below_drewN | apply below_drew1 | refine below_set ?_ GE631.out) | exact HB.out)) hb); clear HO635; clear HO638; clear HO641; clear HO644; clear HO647; clear BK631; clear HB; have HO635 := n0_; have HO638 := n1_; have HO641 := n2_; have HO644 := n3_; have HO647 := n4_; have HO651 := n5_; have HO654 := n6_; have HO657 := n7_; have HO660 := n8_; have BK631 := n9_; have HB := n10_; clear n0_ n1_ n2_ n3_ n4_ n5_ n6_ n7_ n8_ n9_ n10_; (try clear hb); (try clear hb2); (try clear hk); (try clear hi); (try clear ho0); (try clear ho1); (try clear ho2); (try clear ho3)) | ((with_reducible refine gate_dst (N := 6) rfl ?_); refine box_event ?hg (N := 6) ?hd (cs := #[.slice none 0 0, .slice none 0 0, .slice none 0 0, .slice none 0 0]) (t := 30) ?hr ?_; (case hd => rfl); (case hg => rfl); (case hr => first | (go_simp; done) | (go_simp; rfl)); intro gb661 hg w24 hbox hb; have n0_ := Aside0.mk (Kd.R_below (by (with_reducible repeat (first | apply Kd.R_alloc | apply Kd.R_drewN | apply Kd.R_drew)); exact HO635.out) hb); have n1_ := Aside0.mk (Kd.R_below (by (with_reducible repeat (first | apply Kd.R_alloc | apply Kd.R_drewN | apply Kd.R_drew)); exact HO638.out) hb); have n2_ := Aside0.mk (Kd.S_below (by (with_reducible repeat (first | apply Kd.S_alloc | apply Kd.S_drewN | apply Kd.S_drew)); exact HO641.out) hb); have n3_ := Aside0.mk (Kd.R_below (by (with_reducible repeat (first | apply Kd.R_alloc | apply Kd.R_drewN | apply Kd.R_drew)); exact HO644.out) hb); have n4_ := Aside0.mk (Kd.R_below (by (with_reducible repeat (first | apply Kd.R_alloc | apply Kd.R_drewN | apply Kd.R_drew)); exact HO647.out) hb); have n5_ := Aside0.mk (Kd.R_below (by (with_reducible repeat (first | apply Kd.R_alloc | apply Kd.R_drewN | apply Kd.R_drew)); exact HO651.out) hb); have n6_ := Aside0.mk (Kd.R_below (by (with_reducible repeat (first | apply Kd.R_alloc | apply Kd.R_drewN | apply Kd.R_drew)); exact HO654.out) hb); have n7_ := Aside0.mk (Kd.S_below (by (with_reducible repeat (first | apply Kd.S_alloc | apply Kd.S_drewN | apply Kd.S_drew)); exact HO657.out) hb); have n8_ := Aside0.mk (Kd.R_below (by (with_reducible repeat (first | apply Kd.R_alloc | apply Kd.R_drewN | apply Kd.R_drew)); exact HO660.out) hb); have n9_ := Aside0.mk (blk_below (g := gb631) (o := .cells #[.slice A0_0 l0_0.length c0_0, .slice A0_1 l0_1.length c0_1, .slice A0_2 l0_2.length c0_2, .slice A0_3 l0_3.length c0_3] 25 (0, 0)) (by (with_reducible repeat (first | refine blk_drewN ?_ _ | refine blk_drew ?_ | refine blk_alloc ?_ _)); exact BK631.out) hb); have n10_ := Aside0.mk (below_step (by repeat (first | (with_reducible first | exact HB.out | apply below_alloc | apply pw_below_drewN | apply below_drew1 | refine below_set ?_ GE631.out) | exact HB.out)) hb); have n11_ := Aside0.mk (hbox); have n12_ := Aside0.mk ((by rw [hg]; exact (below_size (by repeat (first | (with_reducible first | exact HB.out | apply below_alloc | apply pw_below_drewN | apply below_drew1 | refine below_set ?_ GE631.out) | exact HB.out))) : w.heap.size ≤ gb661)); have n13_ := Aside0.mk ((by rw [hg]; exact (below_size (by repeat (first | (with_reducible first | exact HB.out | apply below_alloc | apply pw_below_drewN | apply below_drew1 | refine below_set ?_ GE631.out) | exact HB.out))) : w.heap.size ≤ gb661)); have n14_ := Aside0.mk ((by rw [hg]; exact Nat.ne_of_lt (blk_lt (g := gb631) (o := .cells #[.slice A0_0 l0_0.length c0_0, .slice A0_1 l0_1.length c0_1, .slice A0_2 l0_2.length c0_2, .slice A0_3 l0_3.length c0_3] 25 (0, 0)) (by (with_reducible repeat (first | refine blk_drewN ?_ _ | refine blk_drew ?_ | refine blk_alloc ?_ _)); exact BK631.out)) : gb631 ≠ gb661)); have n15_ := Aside0.mk ((by rw [hg]; exact Nat.ne_of_gt (blk_lt (g := gb631) (o := .cells #[.slice A0_0 l0_0.length c0_0, .slice A0_1 l0_1.length c0_1, .slice A0_2 l0_2.length c0_2, .slice A0_3 l0_3.length c0_3] 25 (0, 0)) (by (with_reducible repeat (first | refine blk_drewN ?_ _ | refine blk_drew ?_ | refine blk_alloc ?_ _)); exact BK631.out)) : gb661 ≠ gb631)); clear HO635; clear HO638; clear HO641; clear HO644; clear HO647; clear HO651; clear HO654; clear HO657; clear HO660; clear BK631; clear HB; have HO635 := n0_; have HO638 := n1_; have HO641 := n2_; have HO644 := n3_; have HO647 := n4_; have HO651 := n5_; have HO654 := n6_; have HO657 := n7_; have HO660 := n8_; have BK631 := n9_; have HB := n10_; have BK661 := n11_; have GW661 := n12_; have GE661 := n13_; have NB631_661 := n14_; have NB661_631 := n15_; clear n0_ n1_ n2_ n3_ n4_ n5_ n6_ n7_ n8_ n9_ n10_ n11_ n12_ n13_ n14_ n15_; clear hb hbox hg; obtain ⟨Ao25, co25, eo25⟩ := Kd.R_slice HO651.out; subst eo25; have hnb26 := NB661_631.out; have hnc26 := NB631_661.out; have hcz27_0 : w24.cell? ⟨gb661, 0, none⟩ = some (.slice none 0 0) := (blk_cell BK661.out 0).trans rfl; have hcz27_1 : w24.cell? ⟨gb661, 1, none⟩ = some (.slice none 0 0) := (blk_cell BK661.out 1).trans rfl; have hcz27_2 : w24.cell? ⟨gb661, 2, none⟩ = some (.slice none 0 0) := (blk_cell BK661.out 2).trans rfl; have hcz27_3 : w24.cell? ⟨gb661, 3, none⟩ = some (.slice none 0 0) := (blk_cell BK661.out 3).trans rfl; have hfz27_0 := blk_frozen BK661.out 0; have hfz27_1 := blk_frozen BK661.out 1; have hfz27_2 := blk_frozen BK661.out 2; have hfz27_3 := blk_frozen BK661.out 3; obtain ⟨Ao28, co28, eo28⟩ := Kd.R_slice HO654.out; subst eo28; obtain ⟨Ao29, co29, eo29⟩ := Kd.S_slice HO657.out; subst eo29; obtain ⟨Ao30, co30, eo30⟩ := Kd.R_slice HO660.out; subst eo30) | ((with_reducible refine gate_callee (f := 24) rfl ?_); refine goesL_ (some 29) rfl rfl Try.func24 (by kernel_rfl) rfl #[.agg #[.slice Ao25 t649.length co25, .slice Ao28 t652.length co28, .slice Ao29 t655.length co29, .slice Ao30 t658.length co30]] rfl (by (try simp only [List.map_toArray, List.map_cons, List.map_nil]); first | done | rfl | (simp only [List.length_drop, List.length_take]; rfl)) ?_; (with_reducible refine (impl_WrongRefs.calls k _ _ t649 _ _ t652 _ _ t655 _ _ t658 t662 t665 _ ?side1 ?side2 ?side3 ?side4 ?side5 ?side6 ?side7 ?side8 A10.out).mono ?_); (case side1 => refine (Kd.R_reads' (e := 3) (base := w.heap.size) (ok := fun k_ => (((((some k_ ≠ (.slice Ao28 t652.length co28 : Value).ownBlock ∧ some k_ ≠ (.slice Ao30 t658.length co30 : Value).ownBlock) ∧ some k_ ≠ (.slice Ao17 t633.length co17 : Value).ownBlock) ∧ some k_ ≠ (.slice Ao18 t636.length co18 : Value).ownBlock) ∧ some k_ ≠ (.slice Ao20 t642.length co20 : Value).ownBlock) ∧ some k_ ≠ (v646 : Value).ownBlock)) (n := t649.length) (c := co25) ?_).2.2; exact (by (with_reducible repeat (first | apply Kd.R_alloc | apply Kd.R_drewN | apply Kd.R_drew)); exact (Kd.R_mono (Kd.R_far (p := ⟨gb661, 3, none⟩) (Kd.R_far (p := ⟨gb661, 2, none⟩) (Kd.R_far (p := ⟨gb661, 1, none⟩) (Kd.R_far (p := ⟨gb661, 0, none⟩) (Kd.R_types HO651.out BK661.out (by decide)) (fun _ hk => hk.2) (.slice Ao25 t649.length co25)) (fun _ hk => hk.2) (.slice Ao28 t652.length co28)) (fun _ hk => hk.2) (.slice Ao29 t655.length co29)) (fun _ hk => hk.2) (.slice Ao30 t658.length co30)) (fun _ h_ => h_.1)))); (case side2 => exact (Kd.R_reads' HO651.out).2.1); (case side3 => refine (Kd.R_reads' (e := 3) (base := w.heap.size) (ok := fun k_ => (((((some k_ ≠ (.slice Ao25 t649.length co25 : Value).ownBlock ∧ some k_ ≠ (.slice Ao30 t658.length co30 : Value).ownBlock) ∧ some k_ ≠ (.slice Ao17 t633.length co17 : Value).ownBlock) ∧ some k_ ≠ (.slice Ao18 t636.length co18 : Value).ownBlock) ∧ some k_ ≠ (.slice Ao20 t642.length co20 : Value).ownBlock) ∧ some k_ ≠ (v646 : Value).ownBlock)) (n := t652.length) (c := co28) ?_).2.2; exact (by (with_reducible repeat (first | apply Kd.R_alloc | apply Kd.R_drewN | apply Kd.R_drew)); exact (Kd.R_mono (Kd.R_far (p := ⟨gb661, 3, none⟩) (Kd.R_far (p := ⟨gb661, 2, none⟩) (Kd.R_far (p := ⟨gb661, 1, none⟩) (Kd.R_far (p := ⟨gb661, 0, none⟩) (Kd.R_types HO654.out BK661.out (by decide)) (fun _ hk => hk.2) (.slice Ao25 t649.length co25)) (fun _ hk => hk.2) (.slice Ao28 t652.length co28)) (fun _ hk => hk.2) (.slice Ao29 t655.length co29)) (fun _ hk => hk.2) (.slice Ao30 t658.length co30)) (fun _ h_ => h_.1)))); (case side4 => exact (Kd.R_reads' HO654.out).2.1); (case side5 => refine (Kd.S_reads' (e := 45) (base := w.heap.size) (ok := fun k_ => ((((((some k_ ≠ (.slice Ao25 t649.length co25 : Value).ownBlock ∧ (some k_ ≠ (.slice Ao28 t652.length co28 : Value).ownBlock ∧ some k_ ≠ (.slice Ao30 t658.length co30 : Value).ownBlock)) ∧ some k_ ≠ (.slice Ao17 t633.length co17 : Value).ownBlock) ∧ some k_ ≠ (.slice Ao18 t636.length co18 : Value).ownBlock) ∧ some k_ ≠ (.slice Ao19 t639.length co19 : Value).ownBlock) ∧ some k_ ≠ (.slice Ao20 t642.length co20 : Value).ownBlock) ∧ some k_ ≠ (v646 : Value).ownBlock)) (n := t655.length) (c := co29) ?_).2.2; exact (by (with_reducible repeat (first | apply Kd.S_alloc | apply Kd.S_drewN | apply Kd.S_drew)); exact (Kd.S_mono (Kd.S_far (p := ⟨gb661, 3, none⟩) (Kd.S_far (p := ⟨gb661, 2, none⟩) (Kd.S_far (p := ⟨gb661, 1, none⟩) (Kd.S_far (p := ⟨gb661, 0, none⟩) (Kd.S_types HO657.out BK661.out (by decide)) (fun _ hk => hk.2) (.slice Ao25 t649.length co25)) (fun _ hk => hk.2) (.slice Ao28 t652.length co28)) (fun _ hk => hk.2) (.slice Ao29 t655.length co29)) (fun _ hk => hk.2) (.slice Ao30 t658.length co30)) (fun _ h_ => h_.1)))); (case side6 => exact (Kd.S_reads' HO657.out).2.1); (case side7 => refine (Kd.R_reads' (e := 3) (base := w.heap.size) (ok := fun k_ => (((((some k_ ≠ (.slice Ao25 t649.length co25 : Value).ownBlock ∧ some k_ ≠ (.slice Ao28 t652.length co28 : Value).ownBlock) ∧ some k_ ≠ (.slice Ao17 t633.length co17 : Value).ownBlock) ∧ some k_ ≠ (.slice Ao18 t636.length co18 : Value).ownBlock) ∧ some k_ ≠ (.slice Ao20 t642.length co20 : Value).ownBlock) ∧ some k_ ≠ (v646 : Value).ownBlock)) (n := t658.length) (c := co30) ?_).2.2; exact (by (with_reducible repeat (first | apply Kd.R_alloc | apply Kd.R_drewN | apply Kd.R_drew)); exact (Kd.R_mono (Kd.R_far (p := ⟨gb661, 3, none⟩) (Kd.R_far (p := ⟨gb661, 2, none⟩) (Kd.R_far (p := ⟨gb661, 1, none⟩) (Kd.R_far (p := ⟨gb661, 0, none⟩) (Kd.R_types HO660.out BK661.out (by decide)) (fun _ hk => hk.2) (.slice Ao25 t649.length co25)) (fun _ hk => hk.2) (.slice Ao28 t652.length co28)) (fun _ hk => hk.2) (.slice Ao29 t655.length co29)) (fun _ hk => hk.2) (.slice Ao30 t658.length co30)) (fun _ h_ => h_.1)))); (case side8 => exact (Kd.R_reads' HO660.out).2.1); rintro e w31 ⟨v663, rfl, ho0, hb⟩; refine ⟨_, rfl, ?_⟩; have n0_ := Aside0.mk (Kd.R_elder' (by (with_reducible repeat (first | apply Kd.R_alloc | apply Kd.R_drewN | apply Kd.R_drew)); exact (Kd.R_mono (Kd.R_far (p := ⟨gb661, 3, none⟩) (Kd.R_far (p := ⟨gb661, 2, none⟩) (Kd.R_far (p := ⟨gb661, 1, none⟩) (Kd.R_far (p := ⟨gb661, 0, none⟩) (Kd.R_types HO635.out BK661.out (by decide)) (fun _ hk => hk.2) (.slice Ao25 t649.length co25)) (fun _ hk => hk.2) (.slice Ao28 t652.length co28)) (fun _ hk => hk.2) (.slice Ao29 t655.length co29)) (fun _ hk => hk.2) (.slice Ao30 t658.length co30)) (fun _ h_ => h_.1))) (Kd.R_base ho0) hb); have n1_ := Aside0.mk (Kd.R_elder' (by (with_reducible repeat (first | apply Kd.R_alloc | apply Kd.R_drewN | apply Kd.R_drew)); exact (Kd.R_mono (Kd.R_far (p := ⟨gb661, 3, none⟩) (Kd.R_far (p := ⟨gb661, 2, none⟩) (Kd.R_far (p := ⟨gb661, 1, none⟩) (Kd.R_far (p := ⟨gb661, 0, none⟩) (Kd.R_types HO638.out BK661.out (by decide)) (fun _ hk => hk.2) (.slice Ao25 t649.length co25)) (fun _ hk => hk.2) (.slice Ao28 t652.length co28)) (fun _ hk => hk.2) (.slice Ao29 t655.length co29)) (fun _ hk => hk.2) (.slice Ao30 t658.length co30)) (fun _ h_ => h_.1))) (Kd.R_base ho0) hb); have n2_ := Aside0.mk (Kd.S_elder' (by (with_reducible repeat (first | apply Kd.S_alloc | apply Kd.S_drewN | apply Kd.S_drew)); exact (Kd.S_mono (Kd.S_far (p := ⟨gb661, 3, none⟩) (Kd.S_far (p := ⟨gb661, 2, none⟩) (Kd.S_far (p := ⟨gb661, 1, none⟩) (Kd.S_far (p := ⟨gb661, 0, none⟩) (Kd.S_types HO641.out BK661.out (by decide)) (fun _ hk => hk.2) (.slice Ao25 t649.length co25)) (fun _ hk => hk.2) (.slice Ao28 t652.length co28)) (fun _ hk => hk.2) (.slice Ao29 t655.length co29)) (fun _ hk => hk.2) (.slice Ao30 t658.length co30)) (fun _ h_ => h_.1))) (Kd.R_base ho0) hb); have n3_ := Aside0.mk (Kd.R_elder' (by (with_reducible repeat (first | apply Kd.R_alloc | apply Kd.R_drewN | apply Kd.R_drew)); exact (Kd.R_mono (Kd.R_far (p := ⟨gb661, 3, none⟩) (Kd.R_far (p := ⟨gb661, 2, none⟩) (Kd.R_far (p := ⟨gb661, 1, none⟩) (Kd.R_far (p := ⟨gb661, 0, none⟩) (Kd.R_types HO644.out BK661.out (by decide)) (fun _ hk => hk.2) (.slice Ao25 t649.length co25)) (fun _ hk => hk.2) (.slice Ao28 t652.length co28)) (fun _ hk => hk.2) (.slice Ao29 t655.length co29)) (fun _ hk => hk.2) (.slice Ao30 t658.length co30)) (fun _ h_ => h_.1))) (Kd.R_base ho0) hb); have n4_ := Aside0.mk (Kd.R_elder' (by (with_reducible repeat (first | apply Kd.R_alloc | apply Kd.R_drewN | apply Kd.R_drew)); exact (Kd.R_mono (Kd.R_far (p := ⟨gb661, 3, none⟩) (Kd.R_far (p := ⟨gb661, 2, none⟩) (Kd.R_far (p := ⟨gb661, 1, none⟩) (Kd.R_far (p := ⟨gb661, 0, none⟩) (Kd.R_types HO647.out BK661.out (by decide)) (fun _ hk => hk.2) (.slice Ao25 t649.length co25)) (fun _ hk => hk.2) (.slice Ao28 t652.length co28)) (fun _ hk => hk.2) (.slice Ao29 t655.length co29)) (fun _ hk => hk.2) (.slice Ao30 t658.length co30)) (fun _ h_ => h_.1))) (Kd.R_base ho0) hb); have n5_ := Aside0.mk (Kd.R_elder' (by (with_reducible repeat (first | apply Kd.R_alloc | apply Kd.R_drewN | apply Kd.R_drew)); exact (Kd.R_mono (Kd.R_far (p := ⟨gb661, 3, none⟩) (Kd.R_far (p := ⟨gb661, 2, none⟩) (Kd.R_far (p := ⟨gb661, 1, none⟩) (Kd.R_far (p := ⟨gb661, 0, none⟩) (Kd.R_types HO651.out BK661.out (by decide)) (fun _ hk => hk.2) (.slice Ao25 t649.length co25)) (fun _ hk => hk.2) (.slice Ao28 t652.length co28)) (fun _ hk => hk.2) (.slice Ao29 t655.length co29)) (fun _ hk => hk.2) (.slice Ao30 t658.length co30)) (fun _ h_ => h_.1))) (Kd.R_base ho0) hb); have n6_ := Aside0.mk (Kd.R_elder' (by (with_reducible repeat (first | apply Kd.R_alloc | apply Kd.R_drewN | apply Kd.R_drew)); exact (Kd.R_mono (Kd.R_far (p := ⟨gb661, 3, none⟩) (Kd.R_far (p := ⟨gb661, 2, none⟩) (Kd.R_far (p := ⟨gb661, 1, none⟩) (Kd.R_far (p := ⟨gb661, 0, none⟩) (Kd.R_types HO654.out BK661.out (by decide)) (fun _ hk => hk.2) (.slice Ao25 t649.length co25)) (fun _ hk => hk.2) (.slice Ao28 t652.length co28)) (fun _ hk => hk.2) (.slice Ao29 t655.length co29)) (fun _ hk => hk.2) (.slice Ao30 t658.length co30)) (fun _ h_ => h_.1))) (Kd.R_base ho0) hb); have n7_ := Aside0.mk (Kd.S_elder' (by (with_reducible repeat (first | apply Kd.S_alloc | apply Kd.S_drewN | apply Kd.S_drew)); exact (Kd.S_mono (Kd.S_far (p := ⟨gb661, 3, none⟩) (Kd.S_far (p := ⟨gb661, 2, none⟩) (Kd.S_far (p := ⟨gb661, 1, none⟩) (Kd.S_far (p := ⟨gb661, 0, none⟩) (Kd.S_types HO657.out BK661.out (by decide)) (fun _ hk => hk.2) (.slice Ao25 t649.length co25)) (fun _ hk => hk.2) (.slice Ao28 t652.length co28)) (fun _ hk => hk.2) (.slice Ao29 t655.length co29)) (fun _ hk => hk.2) (.slice Ao30 t658.length co30)) (fun _ h_ => h_.1))) (Kd.R_base ho0) hb); have n8_ := Aside0.mk (Kd.R_elder' (by (with_reducible repeat (first | apply Kd.R_alloc | apply Kd.R_drewN | apply Kd.R_drew)); exact (Kd.R_mono (Kd.R_far (p := ⟨gb661, 3, none⟩) (Kd.R_far (p := ⟨gb661, 2, none⟩) (Kd.R_far (p := ⟨gb661, 1, none⟩) (Kd.R_far (p := ⟨gb661, 0, none⟩) (Kd.R_types HO660.out BK661.out (by decide)) (fun _ hk => hk.2) (.slice Ao25 t649.length co25)) (fun _ hk => hk.2) (.slice Ao28 t652.length co28)) (fun _ hk => hk.2) (.slice Ao29 t655.length co29)) (fun _ hk => hk.2) (.slice Ao30 t658.length co30)) (fun _ h_ => h_.1))) (Kd.R_base ho0) hb); have n9_ := Aside0.mk (Kd.R_lower (Kd.R_new' (Kd.R_new' (Kd.R_new' (Kd.R_new' (Kd.R_new' (Kd.R_new' (Kd.R_new' ho0 (Kd.R_lt (by (with_reducible repeat (first | apply Kd.R_alloc | apply Kd.R_drewN | apply Kd.R_drew)); exact (Kd.R_mono (Kd.R_far (p := ⟨gb661, 3, none⟩) (Kd.R_far (p := ⟨gb661, 2, none⟩) (Kd.R_far (p := ⟨gb661, 1, none⟩) (Kd.R_far (p := ⟨gb661, 0, none⟩) (Kd.R_types HO635.out BK661.out (by decide)) (fun _ hk => hk.2) (.slice Ao25 t649.length co25)) (fun _ hk => hk.2) (.slice Ao28 t652.length co28)) (fun _ hk => hk.2) (.slice Ao29 t655.length co29)) (fun _ hk => hk.2) (.slice Ao30 t658.length co30)) (fun _ h_ => h_.1))))) (Kd.R_lt (by (with_reducible repeat (first | apply Kd.R_alloc | apply Kd.R_drewN | apply Kd.R_drew)); exact (Kd.R_mono (Kd.R_far (p := ⟨gb661, 3, none⟩) (Kd.R_far (p := ⟨gb661, 2, none⟩) (Kd.R_far (p := ⟨gb661, 1, none⟩) (Kd.R_far (p := ⟨gb661, 0, none⟩) (Kd.R_types HO638.out BK661.out (by decide)) (fun _ hk => hk.2) (.slice Ao25 t649.length co25)) (fun _ hk => hk.2) (.slice Ao28 t652.length co28)) (fun _ hk => hk.2) (.slice Ao29 t655.length co29)) (fun _ hk => hk.2) (.slice Ao30 t658.length co30)) (fun _ h_ => h_.1))))) (Kd.R_lt (by (with_reducible repeat (first | apply Kd.R_alloc | apply Kd.R_drewN | apply Kd.R_drew)); exact (Kd.R_mono (Kd.R_far (p := ⟨gb661, 3, none⟩) (Kd.R_far (p := ⟨gb661, 2, none⟩) (Kd.R_far (p := ⟨gb661, 1, none⟩) (Kd.R_far (p := ⟨gb661, 0, none⟩) (Kd.R_types HO644.out BK661.out (by decide)) (fun _ hk => hk.2) (.slice Ao25 t649.length co25)) (fun _ hk => hk.2) (.slice Ao28 t652.length co28)) (fun _ hk => hk.2) (.slice Ao29 t655.length co29)) (fun _ hk => hk.2) (.slice Ao30 t658.length co30)) (fun _ h_ => h_.1))))) (Kd.R_lt (by (with_reducible repeat (first | apply Kd.R_alloc | apply Kd.R_drewN | apply Kd.R_drew)); exact (Kd.R_mono (Kd.R_far (p := ⟨gb661, 3, none⟩) (Kd.R_far (p := ⟨gb661, 2, none⟩) (Kd.R_far (p := ⟨gb661, 1, none⟩) (Kd.R_far (p := ⟨gb661, 0, none⟩) (Kd.R_types HO647.out BK661.out (by decide)) (fun _ hk => hk.2) (.slice Ao25 t649.length co25)) (fun _ hk => hk.2) (.slice Ao28 t652.length co28)) (fun _ hk => hk.2) (.slice Ao29 t655.length co29)) (fun _ hk => hk.2) (.slice Ao30 t658.length co30)) (fun _ h_ => h_.1))))) (Kd.R_lt (by (with_reducible repeat (first | apply Kd.R_alloc | apply Kd.R_drewN | apply Kd.R_drew)); exact (Kd.R_mono (Kd.R_far (p := ⟨gb661, 3, none⟩) (Kd.R_far (p := ⟨gb661, 2, none⟩) (Kd.R_far (p := ⟨gb661, 1, none⟩) (Kd.R_far (p := ⟨gb661, 0, none⟩) (Kd.R_types HO651.out BK661.out (by decide)) (fun _ hk => hk.2) (.slice Ao25 t649.length co25)) (fun _ hk => hk.2) (.slice Ao28 t652.length co28)) (fun _ hk => hk.2) (.slice Ao29 t655.length co29)) (fun _ hk => hk.2) (.slice Ao30 t658.length co30)) (fun _ h_ => h_.1))))) (Kd.R_lt (by (with_reducible repeat (first | apply Kd.R_alloc | apply Kd.R_drewN | apply Kd.R_drew)); exact (Kd.R_mono (Kd.R_far (p := ⟨gb661, 3, none⟩) (Kd.R_far (p := ⟨gb661, 2, none⟩) (Kd.R_far (p := ⟨gb661, 1, none⟩) (Kd.R_far (p := ⟨gb661, 0, none⟩) (Kd.R_types HO654.out BK661.out (by decide)) (fun _ hk => hk.2) (.slice Ao25 t649.length co25)) (fun _ hk => hk.2) (.slice Ao28 t652.length co28)) (fun _ hk => hk.2) (.slice Ao29 t655.length co29)) (fun _ hk => hk.2) (.slice Ao30 t658.length co30)) (fun _ h_ => h_.1))))) (Kd.R_lt (by (with_reducible repeat (first | apply Kd.R_alloc | apply Kd.R_drewN | apply Kd.R_drew)); exact (Kd.R_mono (Kd.R_far (p := ⟨gb661, 3, none⟩) (Kd.R_far (p := ⟨gb661, 2, none⟩) (Kd.R_far (p := ⟨gb661, 1, none⟩) (Kd.R_far (p := ⟨gb661, 0, none⟩) (Kd.R_types HO660.out BK661.out (by decide)) (fun _ hk => hk.2) (.slice Ao25 t649.length co25)) (fun _ hk => hk.2) (.slice Ao28 t652.length co28)) (fun _ hk => hk.2) (.slice Ao29 t655.length co29)) (fun _ hk => hk.2) (.slice Ao30 t658.length co30)) (fun _ h_ => h_.1))))) (below_size (by repeat (first | (with_reducible first | exact HB.out | apply below_alloc | apply pw_below_drewN | apply below_drew1 | refine below_set ?_ GE631.out | refine below_set ?_ GE661.out) | exact HB.out)))); have n10_ := Aside0.mk (blk_below (g := gb631) (o := .cells #[.slice A0_0 l0_0.length c0_0, .slice A0_1 l0_1.length c0_1, .slice A0_2 l0_2.length c0_2, .slice A0_3 l0_3.length c0_3] 25 (0, 0)) (by (with_reducible repeat (first | refine blk_drewN ?_ _ | refine blk_drew ?_ | refine blk_alloc ?_ _)); refine blk_far ?_ NB631_661.out _; (with_reducible repeat (first | refine blk_drewN ?_ _ | refine blk_drew ?_ | refine blk_alloc ?_ _)); refine blk_far ?_ NB631_661.out _; (with_reducible repeat (first | refine blk_drewN ?_ _ | refine blk_drew ?_ | refine blk_alloc ?_ _)); refine blk_far ?_ NB631_661.out _; (with_reducible repeat (first | refine blk_drewN ?_ _ | refine blk_drew ?_ | refine blk_alloc ?_ _)); refine blk_far ?_ NB631_661.out _; (with_reducible repeat (first | refine blk_drewN ?_ _ | refine blk_drew ?_ | refine blk_alloc ?_ _)); exact BK631.out) hb); have n11_ := Aside0.mk (blk_below (g := gb661) (o := .cells #[.slice Ao25 t649.length co25, .slice Ao28 t652.length co28, .slice Ao29 t655.length co29, .slice Ao30 t658.length co30] 30 (0, 0)) (by (with_reducible repeat (first | refine blk_drewN ?_ _ | refine blk_drew ?_ | refine blk_alloc ?_ _)); refine blk_put (cs := #[.slice Ao25 t649.length co25, .slice Ao28 t652.length co28, .slice Ao29 t655.length co29, .slice none 0 0]) ?_ 3 _ rfl; (with_reducible repeat (first | refine blk_drewN ?_ _ | refine blk_drew ?_ | refine blk_alloc ?_ _)); refine blk_put (cs := #[.slice Ao25 t649.length co25, .slice Ao28 t652.length co28, .slice none 0 0, .slice none 0 0]) ?_ 2 _ rfl; (with_reducible repeat (first | refine blk_drewN ?_ _ | refine blk_drew ?_ | refine blk_alloc ?_ _)); refine blk_put (cs := #[.slice Ao25 t649.length co25, .slice none 0 0, .slice none 0 0, .slice none 0 0]) ?_ 1 _ rfl; (with_reducible repeat (first | refine blk_drewN ?_ _ | refine blk_drew ?_ | refine blk_alloc ?_ _)); refine blk_put (cs := #[.slice none 0 0, .slice none 0 0, .slice none 0 0, .slice none 0 0]) ?_ 0 _ rfl; (with_reducible repeat (first | refine blk_drewN ?_ _ | refine blk_drew ?_ | refine blk_alloc ?_ _)); exact BK661.out) hb); have n12_ := Aside0.mk (below_step (by repeat (first | (with_reducible first | exact HB.out | apply below_alloc | apply pw_below_drewN | apply below_drew1 | refine below_set ?_ GE631.out | refine below_set ?_ GE661.out) | exact HB.out)) hb); clear HO635; clear HO638; clear HO641; clear HO644; clear HO647; clear HO651; clear HO654; clear HO657; clear HO660; clear BK631; clear BK661; clear HB; have HO635 := n0_; have HO638 := n1_; have HO641 := n2_; have HO644 := n3_; have HO647 := n4_; have HO651 := n5_; have HO654 := n6_; have HO657 := n7_; have HO660 := n8_; have HO664 := n9_; have BK631 := n10_; have BK661 := n11_; have HB := n12_; clear n0_ n1_ n2_ n3_ n4_ n5_ n6_ n7_ n8_ n9_ n10_ n11_ n12_; (try clear hb); (try clear hb2); (try clear hk); (try clear hi); (try clear ho0)))
  (try simp only [Act.put, List.setIfInBounds_toArray, List.set_cons_zero, List.set_cons_succ])
  go_cut [40] (fun v40 wc => ∃ (kq : Nat) (x40_10 : Bool), v40 = .bool x40_10 ∧ Aside0 (laws_FnExactWrongRefs.j0 kq t645 t648 t662 t665 x40_10 l0_0 l0_1 l0_2 l0_3 t649 t652 t655 t658 = some r) ∧ Aside0 (kq ≤ k) ∧ Aside0 (Kd.R (Kd.int .i64) 3 wc w.heap.size (fun k_ => some k_ ≠ (v663 : Value).ownBlock ∧ some k_ ≠ ((.slice Ao25 t649.length co25) : Value).ownBlock ∧ some k_ ≠ ((.slice Ao28 t652.length co28) : Value).ownBlock ∧ some k_ ≠ ((.slice Ao30 t658.length co30) : Value).ownBlock) v646 t645) ∧ Aside0 (Kd.R (Kd.int .i64) 3 wc w.heap.size (fun k_ => some k_ ≠ (v646 : Value).ownBlock ∧ some k_ ≠ ((.slice Ao25 t649.length co25) : Value).ownBlock ∧ some k_ ≠ ((.slice Ao28 t652.length co28) : Value).ownBlock ∧ some k_ ≠ ((.slice Ao30 t658.length co30) : Value).ownBlock) v663 t662) ∧ Aside0 (Kd.R (Kd.int .i64) 3 wc w.heap.size (fun k_ => some k_ ≠ (v646 : Value).ownBlock ∧ some k_ ≠ (v663 : Value).ownBlock ∧ some k_ ≠ ((.slice Ao28 t652.length co28) : Value).ownBlock ∧ some k_ ≠ ((.slice Ao30 t658.length co30) : Value).ownBlock) (.slice Ao25 t649.length co25) t649) ∧ Aside0 (Kd.R (Kd.int .i64) 3 wc w.heap.size (fun k_ => some k_ ≠ (v646 : Value).ownBlock ∧ some k_ ≠ (v663 : Value).ownBlock ∧ some k_ ≠ ((.slice Ao25 t649.length co25) : Value).ownBlock ∧ some k_ ≠ ((.slice Ao30 t658.length co30) : Value).ownBlock) (.slice Ao28 t652.length co28) t652) ∧ Aside0 (Kd.S k45 45 wc w.heap.size (fun k_ => some k_ ≠ (v646 : Value).ownBlock ∧ some k_ ≠ (v663 : Value).ownBlock ∧ some k_ ≠ ((.slice Ao25 t649.length co25) : Value).ownBlock ∧ some k_ ≠ ((.slice Ao28 t652.length co28) : Value).ownBlock ∧ some k_ ≠ ((.slice Ao30 t658.length co30) : Value).ownBlock) (.slice Ao29 t655.length co29) t655) ∧ Aside0 (Kd.R (Kd.int .i64) 3 wc w.heap.size (fun k_ => some k_ ≠ (v646 : Value).ownBlock ∧ some k_ ≠ (v663 : Value).ownBlock ∧ some k_ ≠ ((.slice Ao25 t649.length co25) : Value).ownBlock ∧ some k_ ≠ ((.slice Ao28 t652.length co28) : Value).ownBlock) (.slice Ao30 t658.length co30) t658) ∧ Aside0 (wc.heap[gb631]? = some (.cells #[(.slice A0_0 l0_0.length c0_0), (.slice A0_1 l0_1.length c0_1), (.slice A0_2 l0_2.length c0_2), (.slice A0_3 l0_3.length c0_3)] 25 (0, 0))) ∧ Aside0 (wc.heap[gb661]? = some (.cells #[(.slice Ao25 t649.length co25), (.slice Ao28 t652.length co28), (.slice Ao29 t655.length co29), (.slice Ao30 t658.length co30)] 30 (0, 0))) ∧ Aside0 (Below w.heap.size w wc))
  case first =>
   have H := HC11.out
   clear HC11
   replace H := Option.bind_eq_some_iff.mp H
   obtain ⟨t666, A320, H⟩ := H
   replace H : (if t666 = true then (laws_FnExactWrongRefs.j0 k t645 t648 t662 t665 (t665 != t648) l0_0 l0_1 l0_2 l0_3 t649 t652 t655 t658) else (laws_FnExactWrongRefs.j0 k t645 t648 t662 t665 true l0_0 l0_1 l0_2 l0_3 t649 t652 t655 t658)) = some r := H
   have A32 := Aside0.mk A320
   clear A320
   by_cases c33 : t666 = true
   ·subst c33
    have H1 : (laws_FnExactWrongRefs.j0 k t645 t648 t662 t665 (t665 != t648) l0_0 l0_1 l0_2 l0_3 t649 t652 t655 t658) = some r := by rw [if_pos rfl] at H; exact H
    clear H
    have H := H1
    clear H1
    have H' := Aside0.mk H
    clear H
    obtain ⟨Ao34, co34, eo34⟩ := Kd.R_slice HO664.out
    subst eo34
    obtain ⟨Ao35, co35, eo35⟩ := Kd.R_slice HO647.out
    subst eo35
    go_wp2_with (first | ((with_reducible refine gate_callee (f := 15) rfl ?_); refine goesL_ (some 34) rfl rfl Try.func15 (by kernel_rfl) rfl #[.slice Ao34 t662.length co34, .slice Ao35 t645.length co35] rfl (by (try simp only [List.map_toArray, List.map_cons, List.map_nil]); first | done | rfl | (simp only [List.length_drop, List.length_take]; rfl)) ?_; (with_reducible refine (laws_eqIntS.calls k _ _ t662 _ _ t645 true _ ?side1 ?side2 ?side3 ?side4 A32.out).mono ?_); (case side1 => repeat (first | exact (Kd.R_reads' HO664.out).2.2 | (with_reducible refine Kd.C_alloc ?_ _) | (with_reducible refine Kd.C_drewN ?_ _) | (with_reducible refine Kd.C_drew ?_))); (case side2 => exact (Kd.R_reads' HO664.out).2.1); (case side3 => repeat (first | exact (Kd.R_reads' HO647.out).2.2 | (with_reducible refine Kd.C_alloc ?_ _) | (with_reducible refine Kd.C_drewN ?_ _) | (with_reducible refine Kd.C_drew ?_))); (case side4 => exact (Kd.R_reads' HO647.out).2.1); rintro e w' ⟨rfl, ⟨nd, rfl⟩⟩; refine ⟨_, rfl, ?_⟩))
    go_meet
    case rel => exact ⟨_, ((t665 != t648)), (by first | rfl | (simp; done) | (simp [*]; done)), H', ⟨by first | omega | exact Nat.le_refl _⟩, ⟨by (with_reducible repeat (first | apply Kd.R_alloc | apply Kd.R_drewN | apply Kd.R_drew)); exact Kd.R_mono HO647.out (fun _ hk => ⟨hk.2, ⟨hk.1.1.1.2, ⟨hk.1.1.2, hk.1.2⟩⟩⟩)⟩, ⟨by (with_reducible repeat (first | apply Kd.R_alloc | apply Kd.R_drewN | apply Kd.R_drew)); exact Kd.R_mono HO664.out (fun _ hk => ⟨hk.1.1.1.2, ⟨hk.1.1.2, ⟨hk.1.2, hk.2⟩⟩⟩)⟩, ⟨by (with_reducible repeat (first | apply Kd.R_alloc | apply Kd.R_drewN | apply Kd.R_drew)); exact Kd.R_mono HO651.out (fun _ hk => ⟨hk.1.2, ⟨hk.2, ⟨hk.1.1.1.1.1.1, hk.1.1.1.1.1.2⟩⟩⟩)⟩, ⟨by (with_reducible repeat (first | apply Kd.R_alloc | apply Kd.R_drewN | apply Kd.R_drew)); exact Kd.R_mono HO654.out (fun _ hk => ⟨hk.1.2, ⟨hk.2, ⟨hk.1.1.1.1.1.1, hk.1.1.1.1.1.2⟩⟩⟩)⟩, ⟨by (with_reducible repeat (first | apply Kd.S_alloc | apply Kd.S_drewN | apply Kd.S_drew)); exact Kd.S_mono HO657.out (fun _ hk => ⟨hk.1.2, ⟨hk.2, ⟨hk.1.1.1.1.1.1.1, ⟨hk.1.1.1.1.1.1.2.1, hk.1.1.1.1.1.1.2.2⟩⟩⟩⟩)⟩, ⟨by (with_reducible repeat (first | apply Kd.R_alloc | apply Kd.R_drewN | apply Kd.R_drew)); exact Kd.R_mono HO660.out (fun _ hk => ⟨hk.1.2, ⟨hk.2, ⟨hk.1.1.1.1.1.1, hk.1.1.1.1.1.2⟩⟩⟩)⟩, ⟨by (with_reducible repeat (first | refine blk_drewN ?_ _ | refine blk_drew ?_ | refine blk_alloc ?_ _)); exact BK631.out⟩, ⟨by (with_reducible repeat (first | refine blk_drewN ?_ _ | refine blk_drew ?_ | refine blk_alloc ?_ _)); exact BK661.out⟩, ⟨by repeat (first | (with_reducible first | exact HB.out | apply below_alloc | apply pw_below_drewN | apply below_drew1 | refine below_set ?_ GE631.out | refine below_set ?_ GE661.out) | exact HB.out)⟩⟩
   ·replace c33 := Bool.eq_false_iff.mpr c33
    subst c33
    have H1 : (laws_FnExactWrongRefs.j0 k t645 t648 t662 t665 true l0_0 l0_1 l0_2 l0_3 t649 t652 t655 t658) = some r := by rw [if_neg (show ¬ (false = true) by decide)] at H; exact H
    clear H
    have H := H1
    clear H1
    have H' := Aside0.mk H
    clear H
    obtain ⟨Ao36, co36, eo36⟩ := Kd.R_slice HO664.out
    subst eo36
    obtain ⟨Ao37, co37, eo37⟩ := Kd.R_slice HO647.out
    subst eo37
    go_wp2_with (first | ((with_reducible refine gate_callee (f := 15) rfl ?_); refine goesL_ (some 34) rfl rfl Try.func15 (by kernel_rfl) rfl #[.slice Ao36 t662.length co36, .slice Ao37 t645.length co37] rfl (by (try simp only [List.map_toArray, List.map_cons, List.map_nil]); first | done | rfl | (simp only [List.length_drop, List.length_take]; rfl)) ?_; (with_reducible refine (laws_eqIntS.calls k _ _ t662 _ _ t645 false _ ?side1 ?side2 ?side3 ?side4 A32.out).mono ?_); (case side1 => repeat (first | exact (Kd.R_reads' HO664.out).2.2 | (with_reducible refine Kd.C_alloc ?_ _) | (with_reducible refine Kd.C_drewN ?_ _) | (with_reducible refine Kd.C_drew ?_))); (case side2 => exact (Kd.R_reads' HO664.out).2.1); (case side3 => repeat (first | exact (Kd.R_reads' HO647.out).2.2 | (with_reducible refine Kd.C_alloc ?_ _) | (with_reducible refine Kd.C_drewN ?_ _) | (with_reducible refine Kd.C_drew ?_))); (case side4 => exact (Kd.R_reads' HO647.out).2.1); rintro e w' ⟨rfl, ⟨nd, rfl⟩⟩; refine ⟨_, rfl, ?_⟩))
    go_meet
    case rel => exact ⟨_, (true), (by first | rfl | (simp; done) | (simp [*]; done)), H', ⟨by first | omega | exact Nat.le_refl _⟩, ⟨by (with_reducible repeat (first | apply Kd.R_alloc | apply Kd.R_drewN | apply Kd.R_drew)); exact Kd.R_mono HO647.out (fun _ hk => ⟨hk.2, ⟨hk.1.1.1.2, ⟨hk.1.1.2, hk.1.2⟩⟩⟩)⟩, ⟨by (with_reducible repeat (first | apply Kd.R_alloc | apply Kd.R_drewN | apply Kd.R_drew)); exact Kd.R_mono HO664.out (fun _ hk => ⟨hk.1.1.1.2, ⟨hk.1.1.2, ⟨hk.1.2, hk.2⟩⟩⟩)⟩, ⟨by (with_reducible repeat (first | apply Kd.R_alloc | apply Kd.R_drewN | apply Kd.R_drew)); exact Kd.R_mono HO651.out (fun _ hk => ⟨hk.1.2, ⟨hk.2, ⟨hk.1.1.1.1.1.1, hk.1.1.1.1.1.2⟩⟩⟩)⟩, ⟨by (with_reducible repeat (first | apply Kd.R_alloc | apply Kd.R_drewN | apply Kd.R_drew)); exact Kd.R_mono HO654.out (fun _ hk => ⟨hk.1.2, ⟨hk.2, ⟨hk.1.1.1.1.1.1, hk.1.1.1.1.1.2⟩⟩⟩)⟩, ⟨by (with_reducible repeat (first | apply Kd.S_alloc | apply Kd.S_drewN | apply Kd.S_drew)); exact Kd.S_mono HO657.out (fun _ hk => ⟨hk.1.2, ⟨hk.2, ⟨hk.1.1.1.1.1.1.1, ⟨hk.1.1.1.1.1.1.2.1, hk.1.1.1.1.1.1.2.2⟩⟩⟩⟩)⟩, ⟨by (with_reducible repeat (first | apply Kd.R_alloc | apply Kd.R_drewN | apply Kd.R_drew)); exact Kd.R_mono HO660.out (fun _ hk => ⟨hk.1.2, ⟨hk.2, ⟨hk.1.1.1.1.1.1, hk.1.1.1.1.1.2⟩⟩⟩)⟩, ⟨by (with_reducible repeat (first | refine blk_drewN ?_ _ | refine blk_drew ?_ | refine blk_alloc ?_ _)); exact BK631.out⟩, ⟨by (with_reducible repeat (first | refine blk_drewN ?_ _ | refine blk_drew ?_ | refine blk_alloc ?_ _)); exact BK661.out⟩, ⟨by repeat (first | (with_reducible first | exact HB.out | apply below_alloc | apply pw_below_drewN | apply below_drew1 | refine below_set ?_ GE631.out | refine below_set ?_ GE661.out) | exact HB.out)⟩⟩
  case rest =>
   clear HC11
   try clear c1
   try clear c2
   try clear p2
   try clear c3
   try clear c3b0
   try clear c7
   try clear c8
   try clear c10
   try clear c15
   try clear c23
   try clear c24
   try clear c26
   try clear c33
   try clear hcz13_0
   try clear hcz13_1
   try clear hcz13_2
   try clear hcz13_3
   try clear hcz15_0
   try clear hcz15_1
   try clear hcz15_2
   try clear hcz15_3
   try clear hcz22_0
   try clear hcz22_1
   try clear hcz22_2
   try clear hcz22_3
   try clear hcz27_0
   try clear hcz27_1
   try clear hcz27_2
   try clear hcz27_3
   try clear hcz5_0
   try clear hcz5_1
   try clear hcz5_2
   try clear hcz5_3
   try clear hfz13_0
   try clear hfz13_1
   try clear hfz13_2
   try clear hfz13_3
   try clear hfz15_0
   try clear hfz15_1
   try clear hfz15_2
   try clear hfz15_3
   try clear hfz22_0
   try clear hfz22_1
   try clear hfz22_2
   try clear hfz22_3
   try clear hfz27_0
   try clear hfz27_1
   try clear hfz27_2
   try clear hfz27_3
   try clear hfz5_0
   try clear hfz5_1
   try clear hfz5_2
   try clear hfz5_3
   obtain ⟨kq, x40_10, rfl, HA, HJ10, HO_4, HO_7, HO_662000, HO_662001, HO_662002, HO_662003, BK631, BK661, HB⟩ := hcut
   cases kq with
   | zero => exact absurd HA.out (by simp [laws_FnExactWrongRefs.j0])
   | succ kj10 =>
    have H := HA.out
    clear HA
    simp only [laws_FnExactWrongRefs.j0] at H
    by_cases c38 : x40_10 = true
    ·subst c38
     have H1 : (some false) = some r := by rw [if_pos rfl] at H; exact H
     clear H
     have H := H1
     clear H1
     obtain rfl := Option.some.inj H
     go_wp2
     go_ret
     exact ⟨by first | rfl | (simp [errW_none, errW_some] <;> rfl) | (simp [*, errW_none, errW_some] <;> rfl), by repeat (first | (with_reducible first | exact HB.out | apply below_alloc | apply pw_below_drewN | apply below_drew1 | refine below_set ?_ GE631.out | refine below_set ?_ GE661.out) | exact HB.out)⟩
    ·replace c38 := Bool.eq_false_iff.mpr c38
     subst c38
     have H1 : ((laws_toImage.f kj10 l0_0 l0_1 l0_2 l0_3).bind fun bt667 => ((laws_eqImage.f kj10 t649 t652 t655 t658 bt667.1 bt667.2.1 bt667.2.2.1 bt667.2.2.2).bind fun t679 => (if t679 = true then ((laws_markImage.f kj10 t649 t652 t655 t658 1).bind fun t680 => (if t680 < 0 then (laws_FnExactWrongRefs.j1 kj10 t645 t648 t662 true l0_0 l0_1 l0_2 l0_3) else ((laws_eqIntS.f kj10 t662 t645).bind fun t681 => (if t681 = true then (laws_FnExactWrongRefs.j1 kj10 t645 t648 t662 (t665 != t648) l0_0 l0_1 l0_2 l0_3) else (laws_FnExactWrongRefs.j1 kj10 t645 t648 t662 true l0_0 l0_1 l0_2 l0_3))))) else (some false)))) = some r := by rw [if_neg (show ¬ (false = true) by decide)] at H; exact H
     clear H
     have H := H1
     clear H1
     replace H := Option.bind_eq_some_iff.mp H
     obtain ⟨⟨t667, t670, t673, t676⟩, A390, H⟩ := H
     replace H : ((laws_eqImage.f kj10 t649 t652 t655 t658 t667 t670 t673 t676).bind fun t679 => (if t679 = true then ((laws_markImage.f kj10 t649 t652 t655 t658 1).bind fun t680 => (if t680 < 0 then (laws_FnExactWrongRefs.j1 kj10 t645 t648 t662 true l0_0 l0_1 l0_2 l0_3) else ((laws_eqIntS.f kj10 t662 t645).bind fun t681 => (if t681 = true then (laws_FnExactWrongRefs.j1 kj10 t645 t648 t662 (t665 != t648) l0_0 l0_1 l0_2 l0_3) else (laws_FnExactWrongRefs.j1 kj10 t645 t648 t662 true l0_0 l0_1 l0_2 l0_3))))) else (some false))) = some r := H
     have A39 := Aside0.mk A390
     clear A390
     replace H := Option.bind_eq_some_iff.mp H
     obtain ⟨t679, A400, H⟩ := H
     replace H : (if t679 = true then ((laws_markImage.f kj10 t649 t652 t655 t658 1).bind fun t680 => (if t680 < 0 then (laws_FnExactWrongRefs.j1 kj10 t645 t648 t662 true l0_0 l0_1 l0_2 l0_3) else ((laws_eqIntS.f kj10 t662 t645).bind fun t681 => (if t681 = true then (laws_FnExactWrongRefs.j1 kj10 t645 t648 t662 (t665 != t648) l0_0 l0_1 l0_2 l0_3) else (laws_FnExactWrongRefs.j1 kj10 t645 t648 t662 true l0_0 l0_1 l0_2 l0_3))))) else (some false)) = some r := H
     have A40 := Aside0.mk A400
     clear A400
     by_cases c41 : t679 = true
     ·subst c41
      have H1 : ((laws_markImage.f kj10 t649 t652 t655 t658 1).bind fun t680 => (if t680 < 0 then (laws_FnExactWrongRefs.j1 kj10 t645 t648 t662 true l0_0 l0_1 l0_2 l0_3) else ((laws_eqIntS.f kj10 t662 t645).bind fun t681 => (if t681 = true then (laws_FnExactWrongRefs.j1 kj10 t645 t648 t662 (t665 != t648) l0_0 l0_1 l0_2 l0_3) else (laws_FnExactWrongRefs.j1 kj10 t645 t648 t662 true l0_0 l0_1 l0_2 l0_3))))) = some r := by rw [if_pos rfl] at H; exact H
      clear H
      have H := H1
      clear H1
      replace H := Option.bind_eq_some_iff.mp H
      obtain ⟨t680, A420, H⟩ := H
      replace H : (if t680 < 0 then (laws_FnExactWrongRefs.j1 kj10 t645 t648 t662 true l0_0 l0_1 l0_2 l0_3) else ((laws_eqIntS.f kj10 t662 t645).bind fun t681 => (if t681 = true then (laws_FnExactWrongRefs.j1 kj10 t645 t648 t662 (t665 != t648) l0_0 l0_1 l0_2 l0_3) else (laws_FnExactWrongRefs.j1 kj10 t645 t648 t662 true l0_0 l0_1 l0_2 l0_3)))) = some r := H
      have A42 := Aside0.mk A420
      clear A420
      have HC43 := Aside0.mk H
      clear H
      try go_wp2
      have n0_ := Aside0.mk (Kd.R_drew HO_4.out)
      have n1_ := Aside0.mk (Kd.R_drew HO_7.out)
      have n2_ := Aside0.mk (Kd.R_drew HO_662000.out)
      have n3_ := Aside0.mk (Kd.R_drew HO_662001.out)
      have n4_ := Aside0.mk (Kd.S_drew HO_662002.out)
      have n5_ := Aside0.mk (Kd.R_drew HO_662003.out)
      have n6_ := Aside0.mk (blk_drew BK631.out)
      have n7_ := Aside0.mk (blk_drew BK661.out)
      have n8_ := Aside0.mk (below_drew1 HB.out)
      clear HO_4
      clear HO_7
      clear HO_662000
      clear HO_662001
      clear HO_662002
      clear HO_662003
      clear BK631
      clear BK661
      clear HB
      have HO_4 := n0_
      have HO_7 := n1_
      have HO_662000 := n2_
      have HO_662001 := n3_
      have HO_662002 := n4_
      have HO_662003 := n5_
      have BK631 := n6_
      have BK661 := n7_
      have HB := n8_
      clear n0_ n1_ n2_ n3_ n4_ n5_ n6_ n7_ n8_
      refine start_ (n := 5) (S := fun w' => w'.cell? ⟨gb661, 0, none⟩ = some (.slice Ao25 t649.length co25) ∧ w'.cell? ⟨gb661, 1, none⟩ = some (.slice Ao28 t652.length co28) ∧ w'.cell? ⟨gb661, 2, none⟩ = some (.slice Ao29 t655.length co29) ∧ w'.cell? ⟨gb661, 3, none⟩ = some (.slice Ao30 t658.length co30) ∧ w'.cell? ⟨gb631, 0, none⟩ = some (.slice A0_0 l0_0.length c0_0) ∧ w'.cell? ⟨gb631, 1, none⟩ = some (.slice A0_1 l0_1.length c0_1) ∧ w'.cell? ⟨gb631, 2, none⟩ = some (.slice A0_2 l0_2.length c0_2) ∧ w'.cell? ⟨gb631, 3, none⟩ = some (.slice A0_3 l0_3.length c0_3)) (ds := []) #[false, false, false, false, false] (by kernel_rfl) rfl rfl ⟨(blk_cell BK661.out 0).trans rfl, (blk_cell BK661.out 1).trans rfl, (blk_cell BK661.out 2).trans rfl, (blk_cell BK661.out 3).trans rfl, (blk_cell BK631.out 0).trans rfl, (blk_cell BK631.out 1).trans rfl, (blk_cell BK631.out 2).trans rfl, (blk_cell BK631.out 3).trans rfl⟩ (fun hHeld => ?_)
      generalize wc.drew = w44 at HO_4 HO_7 HO_662000 HO_662001 HO_662002 HO_662003 BK631 BK661 HB hHeld ⊢
      refine take_ (i := 0) (N := some 41) (v := ?_) (a' := ?_) #[true, false, false, false, false] rfl rfl (by kernel_rfl) (fun _ _ _ h => h) (Or.inl ⟨by rfl, ?_⟩) hHeld ?_ ?_
      rotate_left
      ·rintro w' ⟨s0, s1, s2, s3, s4, s5, s6, s7⟩
       go_simp
       with_reducible rfl
      rotate_left
      ·simp only [Act.put, List.setIfInBounds_toArray, List.set_cons_zero, List.set_cons_succ, i64_w, i32_w]
       rfl
      refine take_ (i := 1) (N := some 42) (v := ?_) (a' := ?_) #[true, true, false, false, false] rfl rfl (by kernel_rfl) (fun _ _ _ h => h) (Or.inl ⟨by rfl, ?_⟩) hHeld ?_ ?_
      rotate_left
      ·rintro w' ⟨s0, s1, s2, s3, s4, s5, s6, s7⟩
       go_simp
       with_reducible rfl
      rotate_left
      ·simp only [Act.put, List.setIfInBounds_toArray, List.set_cons_zero, List.set_cons_succ, i64_w, i32_w]
       rfl
      refine one_ (i := 2) (N := some 43) #[true, true, true, false, false] rfl rfl (by kernel_rfl) (by decide) (fun K hK => ?_)
      refine goes_ Try.func10 (by kernel_rfl) rfl #[.agg #[.slice A0_0 l0_0.length c0_0, .slice A0_1 l0_1.length c0_1, .slice A0_2 l0_2.length c0_2, .slice A0_3 l0_3.length c0_3]] (by rfl) rfl rfl (by (try simp only [List.map_toArray, List.map_cons, List.map_nil]); first | done | rfl | (simp only [List.length_drop, List.length_take]; rfl)) ?_
      with_reducible refine (laws_toImage.calls kj10 _ _ l0_0 _ _ l0_1 _ _ l0_2 _ _ l0_3 t667 t670 t673 t676 _ ?side1 ?side2 ?side3 ?side4 ?side5 ?side6 ?side7 ?side8 A39.out).mono ?_
      (case side1 => repeat (first | exact (Kd.C_below HR0_0.out HB.out) | (with_reducible refine Kd.C_alloc ?_ _) | (with_reducible refine Kd.C_drewN ?_ _) | (with_reducible refine Kd.C_drew ?_)))
      (case side2 => exact HC0_0.out)
      (case side3 => repeat (first | exact (Kd.C_below HR0_1.out HB.out) | (with_reducible refine Kd.C_alloc ?_ _) | (with_reducible refine Kd.C_drewN ?_ _) | (with_reducible refine Kd.C_drew ?_)))
      (case side4 => exact HC0_1.out)
      (case side5 => repeat (first | exact (Kd.C_below HR0_2.out HB.out) | (with_reducible refine Kd.C_alloc ?_ _) | (with_reducible refine Kd.C_drewN ?_ _) | (with_reducible refine Kd.C_drew ?_)))
      (case side6 => exact HC0_2.out)
      (case side7 => repeat (first | exact (Kd.C_below HR0_3.out HB.out) | (with_reducible refine Kd.C_alloc ?_ _) | (with_reducible refine Kd.C_drewN ?_ _) | (with_reducible refine Kd.C_drew ?_)))
      (case side8 => exact HC0_3.out)
      rintro e w45 ⟨v668, v671, v674, v677, rfl, ho0, ho1, ho2, ho3, hb⟩
      refine ⟨_, rfl, ?_⟩
      have n0_ := Aside0.mk (Kd.R_mono (Kd.R_told (Kd.R_told (Kd.R_told (Kd.R_old (by (with_reducible repeat (first | apply Kd.R_alloc | apply Kd.R_drewN | apply Kd.R_drew)); exact HO_4.out) hb) (Kd.R_base ho0)) (Kd.R_base ho1)) (Kd.R_base ho3)) (fun _ h_ => h_.1))
      have n1_ := Aside0.mk (Kd.R_mono (Kd.R_told (Kd.R_told (Kd.R_told (Kd.R_old (by (with_reducible repeat (first | apply Kd.R_alloc | apply Kd.R_drewN | apply Kd.R_drew)); exact HO_7.out) hb) (Kd.R_base ho0)) (Kd.R_base ho1)) (Kd.R_base ho3)) (fun _ h_ => h_.1))
      have n2_ := Aside0.mk (Kd.R_mono (Kd.R_told (Kd.R_told (Kd.R_told (Kd.R_old (by (with_reducible repeat (first | apply Kd.R_alloc | apply Kd.R_drewN | apply Kd.R_drew)); exact HO_662000.out) hb) (Kd.R_base ho0)) (Kd.R_base ho1)) (Kd.R_base ho3)) (fun _ h_ => h_.1))
      have n3_ := Aside0.mk (Kd.R_mono (Kd.R_told (Kd.R_told (Kd.R_told (Kd.R_old (by (with_reducible repeat (first | apply Kd.R_alloc | apply Kd.R_drewN | apply Kd.R_drew)); exact HO_662001.out) hb) (Kd.R_base ho0)) (Kd.R_base ho1)) (Kd.R_base ho3)) (fun _ h_ => h_.1))
      have n4_ := Aside0.mk (Kd.S_mono (Kd.S_told (Kd.S_told (Kd.S_told (Kd.S_told (Kd.S_old (by (with_reducible repeat (first | apply Kd.S_alloc | apply Kd.S_drewN | apply Kd.S_drew)); exact HO_662002.out) hb) (Kd.R_base ho0)) (Kd.R_base ho1)) (Kd.S_base ho2)) (Kd.R_base ho3)) (fun _ h_ => h_.1))
      have n5_ := Aside0.mk (Kd.R_mono (Kd.R_told (Kd.R_told (Kd.R_told (Kd.R_old (by (with_reducible repeat (first | apply Kd.R_alloc | apply Kd.R_drewN | apply Kd.R_drew)); exact HO_662003.out) hb) (Kd.R_base ho0)) (Kd.R_base ho1)) (Kd.R_base ho3)) (fun _ h_ => h_.1))
      have n6_ := Aside0.mk (Kd.R_lower (Kd.R_new' (Kd.R_new' (Kd.R_new' (Kd.R_new' (Kd.R_new' ho0 (Kd.R_lt (by (with_reducible repeat (first | apply Kd.R_alloc | apply Kd.R_drewN | apply Kd.R_drew)); exact HO_4.out))) (Kd.R_lt (by (with_reducible repeat (first | apply Kd.R_alloc | apply Kd.R_drewN | apply Kd.R_drew)); exact HO_7.out))) (Kd.R_lt (by (with_reducible repeat (first | apply Kd.R_alloc | apply Kd.R_drewN | apply Kd.R_drew)); exact HO_662000.out))) (Kd.R_lt (by (with_reducible repeat (first | apply Kd.R_alloc | apply Kd.R_drewN | apply Kd.R_drew)); exact HO_662001.out))) (Kd.R_lt (by (with_reducible repeat (first | apply Kd.R_alloc | apply Kd.R_drewN | apply Kd.R_drew)); exact HO_662003.out))) (below_size (by repeat (first | (with_reducible first | exact HB.out | apply below_alloc | apply pw_below_drewN | apply below_drew1 | refine below_set ?_ GE631.out | refine below_set ?_ GE661.out) | exact HB.out))))
      have n7_ := Aside0.mk (Kd.R_lower (Kd.R_new' (Kd.R_new' (Kd.R_new' (Kd.R_new' (Kd.R_new' ho1 (Kd.R_lt (by (with_reducible repeat (first | apply Kd.R_alloc | apply Kd.R_drewN | apply Kd.R_drew)); exact HO_4.out))) (Kd.R_lt (by (with_reducible repeat (first | apply Kd.R_alloc | apply Kd.R_drewN | apply Kd.R_drew)); exact HO_7.out))) (Kd.R_lt (by (with_reducible repeat (first | apply Kd.R_alloc | apply Kd.R_drewN | apply Kd.R_drew)); exact HO_662000.out))) (Kd.R_lt (by (with_reducible repeat (first | apply Kd.R_alloc | apply Kd.R_drewN | apply Kd.R_drew)); exact HO_662001.out))) (Kd.R_lt (by (with_reducible repeat (first | apply Kd.R_alloc | apply Kd.R_drewN | apply Kd.R_drew)); exact HO_662003.out))) (below_size (by repeat (first | (with_reducible first | exact HB.out | apply below_alloc | apply pw_below_drewN | apply below_drew1 | refine below_set ?_ GE631.out | refine below_set ?_ GE661.out) | exact HB.out))))
      have n8_ := Aside0.mk (Kd.S_lower (Kd.S_new' (Kd.S_new' (Kd.S_new' (Kd.S_new' (Kd.S_new' (Kd.S_new' ho2 (Kd.R_lt (by (with_reducible repeat (first | apply Kd.R_alloc | apply Kd.R_drewN | apply Kd.R_drew)); exact HO_4.out))) (Kd.R_lt (by (with_reducible repeat (first | apply Kd.R_alloc | apply Kd.R_drewN | apply Kd.R_drew)); exact HO_7.out))) (Kd.R_lt (by (with_reducible repeat (first | apply Kd.R_alloc | apply Kd.R_drewN | apply Kd.R_drew)); exact HO_662000.out))) (Kd.R_lt (by (with_reducible repeat (first | apply Kd.R_alloc | apply Kd.R_drewN | apply Kd.R_drew)); exact HO_662001.out))) (Kd.S_lt (by (with_reducible repeat (first | apply Kd.S_alloc | apply Kd.S_drewN | apply Kd.S_drew)); exact HO_662002.out))) (Kd.R_lt (by (with_reducible repeat (first | apply Kd.R_alloc | apply Kd.R_drewN | apply Kd.R_drew)); exact HO_662003.out))) (below_size (by repeat (first | (with_reducible first | exact HB.out | apply below_alloc | apply pw_below_drewN | apply below_drew1 | refine below_set ?_ GE631.out | refine below_set ?_ GE661.out) | exact HB.out))))
      have n9_ := Aside0.mk (Kd.R_lower (Kd.R_new' (Kd.R_new' (Kd.R_new' (Kd.R_new' (Kd.R_new' ho3 (Kd.R_lt (by (with_reducible repeat (first | apply Kd.R_alloc | apply Kd.R_drewN | apply Kd.R_drew)); exact HO_4.out))) (Kd.R_lt (by (with_reducible repeat (first | apply Kd.R_alloc | apply Kd.R_drewN | apply Kd.R_drew)); exact HO_7.out))) (Kd.R_lt (by (with_reducible repeat (first | apply Kd.R_alloc | apply Kd.R_drewN | apply Kd.R_drew)); exact HO_662000.out))) (Kd.R_lt (by (with_reducible repeat (first | apply Kd.R_alloc | apply Kd.R_drewN | apply Kd.R_drew)); exact HO_662001.out))) (Kd.R_lt (by (with_reducible repeat (first | apply Kd.R_alloc | apply Kd.R_drewN | apply Kd.R_drew)); exact HO_662003.out))) (below_size (by repeat (first | (with_reducible first | exact HB.out | apply below_alloc | apply pw_below_drewN | apply below_drew1 | refine below_set ?_ GE631.out | refine below_set ?_ GE661.out) | exact HB.out))))
      have n10_ := Aside0.mk (blk_below (g := gb631) (o := .cells #[.slice A0_0 l0_0.length c0_0, .slice A0_1 l0_1.length c0_1, .slice A0_2 l0_2.length c0_2, .slice A0_3 l0_3.length c0_3] 25 (0, 0)) (by (with_reducible repeat (first | refine blk_drewN ?_ _ | refine blk_drew ?_ | refine blk_alloc ?_ _)); exact BK631.out) hb)
      have n11_ := Aside0.mk (blk_below (g := gb661) (o := .cells #[.slice Ao25 t649.length co25, .slice Ao28 t652.length co28, .slice Ao29 t655.length co29, .slice Ao30 t658.length co30] 30 (0, 0)) (by (with_reducible repeat (first | refine blk_drewN ?_ _ | refine blk_drew ?_ | refine blk_alloc ?_ _)); exact BK661.out) hb)
      have n12_ := Aside0.mk (below_step (by repeat (first | (with_reducible first | exact HB.out | apply below_alloc | apply pw_below_drewN | apply below_drew1 | refine below_set ?_ GE631.out | refine below_set ?_ GE661.out) | exact HB.out)) hb)
      clear HO_4
      clear HO_7
      clear HO_662000
      clear HO_662001
      clear HO_662002
      clear HO_662003
      clear BK631
      clear BK661
      clear HB
      have HO_4 := n0_
      have HO_7 := n1_
      have HO_662000 := n2_
      have HO_662001 := n3_
      have HO_662002 := n4_
      have HO_662003 := n5_
      have HO669 := n6_
      have HO672 := n7_
      have HO675 := n8_
      have HO678 := n9_
      have BK631 := n10_
      have BK661 := n11_
      have HB := n12_
      clear n0_ n1_ n2_ n3_ n4_ n5_ n6_ n7_ n8_ n9_ n10_ n11_ n12_
      (try clear hb)
      (try clear hb2)
      (try clear hk)
      (try clear hi)
      (try clear ho0)
      (try clear ho1)
      (try clear ho2)
      (try clear ho3)
      obtain ⟨Ao46, co46, eo46⟩ := Kd.R_slice HO669.out
      (first | subst eo46 | (injection eo46 with f1_ f2_ f3_; have f4_ := f1_.symm; have f5_ := f3_.symm; clear f1_ f2_ f3_; subst f4_; subst f5_))
      obtain ⟨Ao47, co47, eo47⟩ := Kd.R_slice HO672.out
      (first | subst eo47 | (injection eo47 with f1_ f2_ f3_; have f4_ := f1_.symm; have f5_ := f3_.symm; clear f1_ f2_ f3_; subst f4_; subst f5_))
      obtain ⟨Ao48, co48, eo48⟩ := Kd.S_slice HO675.out
      (first | subst eo48 | (injection eo48 with f1_ f2_ f3_; have f4_ := f1_.symm; have f5_ := f3_.symm; clear f1_ f2_ f3_; subst f4_; subst f5_))
      obtain ⟨Ao49, co49, eo49⟩ := Kd.R_slice HO678.out
      (first | subst eo49 | (injection eo49 with f1_ f2_ f3_; have f4_ := f1_.symm; have f5_ := f3_.symm; clear f1_ f2_ f3_; subst f4_; subst f5_))
      refine hK.out _ _ ⟨(blk_cell BK661.out 0).trans rfl, (blk_cell BK661.out 1).trans rfl, (blk_cell BK661.out 2).trans rfl, (blk_cell BK661.out 3).trans rfl, (blk_cell BK631.out 0).trans rfl, (blk_cell BK631.out 1).trans rfl, (blk_cell BK631.out 2).trans rfl, (blk_cell BK631.out 3).trans rfl⟩ (fun hHeld => ?_)
      clear hK K
      refine norm_ (a' := ?_) ?_ ?_
      rotate_left
      ·show Act.put _ (some 43) _ = _
       simp only [Act.put, List.setIfInBounds_toArray, List.set_cons_zero, List.set_cons_succ, i64_w, i32_w]
       rfl
      refine one_ (i := 3) (N := some 44) #[true, true, true, true, false] rfl rfl (by kernel_rfl) (by decide) (fun K hK => ?_)
      refine goes_ Try.func12 (by kernel_rfl) rfl #[.agg #[.slice Ao25 t649.length co25, .slice Ao28 t652.length co28, .slice Ao29 t655.length co29, .slice Ao30 t658.length co30], .agg #[.slice Ao46 t667.length co46, .slice Ao47 t670.length co47, .slice Ao48 t673.length co48, .slice Ao49 t676.length co49]] (by rfl) rfl rfl (by (try simp only [List.map_toArray, List.map_cons, List.map_nil]); first | done | rfl | (simp only [List.length_drop, List.length_take]; rfl)) ?_
      with_reducible refine (laws_eqImage.calls kj10 _ _ t649 _ _ t652 _ _ t655 _ _ t658 _ _ t667 _ _ t670 _ _ t673 _ _ t676 true _ ?side1 ?side2 ?side3 ?side4 ?side5 ?side6 ?side7 ?side8 ?side9 ?side10 ?side11 ?side12 ?side13 ?side14 ?side15 ?side16 A40.out).mono ?_
      (case side1 => repeat (first | exact (Kd.R_reads' HO_662000.out).2.2 | (with_reducible refine Kd.C_alloc ?_ _) | (with_reducible refine Kd.C_drewN ?_ _) | (with_reducible refine Kd.C_drew ?_)))
      (case side2 => exact (Kd.R_reads' HO_662000.out).2.1)
      (case side3 => repeat (first | exact (Kd.R_reads' HO_662001.out).2.2 | (with_reducible refine Kd.C_alloc ?_ _) | (with_reducible refine Kd.C_drewN ?_ _) | (with_reducible refine Kd.C_drew ?_)))
      (case side4 => exact (Kd.R_reads' HO_662001.out).2.1)
      (case side5 => repeat (first | exact (Kd.S_reads' HO_662002.out).2.2 | (with_reducible refine Kd.C_alloc ?_ _) | (with_reducible refine Kd.C_drewN ?_ _) | (with_reducible refine Kd.C_drew ?_)))
      (case side6 => exact (Kd.S_reads' HO_662002.out).2.1)
      (case side7 => repeat (first | exact (Kd.R_reads' HO_662003.out).2.2 | (with_reducible refine Kd.C_alloc ?_ _) | (with_reducible refine Kd.C_drewN ?_ _) | (with_reducible refine Kd.C_drew ?_)))
      (case side8 => exact (Kd.R_reads' HO_662003.out).2.1)
      (case side9 => repeat (first | exact (Kd.R_reads' HO669.out).2.2 | (with_reducible refine Kd.C_alloc ?_ _) | (with_reducible refine Kd.C_drewN ?_ _) | (with_reducible refine Kd.C_drew ?_)))
      (case side10 => exact (Kd.R_reads' HO669.out).2.1)
      (case side11 => repeat (first | exact (Kd.R_reads' HO672.out).2.2 | (with_reducible refine Kd.C_alloc ?_ _) | (with_reducible refine Kd.C_drewN ?_ _) | (with_reducible refine Kd.C_drew ?_)))
      (case side12 => exact (Kd.R_reads' HO672.out).2.1)
      (case side13 => repeat (first | exact (Kd.S_reads' HO675.out).2.2 | (with_reducible refine Kd.C_alloc ?_ _) | (with_reducible refine Kd.C_drewN ?_ _) | (with_reducible refine Kd.C_drew ?_)))
      (case side14 => exact (Kd.S_reads' HO675.out).2.1)
      (case side15 => repeat (first | exact (Kd.R_reads' HO678.out).2.2 | (with_reducible refine Kd.C_alloc ?_ _) | (with_reducible refine Kd.C_drewN ?_ _) | (with_reducible refine Kd.C_drew ?_)))
      (case side16 => exact (Kd.R_reads' HO678.out).2.1)
      rintro e w50 ⟨rfl, hb⟩
      refine ⟨_, rfl, ?_⟩
      have n0_ := Aside0.mk (Kd.R_below (by (with_reducible repeat (first | apply Kd.R_alloc | apply Kd.R_drewN | apply Kd.R_drew)); exact HO_4.out) hb)
      have n1_ := Aside0.mk (Kd.R_below (by (with_reducible repeat (first | apply Kd.R_alloc | apply Kd.R_drewN | apply Kd.R_drew)); exact HO_7.out) hb)
      have n2_ := Aside0.mk (Kd.R_below (by (with_reducible repeat (first | apply Kd.R_alloc | apply Kd.R_drewN | apply Kd.R_drew)); exact HO_662000.out) hb)
      have n3_ := Aside0.mk (Kd.R_below (by (with_reducible repeat (first | apply Kd.R_alloc | apply Kd.R_drewN | apply Kd.R_drew)); exact HO_662001.out) hb)
      have n4_ := Aside0.mk (Kd.S_below (by (with_reducible repeat (first | apply Kd.S_alloc | apply Kd.S_drewN | apply Kd.S_drew)); exact HO_662002.out) hb)
      have n5_ := Aside0.mk (Kd.R_below (by (with_reducible repeat (first | apply Kd.R_alloc | apply Kd.R_drewN | apply Kd.R_drew)); exact HO_662003.out) hb)
      have n6_ := Aside0.mk (Kd.R_below (by (with_reducible repeat (first | apply Kd.R_alloc | apply Kd.R_drewN | apply Kd.R_drew)); exact HO669.out) hb)
      have n7_ := Aside0.mk (Kd.R_below (by (with_reducible repeat (first | apply Kd.R_alloc | apply Kd.R_drewN | apply Kd.R_drew)); exact HO672.out) hb)
      have n8_ := Aside0.mk (Kd.S_below (by (with_reducible repeat (first | apply Kd.S_alloc | apply Kd.S_drewN | apply Kd.S_drew)); exact HO675.out) hb)
      have n9_ := Aside0.mk (Kd.R_below (by (with_reducible repeat (first | apply Kd.R_alloc | apply Kd.R_drewN | apply Kd.R_drew)); exact HO678.out) hb)
      have n10_ := Aside0.mk (blk_below (g := gb631) (o := .cells #[.slice A0_0 l0_0.length c0_0, .slice A0_1 l0_1.length c0_1, .slice A0_2 l0_2.length c0_2, .slice A0_3 l0_3.length c0_3] 25 (0, 0)) (by (with_reducible repeat (first | refine blk_drewN ?_ _ | refine blk_drew ?_ | refine blk_alloc ?_ _)); exact BK631.out) hb)
      have n11_ := Aside0.mk (blk_below (g := gb661) (o := .cells #[.slice Ao25 t649.length co25, .slice Ao28 t652.length co28, .slice Ao29 t655.length co29, .slice Ao30 t658.length co30] 30 (0, 0)) (by (with_reducible repeat (first | refine blk_drewN ?_ _ | refine blk_drew ?_ | refine blk_alloc ?_ _)); exact BK661.out) hb)
      have n12_ := Aside0.mk (below_step (by repeat (first | (with_reducible first | exact HB.out | apply below_alloc | apply pw_below_drewN | apply below_drew1 | refine below_set ?_ GE631.out | refine below_set ?_ GE661.out) | exact HB.out)) hb)
      clear HO_4
      clear HO_7
      clear HO_662000
      clear HO_662001
      clear HO_662002
      clear HO_662003
      clear HO669
      clear HO672
      clear HO675
      clear HO678
      clear BK631
      clear BK661
      clear HB
      have HO_4 := n0_
      have HO_7 := n1_
      have HO_662000 := n2_
      have HO_662001 := n3_
      have HO_662002 := n4_
      have HO_662003 := n5_
      have HO669 := n6_
      have HO672 := n7_
      have HO675 := n8_
      have HO678 := n9_
      have BK631 := n10_
      have BK661 := n11_
      have HB := n12_
      clear n0_ n1_ n2_ n3_ n4_ n5_ n6_ n7_ n8_ n9_ n10_ n11_ n12_
      (try clear hb)
      (try clear hb2)
      (try clear hk)
      (try clear hi)
      refine hK.out _ _ ⟨(blk_cell BK661.out 0).trans rfl, (blk_cell BK661.out 1).trans rfl, (blk_cell BK661.out 2).trans rfl, (blk_cell BK661.out 3).trans rfl, (blk_cell BK631.out 0).trans rfl, (blk_cell BK631.out 1).trans rfl, (blk_cell BK631.out 2).trans rfl, (blk_cell BK631.out 3).trans rfl⟩ (fun hHeld => ?_)
      clear hK K
      refine norm_ (a' := ?_) ?_ ?_
      rotate_left
      ·show Act.put _ (some 44) _ = _
       simp only [Act.put, List.setIfInBounds_toArray, List.set_cons_zero, List.set_cons_succ, i64_w, i32_w]
       rfl
      refine pure_ (i := 4) (N := some 45) (v := ?_) (a' := ?_) #[true, true, true, true, true] rfl rfl (by kernel_rfl) (fun _ _ _ h => h) (Or.inl ⟨by rfl, ?_⟩) ?_ ?_
      rotate_left
      ·intro w'
       go_simp
       with_reducible rfl
      rotate_left
      ·simp only [Act.put, List.setIfInBounds_toArray, List.set_cons_zero, List.set_cons_succ, i64_w, i32_w]
       rfl
      refine done_ (by kernel_rfl) ?_
      have hnb51 := NB661_631.out
      have hnc51 := NB631_661.out
      have hcz52_0 : w50.cell? ⟨gb661, 0, none⟩ = some (.slice Ao25 t649.length co25) := (blk_cell BK661.out 0).trans rfl
      have hcz52_1 : w50.cell? ⟨gb661, 1, none⟩ = some (.slice Ao28 t652.length co28) := (blk_cell BK661.out 1).trans rfl
      have hcz52_2 : w50.cell? ⟨gb661, 2, none⟩ = some (.slice Ao29 t655.length co29) := (blk_cell BK661.out 2).trans rfl
      have hcz52_3 : w50.cell? ⟨gb661, 3, none⟩ = some (.slice Ao30 t658.length co30) := (blk_cell BK661.out 3).trans rfl
      have hfz52_0 := blk_frozen BK661.out 0
      have hfz52_1 := blk_frozen BK661.out 1
      have hfz52_2 := blk_frozen BK661.out 2
      have hfz52_3 := blk_frozen BK661.out 3
      go_upto_region 14 with (first | ((with_reducible refine gate_callee (f := 16) rfl ?_); refine goesL_ (some 48) rfl rfl Try.func16 (by kernel_rfl) rfl #[.agg #[.slice Ao25 t649.length co25, .slice Ao28 t652.length co28, .slice Ao29 t655.length co29, .slice Ao30 t658.length co30], .int .i64 1] rfl (by (try simp only [List.map_toArray, List.map_cons, List.map_nil]); first | done | rfl | (simp only [List.length_drop, List.length_take]; rfl)) ?_; (with_reducible refine (laws_markImage.calls kj10 (fun k_ => some k_ = (.slice Ao25 t649.length co25 : Value).ownBlock) (.slice Ao25 t649.length co25) t649 (fun k_ => some k_ = (.slice Ao28 t652.length co28 : Value).ownBlock) (.slice Ao28 t652.length co28) t652 (fun k_ => ((((((some k_ ≠ (v646 : Value).ownBlock ∧ (some k_ ≠ (v663 : Value).ownBlock ∧ (some k_ ≠ (.slice Ao25 t649.length co25 : Value).ownBlock ∧ (some k_ ≠ (.slice Ao28 t652.length co28 : Value).ownBlock ∧ some k_ ≠ (.slice Ao30 t658.length co30 : Value).ownBlock)))) ∧ some k_ ≠ (.slice Ao46 t667.length co46 : Value).ownBlock) ∧ some k_ ≠ (.slice Ao47 t670.length co47 : Value).ownBlock) ∧ some k_ ≠ (.slice Ao48 t673.length co48 : Value).ownBlock) ∧ some k_ ≠ (.slice Ao49 t676.length co49 : Value).ownBlock)) ∧ ∃ q_, q_ ∈ (45 :: (k45).E) ∧ ∃ cs_, w50.heap[k_]? = some (.cells cs_ q_ (0, 0))) (.slice Ao29 t655.length co29) t655 (fun k_ => some k_ = (.slice Ao30 t658.length co30 : Value).ownBlock) (.slice Ao30 t658.length co30) t658 1 t680 w _ ?side1 ?side2 ?side3 ?side4 ?side5 ?side6 ?side7 ?side8 ?side9 ?side10 ?side11 ?side12 ?side13 ?side14 ?side15 ?side16 ?side17 A42.out).mono ?_); (case side1 => repeat (first | (with_reducible first | exact HB.out | apply below_alloc | apply pw_below_drewN | apply below_drew1 | refine below_set ?_ GE631.out | refine below_set ?_ GE661.out) | exact HB.out)); (case side2 => exact Kd.R_tight rfl HO_662000.out); (case side3 => exact fun k_ e_ => (HO_662000.out.1 k_ e_.symm).1.1.1.2.2.1); (case side4 => exact fun k_ e_ hP_ => (hP_.1.1.1.1.1.2.2.1) e_); (case side5 => exact fun k_ e_ => (HO_662000.out.1 k_ e_.symm).1.1.1.2.2.2); (case side6 => exact Kd.R_tight rfl HO_662001.out); (case side7 => exact fun k_ e_ => (HO_662001.out.1 k_ e_.symm).1.1.1.2.2.1); (case side8 => exact fun k_ e_ hP_ => (hP_.1.1.1.1.1.2.2.2.1) e_); (case side9 => exact fun k_ e_ => (HO_662001.out.1 k_ e_.symm).1.1.1.2.2.2); (case side10 => exact Kd.S_mono (Kd.S_bound (HO_662002.out)) (fun k_ h_ => ⟨h_.1, h_.2.2.2⟩)); (case side11 => exact fun k_ hP_ e_ => (hP_.1.1.1.1.1.2.2.1) e_); (case side12 => exact fun k_ hP_ e_ => (hP_.1.1.1.1.1.2.2.2.1) e_); (case side13 => exact fun k_ hP_ e_ => (hP_.1.1.1.1.1.2.2.2.2) e_); (case side14 => exact Kd.R_tight rfl HO_662003.out); (case side15 => exact fun k_ e_ => (HO_662003.out.1 k_ e_.symm).1.1.1.2.2.1); (case side16 => exact fun k_ e_ => (HO_662003.out.1 k_ e_.symm).1.1.1.2.2.2); (case side17 => exact fun k_ e_ hP_ => (hP_.1.1.1.1.1.2.2.2.2) e_); rintro e w53 ⟨rfl, hb, hkp⟩; refine ⟨_, rfl, ?_⟩; have n0_ := Aside0.mk (Kd.R_mono (ok' := fun k_ => some k_ ≠ (v663 : Value).ownBlock ∧ some k_ ≠ (.slice Ao46 t667.length co46 : Value).ownBlock ∧ some k_ ≠ (.slice Ao47 t670.length co47 : Value).ownBlock ∧ some k_ ≠ (.slice Ao49 t676.length co49 : Value).ownBlock) (Kd.R_keptB ((Kd.R_mono (ok' := fun k_ => ((((some k_ ≠ (v663 : Value).ownBlock ∧ (some k_ ≠ (.slice Ao25 t649.length co25 : Value).ownBlock ∧ (some k_ ≠ (.slice Ao28 t652.length co28 : Value).ownBlock ∧ some k_ ≠ (.slice Ao30 t658.length co30 : Value).ownBlock))) ∧ some k_ ≠ (.slice Ao46 t667.length co46 : Value).ownBlock) ∧ some k_ ≠ (.slice Ao47 t670.length co47 : Value).ownBlock) ∧ some k_ ≠ (.slice Ao49 t676.length co49 : Value).ownBlock) ∧ ¬ (((((((some k_ ≠ (v646 : Value).ownBlock ∧ (some k_ ≠ (v663 : Value).ownBlock ∧ (some k_ ≠ (.slice Ao25 t649.length co25 : Value).ownBlock ∧ (some k_ ≠ (.slice Ao28 t652.length co28 : Value).ownBlock ∧ some k_ ≠ (.slice Ao30 t658.length co30 : Value).ownBlock)))) ∧ some k_ ≠ (.slice Ao46 t667.length co46 : Value).ownBlock) ∧ some k_ ≠ (.slice Ao47 t670.length co47 : Value).ownBlock) ∧ some k_ ≠ (.slice Ao48 t673.length co48 : Value).ownBlock) ∧ some k_ ≠ (.slice Ao49 t676.length co49 : Value).ownBlock)) ∧ ∃ q_, q_ ∈ (45 :: (k45).E) ∧ ∃ cs_, w50.heap[k_]? = some (.cells cs_ q_ (0, 0)))) (Kd.R_tight2 rfl HO_4.out) (fun k_ hk => ⟨hk.2, fun hP_ => (hP_.1.1.1.1.1.1) hk.1⟩))) hkp (fun k_ hk_ hs_ => Or.elim hs_ (fun e_ => (hk_.1.1.1.1.2.1) e_) (fun e_ => Or.elim e_ (fun e_ => (hk_.1.1.1.1.2.2.1) e_) (fun e_ => Or.elim e_ (fun e_ => (hk_.2) e_) (fun e_ => (hk_.1.1.1.1.2.2.2) e_))))) (fun k_ hk_ => ⟨hk_.1.1.1.1.1.1, hk_.1.1.1.1.2, hk_.1.1.1.2, hk_.1.1.2⟩)); have n1_ := Aside0.mk (Kd.R_mono (ok' := fun k_ => some k_ ≠ (v646 : Value).ownBlock ∧ some k_ ≠ (.slice Ao46 t667.length co46 : Value).ownBlock ∧ some k_ ≠ (.slice Ao47 t670.length co47 : Value).ownBlock ∧ some k_ ≠ (.slice Ao49 t676.length co49 : Value).ownBlock) (Kd.R_keptB ((Kd.R_mono (ok' := fun k_ => ((((some k_ ≠ (v646 : Value).ownBlock ∧ (some k_ ≠ (.slice Ao25 t649.length co25 : Value).ownBlock ∧ (some k_ ≠ (.slice Ao28 t652.length co28 : Value).ownBlock ∧ some k_ ≠ (.slice Ao30 t658.length co30 : Value).ownBlock))) ∧ some k_ ≠ (.slice Ao46 t667.length co46 : Value).ownBlock) ∧ some k_ ≠ (.slice Ao47 t670.length co47 : Value).ownBlock) ∧ some k_ ≠ (.slice Ao49 t676.length co49 : Value).ownBlock) ∧ ¬ (((((((some k_ ≠ (v646 : Value).ownBlock ∧ (some k_ ≠ (v663 : Value).ownBlock ∧ (some k_ ≠ (.slice Ao25 t649.length co25 : Value).ownBlock ∧ (some k_ ≠ (.slice Ao28 t652.length co28 : Value).ownBlock ∧ some k_ ≠ (.slice Ao30 t658.length co30 : Value).ownBlock)))) ∧ some k_ ≠ (.slice Ao46 t667.length co46 : Value).ownBlock) ∧ some k_ ≠ (.slice Ao47 t670.length co47 : Value).ownBlock) ∧ some k_ ≠ (.slice Ao48 t673.length co48 : Value).ownBlock) ∧ some k_ ≠ (.slice Ao49 t676.length co49 : Value).ownBlock)) ∧ ∃ q_, q_ ∈ (45 :: (k45).E) ∧ ∃ cs_, w50.heap[k_]? = some (.cells cs_ q_ (0, 0)))) (Kd.R_tight2 rfl HO_7.out) (fun k_ hk => ⟨hk.2, fun hP_ => (hP_.1.1.1.1.1.2.1) hk.1⟩))) hkp (fun k_ hk_ hs_ => Or.elim hs_ (fun e_ => (hk_.1.1.1.1.2.1) e_) (fun e_ => Or.elim e_ (fun e_ => (hk_.1.1.1.1.2.2.1) e_) (fun e_ => Or.elim e_ (fun e_ => (hk_.2) e_) (fun e_ => (hk_.1.1.1.1.2.2.2) e_))))) (fun k_ hk_ => ⟨hk_.1.1.1.1.1.1, hk_.1.1.1.1.2, hk_.1.1.1.2, hk_.1.1.2⟩)); have n2_ := Aside0.mk (blk_kept (by (with_reducible repeat (first | refine blk_drewN ?_ _ | refine blk_drew ?_ | refine blk_alloc ?_ _)); exact BK631.out) hkp (fun hs_ => Or.elim hs_ (fun e_ => (fun e_ => (Kd.R_ne HO_662000.out BK631.out (by decide)) e_) e_) (fun e_ => Or.elim e_ (fun e_ => (fun e_ => (Kd.R_ne HO_662001.out BK631.out (by decide)) e_) e_) (fun e_ => Or.elim e_ (fun e_ => (fun hP_ => (by obtain ⟨_, q_, hq_, cs_, hc_⟩ := hP_; have hb_ := BK631.out; rw [hb_] at hc_; injection hc_ with hc_; injection hc_ with _ h2_; rw [← h2_] at hq_; exact absurd hq_ (by decide))) e_) (fun e_ => (fun e_ => (Kd.R_ne HO_662003.out BK631.out (by decide)) e_) e_))))); have n3_ := Aside0.mk (blk_kept (by (with_reducible repeat (first | refine blk_drewN ?_ _ | refine blk_drew ?_ | refine blk_alloc ?_ _)); exact BK661.out) hkp (fun hs_ => Or.elim hs_ (fun e_ => (fun e_ => (Kd.R_ne HO_662000.out BK661.out (by decide)) e_) e_) (fun e_ => Or.elim e_ (fun e_ => (fun e_ => (Kd.R_ne HO_662001.out BK661.out (by decide)) e_) e_) (fun e_ => Or.elim e_ (fun e_ => (fun hP_ => (by obtain ⟨_, q_, hq_, cs_, hc_⟩ := hP_; have hb_ := BK661.out; rw [hb_] at hc_; injection hc_ with hc_; injection hc_ with _ h2_; rw [← h2_] at hq_; exact absurd hq_ (by decide))) e_) (fun e_ => (fun e_ => (Kd.R_ne HO_662003.out BK661.out (by decide)) e_) e_))))); have n4_ := Aside0.mk (Kd.R_mono (ok' := fun k_ => some k_ ≠ (v646 : Value).ownBlock ∧ some k_ ≠ (v663 : Value).ownBlock ∧ some k_ ≠ (.slice Ao47 t670.length co47 : Value).ownBlock ∧ some k_ ≠ (.slice Ao49 t676.length co49 : Value).ownBlock) (Kd.R_keptB ((Kd.R_mono (ok' := fun k_ => ((((((some k_ ≠ (.slice Ao47 t670.length co47 : Value).ownBlock ∧ some k_ ≠ (.slice Ao49 t676.length co49 : Value).ownBlock) ∧ some k_ ≠ (v646 : Value).ownBlock) ∧ some k_ ≠ (v663 : Value).ownBlock) ∧ some k_ ≠ (.slice Ao25 t649.length co25 : Value).ownBlock) ∧ some k_ ≠ (.slice Ao28 t652.length co28 : Value).ownBlock) ∧ some k_ ≠ (.slice Ao30 t658.length co30 : Value).ownBlock) ∧ ¬ (((((((some k_ ≠ (v646 : Value).ownBlock ∧ (some k_ ≠ (v663 : Value).ownBlock ∧ (some k_ ≠ (.slice Ao25 t649.length co25 : Value).ownBlock ∧ (some k_ ≠ (.slice Ao28 t652.length co28 : Value).ownBlock ∧ some k_ ≠ (.slice Ao30 t658.length co30 : Value).ownBlock)))) ∧ some k_ ≠ (.slice Ao46 t667.length co46 : Value).ownBlock) ∧ some k_ ≠ (.slice Ao47 t670.length co47 : Value).ownBlock) ∧ some k_ ≠ (.slice Ao48 t673.length co48 : Value).ownBlock) ∧ some k_ ≠ (.slice Ao49 t676.length co49 : Value).ownBlock)) ∧ ∃ q_, q_ ∈ (45 :: (k45).E) ∧ ∃ cs_, w50.heap[k_]? = some (.cells cs_ q_ (0, 0)))) (Kd.R_tight2 rfl HO669.out) (fun k_ hk => ⟨hk.2, fun hP_ => (hP_.1.1.1.1.2) hk.1⟩))) hkp (fun k_ hk_ hs_ => Or.elim hs_ (fun e_ => (hk_.1.1.1.2) e_) (fun e_ => Or.elim e_ (fun e_ => (hk_.1.1.2) e_) (fun e_ => Or.elim e_ (fun e_ => (hk_.2) e_) (fun e_ => (hk_.1.2) e_))))) (fun k_ hk_ => ⟨hk_.1.1.1.1.1.1.2, hk_.1.1.1.1.1.2, hk_.1.1.1.1.1.1.1.1, hk_.1.1.1.1.1.1.1.2⟩)); have n5_ := Aside0.mk (Kd.R_mono (ok' := fun k_ => some k_ ≠ (v646 : Value).ownBlock ∧ some k_ ≠ (v663 : Value).ownBlock ∧ some k_ ≠ (.slice Ao46 t667.length co46 : Value).ownBlock ∧ some k_ ≠ (.slice Ao49 t676.length co49 : Value).ownBlock) (Kd.R_keptB ((Kd.R_mono (ok' := fun k_ => ((((((some k_ ≠ (.slice Ao46 t667.length co46 : Value).ownBlock ∧ some k_ ≠ (.slice Ao49 t676.length co49 : Value).ownBlock) ∧ some k_ ≠ (v646 : Value).ownBlock) ∧ some k_ ≠ (v663 : Value).ownBlock) ∧ some k_ ≠ (.slice Ao25 t649.length co25 : Value).ownBlock) ∧ some k_ ≠ (.slice Ao28 t652.length co28 : Value).ownBlock) ∧ some k_ ≠ (.slice Ao30 t658.length co30 : Value).ownBlock) ∧ ¬ (((((((some k_ ≠ (v646 : Value).ownBlock ∧ (some k_ ≠ (v663 : Value).ownBlock ∧ (some k_ ≠ (.slice Ao25 t649.length co25 : Value).ownBlock ∧ (some k_ ≠ (.slice Ao28 t652.length co28 : Value).ownBlock ∧ some k_ ≠ (.slice Ao30 t658.length co30 : Value).ownBlock)))) ∧ some k_ ≠ (.slice Ao46 t667.length co46 : Value).ownBlock) ∧ some k_ ≠ (.slice Ao47 t670.length co47 : Value).ownBlock) ∧ some k_ ≠ (.slice Ao48 t673.length co48 : Value).ownBlock) ∧ some k_ ≠ (.slice Ao49 t676.length co49 : Value).ownBlock)) ∧ ∃ q_, q_ ∈ (45 :: (k45).E) ∧ ∃ cs_, w50.heap[k_]? = some (.cells cs_ q_ (0, 0)))) (Kd.R_tight2 rfl HO672.out) (fun k_ hk => ⟨hk.2, fun hP_ => (hP_.1.1.1.2) hk.1⟩))) hkp (fun k_ hk_ hs_ => Or.elim hs_ (fun e_ => (hk_.1.1.1.2) e_) (fun e_ => Or.elim e_ (fun e_ => (hk_.1.1.2) e_) (fun e_ => Or.elim e_ (fun e_ => (hk_.2) e_) (fun e_ => (hk_.1.2) e_))))) (fun k_ hk_ => ⟨hk_.1.1.1.1.1.1.2, hk_.1.1.1.1.1.2, hk_.1.1.1.1.1.1.1.1, hk_.1.1.1.1.1.1.1.2⟩)); have n6_ := Aside0.mk (Kd.R_mono (ok' := fun k_ => some k_ ≠ (v646 : Value).ownBlock ∧ some k_ ≠ (v663 : Value).ownBlock ∧ some k_ ≠ (.slice Ao46 t667.length co46 : Value).ownBlock ∧ some k_ ≠ (.slice Ao47 t670.length co47 : Value).ownBlock) (Kd.R_keptB ((Kd.R_mono (ok' := fun k_ => ((((((some k_ ≠ (.slice Ao46 t667.length co46 : Value).ownBlock ∧ some k_ ≠ (.slice Ao47 t670.length co47 : Value).ownBlock) ∧ some k_ ≠ (v646 : Value).ownBlock) ∧ some k_ ≠ (v663 : Value).ownBlock) ∧ some k_ ≠ (.slice Ao25 t649.length co25 : Value).ownBlock) ∧ some k_ ≠ (.slice Ao28 t652.length co28 : Value).ownBlock) ∧ some k_ ≠ (.slice Ao30 t658.length co30 : Value).ownBlock) ∧ ¬ (((((((some k_ ≠ (v646 : Value).ownBlock ∧ (some k_ ≠ (v663 : Value).ownBlock ∧ (some k_ ≠ (.slice Ao25 t649.length co25 : Value).ownBlock ∧ (some k_ ≠ (.slice Ao28 t652.length co28 : Value).ownBlock ∧ some k_ ≠ (.slice Ao30 t658.length co30 : Value).ownBlock)))) ∧ some k_ ≠ (.slice Ao46 t667.length co46 : Value).ownBlock) ∧ some k_ ≠ (.slice Ao47 t670.length co47 : Value).ownBlock) ∧ some k_ ≠ (.slice Ao48 t673.length co48 : Value).ownBlock) ∧ some k_ ≠ (.slice Ao49 t676.length co49 : Value).ownBlock)) ∧ ∃ q_, q_ ∈ (45 :: (k45).E) ∧ ∃ cs_, w50.heap[k_]? = some (.cells cs_ q_ (0, 0)))) (Kd.R_tight2 rfl HO678.out) (fun k_ hk => ⟨hk.2, fun hP_ => (hP_.1.2) hk.1⟩))) hkp (fun k_ hk_ hs_ => Or.elim hs_ (fun e_ => (hk_.1.1.1.2) e_) (fun e_ => Or.elim e_ (fun e_ => (hk_.1.1.2) e_) (fun e_ => Or.elim e_ (fun e_ => (hk_.2) e_) (fun e_ => (hk_.1.2) e_))))) (fun k_ hk_ => ⟨hk_.1.1.1.1.1.1.2, hk_.1.1.1.1.1.2, hk_.1.1.1.1.1.1.1.1, hk_.1.1.1.1.1.1.1.2⟩)); have n7_ := Aside0.mk (hb); clear HO_4; clear HO_7; clear BK631; clear BK661; clear HO669; clear HO672; clear HO678; clear HB; clear HO_662000; clear HO_662001; clear HO_662002; clear HO_662003; clear HO675; have HO_4 := n0_; have HO_7 := n1_; have BK631 := n2_; have BK661 := n3_; have HO669 := n4_; have HO672 := n5_; have HO678 := n6_; have HB := n7_; clear n0_ n1_ n2_ n3_ n4_ n5_ n6_ n7_; (try clear hb); (try clear hkp)))
      (try simp only [Act.put, List.setIfInBounds_toArray, List.set_cons_zero, List.set_cons_succ])
      go_cut [61] (fun v61 wc => ∃ (kq : Nat) (x61_42 : Bool), v61 = .bool x61_42 ∧ Aside0 (laws_FnExactWrongRefs.j1 kq t645 t648 t662 x61_42 l0_0 l0_1 l0_2 l0_3 = some r) ∧ Aside0 (kq ≤ kj10) ∧ Aside0 (Kd.R (Kd.int .i64) 3 wc w.heap.size (fun k_ => some k_ ≠ (v663 : Value).ownBlock) v646 t645) ∧ Aside0 (Kd.R (Kd.int .i64) 3 wc w.heap.size (fun k_ => some k_ ≠ (v646 : Value).ownBlock) v663 t662) ∧ Aside0 (wc.heap[gb631]? = some (.cells #[(.slice A0_0 l0_0.length c0_0), (.slice A0_1 l0_1.length c0_1), (.slice A0_2 l0_2.length c0_2), (.slice A0_3 l0_3.length c0_3)] 25 (0, 0))) ∧ Aside0 (Below w.heap.size w wc))
      case first =>
       have H := HC43.out
       clear HC43
       by_cases c54 : t680 < 0
       ·rw [if_pos c54] at H
        have c54b0 : decide (t680 < 0) = true := decide_eq_true c54
        clear c54
        (first | rw [c54b0] | (simp only [i64_w, i32_w]; rw [c54b0]) | skip)
        have H' := Aside0.mk H
        clear H
        go_wp2
        go_meet
        case rel => exact ⟨_, (true), (by first | rfl | (simp; done) | (simp [*]; done)), H', ⟨by have := HJ10.out; first | omega | exact Nat.le_refl _⟩, ⟨by (with_reducible repeat (first | apply Kd.R_alloc | apply Kd.R_drewN | apply Kd.R_drew)); exact Kd.R_mono HO_4.out (fun _ hk => hk.1)⟩, ⟨by (with_reducible repeat (first | apply Kd.R_alloc | apply Kd.R_drewN | apply Kd.R_drew)); exact Kd.R_mono HO_7.out (fun _ hk => hk.1)⟩, ⟨by (with_reducible repeat (first | refine blk_drewN ?_ _ | refine blk_drew ?_ | refine blk_alloc ?_ _)); exact BK631.out⟩, ⟨by repeat (first | (with_reducible first | exact HB.out | apply below_alloc | apply pw_below_drewN | apply below_drew1 | refine below_set ?_ GE631.out | refine below_set ?_ GE661.out) | exact HB.out)⟩⟩
       ·rw [if_neg c54] at H
        have c54b0 : decide (t680 < 0) = false := decide_eq_false c54
        clear c54
        (first | rw [c54b0] | (simp only [i64_w, i32_w]; rw [c54b0]) | skip)
        replace H := Option.bind_eq_some_iff.mp H
        obtain ⟨t681, A550, H⟩ := H
        replace H : (if t681 = true then (laws_FnExactWrongRefs.j1 kj10 t645 t648 t662 (t665 != t648) l0_0 l0_1 l0_2 l0_3) else (laws_FnExactWrongRefs.j1 kj10 t645 t648 t662 true l0_0 l0_1 l0_2 l0_3)) = some r := H
        have A55 := Aside0.mk A550
        clear A550
        by_cases c56 : t681 = true
        ·subst c56
         have H1 : (laws_FnExactWrongRefs.j1 kj10 t645 t648 t662 (t665 != t648) l0_0 l0_1 l0_2 l0_3) = some r := by rw [if_pos rfl] at H; exact H
         clear H
         have H := H1
         clear H1
         have H' := Aside0.mk H
         clear H
         obtain ⟨Ao57, co57, eo57⟩ := Kd.R_slice HO_7.out
         subst eo57
         obtain ⟨Ao58, co58, eo58⟩ := Kd.R_slice HO_4.out
         subst eo58
         go_wp2_with (first | (go_at_call 15; (with_reducible refine (laws_eqIntS.calls kj10 _ _ t662 _ _ t645 true _ ?side1 ?side2 ?side3 ?side4 A55.out).mono ?_); (case side1 => repeat (first | exact (Kd.R_reads' HO_7.out).2.2 | (with_reducible refine Kd.C_alloc ?_ _) | (with_reducible refine Kd.C_drewN ?_ _) | (with_reducible refine Kd.C_drew ?_))); (case side2 => exact (Kd.R_reads' HO_7.out).2.1); (case side3 => repeat (first | exact (Kd.R_reads' HO_4.out).2.2 | (with_reducible refine Kd.C_alloc ?_ _) | (with_reducible refine Kd.C_drewN ?_ _) | (with_reducible refine Kd.C_drew ?_))); (case side4 => exact (Kd.R_reads' HO_4.out).2.1); rintro e w' ⟨rfl, ⟨nd, rfl⟩⟩))
         go_meet
         case rel => exact ⟨_, ((t665 != t648)), (by first | rfl | (simp; done) | (simp [*]; done)), H', ⟨by have := HJ10.out; first | omega | exact Nat.le_refl _⟩, ⟨by (with_reducible repeat (first | apply Kd.R_alloc | apply Kd.R_drewN | apply Kd.R_drew)); exact Kd.R_mono HO_4.out (fun _ hk => hk.1)⟩, ⟨by (with_reducible repeat (first | apply Kd.R_alloc | apply Kd.R_drewN | apply Kd.R_drew)); exact Kd.R_mono HO_7.out (fun _ hk => hk.1)⟩, ⟨by (with_reducible repeat (first | refine blk_drewN ?_ _ | refine blk_drew ?_ | refine blk_alloc ?_ _)); exact BK631.out⟩, ⟨by repeat (first | (with_reducible first | exact HB.out | apply below_alloc | apply pw_below_drewN | apply below_drew1 | refine below_set ?_ GE631.out | refine below_set ?_ GE661.out) | exact HB.out)⟩⟩
        ·replace c56 := Bool.eq_false_iff.mpr c56
         subst c56
         have H1 : (laws_FnExactWrongRefs.j1 kj10 t645 t648 t662 true l0_0 l0_1 l0_2 l0_3) = some r := by rw [if_neg (show ¬ (false = true) by decide)] at H; exact H
         clear H
         have H := H1
         clear H1
         have H' := Aside0.mk H
         clear H
         obtain ⟨Ao59, co59, eo59⟩ := Kd.R_slice HO_7.out
         subst eo59
         obtain ⟨Ao60, co60, eo60⟩ := Kd.R_slice HO_4.out
         subst eo60
         go_wp2_with (first | (go_at_call 15; (with_reducible refine (laws_eqIntS.calls kj10 _ _ t662 _ _ t645 false _ ?side1 ?side2 ?side3 ?side4 A55.out).mono ?_); (case side1 => repeat (first | exact (Kd.R_reads' HO_7.out).2.2 | (with_reducible refine Kd.C_alloc ?_ _) | (with_reducible refine Kd.C_drewN ?_ _) | (with_reducible refine Kd.C_drew ?_))); (case side2 => exact (Kd.R_reads' HO_7.out).2.1); (case side3 => repeat (first | exact (Kd.R_reads' HO_4.out).2.2 | (with_reducible refine Kd.C_alloc ?_ _) | (with_reducible refine Kd.C_drewN ?_ _) | (with_reducible refine Kd.C_drew ?_))); (case side4 => exact (Kd.R_reads' HO_4.out).2.1); rintro e w' ⟨rfl, ⟨nd, rfl⟩⟩))
         go_meet
         case rel => exact ⟨_, (true), (by first | rfl | (simp; done) | (simp [*]; done)), H', ⟨by have := HJ10.out; first | omega | exact Nat.le_refl _⟩, ⟨by (with_reducible repeat (first | apply Kd.R_alloc | apply Kd.R_drewN | apply Kd.R_drew)); exact Kd.R_mono HO_4.out (fun _ hk => hk.1)⟩, ⟨by (with_reducible repeat (first | apply Kd.R_alloc | apply Kd.R_drewN | apply Kd.R_drew)); exact Kd.R_mono HO_7.out (fun _ hk => hk.1)⟩, ⟨by (with_reducible repeat (first | refine blk_drewN ?_ _ | refine blk_drew ?_ | refine blk_alloc ?_ _)); exact BK631.out⟩, ⟨by repeat (first | (with_reducible first | exact HB.out | apply below_alloc | apply pw_below_drewN | apply below_drew1 | refine below_set ?_ GE631.out | refine below_set ?_ GE661.out) | exact HB.out)⟩⟩
      case rest =>
       clear HC43
       try clear c1
       try clear c2
       try clear p2
       try clear c3
       try clear c3b0
       try clear c4
       try clear c5
       try clear c7
       try clear c8
       try clear c10
       try clear c12
       try clear c15
       try clear c16
       try clear c23
       try clear c24
       try clear c26
       try clear c33
       try clear c38
       try clear c41
       try clear c51
       try clear c54
       try clear c54b0
       try clear c56
       try clear hcz13_0
       try clear hcz13_1
       try clear hcz13_2
       try clear hcz13_3
       try clear hcz15_0
       try clear hcz15_1
       try clear hcz15_2
       try clear hcz15_3
       try clear hcz22_0
       try clear hcz22_1
       try clear hcz22_2
       try clear hcz22_3
       try clear hcz27_0
       try clear hcz27_1
       try clear hcz27_2
       try clear hcz27_3
       try clear hcz52_0
       try clear hcz52_1
       try clear hcz52_2
       try clear hcz52_3
       try clear hcz5_0
       try clear hcz5_1
       try clear hcz5_2
       try clear hcz5_3
       try clear hfz13_0
       try clear hfz13_1
       try clear hfz13_2
       try clear hfz13_3
       try clear hfz15_0
       try clear hfz15_1
       try clear hfz15_2
       try clear hfz15_3
       try clear hfz22_0
       try clear hfz22_1
       try clear hfz22_2
       try clear hfz22_3
       try clear hfz27_0
       try clear hfz27_1
       try clear hfz27_2
       try clear hfz27_3
       try clear hfz52_0
       try clear hfz52_1
       try clear hfz52_2
       try clear hfz52_3
       try clear hfz5_0
       try clear hfz5_1
       try clear hfz5_2
       try clear hfz5_3
       try clear p2
       obtain ⟨kq, x61_42, rfl, HA, HJ42, HO_4, HO_7, BK631, HB⟩ := hcut
       cases kq with
       | zero => exact absurd HA.out (by simp [laws_FnExactWrongRefs.j1])
       | succ kj42 =>
        have H := HA.out
        clear HA
        simp only [laws_FnExactWrongRefs.j1] at H
        by_cases c61 : x61_42 = true
        ·subst c61
         have H1 : (some false) = some r := by rw [if_pos rfl] at H; exact H
         clear H
         have H := H1
         clear H1
         obtain rfl := Option.some.inj H
         go_wp2
         go_ret
         exact ⟨by first | rfl | (simp [errW_none, errW_some] <;> rfl) | (simp [*, errW_none, errW_some] <;> rfl), by repeat (first | (with_reducible first | exact HB.out | apply below_alloc | apply pw_below_drewN | apply below_drew1 | refine below_set ?_ GE631.out) | exact HB.out)⟩
        ·replace c61 := Bool.eq_false_iff.mpr c61
         subst c61
         have H1 : ((laws_markIntS.f kj42 t662 1).bind fun bt682 => ((laws_heldIntS.f kj42 bt682.2 1).bind fun t684 => (if t684 < 0 then (some false) else (if t684 = bt682.1 then ((laws_toImage.f kj42 l0_0 l0_1 l0_2 l0_3).bind fun bt685 => ((impl_WrongRefs.f kj42 bt685.1 bt685.2.1 bt685.2.2.1 bt685.2.2.2).bind fun bt697 => ((laws_eqIntS.f kj42 bt697.1 t645).bind fun t701 => (if t701 = true then (laws_FnExactWrongRefs.j2 kj42 bt682.2 bt682.1 (bt697.2 != t648)) else (laws_FnExactWrongRefs.j2 kj42 bt682.2 bt682.1 true))))) else (some false))))) = some r := by rw [if_neg (show ¬ (false = true) by decide)] at H; exact H
         clear H
         have H := H1
         clear H1
         replace H := Option.bind_eq_some_iff.mp H
         obtain ⟨⟨t682, t683⟩, A620, H⟩ := H
         replace H : ((laws_heldIntS.f kj42 t683 1).bind fun t684 => (if t684 < 0 then (some false) else (if t684 = t682 then ((laws_toImage.f kj42 l0_0 l0_1 l0_2 l0_3).bind fun bt685 => ((impl_WrongRefs.f kj42 bt685.1 bt685.2.1 bt685.2.2.1 bt685.2.2.2).bind fun bt697 => ((laws_eqIntS.f kj42 bt697.1 t645).bind fun t701 => (if t701 = true then (laws_FnExactWrongRefs.j2 kj42 t683 t682 (bt697.2 != t648)) else (laws_FnExactWrongRefs.j2 kj42 t683 t682 true))))) else (some false)))) = some r := H
         have A62 := Aside0.mk A620
         clear A620
         replace H := Option.bind_eq_some_iff.mp H
         obtain ⟨t684, A630, H⟩ := H
         replace H : (if t684 < 0 then (some false) else (if t684 = t682 then ((laws_toImage.f kj42 l0_0 l0_1 l0_2 l0_3).bind fun bt685 => ((impl_WrongRefs.f kj42 bt685.1 bt685.2.1 bt685.2.2.1 bt685.2.2.2).bind fun bt697 => ((laws_eqIntS.f kj42 bt697.1 t645).bind fun t701 => (if t701 = true then (laws_FnExactWrongRefs.j2 kj42 t683 t682 (bt697.2 != t648)) else (laws_FnExactWrongRefs.j2 kj42 t683 t682 true))))) else (some false))) = some r := H
         have A63 := Aside0.mk A630
         clear A630
         by_cases c64 : t684 < 0
         ·rw [if_pos c64] at H
          have c64b0 : decide (t684 < 0) = true := decide_eq_true c64
          clear c64
          obtain rfl := Option.some.inj H
          obtain ⟨Ao65, co65, eo65⟩ := Kd.R_slice HO_7.out
          subst eo65
          go_wp2_with (first | ((with_reducible refine gate_callee (f := 17) rfl ?_); refine goesL_ (some 64) rfl rfl Try.func17 (by kernel_rfl) rfl #[.slice Ao65 t662.length co65, .int .i64 1] rfl (by (try simp only [List.map_toArray, List.map_cons, List.map_nil]); first | done | rfl | (simp only [List.length_drop, List.length_take]; rfl)) ?_; (with_reducible refine (laws_markIntS.calls kj42 (fun k_ => some k_ = (.slice Ao65 t662.length co65 : Value).ownBlock) (.slice Ao65 t662.length co65) t662 1 t682 t683 w _ ?side1 ?side2 A62.out).mono ?_); (case side1 => repeat (first | (with_reducible first | exact HB.out | apply below_alloc | apply pw_below_drewN | apply below_drew1 | refine below_set ?_ GE631.out) | exact HB.out)); (case side2 => exact Kd.R_tight rfl HO_7.out); rintro e w66 ⟨rfl, hy0, hb, hkp⟩; refine ⟨_, rfl, ?_⟩; have n0_ := Aside0.mk (Kd.R_mono (ok' := fun k_ => some k_ ≠ (.slice Ao65 t662.length co65 : Value).ownBlock) (Kd.R_keptB (HO_4.out) hkp (fun k_ hk_ hs_ => (hk_) hs_)) (fun k_ hk_ => hk_.1)); have n1_ := Aside0.mk (Kd.R_reok rfl hy0 (fun k_ e_ => HO_7.out.1 k_ e_)); have n2_ := Aside0.mk (blk_kept (by (with_reducible repeat (first | refine blk_drewN ?_ _ | refine blk_drew ?_ | refine blk_alloc ?_ _)); exact BK631.out) hkp (fun hs_ => (fun e_ => (Kd.R_ne HO_7.out BK631.out (by decide)) e_) hs_)); have n3_ := Aside0.mk (hb); clear HO_4; clear HO_7; clear BK631; clear HB; have HO_4 := n0_; have HO_7 := n1_; have BK631 := n2_; have HB := n3_; clear n0_ n1_ n2_ n3_; (try clear hb); (try clear hkp); (try clear hy0)) | ((with_reducible refine gate_callee (f := 18) rfl ?_); refine goesL_ (some 67) rfl rfl Try.func18 (by kernel_rfl) rfl #[.slice Ao65 t683.length co65, .int .i64 1] rfl (by (try simp only [List.map_toArray, List.map_cons, List.map_nil]); first | done | (rw [show t683.length = t662.length from (Kd.R_reads' HO_7.out).1.symm] <;> rfl) | rfl | (simp only [List.length_drop, List.length_take]; rfl)) ?_; (with_reducible refine (laws_heldIntS.calls kj42 _ _ t683 1 t684 _ ?side1 ?side2 A63.out).mono ?_); (case side1 => repeat (first | exact (Kd.R_reads' HO_7.out).2.2 | (with_reducible refine Kd.C_alloc ?_ _) | (with_reducible refine Kd.C_drewN ?_ _) | (with_reducible refine Kd.C_drew ?_))); (case side2 => rw [show t683.length = t662.length from (Kd.R_reads' HO_7.out).1.symm]; exact (Kd.R_reads' HO_7.out).2.1); rintro e w' ⟨rfl, ⟨nd, rfl⟩⟩; refine ⟨_, rfl, ?_⟩))
          go_ret
          exact ⟨by first | rfl | (simp [errW_none, errW_some] <;> rfl) | (simp [*, errW_none, errW_some] <;> rfl), by repeat (first | (with_reducible first | exact HB.out | apply below_alloc | apply pw_below_drewN | apply below_drew1 | refine below_set ?_ GE631.out) | exact HB.out)⟩
         ·rw [if_neg c64] at H
          have c64b0 : decide (t684 < 0) = false := decide_eq_false c64
          clear c64
          by_cases c67 : t684 = t682
          ·rw [if_pos c67] at H
           have c67b0 : (t684 == t682) = true := beq_iff_eq.mpr c67
           have c67b1 : (t684 != t682) = false := bne_eq_false_iff_eq.mpr c67
           clear c67
           replace H := Option.bind_eq_some_iff.mp H
           obtain ⟨⟨t685, t688, t691, t694⟩, A680, H⟩ := H
           replace H : ((impl_WrongRefs.f kj42 t685 t688 t691 t694).bind fun bt697 => ((laws_eqIntS.f kj42 bt697.1 t645).bind fun t701 => (if t701 = true then (laws_FnExactWrongRefs.j2 kj42 t683 t682 (bt697.2 != t648)) else (laws_FnExactWrongRefs.j2 kj42 t683 t682 true)))) = some r := H
           have A68 := Aside0.mk A680
           clear A680
           replace H := Option.bind_eq_some_iff.mp H
           obtain ⟨⟨t697, t700⟩, A690, H⟩ := H
           replace H : ((laws_eqIntS.f kj42 t697 t645).bind fun t701 => (if t701 = true then (laws_FnExactWrongRefs.j2 kj42 t683 t682 (t700 != t648)) else (laws_FnExactWrongRefs.j2 kj42 t683 t682 true))) = some r := H
           have A69 := Aside0.mk A690
           clear A690
           have HC70 := Aside0.mk H
           clear H
           obtain ⟨Ao71, co71, eo71⟩ := Kd.R_slice HO_7.out
           subst eo71
           go_upto_region 25 with (first | ((with_reducible refine gate_callee (f := 17) rfl ?_); refine goesL_ (some 64) rfl rfl Try.func17 (by kernel_rfl) rfl #[.slice Ao71 t662.length co71, .int .i64 1] rfl (by (try simp only [List.map_toArray, List.map_cons, List.map_nil]); first | done | rfl | (simp only [List.length_drop, List.length_take]; rfl)) ?_; (with_reducible refine (laws_markIntS.calls kj42 (fun k_ => some k_ = (.slice Ao71 t662.length co71 : Value).ownBlock) (.slice Ao71 t662.length co71) t662 1 t682 t683 w _ ?side1 ?side2 A62.out).mono ?_); (case side1 => repeat (first | (with_reducible first | exact HB.out | apply below_alloc | apply pw_below_drewN | apply below_drew1 | refine below_set ?_ GE631.out) | exact HB.out)); (case side2 => exact Kd.R_tight rfl HO_7.out); rintro e w72 ⟨rfl, hy0, hb, hkp⟩; refine ⟨_, rfl, ?_⟩; have n0_ := Aside0.mk (Kd.R_mono (ok' := fun k_ => some k_ ≠ (.slice Ao71 t662.length co71 : Value).ownBlock) (Kd.R_keptB (HO_4.out) hkp (fun k_ hk_ hs_ => (hk_) hs_)) (fun k_ hk_ => hk_.1)); have n1_ := Aside0.mk (Kd.R_reok rfl hy0 (fun k_ e_ => HO_7.out.1 k_ e_)); have n2_ := Aside0.mk (blk_kept (by (with_reducible repeat (first | refine blk_drewN ?_ _ | refine blk_drew ?_ | refine blk_alloc ?_ _)); exact BK631.out) hkp (fun hs_ => (fun e_ => (Kd.R_ne HO_7.out BK631.out (by decide)) e_) hs_)); have n3_ := Aside0.mk (hb); clear HO_4; clear HO_7; clear BK631; clear HB; have HO_4 := n0_; have HO_7 := n1_; have BK631 := n2_; have HB := n3_; clear n0_ n1_ n2_ n3_; (try clear hb); (try clear hkp); (try clear hy0)) | ((with_reducible refine gate_callee (f := 18) rfl ?_); refine goesL_ (some 67) rfl rfl Try.func18 (by kernel_rfl) rfl #[.slice Ao71 t683.length co71, .int .i64 1] rfl (by (try simp only [List.map_toArray, List.map_cons, List.map_nil]); first | done | (rw [show t683.length = t662.length from (Kd.R_reads' HO_7.out).1.symm] <;> rfl) | rfl | (simp only [List.length_drop, List.length_take]; rfl)) ?_; (with_reducible refine (laws_heldIntS.calls kj42 _ _ t683 1 t684 _ ?side1 ?side2 A63.out).mono ?_); (case side1 => repeat (first | exact (Kd.R_reads' HO_7.out).2.2 | (with_reducible refine Kd.C_alloc ?_ _) | (with_reducible refine Kd.C_drewN ?_ _) | (with_reducible refine Kd.C_drew ?_))); (case side2 => rw [show t683.length = t662.length from (Kd.R_reads' HO_7.out).1.symm]; exact (Kd.R_reads' HO_7.out).2.1); rintro e w' ⟨rfl, ⟨nd, rfl⟩⟩; refine ⟨_, rfl, ?_⟩; have hcz73_0 : w72.cell? ⟨gb631, 0, none⟩ = some (.slice A0_0 l0_0.length c0_0) := (blk_cell BK631.out 0).trans rfl; have hcz73_1 : w72.cell? ⟨gb631, 1, none⟩ = some (.slice A0_1 l0_1.length c0_1) := (blk_cell BK631.out 1).trans rfl; have hcz73_2 : w72.cell? ⟨gb631, 2, none⟩ = some (.slice A0_2 l0_2.length c0_2) := (blk_cell BK631.out 2).trans rfl; have hcz73_3 : w72.cell? ⟨gb631, 3, none⟩ = some (.slice A0_3 l0_3.length c0_3) := (blk_cell BK631.out 3).trans rfl; have hfz73_0 := blk_frozen BK631.out 0; have hfz73_1 := blk_frozen BK631.out 1; have hfz73_2 := blk_frozen BK631.out 2; have hfz73_3 := blk_frozen BK631.out 3) | ((with_reducible refine gate_callee (f := 10) rfl ?_); refine goesL_ (some 75) rfl rfl Try.func10 (by kernel_rfl) rfl #[.agg #[.slice A0_0 l0_0.length c0_0, .slice A0_1 l0_1.length c0_1, .slice A0_2 l0_2.length c0_2, .slice A0_3 l0_3.length c0_3]] rfl (by (try simp only [List.map_toArray, List.map_cons, List.map_nil]); first | done | rfl | (simp only [List.length_drop, List.length_take]; rfl)) ?_; (with_reducible refine (laws_toImage.calls kj42 _ _ l0_0 _ _ l0_1 _ _ l0_2 _ _ l0_3 t685 t688 t691 t694 _ ?side1 ?side2 ?side3 ?side4 ?side5 ?side6 ?side7 ?side8 A68.out).mono ?_); (case side1 => repeat (first | exact (Kd.C_below HR0_0.out (by repeat (first | (with_reducible first | exact HB.out | apply below_alloc | apply pw_below_drewN | apply below_drew1 | refine below_set ?_ GE631.out) | exact HB.out))) | (with_reducible refine Kd.C_alloc ?_ _) | (with_reducible refine Kd.C_drewN ?_ _) | (with_reducible refine Kd.C_drew ?_))); (case side2 => exact HC0_0.out); (case side3 => repeat (first | exact (Kd.C_below HR0_1.out (by repeat (first | (with_reducible first | exact HB.out | apply below_alloc | apply pw_below_drewN | apply below_drew1 | refine below_set ?_ GE631.out) | exact HB.out))) | (with_reducible refine Kd.C_alloc ?_ _) | (with_reducible refine Kd.C_drewN ?_ _) | (with_reducible refine Kd.C_drew ?_))); (case side4 => exact HC0_1.out); (case side5 => repeat (first | exact (Kd.C_below HR0_2.out (by repeat (first | (with_reducible first | exact HB.out | apply below_alloc | apply pw_below_drewN | apply below_drew1 | refine below_set ?_ GE631.out) | exact HB.out))) | (with_reducible refine Kd.C_alloc ?_ _) | (with_reducible refine Kd.C_drewN ?_ _) | (with_reducible refine Kd.C_drew ?_))); (case side6 => exact HC0_2.out); (case side7 => repeat (first | exact (Kd.C_below HR0_3.out (by repeat (first | (with_reducible first | exact HB.out | apply below_alloc | apply pw_below_drewN | apply below_drew1 | refine below_set ?_ GE631.out) | exact HB.out))) | (with_reducible refine Kd.C_alloc ?_ _) | (with_reducible refine Kd.C_drewN ?_ _) | (with_reducible refine Kd.C_drew ?_))); (case side8 => exact HC0_3.out); rintro e w74 ⟨v686, v689, v692, v695, rfl, ho0, ho1, ho2, ho3, hb⟩; refine ⟨_, rfl, ?_⟩; have n0_ := Aside0.mk (Kd.R_mono (Kd.R_told (Kd.R_told (Kd.R_told (Kd.R_old (by (with_reducible repeat (first | apply Kd.R_alloc | apply Kd.R_drewN | apply Kd.R_drew)); exact HO_4.out) hb) (Kd.R_base ho0)) (Kd.R_base ho1)) (Kd.R_base ho3)) (fun _ h_ => h_.1)); have n1_ := Aside0.mk (Kd.R_mono (Kd.R_told (Kd.R_told (Kd.R_told (Kd.R_old (by (with_reducible repeat (first | apply Kd.R_alloc | apply Kd.R_drewN | apply Kd.R_drew)); exact HO_7.out) hb) (Kd.R_base ho0)) (Kd.R_base ho1)) (Kd.R_base ho3)) (fun _ h_ => h_.1)); have n2_ := Aside0.mk (Kd.R_lower (Kd.R_new' (Kd.R_new' ho0 (Kd.R_lt (by (with_reducible repeat (first | apply Kd.R_alloc | apply Kd.R_drewN | apply Kd.R_drew)); exact HO_4.out))) (Kd.R_lt (by (with_reducible repeat (first | apply Kd.R_alloc | apply Kd.R_drewN | apply Kd.R_drew)); exact HO_7.out))) (below_size (by repeat (first | (with_reducible first | exact HB.out | apply below_alloc | apply pw_below_drewN | apply below_drew1 | refine below_set ?_ GE631.out) | exact HB.out)))); have n3_ := Aside0.mk (Kd.R_lower (Kd.R_new' (Kd.R_new' ho1 (Kd.R_lt (by (with_reducible repeat (first | apply Kd.R_alloc | apply Kd.R_drewN | apply Kd.R_drew)); exact HO_4.out))) (Kd.R_lt (by (with_reducible repeat (first | apply Kd.R_alloc | apply Kd.R_drewN | apply Kd.R_drew)); exact HO_7.out))) (below_size (by repeat (first | (with_reducible first | exact HB.out | apply below_alloc | apply pw_below_drewN | apply below_drew1 | refine below_set ?_ GE631.out) | exact HB.out)))); have n4_ := Aside0.mk (Kd.S_lower (Kd.S_new' (Kd.S_new' ho2 (Kd.R_lt (by (with_reducible repeat (first | apply Kd.R_alloc | apply Kd.R_drewN | apply Kd.R_drew)); exact HO_4.out))) (Kd.R_lt (by (with_reducible repeat (first | apply Kd.R_alloc | apply Kd.R_drewN | apply Kd.R_drew)); exact HO_7.out))) (below_size (by repeat (first | (with_reducible first | exact HB.out | apply below_alloc | apply pw_below_drewN | apply below_drew1 | refine below_set ?_ GE631.out) | exact HB.out)))); have n5_ := Aside0.mk (Kd.R_lower (Kd.R_new' (Kd.R_new' ho3 (Kd.R_lt (by (with_reducible repeat (first | apply Kd.R_alloc | apply Kd.R_drewN | apply Kd.R_drew)); exact HO_4.out))) (Kd.R_lt (by (with_reducible repeat (first | apply Kd.R_alloc | apply Kd.R_drewN | apply Kd.R_drew)); exact HO_7.out))) (below_size (by repeat (first | (with_reducible first | exact HB.out | apply below_alloc | apply pw_below_drewN | apply below_drew1 | refine below_set ?_ GE631.out) | exact HB.out)))); have n6_ := Aside0.mk (blk_below (g := gb631) (o := .cells #[.slice A0_0 l0_0.length c0_0, .slice A0_1 l0_1.length c0_1, .slice A0_2 l0_2.length c0_2, .slice A0_3 l0_3.length c0_3] 25 (0, 0)) (by (with_reducible repeat (first | refine blk_drewN ?_ _ | refine blk_drew ?_ | refine blk_alloc ?_ _)); exact BK631.out) hb); have n7_ := Aside0.mk (below_step (by repeat (first | (with_reducible first | exact HB.out | apply below_alloc | apply pw_below_drewN | apply below_drew1 | refine below_set ?_ GE631.out) | exact HB.out)) hb); clear HO_4; clear HO_7; clear BK631; clear HB; have HO_4 := n0_; have HO_7 := n1_; have HO687 := n2_; have HO690 := n3_; have HO693 := n4_; have HO696 := n5_; have BK631 := n6_; have HB := n7_; clear n0_ n1_ n2_ n3_ n4_ n5_ n6_ n7_; (try clear hb); (try clear hb2); (try clear hk); (try clear hi); (try clear ho0); (try clear ho1); (try clear ho2); (try clear ho3); obtain ⟨Ao75, co75, eo75⟩ := Kd.R_slice HO687.out; subst eo75; obtain ⟨Ao76, co76, eo76⟩ := Kd.R_slice HO690.out; subst eo76; obtain ⟨Ao77, co77, eo77⟩ := Kd.S_slice HO693.out; subst eo77; obtain ⟨Ao78, co78, eo78⟩ := Kd.R_slice HO696.out; subst eo78) | ((with_reducible refine gate_callee (f := 24) rfl ?_); refine goesL_ (some 76) rfl rfl Try.func24 (by kernel_rfl) rfl #[.agg #[.slice Ao75 t685.length co75, .slice Ao76 t688.length co76, .slice Ao77 t691.length co77, .slice Ao78 t694.length co78]] rfl (by (try simp only [List.map_toArray, List.map_cons, List.map_nil]); first | done | rfl | (simp only [List.length_drop, List.length_take]; rfl)) ?_; (with_reducible refine (impl_WrongRefs.calls kj42 _ _ t685 _ _ t688 _ _ t691 _ _ t694 t697 t700 _ ?side1 ?side2 ?side3 ?side4 ?side5 ?side6 ?side7 ?side8 A69.out).mono ?_); (case side1 => repeat (first | exact (Kd.R_reads' HO687.out).2.2 | (with_reducible refine Kd.C_alloc ?_ _) | (with_reducible refine Kd.C_drewN ?_ _) | (with_reducible refine Kd.C_drew ?_))); (case side2 => exact (Kd.R_reads' HO687.out).2.1); (case side3 => repeat (first | exact (Kd.R_reads' HO690.out).2.2 | (with_reducible refine Kd.C_alloc ?_ _) | (with_reducible refine Kd.C_drewN ?_ _) | (with_reducible refine Kd.C_drew ?_))); (case side4 => exact (Kd.R_reads' HO690.out).2.1); (case side5 => repeat (first | exact (Kd.S_reads' HO693.out).2.2 | (with_reducible refine Kd.C_alloc ?_ _) | (with_reducible refine Kd.C_drewN ?_ _) | (with_reducible refine Kd.C_drew ?_))); (case side6 => exact (Kd.S_reads' HO693.out).2.1); (case side7 => repeat (first | exact (Kd.R_reads' HO696.out).2.2 | (with_reducible refine Kd.C_alloc ?_ _) | (with_reducible refine Kd.C_drewN ?_ _) | (with_reducible refine Kd.C_drew ?_))); (case side8 => exact (Kd.R_reads' HO696.out).2.1); rintro e w79 ⟨v698, rfl, ho0, hb⟩; refine ⟨_, rfl, ?_⟩; have n0_ := Aside0.mk (Kd.R_elder' (by (with_reducible repeat (first | apply Kd.R_alloc | apply Kd.R_drewN | apply Kd.R_drew)); exact HO_4.out) (Kd.R_base ho0) hb); have n1_ := Aside0.mk (Kd.R_elder' (by (with_reducible repeat (first | apply Kd.R_alloc | apply Kd.R_drewN | apply Kd.R_drew)); exact HO_7.out) (Kd.R_base ho0) hb); have n2_ := Aside0.mk (Kd.R_elder' (by (with_reducible repeat (first | apply Kd.R_alloc | apply Kd.R_drewN | apply Kd.R_drew)); exact HO687.out) (Kd.R_base ho0) hb); have n3_ := Aside0.mk (Kd.R_elder' (by (with_reducible repeat (first | apply Kd.R_alloc | apply Kd.R_drewN | apply Kd.R_drew)); exact HO690.out) (Kd.R_base ho0) hb); have n4_ := Aside0.mk (Kd.S_elder' (by (with_reducible repeat (first | apply Kd.S_alloc | apply Kd.S_drewN | apply Kd.S_drew)); exact HO693.out) (Kd.R_base ho0) hb); have n5_ := Aside0.mk (Kd.R_elder' (by (with_reducible repeat (first | apply Kd.R_alloc | apply Kd.R_drewN | apply Kd.R_drew)); exact HO696.out) (Kd.R_base ho0) hb); have n6_ := Aside0.mk (Kd.R_lower (Kd.R_new' (Kd.R_new' (Kd.R_new' (Kd.R_new' (Kd.R_new' ho0 (Kd.R_lt (by (with_reducible repeat (first | apply Kd.R_alloc | apply Kd.R_drewN | apply Kd.R_drew)); exact HO_4.out))) (Kd.R_lt (by (with_reducible repeat (first | apply Kd.R_alloc | apply Kd.R_drewN | apply Kd.R_drew)); exact HO_7.out))) (Kd.R_lt (by (with_reducible repeat (first | apply Kd.R_alloc | apply Kd.R_drewN | apply Kd.R_drew)); exact HO687.out))) (Kd.R_lt (by (with_reducible repeat (first | apply Kd.R_alloc | apply Kd.R_drewN | apply Kd.R_drew)); exact HO690.out))) (Kd.R_lt (by (with_reducible repeat (first | apply Kd.R_alloc | apply Kd.R_drewN | apply Kd.R_drew)); exact HO696.out))) (below_size (by repeat (first | (with_reducible first | exact HB.out | apply below_alloc | apply pw_below_drewN | apply below_drew1 | refine below_set ?_ GE631.out) | exact HB.out)))); have n7_ := Aside0.mk (blk_below (g := gb631) (o := .cells #[.slice A0_0 l0_0.length c0_0, .slice A0_1 l0_1.length c0_1, .slice A0_2 l0_2.length c0_2, .slice A0_3 l0_3.length c0_3] 25 (0, 0)) (by (with_reducible repeat (first | refine blk_drewN ?_ _ | refine blk_drew ?_ | refine blk_alloc ?_ _)); exact BK631.out) hb); have n8_ := Aside0.mk (below_step (by repeat (first | (with_reducible first | exact HB.out | apply below_alloc | apply pw_below_drewN | apply below_drew1 | refine below_set ?_ GE631.out) | exact HB.out)) hb); clear HO_4; clear HO_7; clear HO687; clear HO690; clear HO693; clear HO696; clear BK631; clear HB; have HO_4 := n0_; have HO_7 := n1_; have HO687 := n2_; have HO690 := n3_; have HO693 := n4_; have HO696 := n5_; have HO699 := n6_; have BK631 := n7_; have HB := n8_; clear n0_ n1_ n2_ n3_ n4_ n5_ n6_ n7_ n8_; (try clear hb); (try clear hb2); (try clear hk); (try clear hi); (try clear ho0)))
           (try simp only [Act.put, List.setIfInBounds_toArray, List.set_cons_zero, List.set_cons_succ])
           go_cut [87] (fun v87 wc => ∃ (kq : Nat) (x87_69 : Bool), v87 = .bool x87_69 ∧ Aside0 (laws_FnExactWrongRefs.j2 kq t683 t682 x87_69 = some r) ∧ Aside0 (kq ≤ kj42) ∧ Aside0 (Kd.R (Kd.int .i64) 3 wc w.heap.size (fun _ => True) (.slice Ao71 t662.length co71) t683) ∧ Aside0 (wc.heap[gb631]? = some (.cells #[(.slice A0_0 l0_0.length c0_0), (.slice A0_1 l0_1.length c0_1), (.slice A0_2 l0_2.length c0_2), (.slice A0_3 l0_3.length c0_3)] 25 (0, 0))) ∧ Aside0 (Below w.heap.size w wc))
           case first =>
            have H := HC70.out
            clear HC70
            replace H := Option.bind_eq_some_iff.mp H
            obtain ⟨t701, A800, H⟩ := H
            replace H : (if t701 = true then (laws_FnExactWrongRefs.j2 kj42 t683 t682 (t700 != t648)) else (laws_FnExactWrongRefs.j2 kj42 t683 t682 true)) = some r := H
            have A80 := Aside0.mk A800
            clear A800
            by_cases c81 : t701 = true
            ·subst c81
             have H1 : (laws_FnExactWrongRefs.j2 kj42 t683 t682 (t700 != t648)) = some r := by rw [if_pos rfl] at H; exact H
             clear H
             have H := H1
             clear H1
             have H' := Aside0.mk H
             clear H
             obtain ⟨Ao82, co82, eo82⟩ := Kd.R_slice HO699.out
             subst eo82
             obtain ⟨Ao83, co83, eo83⟩ := Kd.R_slice HO_4.out
             subst eo83
             go_wp2_with (first | ((with_reducible refine gate_callee (f := 15) rfl ?_); refine goesL_ (some 81) rfl rfl Try.func15 (by kernel_rfl) rfl #[.slice Ao82 t697.length co82, .slice Ao83 t645.length co83] rfl (by (try simp only [List.map_toArray, List.map_cons, List.map_nil]); first | done | rfl | (simp only [List.length_drop, List.length_take]; rfl)) ?_; (with_reducible refine (laws_eqIntS.calls kj42 _ _ t697 _ _ t645 true _ ?side1 ?side2 ?side3 ?side4 A80.out).mono ?_); (case side1 => repeat (first | exact (Kd.R_reads' HO699.out).2.2 | (with_reducible refine Kd.C_alloc ?_ _) | (with_reducible refine Kd.C_drewN ?_ _) | (with_reducible refine Kd.C_drew ?_))); (case side2 => exact (Kd.R_reads' HO699.out).2.1); (case side3 => repeat (first | exact (Kd.R_reads' HO_4.out).2.2 | (with_reducible refine Kd.C_alloc ?_ _) | (with_reducible refine Kd.C_drewN ?_ _) | (with_reducible refine Kd.C_drew ?_))); (case side4 => exact (Kd.R_reads' HO_4.out).2.1); rintro e w' ⟨rfl, ⟨nd, rfl⟩⟩; refine ⟨_, rfl, ?_⟩))
             go_meet
             case rel => exact ⟨_, ((t700 != t648)), (by first | rfl | (simp; done) | (simp [*]; done)), H', ⟨by have := HJ10.out; have := HJ42.out; first | omega | exact Nat.le_refl _⟩, ⟨by (with_reducible repeat (first | apply Kd.R_alloc | apply Kd.R_drewN | apply Kd.R_drew)); exact Kd.R_mono HO_7.out (fun _ hk => trivial)⟩, ⟨by (with_reducible repeat (first | refine blk_drewN ?_ _ | refine blk_drew ?_ | refine blk_alloc ?_ _)); exact BK631.out⟩, ⟨by repeat (first | (with_reducible first | exact HB.out | apply below_alloc | apply pw_below_drewN | apply below_drew1 | refine below_set ?_ GE631.out) | exact HB.out)⟩⟩
            ·replace c81 := Bool.eq_false_iff.mpr c81
             subst c81
             have H1 : (laws_FnExactWrongRefs.j2 kj42 t683 t682 true) = some r := by rw [if_neg (show ¬ (false = true) by decide)] at H; exact H
             clear H
             have H := H1
             clear H1
             have H' := Aside0.mk H
             clear H
             obtain ⟨Ao84, co84, eo84⟩ := Kd.R_slice HO699.out
             subst eo84
             obtain ⟨Ao85, co85, eo85⟩ := Kd.R_slice HO_4.out
             subst eo85
             go_wp2_with (first | ((with_reducible refine gate_callee (f := 15) rfl ?_); refine goesL_ (some 81) rfl rfl Try.func15 (by kernel_rfl) rfl #[.slice Ao84 t697.length co84, .slice Ao85 t645.length co85] rfl (by (try simp only [List.map_toArray, List.map_cons, List.map_nil]); first | done | rfl | (simp only [List.length_drop, List.length_take]; rfl)) ?_; (with_reducible refine (laws_eqIntS.calls kj42 _ _ t697 _ _ t645 false _ ?side1 ?side2 ?side3 ?side4 A80.out).mono ?_); (case side1 => repeat (first | exact (Kd.R_reads' HO699.out).2.2 | (with_reducible refine Kd.C_alloc ?_ _) | (with_reducible refine Kd.C_drewN ?_ _) | (with_reducible refine Kd.C_drew ?_))); (case side2 => exact (Kd.R_reads' HO699.out).2.1); (case side3 => repeat (first | exact (Kd.R_reads' HO_4.out).2.2 | (with_reducible refine Kd.C_alloc ?_ _) | (with_reducible refine Kd.C_drewN ?_ _) | (with_reducible refine Kd.C_drew ?_))); (case side4 => exact (Kd.R_reads' HO_4.out).2.1); rintro e w' ⟨rfl, ⟨nd, rfl⟩⟩; refine ⟨_, rfl, ?_⟩))
             go_meet
             case rel => exact ⟨_, (true), (by first | rfl | (simp; done) | (simp [*]; done)), H', ⟨by have := HJ10.out; have := HJ42.out; first | omega | exact Nat.le_refl _⟩, ⟨by (with_reducible repeat (first | apply Kd.R_alloc | apply Kd.R_drewN | apply Kd.R_drew)); exact Kd.R_mono HO_7.out (fun _ hk => trivial)⟩, ⟨by (with_reducible repeat (first | refine blk_drewN ?_ _ | refine blk_drew ?_ | refine blk_alloc ?_ _)); exact BK631.out⟩, ⟨by repeat (first | (with_reducible first | exact HB.out | apply below_alloc | apply pw_below_drewN | apply below_drew1 | refine below_set ?_ GE631.out) | exact HB.out)⟩⟩
           case rest =>
            clear HC70
            try clear c1
            try clear c2
            try clear p2
            try clear c3
            try clear c3b0
            try clear c4
            try clear c5
            try clear c6
            try clear c7
            try clear c8
            try clear c10
            try clear c12
            try clear c15
            try clear c16
            try clear c17
            try clear c18
            try clear c23
            try clear c24
            try clear c26
            try clear c33
            try clear c38
            try clear c41
            try clear c51
            try clear c54
            try clear c54b0
            try clear c56
            try clear c61
            try clear c64
            try clear c64b0
            try clear c67
            try clear c67b0
            try clear c67b1
            try clear c81
            try clear hcz13_0
            try clear hcz13_1
            try clear hcz13_2
            try clear hcz13_3
            try clear hcz15_0
            try clear hcz15_1
            try clear hcz15_2
            try clear hcz15_3
            try clear hcz22_0
            try clear hcz22_1
            try clear hcz22_2
            try clear hcz22_3
            try clear hcz27_0
            try clear hcz27_1
            try clear hcz27_2
            try clear hcz27_3
            try clear hcz52_0
            try clear hcz52_1
            try clear hcz52_2
            try clear hcz52_3
            try clear hcz5_0
            try clear hcz5_1
            try clear hcz5_2
            try clear hcz5_3
            try clear hcz73_0
            try clear hcz73_1
            try clear hcz73_2
            try clear hcz73_3
            try clear hfz13_0
            try clear hfz13_1
            try clear hfz13_2
            try clear hfz13_3
            try clear hfz15_0
            try clear hfz15_1
            try clear hfz15_2
            try clear hfz15_3
            try clear hfz22_0
            try clear hfz22_1
            try clear hfz22_2
            try clear hfz22_3
            try clear hfz27_0
            try clear hfz27_1
            try clear hfz27_2
            try clear hfz27_3
            try clear hfz52_0
            try clear hfz52_1
            try clear hfz52_2
            try clear hfz52_3
            try clear hfz5_0
            try clear hfz5_1
            try clear hfz5_2
            try clear hfz5_3
            try clear hfz73_0
            try clear hfz73_1
            try clear hfz73_2
            try clear hfz73_3
            try clear p2
            obtain ⟨kq, x87_69, rfl, HA, HJ69, HO_7, BK631, HB⟩ := hcut
            have hl7_69 := (Kd.R_reads' HO_7.out).1
            rw [hl7_69] at HO_7
            (try simp only [hl7_69])
            (try simp only [hl7_69] at BK631)
            cases kq with
            | zero => exact absurd HA.out (by simp [laws_FnExactWrongRefs.j2])
            | succ kj69 =>
             have H := HA.out
             clear HA
             simp only [laws_FnExactWrongRefs.j2] at H
             by_cases c86 : x87_69 = true
             ·subst c86
              have H1 : (some false) = some r := by rw [if_pos rfl] at H; exact H
              clear H
              have H := H1
              clear H1
              obtain rfl := Option.some.inj H
              go_wp2
              go_ret
              exact ⟨by first | rfl | (simp [errW_none, errW_some] <;> rfl) | (simp [*, errW_none, errW_some] <;> rfl), by repeat (first | (with_reducible first | exact HB.out | apply below_alloc | apply pw_below_drewN | apply below_drew1 | refine below_set ?_ GE631.out) | exact HB.out)⟩
             ·replace c86 := Bool.eq_false_iff.mpr c86
              subst c86
              have H1 : ((laws_heldIntS.f kj69 t683 1).bind fun t702 => (if t702 < 0 then (some false) else (if t702 = t682 then (some true) else (some false)))) = some r := by rw [if_neg (show ¬ (false = true) by decide)] at H; exact H
              clear H
              have H := H1
              clear H1
              replace H := Option.bind_eq_some_iff.mp H
              obtain ⟨t702, A870, H⟩ := H
              replace H : (if t702 < 0 then (some false) else (if t702 = t682 then (some true) else (some false))) = some r := H
              have A87 := Aside0.mk A870
              clear A870
              by_cases c88 : t702 < 0
              ·rw [if_pos c88] at H
               have c88b0 : decide (t702 < 0) = true := decide_eq_true c88
               clear c88
               obtain rfl := Option.some.inj H
               go_wp2_with (first | ((with_reducible refine gate_callee (f := 18) rfl ?_); refine goesL_ (some 90) rfl rfl Try.func18 (by kernel_rfl) rfl #[.slice Ao71 t683.length co71, .int .i64 1] rfl (by (try simp only [List.map_toArray, List.map_cons, List.map_nil]); first | done | rfl | (simp only [List.length_drop, List.length_take]; rfl)) ?_; (with_reducible refine (laws_heldIntS.calls kj69 _ _ t683 1 t702 _ ?side1 ?side2 A87.out).mono ?_); (case side1 => repeat (first | exact (Kd.R_reads' HO_7.out).2.2 | (with_reducible refine Kd.C_alloc ?_ _) | (with_reducible refine Kd.C_drewN ?_ _) | (with_reducible refine Kd.C_drew ?_))); (case side2 => exact (Kd.R_reads' HO_7.out).2.1); rintro e w' ⟨rfl, ⟨nd, rfl⟩⟩; refine ⟨_, rfl, ?_⟩))
               go_ret
               exact ⟨by first | rfl | (simp [errW_none, errW_some] <;> rfl) | (simp [*, errW_none, errW_some] <;> rfl), by repeat (first | (with_reducible first | exact HB.out | apply below_alloc | apply pw_below_drewN | apply below_drew1 | refine below_set ?_ GE631.out) | exact HB.out)⟩
              ·rw [if_neg c88] at H
               have c88b0 : decide (t702 < 0) = false := decide_eq_false c88
               clear c88
               by_cases c89 : t702 = t682
               ·rw [if_pos c89] at H
                have c89b0 : (t702 == t682) = true := beq_iff_eq.mpr c89
                have c89b1 : (t702 != t682) = false := bne_eq_false_iff_eq.mpr c89
                clear c89
                obtain rfl := Option.some.inj H
                go_wp2_with (first | ((with_reducible refine gate_callee (f := 18) rfl ?_); refine goesL_ (some 90) rfl rfl Try.func18 (by kernel_rfl) rfl #[.slice Ao71 t683.length co71, .int .i64 1] rfl (by (try simp only [List.map_toArray, List.map_cons, List.map_nil]); first | done | rfl | (simp only [List.length_drop, List.length_take]; rfl)) ?_; (with_reducible refine (laws_heldIntS.calls kj69 _ _ t683 1 t702 _ ?side1 ?side2 A87.out).mono ?_); (case side1 => repeat (first | exact (Kd.R_reads' HO_7.out).2.2 | (with_reducible refine Kd.C_alloc ?_ _) | (with_reducible refine Kd.C_drewN ?_ _) | (with_reducible refine Kd.C_drew ?_))); (case side2 => exact (Kd.R_reads' HO_7.out).2.1); rintro e w' ⟨rfl, ⟨nd, rfl⟩⟩; refine ⟨_, rfl, ?_⟩))
                go_ret
                exact ⟨by first | rfl | (simp [errW_none, errW_some] <;> rfl) | (simp [*, errW_none, errW_some] <;> rfl), by repeat (first | (with_reducible first | exact HB.out | apply below_alloc | apply pw_below_drewN | apply below_drew1 | refine below_set ?_ GE631.out) | exact HB.out)⟩
               ·rw [if_neg c89] at H
                have c89b0 : (t702 == t682) = false := beq_eq_false_iff_ne.mpr c89
                have c89b1 : (t702 != t682) = true := bne_iff_ne.mpr c89
                obtain rfl := Option.some.inj H
                go_wp2_with (first | ((with_reducible refine gate_callee (f := 18) rfl ?_); refine goesL_ (some 90) rfl rfl Try.func18 (by kernel_rfl) rfl #[.slice Ao71 t683.length co71, .int .i64 1] rfl (by (try simp only [List.map_toArray, List.map_cons, List.map_nil]); first | done | rfl | (simp only [List.length_drop, List.length_take]; rfl)) ?_; (with_reducible refine (laws_heldIntS.calls kj69 _ _ t683 1 t702 _ ?side1 ?side2 A87.out).mono ?_); (case side1 => repeat (first | exact (Kd.R_reads' HO_7.out).2.2 | (with_reducible refine Kd.C_alloc ?_ _) | (with_reducible refine Kd.C_drewN ?_ _) | (with_reducible refine Kd.C_drew ?_))); (case side2 => exact (Kd.R_reads' HO_7.out).2.1); rintro e w' ⟨rfl, ⟨nd, rfl⟩⟩; refine ⟨_, rfl, ?_⟩))
                go_ret
                exact ⟨by first | rfl | (simp [errW_none, errW_some] <;> rfl) | (simp [*, errW_none, errW_some] <;> rfl), by repeat (first | (with_reducible first | exact HB.out | apply below_alloc | apply pw_below_drewN | apply below_drew1 | refine below_set ?_ GE631.out) | exact HB.out)⟩
          ·rw [if_neg c67] at H
           have c67b0 : (t684 == t682) = false := beq_eq_false_iff_ne.mpr c67
           have c67b1 : (t684 != t682) = true := bne_iff_ne.mpr c67
           obtain rfl := Option.some.inj H
           obtain ⟨Ao90, co90, eo90⟩ := Kd.R_slice HO_7.out
           subst eo90
           go_wp2_with (first | ((with_reducible refine gate_callee (f := 17) rfl ?_); refine goesL_ (some 64) rfl rfl Try.func17 (by kernel_rfl) rfl #[.slice Ao90 t662.length co90, .int .i64 1] rfl (by (try simp only [List.map_toArray, List.map_cons, List.map_nil]); first | done | rfl | (simp only [List.length_drop, List.length_take]; rfl)) ?_; (with_reducible refine (laws_markIntS.calls kj42 (fun k_ => some k_ = (.slice Ao90 t662.length co90 : Value).ownBlock) (.slice Ao90 t662.length co90) t662 1 t682 t683 w _ ?side1 ?side2 A62.out).mono ?_); (case side1 => repeat (first | (with_reducible first | exact HB.out | apply below_alloc | apply pw_below_drewN | apply below_drew1 | refine below_set ?_ GE631.out) | exact HB.out)); (case side2 => exact Kd.R_tight rfl HO_7.out); rintro e w91 ⟨rfl, hy0, hb, hkp⟩; refine ⟨_, rfl, ?_⟩; have n0_ := Aside0.mk (Kd.R_mono (ok' := fun k_ => some k_ ≠ (.slice Ao90 t662.length co90 : Value).ownBlock) (Kd.R_keptB (HO_4.out) hkp (fun k_ hk_ hs_ => (hk_) hs_)) (fun k_ hk_ => hk_.1)); have n1_ := Aside0.mk (Kd.R_reok rfl hy0 (fun k_ e_ => HO_7.out.1 k_ e_)); have n2_ := Aside0.mk (blk_kept (by (with_reducible repeat (first | refine blk_drewN ?_ _ | refine blk_drew ?_ | refine blk_alloc ?_ _)); exact BK631.out) hkp (fun hs_ => (fun e_ => (Kd.R_ne HO_7.out BK631.out (by decide)) e_) hs_)); have n3_ := Aside0.mk (hb); clear HO_4; clear HO_7; clear BK631; clear HB; have HO_4 := n0_; have HO_7 := n1_; have BK631 := n2_; have HB := n3_; clear n0_ n1_ n2_ n3_; (try clear hb); (try clear hkp); (try clear hy0)) | ((with_reducible refine gate_callee (f := 18) rfl ?_); refine goesL_ (some 67) rfl rfl Try.func18 (by kernel_rfl) rfl #[.slice Ao90 t683.length co90, .int .i64 1] rfl (by (try simp only [List.map_toArray, List.map_cons, List.map_nil]); first | done | (rw [show t683.length = t662.length from (Kd.R_reads' HO_7.out).1.symm] <;> rfl) | rfl | (simp only [List.length_drop, List.length_take]; rfl)) ?_; (with_reducible refine (laws_heldIntS.calls kj42 _ _ t683 1 t684 _ ?side1 ?side2 A63.out).mono ?_); (case side1 => repeat (first | exact (Kd.R_reads' HO_7.out).2.2 | (with_reducible refine Kd.C_alloc ?_ _) | (with_reducible refine Kd.C_drewN ?_ _) | (with_reducible refine Kd.C_drew ?_))); (case side2 => rw [show t683.length = t662.length from (Kd.R_reads' HO_7.out).1.symm]; exact (Kd.R_reads' HO_7.out).2.1); rintro e w' ⟨rfl, ⟨nd, rfl⟩⟩; refine ⟨_, rfl, ?_⟩))
           go_ret
           exact ⟨by first | rfl | (simp [errW_none, errW_some] <;> rfl) | (simp [*, errW_none, errW_some] <;> rfl), by repeat (first | (with_reducible first | exact HB.out | apply below_alloc | apply pw_below_drewN | apply below_drew1 | refine below_set ?_ GE631.out) | exact HB.out)⟩
     ·replace c41 := Bool.eq_false_iff.mpr c41
      subst c41
      have H1 : (some false) = some r := by rw [if_neg (show ¬ (false = true) by decide)] at H; exact H
      clear H
      have H := H1
      clear H1
      obtain rfl := Option.some.inj H
      try go_wp2
      have n0_ := Aside0.mk (Kd.R_drew HO_4.out)
      have n1_ := Aside0.mk (Kd.R_drew HO_7.out)
      have n2_ := Aside0.mk (Kd.R_drew HO_662000.out)
      have n3_ := Aside0.mk (Kd.R_drew HO_662001.out)
      have n4_ := Aside0.mk (Kd.S_drew HO_662002.out)
      have n5_ := Aside0.mk (Kd.R_drew HO_662003.out)
      have n6_ := Aside0.mk (blk_drew BK631.out)
      have n7_ := Aside0.mk (blk_drew BK661.out)
      have n8_ := Aside0.mk (below_drew1 HB.out)
      clear HO_4
      clear HO_7
      clear HO_662000
      clear HO_662001
      clear HO_662002
      clear HO_662003
      clear BK631
      clear BK661
      clear HB
      have HO_4 := n0_
      have HO_7 := n1_
      have HO_662000 := n2_
      have HO_662001 := n3_
      have HO_662002 := n4_
      have HO_662003 := n5_
      have BK631 := n6_
      have BK661 := n7_
      have HB := n8_
      clear n0_ n1_ n2_ n3_ n4_ n5_ n6_ n7_ n8_
      refine start_ (n := 5) (S := fun w' => w'.cell? ⟨gb661, 0, none⟩ = some (.slice Ao25 t649.length co25) ∧ w'.cell? ⟨gb661, 1, none⟩ = some (.slice Ao28 t652.length co28) ∧ w'.cell? ⟨gb661, 2, none⟩ = some (.slice Ao29 t655.length co29) ∧ w'.cell? ⟨gb661, 3, none⟩ = some (.slice Ao30 t658.length co30) ∧ w'.cell? ⟨gb631, 0, none⟩ = some (.slice A0_0 l0_0.length c0_0) ∧ w'.cell? ⟨gb631, 1, none⟩ = some (.slice A0_1 l0_1.length c0_1) ∧ w'.cell? ⟨gb631, 2, none⟩ = some (.slice A0_2 l0_2.length c0_2) ∧ w'.cell? ⟨gb631, 3, none⟩ = some (.slice A0_3 l0_3.length c0_3)) (ds := []) #[false, false, false, false, false] (by kernel_rfl) rfl rfl ⟨(blk_cell BK661.out 0).trans rfl, (blk_cell BK661.out 1).trans rfl, (blk_cell BK661.out 2).trans rfl, (blk_cell BK661.out 3).trans rfl, (blk_cell BK631.out 0).trans rfl, (blk_cell BK631.out 1).trans rfl, (blk_cell BK631.out 2).trans rfl, (blk_cell BK631.out 3).trans rfl⟩ (fun hHeld => ?_)
      generalize wc.drew = w92 at HO_4 HO_7 HO_662000 HO_662001 HO_662002 HO_662003 BK631 BK661 HB hHeld ⊢
      refine take_ (i := 0) (N := some 41) (v := ?_) (a' := ?_) #[true, false, false, false, false] rfl rfl (by kernel_rfl) (fun _ _ _ h => h) (Or.inl ⟨by rfl, ?_⟩) hHeld ?_ ?_
      rotate_left
      ·rintro w' ⟨s0, s1, s2, s3, s4, s5, s6, s7⟩
       go_simp
       with_reducible rfl
      rotate_left
      ·simp only [Act.put, List.setIfInBounds_toArray, List.set_cons_zero, List.set_cons_succ, i64_w, i32_w]
       rfl
      refine take_ (i := 1) (N := some 42) (v := ?_) (a' := ?_) #[true, true, false, false, false] rfl rfl (by kernel_rfl) (fun _ _ _ h => h) (Or.inl ⟨by rfl, ?_⟩) hHeld ?_ ?_
      rotate_left
      ·rintro w' ⟨s0, s1, s2, s3, s4, s5, s6, s7⟩
       go_simp
       with_reducible rfl
      rotate_left
      ·simp only [Act.put, List.setIfInBounds_toArray, List.set_cons_zero, List.set_cons_succ, i64_w, i32_w]
       rfl
      refine one_ (i := 2) (N := some 43) #[true, true, true, false, false] rfl rfl (by kernel_rfl) (by decide) (fun K hK => ?_)
      refine goes_ Try.func10 (by kernel_rfl) rfl #[.agg #[.slice A0_0 l0_0.length c0_0, .slice A0_1 l0_1.length c0_1, .slice A0_2 l0_2.length c0_2, .slice A0_3 l0_3.length c0_3]] (by rfl) rfl rfl (by (try simp only [List.map_toArray, List.map_cons, List.map_nil]); first | done | rfl | (simp only [List.length_drop, List.length_take]; rfl)) ?_
      with_reducible refine (laws_toImage.calls kj10 _ _ l0_0 _ _ l0_1 _ _ l0_2 _ _ l0_3 t667 t670 t673 t676 _ ?side1 ?side2 ?side3 ?side4 ?side5 ?side6 ?side7 ?side8 A39.out).mono ?_
      (case side1 => repeat (first | exact (Kd.C_below HR0_0.out HB.out) | (with_reducible refine Kd.C_alloc ?_ _) | (with_reducible refine Kd.C_drewN ?_ _) | (with_reducible refine Kd.C_drew ?_)))
      (case side2 => exact HC0_0.out)
      (case side3 => repeat (first | exact (Kd.C_below HR0_1.out HB.out) | (with_reducible refine Kd.C_alloc ?_ _) | (with_reducible refine Kd.C_drewN ?_ _) | (with_reducible refine Kd.C_drew ?_)))
      (case side4 => exact HC0_1.out)
      (case side5 => repeat (first | exact (Kd.C_below HR0_2.out HB.out) | (with_reducible refine Kd.C_alloc ?_ _) | (with_reducible refine Kd.C_drewN ?_ _) | (with_reducible refine Kd.C_drew ?_)))
      (case side6 => exact HC0_2.out)
      (case side7 => repeat (first | exact (Kd.C_below HR0_3.out HB.out) | (with_reducible refine Kd.C_alloc ?_ _) | (with_reducible refine Kd.C_drewN ?_ _) | (with_reducible refine Kd.C_drew ?_)))
      (case side8 => exact HC0_3.out)
      rintro e w93 ⟨v668, v671, v674, v677, rfl, ho0, ho1, ho2, ho3, hb⟩
      refine ⟨_, rfl, ?_⟩
      have n0_ := Aside0.mk (Kd.R_mono (Kd.R_told (Kd.R_told (Kd.R_told (Kd.R_old (by (with_reducible repeat (first | apply Kd.R_alloc | apply Kd.R_drewN | apply Kd.R_drew)); exact HO_4.out) hb) (Kd.R_base ho0)) (Kd.R_base ho1)) (Kd.R_base ho3)) (fun _ h_ => h_.1))
      have n1_ := Aside0.mk (Kd.R_mono (Kd.R_told (Kd.R_told (Kd.R_told (Kd.R_old (by (with_reducible repeat (first | apply Kd.R_alloc | apply Kd.R_drewN | apply Kd.R_drew)); exact HO_7.out) hb) (Kd.R_base ho0)) (Kd.R_base ho1)) (Kd.R_base ho3)) (fun _ h_ => h_.1))
      have n2_ := Aside0.mk (Kd.R_mono (Kd.R_told (Kd.R_told (Kd.R_told (Kd.R_old (by (with_reducible repeat (first | apply Kd.R_alloc | apply Kd.R_drewN | apply Kd.R_drew)); exact HO_662000.out) hb) (Kd.R_base ho0)) (Kd.R_base ho1)) (Kd.R_base ho3)) (fun _ h_ => h_.1))
      have n3_ := Aside0.mk (Kd.R_mono (Kd.R_told (Kd.R_told (Kd.R_told (Kd.R_old (by (with_reducible repeat (first | apply Kd.R_alloc | apply Kd.R_drewN | apply Kd.R_drew)); exact HO_662001.out) hb) (Kd.R_base ho0)) (Kd.R_base ho1)) (Kd.R_base ho3)) (fun _ h_ => h_.1))
      have n4_ := Aside0.mk (Kd.S_mono (Kd.S_told (Kd.S_told (Kd.S_told (Kd.S_told (Kd.S_old (by (with_reducible repeat (first | apply Kd.S_alloc | apply Kd.S_drewN | apply Kd.S_drew)); exact HO_662002.out) hb) (Kd.R_base ho0)) (Kd.R_base ho1)) (Kd.S_base ho2)) (Kd.R_base ho3)) (fun _ h_ => h_.1))
      have n5_ := Aside0.mk (Kd.R_mono (Kd.R_told (Kd.R_told (Kd.R_told (Kd.R_old (by (with_reducible repeat (first | apply Kd.R_alloc | apply Kd.R_drewN | apply Kd.R_drew)); exact HO_662003.out) hb) (Kd.R_base ho0)) (Kd.R_base ho1)) (Kd.R_base ho3)) (fun _ h_ => h_.1))
      have n6_ := Aside0.mk (Kd.R_lower (Kd.R_new' (Kd.R_new' (Kd.R_new' (Kd.R_new' (Kd.R_new' ho0 (Kd.R_lt (by (with_reducible repeat (first | apply Kd.R_alloc | apply Kd.R_drewN | apply Kd.R_drew)); exact HO_4.out))) (Kd.R_lt (by (with_reducible repeat (first | apply Kd.R_alloc | apply Kd.R_drewN | apply Kd.R_drew)); exact HO_7.out))) (Kd.R_lt (by (with_reducible repeat (first | apply Kd.R_alloc | apply Kd.R_drewN | apply Kd.R_drew)); exact HO_662000.out))) (Kd.R_lt (by (with_reducible repeat (first | apply Kd.R_alloc | apply Kd.R_drewN | apply Kd.R_drew)); exact HO_662001.out))) (Kd.R_lt (by (with_reducible repeat (first | apply Kd.R_alloc | apply Kd.R_drewN | apply Kd.R_drew)); exact HO_662003.out))) (below_size (by repeat (first | (with_reducible first | exact HB.out | apply below_alloc | apply pw_below_drewN | apply below_drew1 | refine below_set ?_ GE631.out | refine below_set ?_ GE661.out) | exact HB.out))))
      have n7_ := Aside0.mk (Kd.R_lower (Kd.R_new' (Kd.R_new' (Kd.R_new' (Kd.R_new' (Kd.R_new' ho1 (Kd.R_lt (by (with_reducible repeat (first | apply Kd.R_alloc | apply Kd.R_drewN | apply Kd.R_drew)); exact HO_4.out))) (Kd.R_lt (by (with_reducible repeat (first | apply Kd.R_alloc | apply Kd.R_drewN | apply Kd.R_drew)); exact HO_7.out))) (Kd.R_lt (by (with_reducible repeat (first | apply Kd.R_alloc | apply Kd.R_drewN | apply Kd.R_drew)); exact HO_662000.out))) (Kd.R_lt (by (with_reducible repeat (first | apply Kd.R_alloc | apply Kd.R_drewN | apply Kd.R_drew)); exact HO_662001.out))) (Kd.R_lt (by (with_reducible repeat (first | apply Kd.R_alloc | apply Kd.R_drewN | apply Kd.R_drew)); exact HO_662003.out))) (below_size (by repeat (first | (with_reducible first | exact HB.out | apply below_alloc | apply pw_below_drewN | apply below_drew1 | refine below_set ?_ GE631.out | refine below_set ?_ GE661.out) | exact HB.out))))
      have n8_ := Aside0.mk (Kd.S_lower (Kd.S_new' (Kd.S_new' (Kd.S_new' (Kd.S_new' (Kd.S_new' (Kd.S_new' ho2 (Kd.R_lt (by (with_reducible repeat (first | apply Kd.R_alloc | apply Kd.R_drewN | apply Kd.R_drew)); exact HO_4.out))) (Kd.R_lt (by (with_reducible repeat (first | apply Kd.R_alloc | apply Kd.R_drewN | apply Kd.R_drew)); exact HO_7.out))) (Kd.R_lt (by (with_reducible repeat (first | apply Kd.R_alloc | apply Kd.R_drewN | apply Kd.R_drew)); exact HO_662000.out))) (Kd.R_lt (by (with_reducible repeat (first | apply Kd.R_alloc | apply Kd.R_drewN | apply Kd.R_drew)); exact HO_662001.out))) (Kd.S_lt (by (with_reducible repeat (first | apply Kd.S_alloc | apply Kd.S_drewN | apply Kd.S_drew)); exact HO_662002.out))) (Kd.R_lt (by (with_reducible repeat (first | apply Kd.R_alloc | apply Kd.R_drewN | apply Kd.R_drew)); exact HO_662003.out))) (below_size (by repeat (first | (with_reducible first | exact HB.out | apply below_alloc | apply pw_below_drewN | apply below_drew1 | refine below_set ?_ GE631.out | refine below_set ?_ GE661.out) | exact HB.out))))
      have n9_ := Aside0.mk (Kd.R_lower (Kd.R_new' (Kd.R_new' (Kd.R_new' (Kd.R_new' (Kd.R_new' ho3 (Kd.R_lt (by (with_reducible repeat (first | apply Kd.R_alloc | apply Kd.R_drewN | apply Kd.R_drew)); exact HO_4.out))) (Kd.R_lt (by (with_reducible repeat (first | apply Kd.R_alloc | apply Kd.R_drewN | apply Kd.R_drew)); exact HO_7.out))) (Kd.R_lt (by (with_reducible repeat (first | apply Kd.R_alloc | apply Kd.R_drewN | apply Kd.R_drew)); exact HO_662000.out))) (Kd.R_lt (by (with_reducible repeat (first | apply Kd.R_alloc | apply Kd.R_drewN | apply Kd.R_drew)); exact HO_662001.out))) (Kd.R_lt (by (with_reducible repeat (first | apply Kd.R_alloc | apply Kd.R_drewN | apply Kd.R_drew)); exact HO_662003.out))) (below_size (by repeat (first | (with_reducible first | exact HB.out | apply below_alloc | apply pw_below_drewN | apply below_drew1 | refine below_set ?_ GE631.out | refine below_set ?_ GE661.out) | exact HB.out))))
      have n10_ := Aside0.mk (blk_below (g := gb631) (o := .cells #[.slice A0_0 l0_0.length c0_0, .slice A0_1 l0_1.length c0_1, .slice A0_2 l0_2.length c0_2, .slice A0_3 l0_3.length c0_3] 25 (0, 0)) (by (with_reducible repeat (first | refine blk_drewN ?_ _ | refine blk_drew ?_ | refine blk_alloc ?_ _)); exact BK631.out) hb)
      have n11_ := Aside0.mk (blk_below (g := gb661) (o := .cells #[.slice Ao25 t649.length co25, .slice Ao28 t652.length co28, .slice Ao29 t655.length co29, .slice Ao30 t658.length co30] 30 (0, 0)) (by (with_reducible repeat (first | refine blk_drewN ?_ _ | refine blk_drew ?_ | refine blk_alloc ?_ _)); exact BK661.out) hb)
      have n12_ := Aside0.mk (below_step (by repeat (first | (with_reducible first | exact HB.out | apply below_alloc | apply pw_below_drewN | apply below_drew1 | refine below_set ?_ GE631.out | refine below_set ?_ GE661.out) | exact HB.out)) hb)
      clear HO_4
      clear HO_7
      clear HO_662000
      clear HO_662001
      clear HO_662002
      clear HO_662003
      clear BK631
      clear BK661
      clear HB
      have HO_4 := n0_
      have HO_7 := n1_
      have HO_662000 := n2_
      have HO_662001 := n3_
      have HO_662002 := n4_
      have HO_662003 := n5_
      have HO669 := n6_
      have HO672 := n7_
      have HO675 := n8_
      have HO678 := n9_
      have BK631 := n10_
      have BK661 := n11_
      have HB := n12_
      clear n0_ n1_ n2_ n3_ n4_ n5_ n6_ n7_ n8_ n9_ n10_ n11_ n12_
      (try clear hb)
      (try clear hb2)
      (try clear hk)
      (try clear hi)
      (try clear ho0)
      (try clear ho1)
      (try clear ho2)
      (try clear ho3)
      obtain ⟨Ao94, co94, eo94⟩ := Kd.R_slice HO669.out
      (first | subst eo94 | (injection eo94 with f1_ f2_ f3_; have f4_ := f1_.symm; have f5_ := f3_.symm; clear f1_ f2_ f3_; subst f4_; subst f5_))
      obtain ⟨Ao95, co95, eo95⟩ := Kd.R_slice HO672.out
      (first | subst eo95 | (injection eo95 with f1_ f2_ f3_; have f4_ := f1_.symm; have f5_ := f3_.symm; clear f1_ f2_ f3_; subst f4_; subst f5_))
      obtain ⟨Ao96, co96, eo96⟩ := Kd.S_slice HO675.out
      (first | subst eo96 | (injection eo96 with f1_ f2_ f3_; have f4_ := f1_.symm; have f5_ := f3_.symm; clear f1_ f2_ f3_; subst f4_; subst f5_))
      obtain ⟨Ao97, co97, eo97⟩ := Kd.R_slice HO678.out
      (first | subst eo97 | (injection eo97 with f1_ f2_ f3_; have f4_ := f1_.symm; have f5_ := f3_.symm; clear f1_ f2_ f3_; subst f4_; subst f5_))
      refine hK.out _ _ ⟨(blk_cell BK661.out 0).trans rfl, (blk_cell BK661.out 1).trans rfl, (blk_cell BK661.out 2).trans rfl, (blk_cell BK661.out 3).trans rfl, (blk_cell BK631.out 0).trans rfl, (blk_cell BK631.out 1).trans rfl, (blk_cell BK631.out 2).trans rfl, (blk_cell BK631.out 3).trans rfl⟩ (fun hHeld => ?_)
      clear hK K
      refine norm_ (a' := ?_) ?_ ?_
      rotate_left
      ·show Act.put _ (some 43) _ = _
       simp only [Act.put, List.setIfInBounds_toArray, List.set_cons_zero, List.set_cons_succ, i64_w, i32_w]
       rfl
      refine one_ (i := 3) (N := some 44) #[true, true, true, true, false] rfl rfl (by kernel_rfl) (by decide) (fun K hK => ?_)
      refine goes_ Try.func12 (by kernel_rfl) rfl #[.agg #[.slice Ao25 t649.length co25, .slice Ao28 t652.length co28, .slice Ao29 t655.length co29, .slice Ao30 t658.length co30], .agg #[.slice Ao94 t667.length co94, .slice Ao95 t670.length co95, .slice Ao96 t673.length co96, .slice Ao97 t676.length co97]] (by rfl) rfl rfl (by (try simp only [List.map_toArray, List.map_cons, List.map_nil]); first | done | rfl | (simp only [List.length_drop, List.length_take]; rfl)) ?_
      with_reducible refine (laws_eqImage.calls kj10 _ _ t649 _ _ t652 _ _ t655 _ _ t658 _ _ t667 _ _ t670 _ _ t673 _ _ t676 false _ ?side1 ?side2 ?side3 ?side4 ?side5 ?side6 ?side7 ?side8 ?side9 ?side10 ?side11 ?side12 ?side13 ?side14 ?side15 ?side16 A40.out).mono ?_
      (case side1 => repeat (first | exact (Kd.R_reads' HO_662000.out).2.2 | (with_reducible refine Kd.C_alloc ?_ _) | (with_reducible refine Kd.C_drewN ?_ _) | (with_reducible refine Kd.C_drew ?_)))
      (case side2 => exact (Kd.R_reads' HO_662000.out).2.1)
      (case side3 => repeat (first | exact (Kd.R_reads' HO_662001.out).2.2 | (with_reducible refine Kd.C_alloc ?_ _) | (with_reducible refine Kd.C_drewN ?_ _) | (with_reducible refine Kd.C_drew ?_)))
      (case side4 => exact (Kd.R_reads' HO_662001.out).2.1)
      (case side5 => repeat (first | exact (Kd.S_reads' HO_662002.out).2.2 | (with_reducible refine Kd.C_alloc ?_ _) | (with_reducible refine Kd.C_drewN ?_ _) | (with_reducible refine Kd.C_drew ?_)))
      (case side6 => exact (Kd.S_reads' HO_662002.out).2.1)
      (case side7 => repeat (first | exact (Kd.R_reads' HO_662003.out).2.2 | (with_reducible refine Kd.C_alloc ?_ _) | (with_reducible refine Kd.C_drewN ?_ _) | (with_reducible refine Kd.C_drew ?_)))
      (case side8 => exact (Kd.R_reads' HO_662003.out).2.1)
      (case side9 => repeat (first | exact (Kd.R_reads' HO669.out).2.2 | (with_reducible refine Kd.C_alloc ?_ _) | (with_reducible refine Kd.C_drewN ?_ _) | (with_reducible refine Kd.C_drew ?_)))
      (case side10 => exact (Kd.R_reads' HO669.out).2.1)
      (case side11 => repeat (first | exact (Kd.R_reads' HO672.out).2.2 | (with_reducible refine Kd.C_alloc ?_ _) | (with_reducible refine Kd.C_drewN ?_ _) | (with_reducible refine Kd.C_drew ?_)))
      (case side12 => exact (Kd.R_reads' HO672.out).2.1)
      (case side13 => repeat (first | exact (Kd.S_reads' HO675.out).2.2 | (with_reducible refine Kd.C_alloc ?_ _) | (with_reducible refine Kd.C_drewN ?_ _) | (with_reducible refine Kd.C_drew ?_)))
      (case side14 => exact (Kd.S_reads' HO675.out).2.1)
      (case side15 => repeat (first | exact (Kd.R_reads' HO678.out).2.2 | (with_reducible refine Kd.C_alloc ?_ _) | (with_reducible refine Kd.C_drewN ?_ _) | (with_reducible refine Kd.C_drew ?_)))
      (case side16 => exact (Kd.R_reads' HO678.out).2.1)
      rintro e w98 ⟨rfl, hb⟩
      refine ⟨_, rfl, ?_⟩
      have n0_ := Aside0.mk (Kd.R_below (by (with_reducible repeat (first | apply Kd.R_alloc | apply Kd.R_drewN | apply Kd.R_drew)); exact HO_4.out) hb)
      have n1_ := Aside0.mk (Kd.R_below (by (with_reducible repeat (first | apply Kd.R_alloc | apply Kd.R_drewN | apply Kd.R_drew)); exact HO_7.out) hb)
      have n2_ := Aside0.mk (Kd.R_below (by (with_reducible repeat (first | apply Kd.R_alloc | apply Kd.R_drewN | apply Kd.R_drew)); exact HO_662000.out) hb)
      have n3_ := Aside0.mk (Kd.R_below (by (with_reducible repeat (first | apply Kd.R_alloc | apply Kd.R_drewN | apply Kd.R_drew)); exact HO_662001.out) hb)
      have n4_ := Aside0.mk (Kd.S_below (by (with_reducible repeat (first | apply Kd.S_alloc | apply Kd.S_drewN | apply Kd.S_drew)); exact HO_662002.out) hb)
      have n5_ := Aside0.mk (Kd.R_below (by (with_reducible repeat (first | apply Kd.R_alloc | apply Kd.R_drewN | apply Kd.R_drew)); exact HO_662003.out) hb)
      have n6_ := Aside0.mk (Kd.R_below (by (with_reducible repeat (first | apply Kd.R_alloc | apply Kd.R_drewN | apply Kd.R_drew)); exact HO669.out) hb)
      have n7_ := Aside0.mk (Kd.R_below (by (with_reducible repeat (first | apply Kd.R_alloc | apply Kd.R_drewN | apply Kd.R_drew)); exact HO672.out) hb)
      have n8_ := Aside0.mk (Kd.S_below (by (with_reducible repeat (first | apply Kd.S_alloc | apply Kd.S_drewN | apply Kd.S_drew)); exact HO675.out) hb)
      have n9_ := Aside0.mk (Kd.R_below (by (with_reducible repeat (first | apply Kd.R_alloc | apply Kd.R_drewN | apply Kd.R_drew)); exact HO678.out) hb)
      have n10_ := Aside0.mk (blk_below (g := gb631) (o := .cells #[.slice A0_0 l0_0.length c0_0, .slice A0_1 l0_1.length c0_1, .slice A0_2 l0_2.length c0_2, .slice A0_3 l0_3.length c0_3] 25 (0, 0)) (by (with_reducible repeat (first | refine blk_drewN ?_ _ | refine blk_drew ?_ | refine blk_alloc ?_ _)); exact BK631.out) hb)
      have n11_ := Aside0.mk (blk_below (g := gb661) (o := .cells #[.slice Ao25 t649.length co25, .slice Ao28 t652.length co28, .slice Ao29 t655.length co29, .slice Ao30 t658.length co30] 30 (0, 0)) (by (with_reducible repeat (first | refine blk_drewN ?_ _ | refine blk_drew ?_ | refine blk_alloc ?_ _)); exact BK661.out) hb)
      have n12_ := Aside0.mk (below_step (by repeat (first | (with_reducible first | exact HB.out | apply below_alloc | apply pw_below_drewN | apply below_drew1 | refine below_set ?_ GE631.out | refine below_set ?_ GE661.out) | exact HB.out)) hb)
      clear HO_4
      clear HO_7
      clear HO_662000
      clear HO_662001
      clear HO_662002
      clear HO_662003
      clear HO669
      clear HO672
      clear HO675
      clear HO678
      clear BK631
      clear BK661
      clear HB
      have HO_4 := n0_
      have HO_7 := n1_
      have HO_662000 := n2_
      have HO_662001 := n3_
      have HO_662002 := n4_
      have HO_662003 := n5_
      have HO669 := n6_
      have HO672 := n7_
      have HO675 := n8_
      have HO678 := n9_
      have BK631 := n10_
      have BK661 := n11_
      have HB := n12_
      clear n0_ n1_ n2_ n3_ n4_ n5_ n6_ n7_ n8_ n9_ n10_ n11_ n12_
      (try clear hb)
      (try clear hb2)
      (try clear hk)
      (try clear hi)
      refine hK.out _ _ ⟨(blk_cell BK661.out 0).trans rfl, (blk_cell BK661.out 1).trans rfl, (blk_cell BK661.out 2).trans rfl, (blk_cell BK661.out 3).trans rfl, (blk_cell BK631.out 0).trans rfl, (blk_cell BK631.out 1).trans rfl, (blk_cell BK631.out 2).trans rfl, (blk_cell BK631.out 3).trans rfl⟩ (fun hHeld => ?_)
      clear hK K
      refine norm_ (a' := ?_) ?_ ?_
      rotate_left
      ·show Act.put _ (some 44) _ = _
       simp only [Act.put, List.setIfInBounds_toArray, List.set_cons_zero, List.set_cons_succ, i64_w, i32_w]
       rfl
      refine pure_ (i := 4) (N := some 45) (v := ?_) (a' := ?_) #[true, true, true, true, true] rfl rfl (by kernel_rfl) (fun _ _ _ h => h) (Or.inl ⟨by rfl, ?_⟩) ?_ ?_
      rotate_left
      ·intro w'
       go_simp
       with_reducible rfl
      rotate_left
      ·simp only [Act.put, List.setIfInBounds_toArray, List.set_cons_zero, List.set_cons_succ, i64_w, i32_w]
       rfl
      refine done_ (by kernel_rfl) ?_
      try go_wp2
      go_ret
      exact ⟨by first | rfl | (simp [errW_none, errW_some] <;> rfl) | (simp [*, errW_none, errW_some] <;> rfl), by repeat (first | (with_reducible first | exact HB.out | apply below_alloc | apply pw_below_drewN | apply below_drew1 | refine below_set ?_ GE631.out | refine below_set ?_ GE661.out) | exact HB.out)⟩
end Go.Proofs.Ytdbcojeblkiidaa.Q
