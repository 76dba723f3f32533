/- What laws.FnExactWriteSector reaches, part 7: the functions as Lean functions, the proofs that the program's functions answer so, and plain laws about them. -/
import Derived.Test.YthlbjmgoibnopaaKFnExactWriteSector1
import Derived.Test.YthlbjmgoibnopaaKFnExactWriteSector2
import Derived.Test.YthlbjmgoibnopaaKFnExactWriteSector3
import Derived.Test.YthlbjmgoibnopaaKFnExactWriteSector4
import Derived.Test.YthlbjmgoibnopaaKFnExactWriteSector6
namespace Go.Proofs.Ythlbjmgoibnopaa.Q
open Go.RowKit Go.Proofs.Ythlbjmgoibnopaa.Ext Go.Proofs.YthlbjmgoibnopaaW.PrintWords Go.Proofs.YthlbjmgoibnopaaW.PrintLast Go.Proofs.YthlbjmgoibnopaaW.PrintMore
attribute [local go_sem] max2_int min2_int max_two min_two max_three min_three max_four min_four   -- for this text's walks alone
set_option linter.unusedVariables false
set_option linter.unusedSimpArgs false

set_option linter.unusedVariables false
set_option linter.unusedSimpArgs false
/-! ### laws_FnExactWriteSector: function 14 -/
mutual
def laws_FnExactWriteSector.j0 : Nat → Int → Int → ByteArray → Int → Int → Bool → List ByteArray → List (S166) → List ByteArray → List (S122) → List ByteArray → List (S122) → List ByteArray → List (S122) → Option (Bool)
  | 0, _, _, _, _, _, _, _, _, _, _, _, _, _, _ => none
  | k + 1, x1, x2, x3, x11, x14, x55, x1389000, x1389001, x1404000, x1404001, x1411000, x1411001, x1419000, x1419001 => if x55 = true then (some false) else ((laws_toDisk.f k x1389000 x1389001).bind fun bt1420 => ((laws_eqDisk.f k x1411000 x1411001 bt1420.1 bt1420.2).bind fun t1426 => (if t1426 = true then ((laws_markDisk.f k x1411000 x1411001 1).bind fun bt1427 => (if bt1427.1 < 0 then (laws_FnExactWriteSector.j1 k x1 x2 x3 x11 true x1389000 x1389001 x1404000 x1404001 x1419000 x1419001) else ((laws_eqDisk.f k x1419000 x1419001 x1404000 x1404001).bind fun t1430 => (if t1430 = true then (laws_FnExactWriteSector.j1 k x1 x2 x3 x11 (x14 != x11) x1389000 x1389001 x1404000 x1404001 x1419000 x1419001) else (laws_FnExactWriteSector.j1 k x1 x2 x3 x11 true x1389000 x1389001 x1404000 x1404001 x1419000 x1419001))))) else (some false))))
def laws_FnExactWriteSector.j1 : Nat → Int → Int → ByteArray → Int → Bool → List ByteArray → List (S166) → List ByteArray → List (S122) → List ByteArray → List (S122) → Option (Bool)
  | 0, _, _, _, _, _, _, _, _, _, _, _ => none
  | k + 1, x1, x2, x3, x11, x76, x1389000, x1389001, x1404000, x1404001, x1419000, x1419001 => if x76 = true then (some false) else ((laws_markDisk.f k x1419000 x1419001 1).bind fun bt1431 => ((laws_heldDisk.f k bt1431.2.1 bt1431.2.2 1).bind fun t1434 => (if t1434 < 0 then (some false) else (if t1434 = bt1431.1 then ((laws_toDisk.f k x1389000 x1389001).bind fun bt1435 => ((impl_WriteSector.f bt1435.1 bt1435.2 x1 x2 x3).bind fun bt1441 => ((laws_eqDisk.f k bt1441.1 bt1441.2.1 x1404000 x1404001).bind fun t1449 => (if t1449 = true then (laws_FnExactWriteSector.j2 k bt1431.1 (bt1441.2.2 != x11) bt1431.2.1 bt1431.2.2) else (laws_FnExactWriteSector.j2 k bt1431.1 true bt1431.2.1 bt1431.2.2))))) else (some false)))))
def laws_FnExactWriteSector.j2 : Nat → Int → Bool → List ByteArray → List (S122) → Option (Bool)
  | 0, _, _, _, _ => none
  | k + 1, x16, x105, x1419000, x1419001 => if x105 = true then (some false) else ((laws_heldDisk.f k x1419000 x1419001 1).bind fun t1450 => (if t1450 < 0 then (some false) else (if t1450 = x16 then (some true) else (some false))))
end
def laws_FnExactWriteSector.f (k : Nat) (l0_0 : List ByteArray) (l0_1 : List (S166)) (a1 : Int) (a2 : Int) (a3 : ByteArray) : Option (Bool) := if (a3.size : Int) > 1048576 then (some true) else ((laws_szDisk.f k l0_0 l0_1 1048576).bind fun t1389 => (if t1389 < 0 then (some true) else ((laws_toDisk.f k l0_0 l0_1).bind fun bt1390 => ((spec_WriteSector.f k bt1390.1 bt1390.2 a1 a2 a3).bind fun bt1396 => ((laws_toDisk.f k l0_0 l0_1).bind fun bt1404 => ((impl_WriteSector.f bt1404.1 bt1404.2 a1 a2 a3).bind fun bt1411 => ((laws_eqDisk.f k bt1411.1 bt1411.2.1 bt1396.1 bt1396.2.1).bind fun t1419 => (if t1419 = true then (laws_FnExactWriteSector.j0 k a1 a2 a3 bt1396.2.2 bt1411.2.2 (bt1411.2.2 != bt1396.2.2) l0_0 l0_1 bt1396.1 bt1396.2.1 bt1404.1 bt1404.2 bt1411.1 bt1411.2.1) else (laws_FnExactWriteSector.j0 k a1 a2 a3 bt1396.2.2 bt1411.2.2 true l0_0 l0_1 bt1396.1 bt1396.2.1 bt1404.1 bt1404.2 bt1411.1 bt1411.2.1)))))))))
theorem laws_FnExactWriteSector.mono_l : ∀ k, (∀ y0 y1 y2 y3 y4 y5 y6 y7 y8 y9 y10 y11 y12 y13, LeO (laws_FnExactWriteSector.j0 k y0 y1 y2 y3 y4 y5 y6 y7 y8 y9 y10 y11 y12 y13) (laws_FnExactWriteSector.j0 (k + 1) y0 y1 y2 y3 y4 y5 y6 y7 y8 y9 y10 y11 y12 y13)) ∧ (∀ y0 y1 y2 y3 y4 y5 y6 y7 y8 y9 y10, LeO (laws_FnExactWriteSector.j1 k y0 y1 y2 y3 y4 y5 y6 y7 y8 y9 y10) (laws_FnExactWriteSector.j1 (k + 1) y0 y1 y2 y3 y4 y5 y6 y7 y8 y9 y10)) ∧ (∀ y0 y1 y2 y3, LeO (laws_FnExactWriteSector.j2 k y0 y1 y2 y3) (laws_FnExactWriteSector.j2 (k + 1) y0 y1 y2 y3))
  | 0 => ⟨fun _ _ _ _ _ _ _ _ _ _ _ _ _ _ r h => by simp [laws_FnExactWriteSector.j0] at h, fun _ _ _ _ _ _ _ _ _ _ _ r h => by simp [laws_FnExactWriteSector.j1] at h, fun _ _ _ _ r h => by simp [laws_FnExactWriteSector.j2] at h⟩
  | k + 1 => by
    obtain ⟨ih0, ih1, ih2⟩ := laws_FnExactWriteSector.mono_l k
    refine ⟨?_, ?_, ?_⟩
    · intro y0 y1 y2 y3 y4 y5 y6 y7 y8 y9 y10 y11 y12 y13
      unfold laws_FnExactWriteSector.j0
      repeat' first
      | (with_reducible exact ih0 _ _ _ _ _ _ _ _ _ _ _ _ _ _)
      | (with_reducible exact ih1 _ _ _ _ _ _ _ _ _ _ _)
      | (with_reducible exact ih2 _ _ _ _)
      | (with_reducible exact laws_eqDisk.mono _ _ _ _ _)
      | (with_reducible exact laws_heldDisk.mono _ _ _ _)
      | (with_reducible exact laws_markDisk.mono _ _ _ _)
      | (with_reducible exact laws_szDisk.mono _ _ _ _)
      | (with_reducible exact laws_toDisk.mono _ _ _)
      | (with_reducible exact spec_WriteSector.mono _ _ _ _ _ _)
      | (with_reducible exact LeO.refl _)
      | (with_reducible exact LeO.none _)
      | (with_reducible refine LeO.ite ?_ ?_)
      | (with_reducible refine LeO.bind ?_ (fun _ => ?_))
      | exact ih0 _ _ _ _ _ _ _ _ _ _ _ _ _ _
      | exact ih1 _ _ _ _ _ _ _ _ _ _ _
      | exact ih2 _ _ _ _
      | exact laws_eqDisk.mono _ _ _ _ _
      | exact laws_heldDisk.mono _ _ _ _
      | exact laws_markDisk.mono _ _ _ _
      | exact laws_szDisk.mono _ _ _ _
      | exact laws_toDisk.mono _ _ _
      | exact spec_WriteSector.mono _ _ _ _ _ _
      | exact LeO.none _
      | refine LeO.ite ?_ ?_
      | refine LeO.bind ?_ (fun _ => ?_)
    · intro y0 y1 y2 y3 y4 y5 y6 y7 y8 y9 y10
      unfold laws_FnExactWriteSector.j1
      repeat' first
      | (with_reducible exact ih0 _ _ _ _ _ _ _ _ _ _ _ _ _ _)
      | (with_reducible exact ih1 _ _ _ _ _ _ _ _ _ _ _)
      | (with_reducible exact ih2 _ _ _ _)
      | (with_reducible exact laws_eqDisk.mono _ _ _ _ _)
      | (with_reducible exact laws_heldDisk.mono _ _ _ _)
      | (with_reducible exact laws_markDisk.mono _ _ _ _)
      | (with_reducible exact laws_szDisk.mono _ _ _ _)
      | (with_reducible exact laws_toDisk.mono _ _ _)
      | (with_reducible exact spec_WriteSector.mono _ _ _ _ _ _)
      | (with_reducible exact LeO.refl _)
      | (with_reducible exact LeO.none _)
      | (with_reducible refine LeO.ite ?_ ?_)
      | (with_reducible refine LeO.bind ?_ (fun _ => ?_))
      | exact ih0 _ _ _ _ _ _ _ _ _ _ _ _ _ _
      | exact ih1 _ _ _ _ _ _ _ _ _ _ _
      | exact ih2 _ _ _ _
      | exact laws_eqDisk.mono _ _ _ _ _
      | exact laws_heldDisk.mono _ _ _ _
      | exact laws_markDisk.mono _ _ _ _
      | exact laws_szDisk.mono _ _ _ _
      | exact laws_toDisk.mono _ _ _
      | exact spec_WriteSector.mono _ _ _ _ _ _
      | exact LeO.none _
      | refine LeO.ite ?_ ?_
      | refine LeO.bind ?_ (fun _ => ?_)
    · intro y0 y1 y2 y3
      unfold laws_FnExactWriteSector.j2
      repeat' first
      | (with_reducible exact ih0 _ _ _ _ _ _ _ _ _ _ _ _ _ _)
      | (with_reducible exact ih1 _ _ _ _ _ _ _ _ _ _ _)
      | (with_reducible exact ih2 _ _ _ _)
      | (with_reducible exact laws_eqDisk.mono _ _ _ _ _)
      | (with_reducible exact laws_heldDisk.mono _ _ _ _)
      | (with_reducible exact laws_markDisk.mono _ _ _ _)
      | (with_reducible exact laws_szDisk.mono _ _ _ _)
      | (with_reducible exact laws_toDisk.mono _ _ _)
      | (with_reducible exact spec_WriteSector.mono _ _ _ _ _ _)
      | (with_reducible exact LeO.refl _)
      | (with_reducible exact LeO.none _)
      | (with_reducible refine LeO.ite ?_ ?_)
      | (with_reducible refine LeO.bind ?_ (fun _ => ?_))
      | exact ih0 _ _ _ _ _ _ _ _ _ _ _ _ _ _
      | exact ih1 _ _ _ _ _ _ _ _ _ _ _
      | exact ih2 _ _ _ _
      | exact laws_eqDisk.mono _ _ _ _ _
      | exact laws_heldDisk.mono _ _ _ _
      | exact laws_markDisk.mono _ _ _ _
      | exact laws_szDisk.mono _ _ _ _
      | exact laws_toDisk.mono _ _ _
      | exact spec_WriteSector.mono _ _ _ _ _ _
      | exact LeO.none _
      | refine LeO.ite ?_ ?_
      | refine LeO.bind ?_ (fun _ => ?_)
theorem laws_FnExactWriteSector.mono : ∀ a0 a1 a2 a3 a4 k, LeO (laws_FnExactWriteSector.f k a0 a1 a2 a3 a4) (laws_FnExactWriteSector.f (k + 1) a0 a1 a2 a3 a4) := by
  intro a0 a1 a2 a3 a4 k
  obtain ⟨ih0, ih1, ih2⟩ := laws_FnExactWriteSector.mono_l k
  unfold laws_FnExactWriteSector.f
  repeat' first
      | (with_reducible exact ih0 _ _ _ _ _ _ _ _ _ _ _ _ _ _)
      | (with_reducible exact ih1 _ _ _ _ _ _ _ _ _ _ _)
      | (with_reducible exact ih2 _ _ _ _)
      | (with_reducible exact laws_eqDisk.mono _ _ _ _ _)
      | (with_reducible exact laws_heldDisk.mono _ _ _ _)
      | (with_reducible exact laws_markDisk.mono _ _ _ _)
      | (with_reducible exact laws_szDisk.mono _ _ _ _)
      | (with_reducible exact laws_toDisk.mono _ _ _)
      | (with_reducible exact spec_WriteSector.mono _ _ _ _ _ _)
      | (with_reducible exact LeO.refl _)
      | (with_reducible exact LeO.none _)
      | (with_reducible refine LeO.ite ?_ ?_)
      | (with_reducible refine LeO.bind ?_ (fun _ => ?_))
      | exact ih0 _ _ _ _ _ _ _ _ _ _ _ _ _ _
      | exact ih1 _ _ _ _ _ _ _ _ _ _ _
      | exact ih2 _ _ _ _
      | exact laws_eqDisk.mono _ _ _ _ _
      | exact laws_heldDisk.mono _ _ _ _
      | exact laws_markDisk.mono _ _ _ _
      | exact laws_szDisk.mono _ _ _ _
      | exact laws_toDisk.mono _ _ _
      | exact spec_WriteSector.mono _ _ _ _ _ _
      | exact LeO.none _
      | refine LeO.ite ?_ ?_
      | refine LeO.bind ?_ (fun _ => ?_)
set_option maxHeartbeats 8000000 in
set_option maxRecDepth 100000 in
theorem laws_FnExactWriteSector.calls (k : Nat) (A0_0 : Option Addr) (c0_0 : Nat) (l0_0 : List ByteArray) (A0_1 : Option Addr) (c0_1 : Nat) (l0_1 : List (S166)) (a1 : Int) (a2 : Int) (a3 : ByteArray) (r : Bool) (w : World) (hr0_0 : Kd.C Kd.string w A0_0 l0_0.length l0_0) (hc0_0 : l0_0.length ≤ c0_0) (hr0_1 : Kd.C k166 w A0_1 l0_1.length l0_1) (hc0_1 : l0_1.length ≤ c0_1) (h : laws_FnExactWriteSector.f k l0_0 l0_1 a1 a2 a3 = some r) :
    Calls Try.prog 14 #[.agg #[.slice A0_0 l0_0.length c0_0, .slice A0_1 l0_1.length c0_1], .int .i64 a1, .int .i64 a2, .string a3] w fun e w' => e = .returned (.bool r) ∧ Below w.heap.size w w' := by
 have hu85 := Try.underlying85
 have hu60 := Try.underlying60
 have HR0_0 := Aside0.mk hr0_0
 have HC0_0 := Aside0.mk hc0_0
 clear hr0_0 hc0_0
 have HR0_1 := Aside0.mk hr0_1
 have HC0_1 := Aside0.mk hc0_1
 clear hr0_1 hc0_1
 have HB := Aside0.mk (Below.refl w.heap.size w)
 have H : (if (a3.size : Int) > 1048576 then (some true) else ((laws_szDisk.f k l0_0 l0_1 1048576).bind fun t1389 => (if t1389 < 0 then (some true) else ((laws_toDisk.f k l0_0 l0_1).bind fun bt1390 => ((spec_WriteSector.f k bt1390.1 bt1390.2 a1 a2 a3).bind fun bt1396 => ((laws_toDisk.f k l0_0 l0_1).bind fun bt1404 => ((impl_WriteSector.f bt1404.1 bt1404.2 a1 a2 a3).bind fun bt1411 => ((laws_eqDisk.f k bt1411.1 bt1411.2.1 bt1396.1 bt1396.2.1).bind fun t1419 => (if t1419 = true then (laws_FnExactWriteSector.j0 k a1 a2 a3 bt1396.2.2 bt1411.2.2 (bt1411.2.2 != bt1396.2.2) l0_0 l0_1 bt1396.1 bt1396.2.1 bt1404.1 bt1404.2 bt1411.1 bt1411.2.1) else (laws_FnExactWriteSector.j0 k a1 a2 a3 bt1396.2.2 bt1411.2.2 true l0_0 l0_1 bt1396.1 bt1396.2.1 bt1404.1 bt1404.2 bt1411.1 bt1411.2.1)))))))))) = some r := h
 clear h
 by_cases c5 : (a3.size : Int) > 1048576
 ·rw [if_pos c5] at H
  have c5b0 : decide (1048576 < (a3.size : Int)) = true := decide_eq_true c5
  have c5b1 : decide (1048576 < a3.size) = true := decide_eq_true (by omega)
  clear c5
  obtain rfl := Option.some.inj H
  go_enter Try.func14, Try.ntmps14
  go_wp2_with (first | ((with_reducible refine gate_dst (N := 4) rfl ?_); refine box_event ?hg (N := 4) ?hd (cs := #[.slice A0_0 l0_0.length c0_0, .slice A0_1 l0_1.length c0_1]) (t := 85) ?hr ?_; (case hd => rfl); (case hg => rfl); (case hr => first | (go_simp; done) | (go_simp; rfl)); intro gb1388 hg w6 hbox hb; have n0_ := Aside0.mk (below_step (by repeat (first | (with_reducible first | exact HB.out | apply below_alloc | apply pw_below_drewN | apply below_drew1) | exact HB.out)) hb); have n1_ := Aside0.mk (hbox); have n2_ := Aside0.mk ((by rw [hg]; exact (below_size (by repeat (first | (with_reducible first | exact HB.out | apply below_alloc | apply pw_below_drewN | apply below_drew1) | exact HB.out))) : w.heap.size ≤ gb1388)); have n3_ := Aside0.mk ((by rw [hg]; exact (below_size (by repeat (first | (with_reducible first | exact HB.out | apply below_alloc | apply pw_below_drewN | apply below_drew1) | exact HB.out))) : w.heap.size ≤ gb1388)); clear HB; have HB := n0_; have BK1388 := n1_; have GW1388 := n2_; have GE1388 := n3_; clear n0_ n1_ n2_ n3_; clear hb hbox hg))
  go_ret
  exact ⟨by first | rfl | (simp [errW_none, errW_some] <;> rfl) | (simp [*, errW_none, errW_some] <;> rfl), by repeat (first | (with_reducible first | exact HB.out | apply below_alloc | apply pw_below_drewN | apply below_drew1 | refine below_set ?_ GE1388.out) | exact HB.out)⟩
 ·rw [if_neg c5] at H
  have c5b0 : decide (1048576 < (a3.size : Int)) = false := decide_eq_false c5
  have c5b1 : decide (1048576 < a3.size) = false := decide_eq_false (by omega)
  clear c5
  replace H := Option.bind_eq_some_iff.mp H
  obtain ⟨t1389, A70, H⟩ := H
  replace H : (if t1389 < 0 then (some true) else ((laws_toDisk.f k l0_0 l0_1).bind fun bt1390 => ((spec_WriteSector.f k bt1390.1 bt1390.2 a1 a2 a3).bind fun bt1396 => ((laws_toDisk.f k l0_0 l0_1).bind fun bt1404 => ((impl_WriteSector.f bt1404.1 bt1404.2 a1 a2 a3).bind fun bt1411 => ((laws_eqDisk.f k bt1411.1 bt1411.2.1 bt1396.1 bt1396.2.1).bind fun t1419 => (if t1419 = true then (laws_FnExactWriteSector.j0 k a1 a2 a3 bt1396.2.2 bt1411.2.2 (bt1411.2.2 != bt1396.2.2) l0_0 l0_1 bt1396.1 bt1396.2.1 bt1404.1 bt1404.2 bt1411.1 bt1411.2.1) else (laws_FnExactWriteSector.j0 k a1 a2 a3 bt1396.2.2 bt1411.2.2 true l0_0 l0_1 bt1396.1 bt1396.2.1 bt1404.1 bt1404.2 bt1411.1 bt1411.2.1)))))))) = some r := H
  have A7 := Aside0.mk A70
  clear A70
  by_cases c8 : t1389 < 0
  ·rw [if_pos c8] at H
   have c8b0 : decide (t1389 < 0) = true := decide_eq_true c8
   clear c8
   obtain rfl := Option.some.inj H
   go_enter Try.func14, Try.ntmps14
   go_wp2_with (first | ((with_reducible refine gate_dst (N := 4) rfl ?_); refine box_event ?hg (N := 4) ?hd (cs := #[.slice A0_0 l0_0.length c0_0, .slice A0_1 l0_1.length c0_1]) (t := 85) ?hr ?_; (case hd => rfl); (case hg => rfl); (case hr => first | (go_simp; done) | (go_simp; rfl)); intro gb1388 hg w9 hbox hb; have n0_ := Aside0.mk (below_step (by repeat (first | (with_reducible first | exact HB.out | apply below_alloc | apply pw_below_drewN | apply below_drew1) | exact HB.out)) hb); have n1_ := Aside0.mk (hbox); have n2_ := Aside0.mk ((by rw [hg]; exact (below_size (by repeat (first | (with_reducible first | exact HB.out | apply below_alloc | apply pw_below_drewN | apply below_drew1) | exact HB.out))) : w.heap.size ≤ gb1388)); have n3_ := Aside0.mk ((by rw [hg]; exact (below_size (by repeat (first | (with_reducible first | exact HB.out | apply below_alloc | apply pw_below_drewN | apply below_drew1) | exact HB.out))) : w.heap.size ≤ gb1388)); clear HB; have HB := n0_; have BK1388 := n1_; have GW1388 := n2_; have GE1388 := n3_; clear n0_ n1_ n2_ n3_; clear hb hbox hg; have hcz10_0 : w9.cell? ⟨gb1388, 0, none⟩ = some (.slice A0_0 l0_0.length c0_0) := (blk_cell BK1388.out 0).trans rfl; have hcz10_1 : w9.cell? ⟨gb1388, 1, none⟩ = some (.slice A0_1 l0_1.length c0_1) := (blk_cell BK1388.out 1).trans rfl; have hfz10_0 := blk_frozen BK1388.out 0; have hfz10_1 := blk_frozen BK1388.out 1) | ((with_reducible refine gate_callee (f := 75) rfl ?_); refine goesL_ (some 25) rfl rfl Try.func75 (by kernel_rfl) rfl #[.agg #[.slice A0_0 l0_0.length c0_0, .slice A0_1 l0_1.length c0_1], .int .i64 1048576] rfl (by (try simp only [List.map_toArray, List.map_cons, List.map_nil]); first | done | rfl | (simp only [List.length_drop, List.length_take]; rfl)) ?_; (with_reducible refine (laws_szDisk.calls k _ _ l0_0 _ _ l0_1 1048576 t1389 _ ?side1 ?side2 ?side3 ?side4 A7.out).mono ?_); (case side1 => repeat (first | exact (Kd.C_below HR0_0.out HB.out) | (with_reducible refine Kd.C_alloc ?_ _) | (with_reducible refine Kd.C_drewN ?_ _) | (with_reducible refine Kd.C_drew ?_))); (case side2 => exact HC0_0.out); (case side3 => repeat (first | exact (Kd.C_below HR0_1.out HB.out) | (with_reducible refine Kd.C_alloc ?_ _) | (with_reducible refine Kd.C_drewN ?_ _) | (with_reducible refine Kd.C_drew ?_))); (case side4 => exact HC0_1.out); rintro e w11 ⟨rfl, hb⟩; refine ⟨_, rfl, ?_⟩; have n0_ := Aside0.mk (blk_below (g := gb1388) (o := .cells #[.slice A0_0 l0_0.length c0_0, .slice A0_1 l0_1.length c0_1] 85 (0, 0)) (by (with_reducible repeat (first | refine blk_drewN ?_ _ | refine blk_drew ?_ | refine blk_alloc ?_ _)); exact BK1388.out) hb); have n1_ := Aside0.mk (below_step (by repeat (first | (with_reducible first | exact HB.out | apply below_alloc | apply pw_below_drewN | apply below_drew1 | refine below_set ?_ GE1388.out) | exact HB.out)) hb); clear BK1388; clear HB; have BK1388 := n0_; have HB := n1_; clear n0_ n1_; (try clear hb); (try clear hb2); (try clear hk); (try clear hi)))
   go_ret
   exact ⟨by first | rfl | (simp [errW_none, errW_some] <;> rfl) | (simp [*, errW_none, errW_some] <;> rfl), by repeat (first | (with_reducible first | exact HB.out | apply below_alloc | apply pw_below_drewN | apply below_drew1 | refine below_set ?_ GE1388.out) | exact HB.out)⟩
  ·rw [if_neg c8] at H
   have c8b0 : decide (t1389 < 0) = false := decide_eq_false c8
   clear c8
   replace H := Option.bind_eq_some_iff.mp H
   obtain ⟨⟨t1390, t1393⟩, A120, H⟩ := H
   replace H : ((spec_WriteSector.f k t1390 t1393 a1 a2 a3).bind fun bt1396 => ((laws_toDisk.f k l0_0 l0_1).bind fun bt1404 => ((impl_WriteSector.f bt1404.1 bt1404.2 a1 a2 a3).bind fun bt1411 => ((laws_eqDisk.f k bt1411.1 bt1411.2.1 bt1396.1 bt1396.2.1).bind fun t1419 => (if t1419 = true then (laws_FnExactWriteSector.j0 k a1 a2 a3 bt1396.2.2 bt1411.2.2 (bt1411.2.2 != bt1396.2.2) l0_0 l0_1 bt1396.1 bt1396.2.1 bt1404.1 bt1404.2 bt1411.1 bt1411.2.1) else (laws_FnExactWriteSector.j0 k a1 a2 a3 bt1396.2.2 bt1411.2.2 true l0_0 l0_1 bt1396.1 bt1396.2.1 bt1404.1 bt1404.2 bt1411.1 bt1411.2.1)))))) = some r := H
   have A12 := Aside0.mk A120
   clear A120
   replace H := Option.bind_eq_some_iff.mp H
   obtain ⟨⟨t1396, t1399, t1402⟩, A130, H⟩ := H
   replace H : ((laws_toDisk.f k l0_0 l0_1).bind fun bt1404 => ((impl_WriteSector.f bt1404.1 bt1404.2 a1 a2 a3).bind fun bt1411 => ((laws_eqDisk.f k bt1411.1 bt1411.2.1 t1396 t1399).bind fun t1419 => (if t1419 = true then (laws_FnExactWriteSector.j0 k a1 a2 a3 t1402 bt1411.2.2 (bt1411.2.2 != t1402) l0_0 l0_1 t1396 t1399 bt1404.1 bt1404.2 bt1411.1 bt1411.2.1) else (laws_FnExactWriteSector.j0 k a1 a2 a3 t1402 bt1411.2.2 true l0_0 l0_1 t1396 t1399 bt1404.1 bt1404.2 bt1411.1 bt1411.2.1))))) = some r := H
   have A13 := Aside0.mk A130
   clear A130
   replace H := Option.bind_eq_some_iff.mp H
   obtain ⟨⟨t1404, t1407⟩, A140, H⟩ := H
   replace H : ((impl_WriteSector.f t1404 t1407 a1 a2 a3).bind fun bt1411 => ((laws_eqDisk.f k bt1411.1 bt1411.2.1 t1396 t1399).bind fun t1419 => (if t1419 = true then (laws_FnExactWriteSector.j0 k a1 a2 a3 t1402 bt1411.2.2 (bt1411.2.2 != t1402) l0_0 l0_1 t1396 t1399 t1404 t1407 bt1411.1 bt1411.2.1) else (laws_FnExactWriteSector.j0 k a1 a2 a3 t1402 bt1411.2.2 true l0_0 l0_1 t1396 t1399 t1404 t1407 bt1411.1 bt1411.2.1)))) = some r := H
   have A14 := Aside0.mk A140
   clear A140
   replace H := Option.bind_eq_some_iff.mp H
   obtain ⟨⟨t1411, t1414, t1417⟩, A150, H⟩ := H
   replace H : ((laws_eqDisk.f k t1411 t1414 t1396 t1399).bind fun t1419 => (if t1419 = true then (laws_FnExactWriteSector.j0 k a1 a2 a3 t1402 t1417 (t1417 != t1402) l0_0 l0_1 t1396 t1399 t1404 t1407 t1411 t1414) else (laws_FnExactWriteSector.j0 k a1 a2 a3 t1402 t1417 true l0_0 l0_1 t1396 t1399 t1404 t1407 t1411 t1414))) = some r := H
   have A15 := Aside0.mk A150
   clear A150
   have HC16 := Aside0.mk H
   clear H
   go_enter Try.func14, Try.ntmps14
   go_upto_region 10 with (first | ((with_reducible refine gate_dst (N := 4) rfl ?_); refine box_event ?hg (N := 4) ?hd (cs := #[.slice A0_0 l0_0.length c0_0, .slice A0_1 l0_1.length c0_1]) (t := 85) ?hr ?_; (case hd => rfl); (case hg => rfl); (case hr => first | (go_simp; done) | (go_simp; rfl)); intro gb1388 hg w17 hbox hb; have n0_ := Aside0.mk (below_step (by repeat (first | (with_reducible first | exact HB.out | apply below_alloc | apply pw_below_drewN | apply below_drew1) | exact HB.out)) hb); have n1_ := Aside0.mk (hbox); have n2_ := Aside0.mk ((by rw [hg]; exact (below_size (by repeat (first | (with_reducible first | exact HB.out | apply below_alloc | apply pw_below_drewN | apply below_drew1) | exact HB.out))) : w.heap.size ≤ gb1388)); have n3_ := Aside0.mk ((by rw [hg]; exact (below_size (by repeat (first | (with_reducible first | exact HB.out | apply below_alloc | apply pw_below_drewN | apply below_drew1) | exact HB.out))) : w.heap.size ≤ gb1388)); clear HB; have HB := n0_; have BK1388 := n1_; have GW1388 := n2_; have GE1388 := n3_; clear n0_ n1_ n2_ n3_; clear hb hbox hg; have hcz18_0 : w17.cell? ⟨gb1388, 0, none⟩ = some (.slice A0_0 l0_0.length c0_0) := (blk_cell BK1388.out 0).trans rfl; have hcz18_1 : w17.cell? ⟨gb1388, 1, none⟩ = some (.slice A0_1 l0_1.length c0_1) := (blk_cell BK1388.out 1).trans rfl; have hfz18_0 := blk_frozen BK1388.out 0; have hfz18_1 := blk_frozen BK1388.out 1) | ((with_reducible refine gate_callee (f := 75) rfl ?_); refine goesL_ (some 25) rfl rfl Try.func75 (by kernel_rfl) rfl #[.agg #[.slice A0_0 l0_0.length c0_0, .slice A0_1 l0_1.length c0_1], .int .i64 1048576] rfl (by (try simp only [List.map_toArray, List.map_cons, List.map_nil]); first | done | rfl | (simp only [List.length_drop, List.length_take]; rfl)) ?_; (with_reducible refine (laws_szDisk.calls k _ _ l0_0 _ _ l0_1 1048576 t1389 _ ?side1 ?side2 ?side3 ?side4 A7.out).mono ?_); (case side1 => repeat (first | exact (Kd.C_below HR0_0.out HB.out) | (with_reducible refine Kd.C_alloc ?_ _) | (with_reducible refine Kd.C_drewN ?_ _) | (with_reducible refine Kd.C_drew ?_))); (case side2 => exact HC0_0.out); (case side3 => repeat (first | exact (Kd.C_below HR0_1.out HB.out) | (with_reducible refine Kd.C_alloc ?_ _) | (with_reducible refine Kd.C_drewN ?_ _) | (with_reducible refine Kd.C_drew ?_))); (case side4 => exact HC0_1.out); rintro e w19 ⟨rfl, hb⟩; refine ⟨_, rfl, ?_⟩; have n0_ := Aside0.mk (blk_below (g := gb1388) (o := .cells #[.slice A0_0 l0_0.length c0_0, .slice A0_1 l0_1.length c0_1] 85 (0, 0)) (by (with_reducible repeat (first | refine blk_drewN ?_ _ | refine blk_drew ?_ | refine blk_alloc ?_ _)); exact BK1388.out) hb); have n1_ := Aside0.mk (below_step (by repeat (first | (with_reducible first | exact HB.out | apply below_alloc | apply pw_below_drewN | apply below_drew1 | refine below_set ?_ GE1388.out) | exact HB.out)) hb); clear BK1388; clear HB; have BK1388 := n0_; have HB := n1_; clear n0_ n1_; (try clear hb); (try clear hb2); (try clear hk); (try clear hi); have hcz20_0 : w19.cell? ⟨gb1388, 0, none⟩ = some (.slice A0_0 l0_0.length c0_0) := (blk_cell BK1388.out 0).trans rfl; have hcz20_1 : w19.cell? ⟨gb1388, 1, none⟩ = some (.slice A0_1 l0_1.length c0_1) := (blk_cell BK1388.out 1).trans rfl; have hfz20_0 := blk_frozen BK1388.out 0; have hfz20_1 := blk_frozen BK1388.out 1) | ((with_reducible refine gate_callee (f := 77) rfl ?_); refine goesL_ (some 30) rfl rfl Try.func77 (by kernel_rfl) rfl #[.agg #[.slice A0_0 l0_0.length c0_0, .slice A0_1 l0_1.length c0_1]] rfl (by (try simp only [List.map_toArray, List.map_cons, List.map_nil]); first | done | rfl | (simp only [List.length_drop, List.length_take]; rfl)) ?_; (with_reducible refine (laws_toDisk.calls k _ _ l0_0 _ _ l0_1 t1390 t1393 _ ?side1 ?side2 ?side3 ?side4 A12.out).mono ?_); (case side1 => repeat (first | exact (Kd.C_below HR0_0.out HB.out) | (with_reducible refine Kd.C_alloc ?_ _) | (with_reducible refine Kd.C_drewN ?_ _) | (with_reducible refine Kd.C_drew ?_))); (case side2 => exact HC0_0.out); (case side3 => repeat (first | exact (Kd.C_below HR0_1.out HB.out) | (with_reducible refine Kd.C_alloc ?_ _) | (with_reducible refine Kd.C_drewN ?_ _) | (with_reducible refine Kd.C_drew ?_))); (case side4 => exact HC0_1.out); rintro e w21 ⟨v1391, v1394, rfl, ho0, ho1, hb⟩; refine ⟨_, rfl, ?_⟩; have n0_ := Aside0.mk (Kd.R_lower ho0 (below_size (by repeat (first | (with_reducible first | exact HB.out | apply below_alloc | apply pw_below_drewN | apply below_drew1 | refine below_set ?_ GE1388.out) | exact HB.out)))); have n1_ := Aside0.mk (Kd.R_lower ho1 (below_size (by repeat (first | (with_reducible first | exact HB.out | apply below_alloc | apply pw_below_drewN | apply below_drew1 | refine below_set ?_ GE1388.out) | exact HB.out)))); have n2_ := Aside0.mk (blk_below (g := gb1388) (o := .cells #[.slice A0_0 l0_0.length c0_0, .slice A0_1 l0_1.length c0_1] 85 (0, 0)) (by (with_reducible repeat (first | refine blk_drewN ?_ _ | refine blk_drew ?_ | refine blk_alloc ?_ _)); exact BK1388.out) hb); have n3_ := Aside0.mk (below_step (by repeat (first | (with_reducible first | exact HB.out | apply below_alloc | apply pw_below_drewN | apply below_drew1 | refine below_set ?_ GE1388.out) | exact HB.out)) hb); clear BK1388; clear HB; have HO1392 := n0_; have HO1395 := n1_; have BK1388 := n2_; have HB := n3_; clear n0_ n1_ n2_ n3_; (try clear hb); (try clear hb2); (try clear hk); (try clear hi); (try clear ho0); (try clear ho1); obtain ⟨Ao22, co22, eo22⟩ := Kd.R_slice HO1392.out; subst eo22; obtain ⟨Ao23, co23, eo23⟩ := Kd.R_slice HO1395.out; subst eo23) | ((with_reducible refine gate_callee (f := 76) rfl ?_); refine goesL_ (some 34) rfl rfl Try.func76 (by kernel_rfl) rfl #[.agg #[.slice Ao22 t1390.length co22, .slice Ao23 t1393.length co23], .int .i64 a1, .int .i64 a2, .string a3] rfl (by (try simp only [List.map_toArray, List.map_cons, List.map_nil]); first | done | rfl | (simp only [List.length_drop, List.length_take]; rfl)) ?_; (with_reducible refine (spec_WriteSector.calls k (fun k_ => some k_ = (.slice Ao22 t1390.length co22 : Value).ownBlock) (.slice Ao22 t1390.length co22) t1390 _ _ t1393 a1 a2 a3 t1396 t1399 t1402 w _ ?side1 ?side2 ?side3 ?side4 A13.out).mono ?_); (case side1 => repeat (first | (with_reducible first | exact HB.out | apply below_alloc | apply pw_below_drewN | apply below_drew1 | refine below_set ?_ GE1388.out) | exact HB.out)); (case side2 => exact Kd.R_tight rfl HO1392.out); (case side3 => exact Kd.C_kept_own ((Kd.R_apart' HO1395.out (Kd.R_typed HO1392.out) (by decide))) (fun k_ hk_ hs_ => (hk_.2) hs_)); (case side4 => exact (Kd.R_reads' HO1395.out).2.1); rintro e w24 ⟨v1397, v1400, rfl, ho0, ho1, hb, hkp⟩; refine ⟨_, rfl, ?_⟩; have n0_ := Aside0.mk (blk_kept (by (with_reducible repeat (first | refine blk_drewN ?_ _ | refine blk_drew ?_ | refine blk_alloc ?_ _)); exact BK1388.out) hkp (fun hs_ => (fun e_ => (Kd.R_ne HO1392.out BK1388.out (by decide)) e_) hs_)); have n1_ := Aside0.mk (Kd.R_mono (ok' := fun k_ => some k_ ≠ (v1400 : Value).ownBlock) (Kd.R_keptB ((Kd.R_apart' HO1395.out (Kd.R_typed HO1392.out) (by decide))) hkp (fun k_ hk_ hs_ => (hk_.2) hs_)) (fun k_ hk_ => fun e_ => Or.elim (ho1.1 k_ e_.symm) (fun hs_ => hk_.2.1 hs_) (fun hn_ => Nat.not_le.2 hk_.2.2 hn_))); have n2_ := Aside0.mk (Kd.R_mono (ok' := fun k_ => True) ho0 (fun k_ hk_ => trivial)); have n3_ := Aside0.mk (Kd.R_mono (ok' := fun k_ => some k_ ≠ (.slice Ao23 t1393.length co23 : Value).ownBlock) ho1 (fun k_ hk_ => Or.elim hk_ (fun hs_ => fun e_ => ((((Kd.R_apart' HO1395.out (Kd.R_typed HO1392.out) (by decide))).1 k_ e_.symm).2) hs_) (fun hn_ => (Kd.fresh' (Kd.R_lt (by (with_reducible repeat (first | apply Kd.R_alloc | apply Kd.R_drewN | apply Kd.R_drew)); exact HO1395.out)) k_ hn_)))); have n4_ := Aside0.mk (hb); clear BK1388; clear HO1395; clear HB; clear HO1392; have BK1388 := n0_; have HO1395 := n1_; have HO1398 := n2_; have HO1401 := n3_; have HB := n4_; clear n0_ n1_ n2_ n3_ n4_; (try clear hb); (try clear hkp); (try clear ho0); (try clear ho1)) | ((with_reducible refine gate_dst (N := 10) rfl ?_); refine box_event ?hg (N := 10) ?hd (cs := #[.slice none 0 0, .slice none 0 0]) (t := 60) ?hr ?_; (case hd => rfl); (case hg => rfl); (case hr => first | (go_simp; done) | (go_simp; rfl)); intro gb1403 hg w25 hbox hb; have n0_ := Aside0.mk (Kd.R_below (by (with_reducible repeat (first | apply Kd.R_alloc | apply Kd.R_drewN | apply Kd.R_drew)); exact HO1395.out) hb); have n1_ := Aside0.mk (Kd.R_below (by (with_reducible repeat (first | apply Kd.R_alloc | apply Kd.R_drewN | apply Kd.R_drew)); exact HO1398.out) hb); have n2_ := Aside0.mk (Kd.R_below (by (with_reducible repeat (first | apply Kd.R_alloc | apply Kd.R_drewN | apply Kd.R_drew)); exact HO1401.out) hb); have n3_ := Aside0.mk (blk_below (g := gb1388) (o := .cells #[.slice A0_0 l0_0.length c0_0, .slice A0_1 l0_1.length c0_1] 85 (0, 0)) (by (with_reducible repeat (first | refine blk_drewN ?_ _ | refine blk_drew ?_ | refine blk_alloc ?_ _)); exact BK1388.out) hb); have n4_ := Aside0.mk (below_step (by repeat (first | (with_reducible first | exact HB.out | apply below_alloc | apply pw_below_drewN | apply below_drew1 | refine below_set ?_ GE1388.out) | exact HB.out)) hb); have n5_ := Aside0.mk (hbox); have n6_ := Aside0.mk ((by rw [hg]; exact (below_size (by repeat (first | (with_reducible first | exact HB.out | apply below_alloc | apply pw_below_drewN | apply below_drew1 | refine below_set ?_ GE1388.out) | exact HB.out))) : w.heap.size ≤ gb1403)); have n7_ := Aside0.mk ((by rw [hg]; exact (below_size (by repeat (first | (with_reducible first | exact HB.out | apply below_alloc | apply pw_below_drewN | apply below_drew1 | refine below_set ?_ GE1388.out) | exact HB.out))) : w.heap.size ≤ gb1403)); have n8_ := Aside0.mk ((by rw [hg]; exact Nat.ne_of_lt (blk_lt (g := gb1388) (o := .cells #[.slice A0_0 l0_0.length c0_0, .slice A0_1 l0_1.length c0_1] 85 (0, 0)) (by (with_reducible repeat (first | refine blk_drewN ?_ _ | refine blk_drew ?_ | refine blk_alloc ?_ _)); exact BK1388.out)) : gb1388 ≠ gb1403)); have n9_ := Aside0.mk ((by rw [hg]; exact Nat.ne_of_gt (blk_lt (g := gb1388) (o := .cells #[.slice A0_0 l0_0.length c0_0, .slice A0_1 l0_1.length c0_1] 85 (0, 0)) (by (with_reducible repeat (first | refine blk_drewN ?_ _ | refine blk_drew ?_ | refine blk_alloc ?_ _)); exact BK1388.out)) : gb1403 ≠ gb1388)); clear HO1395; clear HO1398; clear HO1401; clear BK1388; clear HB; have HO1395 := n0_; have HO1398 := n1_; have HO1401 := n2_; have BK1388 := n3_; have HB := n4_; have BK1403 := n5_; have GW1403 := n6_; have GE1403 := n7_; have NB1388_1403 := n8_; have NB1403_1388 := n9_; clear n0_ n1_ n2_ n3_ n4_ n5_ n6_ n7_ n8_ n9_; clear hb hbox hg; obtain ⟨Ao26, co26, eo26⟩ := Kd.R_slice HO1398.out; subst eo26; have hnb27 := NB1403_1388.out; have hnc27 := NB1388_1403.out; have hcz28_0 : w25.cell? ⟨gb1403, 0, none⟩ = some (.slice none 0 0) := (blk_cell BK1403.out 0).trans rfl; have hcz28_1 : w25.cell? ⟨gb1403, 1, none⟩ = some (.slice none 0 0) := (blk_cell BK1403.out 1).trans rfl; have hfz28_0 := blk_frozen BK1403.out 0; have hfz28_1 := blk_frozen BK1403.out 1; obtain ⟨Ao29, co29, eo29⟩ := Kd.R_slice HO1401.out; subst eo29; have hcz30_0 : w25.cell? ⟨gb1388, 0, none⟩ = some (.slice A0_0 l0_0.length c0_0) := (blk_cell BK1388.out 0).trans rfl; have hcz30_1 : w25.cell? ⟨gb1388, 1, none⟩ = some (.slice A0_1 l0_1.length c0_1) := (blk_cell BK1388.out 1).trans rfl; have hfz30_0 := blk_frozen BK1388.out 0; have hfz30_1 := blk_frozen BK1388.out 1) | ((with_reducible refine gate_callee (f := 77) rfl ?_); refine goesL_ (some 38) rfl rfl Try.func77 (by kernel_rfl) rfl #[.agg #[.slice A0_0 l0_0.length c0_0, .slice A0_1 l0_1.length c0_1]] rfl (by (try simp only [List.map_toArray, List.map_cons, List.map_nil]); first | done | rfl | (simp only [List.length_drop, List.length_take]; rfl)) ?_; (with_reducible refine (laws_toDisk.calls k _ _ l0_0 _ _ l0_1 t1404 t1407 _ ?side1 ?side2 ?side3 ?side4 A14.out).mono ?_); (case side1 => exact Kd.C_below HR0_0.out (by repeat (first | (with_reducible first | exact HB.out | apply below_alloc | apply pw_below_drewN | apply below_drew1 | refine below_set ?_ GE1388.out | refine below_set ?_ GE1403.out) | exact HB.out))); (case side2 => exact HC0_0.out); (case side3 => exact Kd.C_below HR0_1.out (by repeat (first | (with_reducible first | exact HB.out | apply below_alloc | apply pw_below_drewN | apply below_drew1 | refine below_set ?_ GE1388.out | refine below_set ?_ GE1403.out) | exact HB.out))); (case side4 => exact HC0_1.out); rintro e w31 ⟨v1405, v1408, rfl, ho0, ho1, hb⟩; refine ⟨_, rfl, ?_⟩; have n0_ := Aside0.mk (Kd.R_elder' (by (with_reducible repeat (first | apply Kd.R_alloc | apply Kd.R_drewN | apply Kd.R_drew)); exact (Kd.R_mono (Kd.R_far (p := ⟨gb1403, 1, none⟩) (Kd.R_far (p := ⟨gb1403, 0, none⟩) (Kd.R_types HO1395.out BK1403.out (by decide)) (fun _ hk => hk.2) (.slice Ao26 t1396.length co26)) (fun _ hk => hk.2) (.slice Ao29 t1399.length co29)) (fun _ h_ => h_.1))) (Kd.R_base ho1) hb); have n1_ := Aside0.mk (Kd.R_elder' (by (with_reducible repeat (first | apply Kd.R_alloc | apply Kd.R_drewN | apply Kd.R_drew)); exact (Kd.R_mono (Kd.R_far (p := ⟨gb1403, 1, none⟩) (Kd.R_far (p := ⟨gb1403, 0, none⟩) (Kd.R_types HO1398.out BK1403.out (by decide)) (fun _ hk => hk.2) (.slice Ao26 t1396.length co26)) (fun _ hk => hk.2) (.slice Ao29 t1399.length co29)) (fun _ h_ => h_.1))) (Kd.R_base ho0) hb); have n2_ := Aside0.mk (Kd.R_elder' (by (with_reducible repeat (first | apply Kd.R_alloc | apply Kd.R_drewN | apply Kd.R_drew)); exact (Kd.R_mono (Kd.R_far (p := ⟨gb1403, 1, none⟩) (Kd.R_far (p := ⟨gb1403, 0, none⟩) (Kd.R_types HO1401.out BK1403.out (by decide)) (fun _ hk => hk.2) (.slice Ao26 t1396.length co26)) (fun _ hk => hk.2) (.slice Ao29 t1399.length co29)) (fun _ h_ => h_.1))) (Kd.R_base ho1) hb); have n3_ := Aside0.mk (Kd.R_lower (Kd.R_new' ho0 (Kd.R_lt (by (with_reducible repeat (first | apply Kd.R_alloc | apply Kd.R_drewN | apply Kd.R_drew)); exact (Kd.R_mono (Kd.R_far (p := ⟨gb1403, 1, none⟩) (Kd.R_far (p := ⟨gb1403, 0, none⟩) (Kd.R_types HO1398.out BK1403.out (by decide)) (fun _ hk => hk.2) (.slice Ao26 t1396.length co26)) (fun _ hk => hk.2) (.slice Ao29 t1399.length co29)) (fun _ h_ => h_.1))))) (below_size (by repeat (first | (with_reducible first | exact HB.out | apply below_alloc | apply pw_below_drewN | apply below_drew1 | refine below_set ?_ GE1388.out | refine below_set ?_ GE1403.out) | exact HB.out)))); have n4_ := Aside0.mk (Kd.R_lower (Kd.R_new' (Kd.R_new' ho1 (Kd.R_lt (by (with_reducible repeat (first | apply Kd.R_alloc | apply Kd.R_drewN | apply Kd.R_drew)); exact (Kd.R_mono (Kd.R_far (p := ⟨gb1403, 1, none⟩) (Kd.R_far (p := ⟨gb1403, 0, none⟩) (Kd.R_types HO1395.out BK1403.out (by decide)) (fun _ hk => hk.2) (.slice Ao26 t1396.length co26)) (fun _ hk => hk.2) (.slice Ao29 t1399.length co29)) (fun _ h_ => h_.1))))) (Kd.R_lt (by (with_reducible repeat (first | apply Kd.R_alloc | apply Kd.R_drewN | apply Kd.R_drew)); exact (Kd.R_mono (Kd.R_far (p := ⟨gb1403, 1, none⟩) (Kd.R_far (p := ⟨gb1403, 0, none⟩) (Kd.R_types HO1401.out BK1403.out (by decide)) (fun _ hk => hk.2) (.slice Ao26 t1396.length co26)) (fun _ hk => hk.2) (.slice Ao29 t1399.length co29)) (fun _ h_ => h_.1))))) (below_size (by repeat (first | (with_reducible first | exact HB.out | apply below_alloc | apply pw_below_drewN | apply below_drew1 | refine below_set ?_ GE1388.out | refine below_set ?_ GE1403.out) | exact HB.out)))); have n5_ := Aside0.mk (blk_below (g := gb1388) (o := .cells #[.slice A0_0 l0_0.length c0_0, .slice A0_1 l0_1.length c0_1] 85 (0, 0)) (by (with_reducible repeat (first | refine blk_drewN ?_ _ | refine blk_drew ?_ | refine blk_alloc ?_ _)); refine blk_far ?_ NB1388_1403.out _; (with_reducible repeat (first | refine blk_drewN ?_ _ | refine blk_drew ?_ | refine blk_alloc ?_ _)); refine blk_far ?_ NB1388_1403.out _; (with_reducible repeat (first | refine blk_drewN ?_ _ | refine blk_drew ?_ | refine blk_alloc ?_ _)); exact BK1388.out) hb); have n6_ := Aside0.mk (blk_below (g := gb1403) (o := .cells #[.slice Ao26 t1396.length co26, .slice Ao29 t1399.length co29] 60 (0, 0)) (by (with_reducible repeat (first | refine blk_drewN ?_ _ | refine blk_drew ?_ | refine blk_alloc ?_ _)); refine blk_put (cs := #[.slice Ao26 t1396.length co26, .slice none 0 0]) ?_ 1 _ rfl; (with_reducible repeat (first | refine blk_drewN ?_ _ | refine blk_drew ?_ | refine blk_alloc ?_ _)); refine blk_put (cs := #[.slice none 0 0, .slice none 0 0]) ?_ 0 _ rfl; (with_reducible repeat (first | refine blk_drewN ?_ _ | refine blk_drew ?_ | refine blk_alloc ?_ _)); exact BK1403.out) hb); have n7_ := Aside0.mk (below_step (by repeat (first | (with_reducible first | exact HB.out | apply below_alloc | apply pw_below_drewN | apply below_drew1 | refine below_set ?_ GE1388.out | refine below_set ?_ GE1403.out) | exact HB.out)) hb); clear HO1395; clear HO1398; clear HO1401; clear BK1388; clear BK1403; clear HB; have HO1395 := n0_; have HO1398 := n1_; have HO1401 := n2_; have HO1406 := n3_; have HO1409 := n4_; have BK1388 := n5_; have BK1403 := n6_; have HB := n7_; clear n0_ n1_ n2_ n3_ n4_ n5_ n6_ n7_; (try clear hb); (try clear hb2); (try clear hk); (try clear hi); (try clear ho0); (try clear ho1)) | ((with_reducible refine gate_dst (N := 12) rfl ?_); refine box_event ?hg (N := 12) ?hd (cs := #[.slice none 0 0, .slice none 0 0]) (t := 60) ?hr ?_; (case hd => rfl); (case hg => rfl); (case hr => first | (go_simp; done) | (go_simp; rfl)); intro gb1410 hg w32 hbox hb; have n0_ := Aside0.mk (Kd.R_below (by (with_reducible repeat (first | apply Kd.R_alloc | apply Kd.R_drewN | apply Kd.R_drew)); exact HO1395.out) hb); have n1_ := Aside0.mk (Kd.R_below (by (with_reducible repeat (first | apply Kd.R_alloc | apply Kd.R_drewN | apply Kd.R_drew)); exact HO1398.out) hb); have n2_ := Aside0.mk (Kd.R_below (by (with_reducible repeat (first | apply Kd.R_alloc | apply Kd.R_drewN | apply Kd.R_drew)); exact HO1401.out) hb); have n3_ := Aside0.mk (Kd.R_below (by (with_reducible repeat (first | apply Kd.R_alloc | apply Kd.R_drewN | apply Kd.R_drew)); exact HO1406.out) hb); have n4_ := Aside0.mk (Kd.R_below (by (with_reducible repeat (first | apply Kd.R_alloc | apply Kd.R_drewN | apply Kd.R_drew)); exact HO1409.out) hb); have n5_ := Aside0.mk (blk_below (g := gb1388) (o := .cells #[.slice A0_0 l0_0.length c0_0, .slice A0_1 l0_1.length c0_1] 85 (0, 0)) (by (with_reducible repeat (first | refine blk_drewN ?_ _ | refine blk_drew ?_ | refine blk_alloc ?_ _)); exact BK1388.out) hb); have n6_ := Aside0.mk (blk_below (g := gb1403) (o := .cells #[.slice Ao26 t1396.length co26, .slice Ao29 t1399.length co29] 60 (0, 0)) (by (with_reducible repeat (first | refine blk_drewN ?_ _ | refine blk_drew ?_ | refine blk_alloc ?_ _)); exact BK1403.out) hb); have n7_ := Aside0.mk (below_step (by repeat (first | (with_reducible first | exact HB.out | apply below_alloc | apply pw_below_drewN | apply below_drew1 | refine below_set ?_ GE1388.out | refine below_set ?_ GE1403.out) | exact HB.out)) hb); have n8_ := Aside0.mk (hbox); have n9_ := Aside0.mk ((by rw [hg]; exact (below_size (by repeat (first | (with_reducible first | exact HB.out | apply below_alloc | apply pw_below_drewN | apply below_drew1 | refine below_set ?_ GE1388.out | refine below_set ?_ GE1403.out) | exact HB.out))) : w.heap.size ≤ gb1410)); have n10_ := Aside0.mk ((by rw [hg]; exact (below_size (by repeat (first | (with_reducible first | exact HB.out | apply below_alloc | apply pw_below_drewN | apply below_drew1 | refine below_set ?_ GE1388.out | refine below_set ?_ GE1403.out) | exact HB.out))) : w.heap.size ≤ gb1410)); have n11_ := Aside0.mk ((by rw [hg]; exact Nat.ne_of_lt (blk_lt (g := gb1388) (o := .cells #[.slice A0_0 l0_0.length c0_0, .slice A0_1 l0_1.length c0_1] 85 (0, 0)) (by (with_reducible repeat (first | refine blk_drewN ?_ _ | refine blk_drew ?_ | refine blk_alloc ?_ _)); exact BK1388.out)) : gb1388 ≠ gb1410)); have n12_ := Aside0.mk ((by rw [hg]; exact Nat.ne_of_gt (blk_lt (g := gb1388) (o := .cells #[.slice A0_0 l0_0.length c0_0, .slice A0_1 l0_1.length c0_1] 85 (0, 0)) (by (with_reducible repeat (first | refine blk_drewN ?_ _ | refine blk_drew ?_ | refine blk_alloc ?_ _)); exact BK1388.out)) : gb1410 ≠ gb1388)); have n13_ := Aside0.mk ((by rw [hg]; exact Nat.ne_of_lt (blk_lt (g := gb1403) (o := .cells #[.slice Ao26 t1396.length co26, .slice Ao29 t1399.length co29] 60 (0, 0)) (by (with_reducible repeat (first | refine blk_drewN ?_ _ | refine blk_drew ?_ | refine blk_alloc ?_ _)); exact BK1403.out)) : gb1403 ≠ gb1410)); have n14_ := Aside0.mk ((by rw [hg]; exact Nat.ne_of_gt (blk_lt (g := gb1403) (o := .cells #[.slice Ao26 t1396.length co26, .slice Ao29 t1399.length co29] 60 (0, 0)) (by (with_reducible repeat (first | refine blk_drewN ?_ _ | refine blk_drew ?_ | refine blk_alloc ?_ _)); exact BK1403.out)) : gb1410 ≠ gb1403)); clear HO1395; clear HO1398; clear HO1401; clear HO1406; clear HO1409; clear BK1388; clear BK1403; clear HB; have HO1395 := n0_; have HO1398 := n1_; have HO1401 := n2_; have HO1406 := n3_; have HO1409 := n4_; have BK1388 := n5_; have BK1403 := n6_; have HB := n7_; have BK1410 := n8_; have GW1410 := n9_; have GE1410 := n10_; have NB1388_1410 := n11_; have NB1410_1388 := n12_; have NB1403_1410 := n13_; have NB1410_1403 := n14_; clear n0_ n1_ n2_ n3_ n4_ n5_ n6_ n7_ n8_ n9_ n10_ n11_ n12_ n13_ n14_; clear hb hbox hg; obtain ⟨Ao33, co33, eo33⟩ := Kd.R_slice HO1406.out; subst eo33; have hnb34 := NB1410_1388.out; have hnc34 := NB1388_1410.out; have hnb35 := NB1410_1403.out; have hnc35 := NB1403_1410.out; have hcz36_0 : w32.cell? ⟨gb1410, 0, none⟩ = some (.slice none 0 0) := (blk_cell BK1410.out 0).trans rfl; have hcz36_1 : w32.cell? ⟨gb1410, 1, none⟩ = some (.slice none 0 0) := (blk_cell BK1410.out 1).trans rfl; have hfz36_0 := blk_frozen BK1410.out 0; have hfz36_1 := blk_frozen BK1410.out 1; obtain ⟨Ao37, co37, eo37⟩ := Kd.R_slice HO1409.out; subst eo37) | ((with_reducible refine gate_callee (f := 70) rfl ?_); refine goesL_ (some 44) rfl rfl Try.func70 (by kernel_rfl) rfl #[.agg #[.slice Ao33 t1404.length co33, .slice Ao37 t1407.length co37], .int .i64 a1, .int .i64 a2, .string a3] rfl (by (try simp only [List.map_toArray, List.map_cons, List.map_nil]); first | done | rfl | (simp only [List.length_drop, List.length_take]; rfl)) ?_; (with_reducible refine (impl_WriteSector.calls _ _ t1404 _ _ t1407 a1 a2 a3 t1411 t1414 t1417 _ ?side1 ?side2 ?side3 ?side4 A15.out).mono ?_); (case side1 => refine (Kd.R_reads' (e := 9) (base := w.heap.size) (ok := fun k_ => (True ∧ some k_ ≠ (.slice Ao26 t1396.length co26 : Value).ownBlock)) (n := t1404.length) (c := co33) ?_).2.2; exact (by (with_reducible repeat (first | apply Kd.R_alloc | apply Kd.R_drewN | apply Kd.R_drew)); exact (Kd.R_mono (Kd.R_far (p := ⟨gb1410, 1, none⟩) (Kd.R_far (p := ⟨gb1410, 0, none⟩) (Kd.R_types HO1406.out BK1410.out (by decide)) (fun _ hk => hk.2) (.slice Ao33 t1404.length co33)) (fun _ hk => hk.2) (.slice Ao37 t1407.length co37)) (fun _ h_ => h_.1)))); (case side2 => exact (Kd.R_reads' HO1406.out).2.1); (case side3 => refine (Kd.R_reads' (e := 122) (base := w.heap.size) (ok := fun k_ => ((True ∧ some k_ ≠ (.slice Ao23 t1393.length co23 : Value).ownBlock) ∧ some k_ ≠ (.slice Ao29 t1399.length co29 : Value).ownBlock)) (n := t1407.length) (c := co37) ?_).2.2; exact (by (with_reducible repeat (first | apply Kd.R_alloc | apply Kd.R_drewN | apply Kd.R_drew)); exact (Kd.R_mono (Kd.R_far (p := ⟨gb1410, 1, none⟩) (Kd.R_far (p := ⟨gb1410, 0, none⟩) (Kd.R_types HO1409.out BK1410.out (by decide)) (fun _ hk => hk.2) (.slice Ao33 t1404.length co33)) (fun _ hk => hk.2) (.slice Ao37 t1407.length co37)) (fun _ h_ => h_.1)))); (case side4 => exact (Kd.R_reads' HO1409.out).2.1); rintro e w38 ⟨v1412, v1415, rfl, ho0, ho1, hb⟩; refine ⟨_, rfl, ?_⟩; have n0_ := Aside0.mk (Kd.R_elder' (by (with_reducible repeat (first | apply Kd.R_alloc | apply Kd.R_drewN | apply Kd.R_drew)); exact (Kd.R_mono (Kd.R_far (p := ⟨gb1410, 1, none⟩) (Kd.R_far (p := ⟨gb1410, 0, none⟩) (Kd.R_types HO1395.out BK1410.out (by decide)) (fun _ hk => hk.2) (.slice Ao33 t1404.length co33)) (fun _ hk => hk.2) (.slice Ao37 t1407.length co37)) (fun _ h_ => h_.1))) (Kd.R_base ho1) hb); have n1_ := Aside0.mk (Kd.R_elder' (by (with_reducible repeat (first | apply Kd.R_alloc | apply Kd.R_drewN | apply Kd.R_drew)); exact (Kd.R_mono (Kd.R_far (p := ⟨gb1410, 1, none⟩) (Kd.R_far (p := ⟨gb1410, 0, none⟩) (Kd.R_types HO1398.out BK1410.out (by decide)) (fun _ hk => hk.2) (.slice Ao33 t1404.length co33)) (fun _ hk => hk.2) (.slice Ao37 t1407.length co37)) (fun _ h_ => h_.1))) (Kd.R_base ho0) hb); have n2_ := Aside0.mk (Kd.R_elder' (by (with_reducible repeat (first | apply Kd.R_alloc | apply Kd.R_drewN | apply Kd.R_drew)); exact (Kd.R_mono (Kd.R_far (p := ⟨gb1410, 1, none⟩) (Kd.R_far (p := ⟨gb1410, 0, none⟩) (Kd.R_types HO1401.out BK1410.out (by decide)) (fun _ hk => hk.2) (.slice Ao33 t1404.length co33)) (fun _ hk => hk.2) (.slice Ao37 t1407.length co37)) (fun _ h_ => h_.1))) (Kd.R_base ho1) hb); have n3_ := Aside0.mk (Kd.R_elder' (by (with_reducible repeat (first | apply Kd.R_alloc | apply Kd.R_drewN | apply Kd.R_drew)); exact (Kd.R_mono (Kd.R_far (p := ⟨gb1410, 1, none⟩) (Kd.R_far (p := ⟨gb1410, 0, none⟩) (Kd.R_types HO1406.out BK1410.out (by decide)) (fun _ hk => hk.2) (.slice Ao33 t1404.length co33)) (fun _ hk => hk.2) (.slice Ao37 t1407.length co37)) (fun _ h_ => h_.1))) (Kd.R_base ho0) hb); have n4_ := Aside0.mk (Kd.R_elder' (by (with_reducible repeat (first | apply Kd.R_alloc | apply Kd.R_drewN | apply Kd.R_drew)); exact (Kd.R_mono (Kd.R_far (p := ⟨gb1410, 1, none⟩) (Kd.R_far (p := ⟨gb1410, 0, none⟩) (Kd.R_types HO1409.out BK1410.out (by decide)) (fun _ hk => hk.2) (.slice Ao33 t1404.length co33)) (fun _ hk => hk.2) (.slice Ao37 t1407.length co37)) (fun _ h_ => h_.1))) (Kd.R_base ho1) hb); have n5_ := Aside0.mk (Kd.R_lower (Kd.R_new' (Kd.R_new' ho0 (Kd.R_lt (by (with_reducible repeat (first | apply Kd.R_alloc | apply Kd.R_drewN | apply Kd.R_drew)); exact (Kd.R_mono (Kd.R_far (p := ⟨gb1410, 1, none⟩) (Kd.R_far (p := ⟨gb1410, 0, none⟩) (Kd.R_types HO1398.out BK1410.out (by decide)) (fun _ hk => hk.2) (.slice Ao33 t1404.length co33)) (fun _ hk => hk.2) (.slice Ao37 t1407.length co37)) (fun _ h_ => h_.1))))) (Kd.R_lt (by (with_reducible repeat (first | apply Kd.R_alloc | apply Kd.R_drewN | apply Kd.R_drew)); exact (Kd.R_mono (Kd.R_far (p := ⟨gb1410, 1, none⟩) (Kd.R_far (p := ⟨gb1410, 0, none⟩) (Kd.R_types HO1406.out BK1410.out (by decide)) (fun _ hk => hk.2) (.slice Ao33 t1404.length co33)) (fun _ hk => hk.2) (.slice Ao37 t1407.length co37)) (fun _ h_ => h_.1))))) (below_size (by repeat (first | (with_reducible first | exact HB.out | apply below_alloc | apply pw_below_drewN | apply below_drew1 | refine below_set ?_ GE1388.out | refine below_set ?_ GE1403.out | refine below_set ?_ GE1410.out) | exact HB.out)))); have n6_ := Aside0.mk (Kd.R_lower (Kd.R_new' (Kd.R_new' (Kd.R_new' ho1 (Kd.R_lt (by (with_reducible repeat (first | apply Kd.R_alloc | apply Kd.R_drewN | apply Kd.R_drew)); exact (Kd.R_mono (Kd.R_far (p := ⟨gb1410, 1, none⟩) (Kd.R_far (p := ⟨gb1410, 0, none⟩) (Kd.R_types HO1395.out BK1410.out (by decide)) (fun _ hk => hk.2) (.slice Ao33 t1404.length co33)) (fun _ hk => hk.2) (.slice Ao37 t1407.length co37)) (fun _ h_ => h_.1))))) (Kd.R_lt (by (with_reducible repeat (first | apply Kd.R_alloc | apply Kd.R_drewN | apply Kd.R_drew)); exact (Kd.R_mono (Kd.R_far (p := ⟨gb1410, 1, none⟩) (Kd.R_far (p := ⟨gb1410, 0, none⟩) (Kd.R_types HO1401.out BK1410.out (by decide)) (fun _ hk => hk.2) (.slice Ao33 t1404.length co33)) (fun _ hk => hk.2) (.slice Ao37 t1407.length co37)) (fun _ h_ => h_.1))))) (Kd.R_lt (by (with_reducible repeat (first | apply Kd.R_alloc | apply Kd.R_drewN | apply Kd.R_drew)); exact (Kd.R_mono (Kd.R_far (p := ⟨gb1410, 1, none⟩) (Kd.R_far (p := ⟨gb1410, 0, none⟩) (Kd.R_types HO1409.out BK1410.out (by decide)) (fun _ hk => hk.2) (.slice Ao33 t1404.length co33)) (fun _ hk => hk.2) (.slice Ao37 t1407.length co37)) (fun _ h_ => h_.1))))) (below_size (by repeat (first | (with_reducible first | exact HB.out | apply below_alloc | apply pw_below_drewN | apply below_drew1 | refine below_set ?_ GE1388.out | refine below_set ?_ GE1403.out | refine below_set ?_ GE1410.out) | exact HB.out)))); have n7_ := Aside0.mk (blk_below (g := gb1388) (o := .cells #[.slice A0_0 l0_0.length c0_0, .slice A0_1 l0_1.length c0_1] 85 (0, 0)) (by (with_reducible repeat (first | refine blk_drewN ?_ _ | refine blk_drew ?_ | refine blk_alloc ?_ _)); refine blk_far ?_ NB1388_1410.out _; (with_reducible repeat (first | refine blk_drewN ?_ _ | refine blk_drew ?_ | refine blk_alloc ?_ _)); refine blk_far ?_ NB1388_1410.out _; (with_reducible repeat (first | refine blk_drewN ?_ _ | refine blk_drew ?_ | refine blk_alloc ?_ _)); exact BK1388.out) hb); have n8_ := Aside0.mk (blk_below (g := gb1403) (o := .cells #[.slice Ao26 t1396.length co26, .slice Ao29 t1399.length co29] 60 (0, 0)) (by (with_reducible repeat (first | refine blk_drewN ?_ _ | refine blk_drew ?_ | refine blk_alloc ?_ _)); refine blk_far ?_ NB1403_1410.out _; (with_reducible repeat (first | refine blk_drewN ?_ _ | refine blk_drew ?_ | refine blk_alloc ?_ _)); refine blk_far ?_ NB1403_1410.out _; (with_reducible repeat (first | refine blk_drewN ?_ _ | refine blk_drew ?_ | refine blk_alloc ?_ _)); exact BK1403.out) hb); have n9_ := Aside0.mk (blk_below (g := gb1410) (o := .cells #[.slice Ao33 t1404.length co33, .slice Ao37 t1407.length co37] 60 (0, 0)) (by (with_reducible repeat (first | refine blk_drewN ?_ _ | refine blk_drew ?_ | refine blk_alloc ?_ _)); refine blk_put (cs := #[.slice Ao33 t1404.length co33, .slice none 0 0]) ?_ 1 _ rfl; (with_reducible repeat (first | refine blk_drewN ?_ _ | refine blk_drew ?_ | refine blk_alloc ?_ _)); refine blk_put (cs := #[.slice none 0 0, .slice none 0 0]) ?_ 0 _ rfl; (with_reducible repeat (first | refine blk_drewN ?_ _ | refine blk_drew ?_ | refine blk_alloc ?_ _)); exact BK1410.out) hb); have n10_ := Aside0.mk (below_step (by repeat (first | (with_reducible first | exact HB.out | apply below_alloc | apply pw_below_drewN | apply below_drew1 | refine below_set ?_ GE1388.out | refine below_set ?_ GE1403.out | refine below_set ?_ GE1410.out) | exact HB.out)) hb); clear HO1395; clear HO1398; clear HO1401; clear HO1406; clear HO1409; clear BK1388; clear BK1403; clear BK1410; clear HB; have HO1395 := n0_; have HO1398 := n1_; have HO1401 := n2_; have HO1406 := n3_; have HO1409 := n4_; have HO1413 := n5_; have HO1416 := n6_; have BK1388 := n7_; have BK1403 := n8_; have BK1410 := n9_; have HB := n10_; clear n0_ n1_ n2_ n3_ n4_ n5_ n6_ n7_ n8_ n9_ n10_; (try clear hb); (try clear hb2); (try clear hk); (try clear hi); (try clear ho0); (try clear ho1)) | ((with_reducible refine gate_dst (N := 13) rfl ?_); refine box_event ?hg (N := 13) ?hd (cs := #[.slice none 0 0, .slice none 0 0]) (t := 60) ?hr ?_; (case hd => rfl); (case hg => rfl); (case hr => first | (go_simp; done) | (go_simp; rfl)); intro gb1418 hg w39 hbox hb; have n0_ := Aside0.mk (Kd.R_below (by (with_reducible repeat (first | apply Kd.R_alloc | apply Kd.R_drewN | apply Kd.R_drew)); exact HO1395.out) hb); have n1_ := Aside0.mk (Kd.R_below (by (with_reducible repeat (first | apply Kd.R_alloc | apply Kd.R_drewN | apply Kd.R_drew)); exact HO1398.out) hb); have n2_ := Aside0.mk (Kd.R_below (by (with_reducible repeat (first | apply Kd.R_alloc | apply Kd.R_drewN | apply Kd.R_drew)); exact HO1401.out) hb); have n3_ := Aside0.mk (Kd.R_below (by (with_reducible repeat (first | apply Kd.R_alloc | apply Kd.R_drewN | apply Kd.R_drew)); exact HO1406.out) hb); have n4_ := Aside0.mk (Kd.R_below (by (with_reducible repeat (first | apply Kd.R_alloc | apply Kd.R_drewN | apply Kd.R_drew)); exact HO1409.out) hb); have n5_ := Aside0.mk (Kd.R_below (by (with_reducible repeat (first | apply Kd.R_alloc | apply Kd.R_drewN | apply Kd.R_drew)); exact HO1413.out) hb); have n6_ := Aside0.mk (Kd.R_below (by (with_reducible repeat (first | apply Kd.R_alloc | apply Kd.R_drewN | apply Kd.R_drew)); exact HO1416.out) hb); have n7_ := Aside0.mk (blk_below (g := gb1388) (o := .cells #[.slice A0_0 l0_0.length c0_0, .slice A0_1 l0_1.length c0_1] 85 (0, 0)) (by (with_reducible repeat (first | refine blk_drewN ?_ _ | refine blk_drew ?_ | refine blk_alloc ?_ _)); exact BK1388.out) hb); have n8_ := Aside0.mk (blk_below (g := gb1403) (o := .cells #[.slice Ao26 t1396.length co26, .slice Ao29 t1399.length co29] 60 (0, 0)) (by (with_reducible repeat (first | refine blk_drewN ?_ _ | refine blk_drew ?_ | refine blk_alloc ?_ _)); exact BK1403.out) hb); have n9_ := Aside0.mk (blk_below (g := gb1410) (o := .cells #[.slice Ao33 t1404.length co33, .slice Ao37 t1407.length co37] 60 (0, 0)) (by (with_reducible repeat (first | refine blk_drewN ?_ _ | refine blk_drew ?_ | refine blk_alloc ?_ _)); exact BK1410.out) hb); have n10_ := Aside0.mk (below_step (by repeat (first | (with_reducible first | exact HB.out | apply below_alloc | apply pw_below_drewN | apply below_drew1 | refine below_set ?_ GE1388.out | refine below_set ?_ GE1403.out | refine below_set ?_ GE1410.out) | exact HB.out)) hb); have n11_ := Aside0.mk (hbox); have n12_ := Aside0.mk ((by rw [hg]; exact (below_size (by repeat (first | (with_reducible first | exact HB.out | apply below_alloc | apply pw_below_drewN | apply below_drew1 | refine below_set ?_ GE1388.out | refine below_set ?_ GE1403.out | refine below_set ?_ GE1410.out) | exact HB.out))) : w.heap.size ≤ gb1418)); have n13_ := Aside0.mk ((by rw [hg]; exact (below_size (by repeat (first | (with_reducible first | exact HB.out | apply below_alloc | apply pw_below_drewN | apply below_drew1 | refine below_set ?_ GE1388.out | refine below_set ?_ GE1403.out | refine below_set ?_ GE1410.out) | exact HB.out))) : w.heap.size ≤ gb1418)); have n14_ := Aside0.mk ((by rw [hg]; exact Nat.ne_of_lt (blk_lt (g := gb1388) (o := .cells #[.slice A0_0 l0_0.length c0_0, .slice A0_1 l0_1.length c0_1] 85 (0, 0)) (by (with_reducible repeat (first | refine blk_drewN ?_ _ | refine blk_drew ?_ | refine blk_alloc ?_ _)); exact BK1388.out)) : gb1388 ≠ gb1418)); have n15_ := Aside0.mk ((by rw [hg]; exact Nat.ne_of_gt (blk_lt (g := gb1388) (o := .cells #[.slice A0_0 l0_0.length c0_0, .slice A0_1 l0_1.length c0_1] 85 (0, 0)) (by (with_reducible repeat (first | refine blk_drewN ?_ _ | refine blk_drew ?_ | refine blk_alloc ?_ _)); exact BK1388.out)) : gb1418 ≠ gb1388)); have n16_ := Aside0.mk ((by rw [hg]; exact Nat.ne_of_lt (blk_lt (g := gb1403) (o := .cells #[.slice Ao26 t1396.length co26, .slice Ao29 t1399.length co29] 60 (0, 0)) (by (with_reducible repeat (first | refine blk_drewN ?_ _ | refine blk_drew ?_ | refine blk_alloc ?_ _)); exact BK1403.out)) : gb1403 ≠ gb1418)); have n17_ := Aside0.mk ((by rw [hg]; exact Nat.ne_of_gt (blk_lt (g := gb1403) (o := .cells #[.slice Ao26 t1396.length co26, .slice Ao29 t1399.length co29] 60 (0, 0)) (by (with_reducible repeat (first | refine blk_drewN ?_ _ | refine blk_drew ?_ | refine blk_alloc ?_ _)); exact BK1403.out)) : gb1418 ≠ gb1403)); have n18_ := Aside0.mk ((by rw [hg]; exact Nat.ne_of_lt (blk_lt (g := gb1410) (o := .cells #[.slice Ao33 t1404.length co33, .slice Ao37 t1407.length co37] 60 (0, 0)) (by (with_reducible repeat (first | refine blk_drewN ?_ _ | refine blk_drew ?_ | refine blk_alloc ?_ _)); exact BK1410.out)) : gb1410 ≠ gb1418)); have n19_ := Aside0.mk ((by rw [hg]; exact Nat.ne_of_gt (blk_lt (g := gb1410) (o := .cells #[.slice Ao33 t1404.length co33, .slice Ao37 t1407.length co37] 60 (0, 0)) (by (with_reducible repeat (first | refine blk_drewN ?_ _ | refine blk_drew ?_ | refine blk_alloc ?_ _)); exact BK1410.out)) : gb1418 ≠ gb1410)); clear HO1395; clear HO1398; clear HO1401; clear HO1406; clear HO1409; clear HO1413; clear HO1416; clear BK1388; clear BK1403; clear BK1410; clear HB; have HO1395 := n0_; have HO1398 := n1_; have HO1401 := n2_; have HO1406 := n3_; have HO1409 := n4_; have HO1413 := n5_; have HO1416 := n6_; have BK1388 := n7_; have BK1403 := n8_; have BK1410 := n9_; have HB := n10_; have BK1418 := n11_; have GW1418 := n12_; have GE1418 := n13_; have NB1388_1418 := n14_; have NB1418_1388 := n15_; have NB1403_1418 := n16_; have NB1418_1403 := n17_; have NB1410_1418 := n18_; have NB1418_1410 := n19_; clear n0_ n1_ n2_ n3_ n4_ n5_ n6_ n7_ n8_ n9_ n10_ n11_ n12_ n13_ n14_ n15_ n16_ n17_ n18_ n19_; clear hb hbox hg; obtain ⟨Ao40, co40, eo40⟩ := Kd.R_slice HO1413.out; subst eo40; have hnb41 := NB1418_1388.out; have hnc41 := NB1388_1418.out; have hnb42 := NB1418_1403.out; have hnc42 := NB1403_1418.out; have hnb43 := NB1418_1410.out; have hnc43 := NB1410_1418.out; have hcz44_0 : w39.cell? ⟨gb1418, 0, none⟩ = some (.slice none 0 0) := (blk_cell BK1418.out 0).trans rfl; have hcz44_1 : w39.cell? ⟨gb1418, 1, none⟩ = some (.slice none 0 0) := (blk_cell BK1418.out 1).trans rfl; have hfz44_0 := blk_frozen BK1418.out 0; have hfz44_1 := blk_frozen BK1418.out 1; obtain ⟨Ao45, co45, eo45⟩ := Kd.R_slice HO1416.out; subst eo45))
   (try simp only [Act.put, List.setIfInBounds_toArray, List.set_cons_zero, List.set_cons_succ])
   go_cut [55] (fun v55 wc => ∃ (kq : Nat) (x55_15 : Bool), v55 = .bool x55_15 ∧ Aside0 (laws_FnExactWriteSector.j0 kq a1 a2 a3 t1402 t1417 x55_15 l0_0 l0_1 t1396 t1399 t1404 t1407 t1411 t1414 = some r) ∧ Aside0 (kq ≤ k) ∧ Aside0 (Kd.R Kd.string 9 wc w.heap.size (fun k_ => some k_ ≠ ((.slice Ao33 t1404.length co33) : Value).ownBlock ∧ some k_ ≠ ((.slice Ao40 t1411.length co40) : Value).ownBlock) (.slice Ao26 t1396.length co26) t1396) ∧ Aside0 (Kd.R k122 122 wc w.heap.size (fun k_ => some k_ ≠ ((.slice Ao37 t1407.length co37) : Value).ownBlock ∧ some k_ ≠ ((.slice Ao45 t1414.length co45) : Value).ownBlock) (.slice Ao29 t1399.length co29) t1399) ∧ Aside0 (Kd.R Kd.string 9 wc w.heap.size (fun k_ => some k_ ≠ ((.slice Ao26 t1396.length co26) : Value).ownBlock ∧ some k_ ≠ ((.slice Ao40 t1411.length co40) : Value).ownBlock) (.slice Ao33 t1404.length co33) t1404) ∧ Aside0 (Kd.R k122 122 wc w.heap.size (fun k_ => some k_ ≠ ((.slice Ao29 t1399.length co29) : Value).ownBlock ∧ some k_ ≠ ((.slice Ao45 t1414.length co45) : Value).ownBlock) (.slice Ao37 t1407.length co37) t1407) ∧ Aside0 (Kd.R Kd.string 9 wc w.heap.size (fun k_ => some k_ ≠ ((.slice Ao26 t1396.length co26) : Value).ownBlock ∧ some k_ ≠ ((.slice Ao33 t1404.length co33) : Value).ownBlock) (.slice Ao40 t1411.length co40) t1411) ∧ Aside0 (Kd.R k122 122 wc w.heap.size (fun k_ => some k_ ≠ ((.slice Ao29 t1399.length co29) : Value).ownBlock ∧ some k_ ≠ ((.slice Ao37 t1407.length co37) : Value).ownBlock) (.slice Ao45 t1414.length co45) t1414) ∧ Aside0 (wc.heap[gb1388]? = some (.cells #[(.slice A0_0 l0_0.length c0_0), (.slice A0_1 l0_1.length c0_1)] 85 (0, 0))) ∧ Aside0 (wc.heap[gb1403]? = some (.cells #[(.slice Ao26 t1396.length co26), (.slice Ao29 t1399.length co29)] 60 (0, 0))) ∧ Aside0 (wc.heap[gb1410]? = some (.cells #[(.slice Ao33 t1404.length co33), (.slice Ao37 t1407.length co37)] 60 (0, 0))) ∧ Aside0 (wc.heap[gb1418]? = some (.cells #[(.slice Ao40 t1411.length co40), (.slice Ao45 t1414.length co45)] 60 (0, 0))) ∧ Aside0 (Below w.heap.size w wc))
   case first =>
    have H := HC16.out
    clear HC16
    replace H := Option.bind_eq_some_iff.mp H
    obtain ⟨t1419, A460, H⟩ := H
    replace H : (if t1419 = true then (laws_FnExactWriteSector.j0 k a1 a2 a3 t1402 t1417 (t1417 != t1402) l0_0 l0_1 t1396 t1399 t1404 t1407 t1411 t1414) else (laws_FnExactWriteSector.j0 k a1 a2 a3 t1402 t1417 true l0_0 l0_1 t1396 t1399 t1404 t1407 t1411 t1414)) = some r := H
    have A46 := Aside0.mk A460
    clear A460
    by_cases c47 : t1419 = true
    ·subst c47
     have H1 : (laws_FnExactWriteSector.j0 k a1 a2 a3 t1402 t1417 (t1417 != t1402) l0_0 l0_1 t1396 t1399 t1404 t1407 t1411 t1414) = some r := by rw [if_pos rfl] at H; exact H
     clear H
     have H := H1
     clear H1
     have H' := Aside0.mk H
     clear H
     have hnb48 := NB1418_1388.out
     have hnc48 := NB1388_1418.out
     have hnb49 := NB1418_1403.out
     have hnc49 := NB1403_1418.out
     have hnb50 := NB1418_1410.out
     have hnc50 := NB1410_1418.out
     have hcz51_0 : w39.cell? ⟨gb1418, 0, none⟩ = some (.slice none 0 0) := (blk_cell BK1418.out 0).trans rfl
     have hcz51_1 : w39.cell? ⟨gb1418, 1, none⟩ = some (.slice none 0 0) := (blk_cell BK1418.out 1).trans rfl
     have hfz51_0 := blk_frozen BK1418.out 0
     have hfz51_1 := blk_frozen BK1418.out 1
     have hnb52 := NB1403_1388.out
     have hnc52 := NB1388_1403.out
     have hnb53 := NB1403_1410.out
     have hnc53 := NB1410_1403.out
     have hcz54_0 : w39.cell? ⟨gb1403, 0, none⟩ = some (.slice Ao26 t1396.length co26) := (blk_cell BK1403.out 0).trans rfl
     have hcz54_1 : w39.cell? ⟨gb1403, 1, none⟩ = some (.slice Ao29 t1399.length co29) := (blk_cell BK1403.out 1).trans rfl
     have hfz54_0 := blk_frozen BK1403.out 0
     have hfz54_1 := blk_frozen BK1403.out 1
     go_wp2_with (first | ((with_reducible refine gate_callee (f := 78) rfl ?_); refine goesL_ (some 49) rfl rfl Try.func78 (by kernel_rfl) rfl #[.agg #[.slice Ao40 t1411.length co40, .slice Ao45 t1414.length co45], .agg #[.slice Ao26 t1396.length co26, .slice Ao29 t1399.length co29]] rfl (by (try simp only [List.map_toArray, List.map_cons, List.map_nil]); first | done | rfl | (simp only [List.length_drop, List.length_take]; rfl)) ?_; (with_reducible refine (laws_eqDisk.calls k _ _ t1411 _ _ t1414 _ _ t1396 _ _ t1399 true _ ?side1 ?side2 ?side3 ?side4 ?side5 ?side6 ?side7 ?side8 A46.out).mono ?_); (case side1 => refine (Kd.R_reads' (e := 9) (base := w.heap.size) (ok := fun k_ => ((True ∧ some k_ ≠ (.slice Ao26 t1396.length co26 : Value).ownBlock) ∧ some k_ ≠ (.slice Ao33 t1404.length co33 : Value).ownBlock)) (n := t1411.length) (c := co40) ?_).2.2; exact (by (with_reducible repeat (first | apply Kd.R_alloc | apply Kd.R_drewN | apply Kd.R_drew)); exact (Kd.R_mono (Kd.R_far (p := ⟨gb1418, 1, none⟩) (Kd.R_far (p := ⟨gb1418, 0, none⟩) (Kd.R_types HO1413.out BK1418.out (by decide)) (fun _ hk => hk.2) (.slice Ao40 t1411.length co40)) (fun _ hk => hk.2) (.slice Ao45 t1414.length co45)) (fun _ h_ => h_.1)))); (case side2 => exact (Kd.R_reads' HO1413.out).2.1); (case side3 => refine (Kd.R_reads' (e := 122) (base := w.heap.size) (ok := fun k_ => (((True ∧ some k_ ≠ (.slice Ao23 t1393.length co23 : Value).ownBlock) ∧ some k_ ≠ (.slice Ao29 t1399.length co29 : Value).ownBlock) ∧ some k_ ≠ (.slice Ao37 t1407.length co37 : Value).ownBlock)) (n := t1414.length) (c := co45) ?_).2.2; exact (by (with_reducible repeat (first | apply Kd.R_alloc | apply Kd.R_drewN | apply Kd.R_drew)); exact (Kd.R_mono (Kd.R_far (p := ⟨gb1418, 1, none⟩) (Kd.R_far (p := ⟨gb1418, 0, none⟩) (Kd.R_types HO1416.out BK1418.out (by decide)) (fun _ hk => hk.2) (.slice Ao40 t1411.length co40)) (fun _ hk => hk.2) (.slice Ao45 t1414.length co45)) (fun _ h_ => h_.1)))); (case side4 => exact (Kd.R_reads' HO1416.out).2.1); (case side5 => refine (Kd.R_reads' (e := 9) (base := w.heap.size) (ok := fun k_ => ((True ∧ some k_ ≠ (.slice Ao33 t1404.length co33 : Value).ownBlock) ∧ some k_ ≠ (.slice Ao40 t1411.length co40 : Value).ownBlock)) (n := t1396.length) (c := co26) ?_).2.2; exact (by (with_reducible repeat (first | apply Kd.R_alloc | apply Kd.R_drewN | apply Kd.R_drew)); exact (Kd.R_mono (Kd.R_far (p := ⟨gb1418, 1, none⟩) (Kd.R_far (p := ⟨gb1418, 0, none⟩) (Kd.R_types HO1398.out BK1418.out (by decide)) (fun _ hk => hk.2) (.slice Ao40 t1411.length co40)) (fun _ hk => hk.2) (.slice Ao45 t1414.length co45)) (fun _ h_ => h_.1)))); (case side6 => exact (Kd.R_reads' HO1398.out).2.1); (case side7 => refine (Kd.R_reads' (e := 122) (base := w.heap.size) (ok := fun k_ => ((some k_ ≠ (.slice Ao23 t1393.length co23 : Value).ownBlock ∧ some k_ ≠ (.slice Ao37 t1407.length co37 : Value).ownBlock) ∧ some k_ ≠ (.slice Ao45 t1414.length co45 : Value).ownBlock)) (n := t1399.length) (c := co29) ?_).2.2; exact (by (with_reducible repeat (first | apply Kd.R_alloc | apply Kd.R_drewN | apply Kd.R_drew)); exact (Kd.R_mono (Kd.R_far (p := ⟨gb1418, 1, none⟩) (Kd.R_far (p := ⟨gb1418, 0, none⟩) (Kd.R_types HO1401.out BK1418.out (by decide)) (fun _ hk => hk.2) (.slice Ao40 t1411.length co40)) (fun _ hk => hk.2) (.slice Ao45 t1414.length co45)) (fun _ h_ => h_.1)))); (case side8 => exact (Kd.R_reads' HO1401.out).2.1); rintro e w55 ⟨rfl, hb⟩; refine ⟨_, rfl, ?_⟩; have n0_ := Aside0.mk (Kd.R_below (by (with_reducible repeat (first | apply Kd.R_alloc | apply Kd.R_drewN | apply Kd.R_drew)); exact (Kd.R_mono (Kd.R_far (p := ⟨gb1418, 1, none⟩) (Kd.R_far (p := ⟨gb1418, 0, none⟩) (Kd.R_types HO1395.out BK1418.out (by decide)) (fun _ hk => hk.2) (.slice Ao40 t1411.length co40)) (fun _ hk => hk.2) (.slice Ao45 t1414.length co45)) (fun _ h_ => h_.1))) hb); have n1_ := Aside0.mk (Kd.R_below (by (with_reducible repeat (first | apply Kd.R_alloc | apply Kd.R_drewN | apply Kd.R_drew)); exact (Kd.R_mono (Kd.R_far (p := ⟨gb1418, 1, none⟩) (Kd.R_far (p := ⟨gb1418, 0, none⟩) (Kd.R_types HO1398.out BK1418.out (by decide)) (fun _ hk => hk.2) (.slice Ao40 t1411.length co40)) (fun _ hk => hk.2) (.slice Ao45 t1414.length co45)) (fun _ h_ => h_.1))) hb); have n2_ := Aside0.mk (Kd.R_below (by (with_reducible repeat (first | apply Kd.R_alloc | apply Kd.R_drewN | apply Kd.R_drew)); exact (Kd.R_mono (Kd.R_far (p := ⟨gb1418, 1, none⟩) (Kd.R_far (p := ⟨gb1418, 0, none⟩) (Kd.R_types HO1401.out BK1418.out (by decide)) (fun _ hk => hk.2) (.slice Ao40 t1411.length co40)) (fun _ hk => hk.2) (.slice Ao45 t1414.length co45)) (fun _ h_ => h_.1))) hb); have n3_ := Aside0.mk (Kd.R_below (by (with_reducible repeat (first | apply Kd.R_alloc | apply Kd.R_drewN | apply Kd.R_drew)); exact (Kd.R_mono (Kd.R_far (p := ⟨gb1418, 1, none⟩) (Kd.R_far (p := ⟨gb1418, 0, none⟩) (Kd.R_types HO1406.out BK1418.out (by decide)) (fun _ hk => hk.2) (.slice Ao40 t1411.length co40)) (fun _ hk => hk.2) (.slice Ao45 t1414.length co45)) (fun _ h_ => h_.1))) hb); have n4_ := Aside0.mk (Kd.R_below (by (with_reducible repeat (first | apply Kd.R_alloc | apply Kd.R_drewN | apply Kd.R_drew)); exact (Kd.R_mono (Kd.R_far (p := ⟨gb1418, 1, none⟩) (Kd.R_far (p := ⟨gb1418, 0, none⟩) (Kd.R_types HO1409.out BK1418.out (by decide)) (fun _ hk => hk.2) (.slice Ao40 t1411.length co40)) (fun _ hk => hk.2) (.slice Ao45 t1414.length co45)) (fun _ h_ => h_.1))) hb); have n5_ := Aside0.mk (Kd.R_below (by (with_reducible repeat (first | apply Kd.R_alloc | apply Kd.R_drewN | apply Kd.R_drew)); exact (Kd.R_mono (Kd.R_far (p := ⟨gb1418, 1, none⟩) (Kd.R_far (p := ⟨gb1418, 0, none⟩) (Kd.R_types HO1413.out BK1418.out (by decide)) (fun _ hk => hk.2) (.slice Ao40 t1411.length co40)) (fun _ hk => hk.2) (.slice Ao45 t1414.length co45)) (fun _ h_ => h_.1))) hb); have n6_ := Aside0.mk (Kd.R_below (by (with_reducible repeat (first | apply Kd.R_alloc | apply Kd.R_drewN | apply Kd.R_drew)); exact (Kd.R_mono (Kd.R_far (p := ⟨gb1418, 1, none⟩) (Kd.R_far (p := ⟨gb1418, 0, none⟩) (Kd.R_types HO1416.out BK1418.out (by decide)) (fun _ hk => hk.2) (.slice Ao40 t1411.length co40)) (fun _ hk => hk.2) (.slice Ao45 t1414.length co45)) (fun _ h_ => h_.1))) hb); have n7_ := Aside0.mk (blk_below (g := gb1388) (o := .cells #[.slice A0_0 l0_0.length c0_0, .slice A0_1 l0_1.length c0_1] 85 (0, 0)) (by (with_reducible repeat (first | refine blk_drewN ?_ _ | refine blk_drew ?_ | refine blk_alloc ?_ _)); refine blk_far ?_ NB1388_1418.out _; (with_reducible repeat (first | refine blk_drewN ?_ _ | refine blk_drew ?_ | refine blk_alloc ?_ _)); refine blk_far ?_ NB1388_1418.out _; (with_reducible repeat (first | refine blk_drewN ?_ _ | refine blk_drew ?_ | refine blk_alloc ?_ _)); exact BK1388.out) hb); have n8_ := Aside0.mk (blk_below (g := gb1403) (o := .cells #[.slice Ao26 t1396.length co26, .slice Ao29 t1399.length co29] 60 (0, 0)) (by (with_reducible repeat (first | refine blk_drewN ?_ _ | refine blk_drew ?_ | refine blk_alloc ?_ _)); refine blk_far ?_ NB1403_1418.out _; (with_reducible repeat (first | refine blk_drewN ?_ _ | refine blk_drew ?_ | refine blk_alloc ?_ _)); refine blk_far ?_ NB1403_1418.out _; (with_reducible repeat (first | refine blk_drewN ?_ _ | refine blk_drew ?_ | refine blk_alloc ?_ _)); exact BK1403.out) hb); have n9_ := Aside0.mk (blk_below (g := gb1410) (o := .cells #[.slice Ao33 t1404.length co33, .slice Ao37 t1407.length co37] 60 (0, 0)) (by (with_reducible repeat (first | refine blk_drewN ?_ _ | refine blk_drew ?_ | refine blk_alloc ?_ _)); refine blk_far ?_ NB1410_1418.out _; (with_reducible repeat (first | refine blk_drewN ?_ _ | refine blk_drew ?_ | refine blk_alloc ?_ _)); refine blk_far ?_ NB1410_1418.out _; (with_reducible repeat (first | refine blk_drewN ?_ _ | refine blk_drew ?_ | refine blk_alloc ?_ _)); exact BK1410.out) hb); have n10_ := Aside0.mk (blk_below (g := gb1418) (o := .cells #[.slice Ao40 t1411.length co40, .slice Ao45 t1414.length co45] 60 (0, 0)) (by (with_reducible repeat (first | refine blk_drewN ?_ _ | refine blk_drew ?_ | refine blk_alloc ?_ _)); refine blk_put (cs := #[.slice Ao40 t1411.length co40, .slice none 0 0]) ?_ 1 _ rfl; (with_reducible repeat (first | refine blk_drewN ?_ _ | refine blk_drew ?_ | refine blk_alloc ?_ _)); refine blk_put (cs := #[.slice none 0 0, .slice none 0 0]) ?_ 0 _ rfl; (with_reducible repeat (first | refine blk_drewN ?_ _ | refine blk_drew ?_ | refine blk_alloc ?_ _)); exact BK1418.out) hb); have n11_ := Aside0.mk (below_step (by repeat (first | (with_reducible first | exact HB.out | apply below_alloc | apply pw_below_drewN | apply below_drew1 | refine below_set ?_ GE1388.out | refine below_set ?_ GE1403.out | refine below_set ?_ GE1410.out | refine below_set ?_ GE1418.out) | exact HB.out)) hb); clear HO1395; clear HO1398; clear HO1401; clear HO1406; clear HO1409; clear HO1413; clear HO1416; clear BK1388; clear BK1403; clear BK1410; clear BK1418; clear HB; have HO1395 := n0_; have HO1398 := n1_; have HO1401 := n2_; have HO1406 := n3_; have HO1409 := n4_; have HO1413 := n5_; have HO1416 := n6_; have BK1388 := n7_; have BK1403 := n8_; have BK1410 := n9_; have BK1418 := n10_; have HB := n11_; clear n0_ n1_ n2_ n3_ n4_ n5_ n6_ n7_ n8_ n9_ n10_ n11_; (try clear hb); (try clear hb2); (try clear hk); (try clear hi)))
     go_meet
     case rel => exact ⟨_, ((t1417 != t1402)), (by first | rfl | (simp; done) | (simp [*]; done)), H', ⟨by first | omega | exact Nat.le_refl _⟩, ⟨by (with_reducible repeat (first | apply Kd.R_alloc | apply Kd.R_drewN | apply Kd.R_drew)); exact Kd.R_mono HO1398.out (fun _ hk => ⟨hk.1.2, hk.2⟩)⟩, ⟨by (with_reducible repeat (first | apply Kd.R_alloc | apply Kd.R_drewN | apply Kd.R_drew)); exact Kd.R_mono HO1401.out (fun _ hk => ⟨hk.1.2, hk.2⟩)⟩, ⟨by (with_reducible repeat (first | apply Kd.R_alloc | apply Kd.R_drewN | apply Kd.R_drew)); exact Kd.R_mono HO1406.out (fun _ hk => ⟨hk.1.2, hk.2⟩)⟩, ⟨by (with_reducible repeat (first | apply Kd.R_alloc | apply Kd.R_drewN | apply Kd.R_drew)); exact Kd.R_mono HO1409.out (fun _ hk => ⟨hk.1.2, hk.2⟩)⟩, ⟨by (with_reducible repeat (first | apply Kd.R_alloc | apply Kd.R_drewN | apply Kd.R_drew)); exact Kd.R_mono HO1413.out (fun _ hk => ⟨hk.1.2, hk.2⟩)⟩, ⟨by (with_reducible repeat (first | apply Kd.R_alloc | apply Kd.R_drewN | apply Kd.R_drew)); exact Kd.R_mono HO1416.out (fun _ hk => ⟨hk.1.2, hk.2⟩)⟩, ⟨by (with_reducible repeat (first | refine blk_drewN ?_ _ | refine blk_drew ?_ | refine blk_alloc ?_ _)); exact BK1388.out⟩, ⟨by (with_reducible repeat (first | refine blk_drewN ?_ _ | refine blk_drew ?_ | refine blk_alloc ?_ _)); exact BK1403.out⟩, ⟨by (with_reducible repeat (first | refine blk_drewN ?_ _ | refine blk_drew ?_ | refine blk_alloc ?_ _)); exact BK1410.out⟩, ⟨by (with_reducible repeat (first | refine blk_drewN ?_ _ | refine blk_drew ?_ | refine blk_alloc ?_ _)); exact BK1418.out⟩, ⟨by repeat (first | (with_reducible first | exact HB.out | apply below_alloc | apply pw_below_drewN | apply below_drew1 | refine below_set ?_ GE1388.out | refine below_set ?_ GE1403.out | refine below_set ?_ GE1410.out | refine below_set ?_ GE1418.out) | exact HB.out)⟩⟩
    ·replace c47 := Bool.eq_false_iff.mpr c47
     subst c47
     have H1 : (laws_FnExactWriteSector.j0 k a1 a2 a3 t1402 t1417 true l0_0 l0_1 t1396 t1399 t1404 t1407 t1411 t1414) = some r := by rw [if_neg (show ¬ (false = true) by decide)] at H; exact H
     clear H
     have H := H1
     clear H1
     have H' := Aside0.mk H
     clear H
     have hnb56 := NB1418_1388.out
     have hnc56 := NB1388_1418.out
     have hnb57 := NB1418_1403.out
     have hnc57 := NB1403_1418.out
     have hnb58 := NB1418_1410.out
     have hnc58 := NB1410_1418.out
     have hcz59_0 : w39.cell? ⟨gb1418, 0, none⟩ = some (.slice none 0 0) := (blk_cell BK1418.out 0).trans rfl
     have hcz59_1 : w39.cell? ⟨gb1418, 1, none⟩ = some (.slice none 0 0) := (blk_cell BK1418.out 1).trans rfl
     have hfz59_0 := blk_frozen BK1418.out 0
     have hfz59_1 := blk_frozen BK1418.out 1
     have hnb60 := NB1403_1388.out
     have hnc60 := NB1388_1403.out
     have hnb61 := NB1403_1410.out
     have hnc61 := NB1410_1403.out
     have hcz62_0 : w39.cell? ⟨gb1403, 0, none⟩ = some (.slice Ao26 t1396.length co26) := (blk_cell BK1403.out 0).trans rfl
     have hcz62_1 : w39.cell? ⟨gb1403, 1, none⟩ = some (.slice Ao29 t1399.length co29) := (blk_cell BK1403.out 1).trans rfl
     have hfz62_0 := blk_frozen BK1403.out 0
     have hfz62_1 := blk_frozen BK1403.out 1
     go_wp2_with (first | ((with_reducible refine gate_callee (f := 78) rfl ?_); refine goesL_ (some 49) rfl rfl Try.func78 (by kernel_rfl) rfl #[.agg #[.slice Ao40 t1411.length co40, .slice Ao45 t1414.length co45], .agg #[.slice Ao26 t1396.length co26, .slice Ao29 t1399.length co29]] rfl (by (try simp only [List.map_toArray, List.map_cons, List.map_nil]); first | done | rfl | (simp only [List.length_drop, List.length_take]; rfl)) ?_; (with_reducible refine (laws_eqDisk.calls k _ _ t1411 _ _ t1414 _ _ t1396 _ _ t1399 false _ ?side1 ?side2 ?side3 ?side4 ?side5 ?side6 ?side7 ?side8 A46.out).mono ?_); (case side1 => refine (Kd.R_reads' (e := 9) (base := w.heap.size) (ok := fun k_ => ((True ∧ some k_ ≠ (.slice Ao26 t1396.length co26 : Value).ownBlock) ∧ some k_ ≠ (.slice Ao33 t1404.length co33 : Value).ownBlock)) (n := t1411.length) (c := co40) ?_).2.2; exact (by (with_reducible repeat (first | apply Kd.R_alloc | apply Kd.R_drewN | apply Kd.R_drew)); exact (Kd.R_mono (Kd.R_far (p := ⟨gb1418, 1, none⟩) (Kd.R_far (p := ⟨gb1418, 0, none⟩) (Kd.R_types HO1413.out BK1418.out (by decide)) (fun _ hk => hk.2) (.slice Ao40 t1411.length co40)) (fun _ hk => hk.2) (.slice Ao45 t1414.length co45)) (fun _ h_ => h_.1)))); (case side2 => exact (Kd.R_reads' HO1413.out).2.1); (case side3 => refine (Kd.R_reads' (e := 122) (base := w.heap.size) (ok := fun k_ => (((True ∧ some k_ ≠ (.slice Ao23 t1393.length co23 : Value).ownBlock) ∧ some k_ ≠ (.slice Ao29 t1399.length co29 : Value).ownBlock) ∧ some k_ ≠ (.slice Ao37 t1407.length co37 : Value).ownBlock)) (n := t1414.length) (c := co45) ?_).2.2; exact (by (with_reducible repeat (first | apply Kd.R_alloc | apply Kd.R_drewN | apply Kd.R_drew)); exact (Kd.R_mono (Kd.R_far (p := ⟨gb1418, 1, none⟩) (Kd.R_far (p := ⟨gb1418, 0, none⟩) (Kd.R_types HO1416.out BK1418.out (by decide)) (fun _ hk => hk.2) (.slice Ao40 t1411.length co40)) (fun _ hk => hk.2) (.slice Ao45 t1414.length co45)) (fun _ h_ => h_.1)))); (case side4 => exact (Kd.R_reads' HO1416.out).2.1); (case side5 => refine (Kd.R_reads' (e := 9) (base := w.heap.size) (ok := fun k_ => ((True ∧ some k_ ≠ (.slice Ao33 t1404.length co33 : Value).ownBlock) ∧ some k_ ≠ (.slice Ao40 t1411.length co40 : Value).ownBlock)) (n := t1396.length) (c := co26) ?_).2.2; exact (by (with_reducible repeat (first | apply Kd.R_alloc | apply Kd.R_drewN | apply Kd.R_drew)); exact (Kd.R_mono (Kd.R_far (p := ⟨gb1418, 1, none⟩) (Kd.R_far (p := ⟨gb1418, 0, none⟩) (Kd.R_types HO1398.out BK1418.out (by decide)) (fun _ hk => hk.2) (.slice Ao40 t1411.length co40)) (fun _ hk => hk.2) (.slice Ao45 t1414.length co45)) (fun _ h_ => h_.1)))); (case side6 => exact (Kd.R_reads' HO1398.out).2.1); (case side7 => refine (Kd.R_reads' (e := 122) (base := w.heap.size) (ok := fun k_ => ((some k_ ≠ (.slice Ao23 t1393.length co23 : Value).ownBlock ∧ some k_ ≠ (.slice Ao37 t1407.length co37 : Value).ownBlock) ∧ some k_ ≠ (.slice Ao45 t1414.length co45 : Value).ownBlock)) (n := t1399.length) (c := co29) ?_).2.2; exact (by (with_reducible repeat (first | apply Kd.R_alloc | apply Kd.R_drewN | apply Kd.R_drew)); exact (Kd.R_mono (Kd.R_far (p := ⟨gb1418, 1, none⟩) (Kd.R_far (p := ⟨gb1418, 0, none⟩) (Kd.R_types HO1401.out BK1418.out (by decide)) (fun _ hk => hk.2) (.slice Ao40 t1411.length co40)) (fun _ hk => hk.2) (.slice Ao45 t1414.length co45)) (fun _ h_ => h_.1)))); (case side8 => exact (Kd.R_reads' HO1401.out).2.1); rintro e w63 ⟨rfl, hb⟩; refine ⟨_, rfl, ?_⟩; have n0_ := Aside0.mk (Kd.R_below (by (with_reducible repeat (first | apply Kd.R_alloc | apply Kd.R_drewN | apply Kd.R_drew)); exact (Kd.R_mono (Kd.R_far (p := ⟨gb1418, 1, none⟩) (Kd.R_far (p := ⟨gb1418, 0, none⟩) (Kd.R_types HO1395.out BK1418.out (by decide)) (fun _ hk => hk.2) (.slice Ao40 t1411.length co40)) (fun _ hk => hk.2) (.slice Ao45 t1414.length co45)) (fun _ h_ => h_.1))) hb); have n1_ := Aside0.mk (Kd.R_below (by (with_reducible repeat (first | apply Kd.R_alloc | apply Kd.R_drewN | apply Kd.R_drew)); exact (Kd.R_mono (Kd.R_far (p := ⟨gb1418, 1, none⟩) (Kd.R_far (p := ⟨gb1418, 0, none⟩) (Kd.R_types HO1398.out BK1418.out (by decide)) (fun _ hk => hk.2) (.slice Ao40 t1411.length co40)) (fun _ hk => hk.2) (.slice Ao45 t1414.length co45)) (fun _ h_ => h_.1))) hb); have n2_ := Aside0.mk (Kd.R_below (by (with_reducible repeat (first | apply Kd.R_alloc | apply Kd.R_drewN | apply Kd.R_drew)); exact (Kd.R_mono (Kd.R_far (p := ⟨gb1418, 1, none⟩) (Kd.R_far (p := ⟨gb1418, 0, none⟩) (Kd.R_types HO1401.out BK1418.out (by decide)) (fun _ hk => hk.2) (.slice Ao40 t1411.length co40)) (fun _ hk => hk.2) (.slice Ao45 t1414.length co45)) (fun _ h_ => h_.1))) hb); have n3_ := Aside0.mk (Kd.R_below (by (with_reducible repeat (first | apply Kd.R_alloc | apply Kd.R_drewN | apply Kd.R_drew)); exact (Kd.R_mono (Kd.R_far (p := ⟨gb1418, 1, none⟩) (Kd.R_far (p := ⟨gb1418, 0, none⟩) (Kd.R_types HO1406.out BK1418.out (by decide)) (fun _ hk => hk.2) (.slice Ao40 t1411.length co40)) (fun _ hk => hk.2) (.slice Ao45 t1414.length co45)) (fun _ h_ => h_.1))) hb); have n4_ := Aside0.mk (Kd.R_below (by (with_reducible repeat (first | apply Kd.R_alloc | apply Kd.R_drewN | apply Kd.R_drew)); exact (Kd.R_mono (Kd.R_far (p := ⟨gb1418, 1, none⟩) (Kd.R_far (p := ⟨gb1418, 0, none⟩) (Kd.R_types HO1409.out BK1418.out (by decide)) (fun _ hk => hk.2) (.slice Ao40 t1411.length co40)) (fun _ hk => hk.2) (.slice Ao45 t1414.length co45)) (fun _ h_ => h_.1))) hb); have n5_ := Aside0.mk (Kd.R_below (by (with_reducible repeat (first | apply Kd.R_alloc | apply Kd.R_drewN | apply Kd.R_drew)); exact (Kd.R_mono (Kd.R_far (p := ⟨gb1418, 1, none⟩) (Kd.R_far (p := ⟨gb1418, 0, none⟩) (Kd.R_types HO1413.out BK1418.out (by decide)) (fun _ hk => hk.2) (.slice Ao40 t1411.length co40)) (fun _ hk => hk.2) (.slice Ao45 t1414.length co45)) (fun _ h_ => h_.1))) hb); have n6_ := Aside0.mk (Kd.R_below (by (with_reducible repeat (first | apply Kd.R_alloc | apply Kd.R_drewN | apply Kd.R_drew)); exact (Kd.R_mono (Kd.R_far (p := ⟨gb1418, 1, none⟩) (Kd.R_far (p := ⟨gb1418, 0, none⟩) (Kd.R_types HO1416.out BK1418.out (by decide)) (fun _ hk => hk.2) (.slice Ao40 t1411.length co40)) (fun _ hk => hk.2) (.slice Ao45 t1414.length co45)) (fun _ h_ => h_.1))) hb); have n7_ := Aside0.mk (blk_below (g := gb1388) (o := .cells #[.slice A0_0 l0_0.length c0_0, .slice A0_1 l0_1.length c0_1] 85 (0, 0)) (by (with_reducible repeat (first | refine blk_drewN ?_ _ | refine blk_drew ?_ | refine blk_alloc ?_ _)); refine blk_far ?_ NB1388_1418.out _; (with_reducible repeat (first | refine blk_drewN ?_ _ | refine blk_drew ?_ | refine blk_alloc ?_ _)); refine blk_far ?_ NB1388_1418.out _; (with_reducible repeat (first | refine blk_drewN ?_ _ | refine blk_drew ?_ | refine blk_alloc ?_ _)); exact BK1388.out) hb); have n8_ := Aside0.mk (blk_below (g := gb1403) (o := .cells #[.slice Ao26 t1396.length co26, .slice Ao29 t1399.length co29] 60 (0, 0)) (by (with_reducible repeat (first | refine blk_drewN ?_ _ | refine blk_drew ?_ | refine blk_alloc ?_ _)); refine blk_far ?_ NB1403_1418.out _; (with_reducible repeat (first | refine blk_drewN ?_ _ | refine blk_drew ?_ | refine blk_alloc ?_ _)); refine blk_far ?_ NB1403_1418.out _; (with_reducible repeat (first | refine blk_drewN ?_ _ | refine blk_drew ?_ | refine blk_alloc ?_ _)); exact BK1403.out) hb); have n9_ := Aside0.mk (blk_below (g := gb1410) (o := .cells #[.slice Ao33 t1404.length co33, .slice Ao37 t1407.length co37] 60 (0, 0)) (by (with_reducible repeat (first | refine blk_drewN ?_ _ | refine blk_drew ?_ | refine blk_alloc ?_ _)); refine blk_far ?_ NB1410_1418.out _; (with_reducible repeat (first | refine blk_drewN ?_ _ | refine blk_drew ?_ | refine blk_alloc ?_ _)); refine blk_far ?_ NB1410_1418.out _; (with_reducible repeat (first | refine blk_drewN ?_ _ | refine blk_drew ?_ | refine blk_alloc ?_ _)); exact BK1410.out) hb); have n10_ := Aside0.mk (blk_below (g := gb1418) (o := .cells #[.slice Ao40 t1411.length co40, .slice Ao45 t1414.length co45] 60 (0, 0)) (by (with_reducible repeat (first | refine blk_drewN ?_ _ | refine blk_drew ?_ | refine blk_alloc ?_ _)); refine blk_put (cs := #[.slice Ao40 t1411.length co40, .slice none 0 0]) ?_ 1 _ rfl; (with_reducible repeat (first | refine blk_drewN ?_ _ | refine blk_drew ?_ | refine blk_alloc ?_ _)); refine blk_put (cs := #[.slice none 0 0, .slice none 0 0]) ?_ 0 _ rfl; (with_reducible repeat (first | refine blk_drewN ?_ _ | refine blk_drew ?_ | refine blk_alloc ?_ _)); exact BK1418.out) hb); have n11_ := Aside0.mk (below_step (by repeat (first | (with_reducible first | exact HB.out | apply below_alloc | apply pw_below_drewN | apply below_drew1 | refine below_set ?_ GE1388.out | refine below_set ?_ GE1403.out | refine below_set ?_ GE1410.out | refine below_set ?_ GE1418.out) | exact HB.out)) hb); clear HO1395; clear HO1398; clear HO1401; clear HO1406; clear HO1409; clear HO1413; clear HO1416; clear BK1388; clear BK1403; clear BK1410; clear BK1418; clear HB; have HO1395 := n0_; have HO1398 := n1_; have HO1401 := n2_; have HO1406 := n3_; have HO1409 := n4_; have HO1413 := n5_; have HO1416 := n6_; have BK1388 := n7_; have BK1403 := n8_; have BK1410 := n9_; have BK1418 := n10_; have HB := n11_; clear n0_ n1_ n2_ n3_ n4_ n5_ n6_ n7_ n8_ n9_ n10_ n11_; (try clear hb); (try clear hb2); (try clear hk); (try clear hi)))
     go_meet
     case rel => exact ⟨_, (true), (by first | rfl | (simp; done) | (simp [*]; done)), H', ⟨by first | omega | exact Nat.le_refl _⟩, ⟨by (with_reducible repeat (first | apply Kd.R_alloc | apply Kd.R_drewN | apply Kd.R_drew)); exact Kd.R_mono HO1398.out (fun _ hk => ⟨hk.1.2, hk.2⟩)⟩, ⟨by (with_reducible repeat (first | apply Kd.R_alloc | apply Kd.R_drewN | apply Kd.R_drew)); exact Kd.R_mono HO1401.out (fun _ hk => ⟨hk.1.2, hk.2⟩)⟩, ⟨by (with_reducible repeat (first | apply Kd.R_alloc | apply Kd.R_drewN | apply Kd.R_drew)); exact Kd.R_mono HO1406.out (fun _ hk => ⟨hk.1.2, hk.2⟩)⟩, ⟨by (with_reducible repeat (first | apply Kd.R_alloc | apply Kd.R_drewN | apply Kd.R_drew)); exact Kd.R_mono HO1409.out (fun _ hk => ⟨hk.1.2, hk.2⟩)⟩, ⟨by (with_reducible repeat (first | apply Kd.R_alloc | apply Kd.R_drewN | apply Kd.R_drew)); exact Kd.R_mono HO1413.out (fun _ hk => ⟨hk.1.2, hk.2⟩)⟩, ⟨by (with_reducible repeat (first | apply Kd.R_alloc | apply Kd.R_drewN | apply Kd.R_drew)); exact Kd.R_mono HO1416.out (fun _ hk => ⟨hk.1.2, hk.2⟩)⟩, ⟨by (with_reducible repeat (first | refine blk_drewN ?_ _ | refine blk_drew ?_ | refine blk_alloc ?_ _)); exact BK1388.out⟩, ⟨by (with_reducible repeat (first | refine blk_drewN ?_ _ | refine blk_drew ?_ | refine blk_alloc ?_ _)); exact BK1403.out⟩, ⟨by (with_reducible repeat (first | refine blk_drewN ?_ _ | refine blk_drew ?_ | refine blk_alloc ?_ _)); exact BK1410.out⟩, ⟨by (with_reducible repeat (first | refine blk_drewN ?_ _ | refine blk_drew ?_ | refine blk_alloc ?_ _)); exact BK1418.out⟩, ⟨by repeat (first | (with_reducible first | exact HB.out | apply below_alloc | apply pw_below_drewN | apply below_drew1 | refine below_set ?_ GE1388.out | refine below_set ?_ GE1403.out | refine below_set ?_ GE1410.out | refine below_set ?_ GE1418.out) | exact HB.out)⟩⟩
   case rest =>
    clear HC16
    try clear c1
    try clear c2
    try clear p2
    try clear c3
    try clear c4
    try clear c5
    try clear c5b0
    try clear c5b1
    try clear c6
    try clear c7
    try clear c8
    try clear c8b0
    try clear c14
    try clear c27
    try clear c34
    try clear c35
    try clear c41
    try clear c42
    try clear c43
    try clear c47
    try clear c48
    try clear c49
    try clear c50
    try clear c52
    try clear c53
    try clear c56
    try clear c57
    try clear c58
    try clear c60
    try clear c61
    try clear hcz10_0
    try clear hcz10_1
    try clear hcz18_0
    try clear hcz18_1
    try clear hcz20_0
    try clear hcz20_1
    try clear hcz28_0
    try clear hcz28_1
    try clear hcz30_0
    try clear hcz30_1
    try clear hcz36_0
    try clear hcz36_1
    try clear hcz44_0
    try clear hcz44_1
    try clear hcz51_0
    try clear hcz51_1
    try clear hcz54_0
    try clear hcz54_1
    try clear hcz59_0
    try clear hcz59_1
    try clear hcz62_0
    try clear hcz62_1
    try clear hfz10_0
    try clear hfz10_1
    try clear hfz18_0
    try clear hfz18_1
    try clear hfz20_0
    try clear hfz20_1
    try clear hfz28_0
    try clear hfz28_1
    try clear hfz30_0
    try clear hfz30_1
    try clear hfz36_0
    try clear hfz36_1
    try clear hfz44_0
    try clear hfz44_1
    try clear hfz51_0
    try clear hfz51_1
    try clear hfz54_0
    try clear hfz54_1
    try clear hfz59_0
    try clear hfz59_1
    try clear hfz62_0
    try clear hfz62_1
    obtain ⟨kq, x55_15, rfl, HA, HJ15, HO_1404000, HO_1404001, HO_1411000, HO_1411001, HO_1419000, HO_1419001, BK1388, BK1403, BK1410, BK1418, HB⟩ := hcut
    cases kq with
    | zero => exact absurd HA.out (by simp [laws_FnExactWriteSector.j0])
    | succ kj15 =>
     have H := HA.out
     clear HA
     simp only [laws_FnExactWriteSector.j0] at H
     by_cases c64 : x55_15 = true
     ·subst c64
      have H1 : (some false) = some r := by rw [if_pos rfl] at H; exact H
      clear H
      have H := H1
      clear H1
      obtain rfl := Option.some.inj H
      go_wp2
      go_ret
      exact ⟨by first | rfl | (simp [errW_none, errW_some] <;> rfl) | (simp [*, errW_none, errW_some] <;> rfl), by repeat (first | (with_reducible first | exact HB.out | apply below_alloc | apply pw_below_drewN | apply below_drew1 | refine below_set ?_ GE1388.out | refine below_set ?_ GE1403.out | refine below_set ?_ GE1410.out | refine below_set ?_ GE1418.out) | exact HB.out)⟩
     ·replace c64 := Bool.eq_false_iff.mpr c64
      subst c64
      have H1 : ((laws_toDisk.f kj15 l0_0 l0_1).bind fun bt1420 => ((laws_eqDisk.f kj15 t1404 t1407 bt1420.1 bt1420.2).bind fun t1426 => (if t1426 = true then ((laws_markDisk.f kj15 t1404 t1407 1).bind fun bt1427 => (if bt1427.1 < 0 then (laws_FnExactWriteSector.j1 kj15 a1 a2 a3 t1402 true l0_0 l0_1 t1396 t1399 t1411 t1414) else ((laws_eqDisk.f kj15 t1411 t1414 t1396 t1399).bind fun t1430 => (if t1430 = true then (laws_FnExactWriteSector.j1 kj15 a1 a2 a3 t1402 (t1417 != t1402) l0_0 l0_1 t1396 t1399 t1411 t1414) else (laws_FnExactWriteSector.j1 kj15 a1 a2 a3 t1402 true l0_0 l0_1 t1396 t1399 t1411 t1414))))) else (some false)))) = some r := by rw [if_neg (show ¬ (false = true) by decide)] at H; exact H
      clear H
      have H := H1
      clear H1
      replace H := Option.bind_eq_some_iff.mp H
      obtain ⟨⟨t1420, t1423⟩, A650, H⟩ := H
      replace H : ((laws_eqDisk.f kj15 t1404 t1407 t1420 t1423).bind fun t1426 => (if t1426 = true then ((laws_markDisk.f kj15 t1404 t1407 1).bind fun bt1427 => (if bt1427.1 < 0 then (laws_FnExactWriteSector.j1 kj15 a1 a2 a3 t1402 true l0_0 l0_1 t1396 t1399 t1411 t1414) else ((laws_eqDisk.f kj15 t1411 t1414 t1396 t1399).bind fun t1430 => (if t1430 = true then (laws_FnExactWriteSector.j1 kj15 a1 a2 a3 t1402 (t1417 != t1402) l0_0 l0_1 t1396 t1399 t1411 t1414) else (laws_FnExactWriteSector.j1 kj15 a1 a2 a3 t1402 true l0_0 l0_1 t1396 t1399 t1411 t1414))))) else (some false))) = some r := H
      have A65 := Aside0.mk A650
      clear A650
      replace H := Option.bind_eq_some_iff.mp H
      obtain ⟨t1426, A660, H⟩ := H
      replace H : (if t1426 = true then ((laws_markDisk.f kj15 t1404 t1407 1).bind fun bt1427 => (if bt1427.1 < 0 then (laws_FnExactWriteSector.j1 kj15 a1 a2 a3 t1402 true l0_0 l0_1 t1396 t1399 t1411 t1414) else ((laws_eqDisk.f kj15 t1411 t1414 t1396 t1399).bind fun t1430 => (if t1430 = true then (laws_FnExactWriteSector.j1 kj15 a1 a2 a3 t1402 (t1417 != t1402) l0_0 l0_1 t1396 t1399 t1411 t1414) else (laws_FnExactWriteSector.j1 kj15 a1 a2 a3 t1402 true l0_0 l0_1 t1396 t1399 t1411 t1414))))) else (some false)) = some r := H
      have A66 := Aside0.mk A660
      clear A660
      by_cases c67 : t1426 = true
      ·subst c67
       have H1 : ((laws_markDisk.f kj15 t1404 t1407 1).bind fun bt1427 => (if bt1427.1 < 0 then (laws_FnExactWriteSector.j1 kj15 a1 a2 a3 t1402 true l0_0 l0_1 t1396 t1399 t1411 t1414) else ((laws_eqDisk.f kj15 t1411 t1414 t1396 t1399).bind fun t1430 => (if t1430 = true then (laws_FnExactWriteSector.j1 kj15 a1 a2 a3 t1402 (t1417 != t1402) l0_0 l0_1 t1396 t1399 t1411 t1414) else (laws_FnExactWriteSector.j1 kj15 a1 a2 a3 t1402 true l0_0 l0_1 t1396 t1399 t1411 t1414))))) = some r := by rw [if_pos rfl] at H; exact H
       clear H
       have H := H1
       clear H1
       replace H := Option.bind_eq_some_iff.mp H
       obtain ⟨⟨t1427, t1428, t1429⟩, A680, H⟩ := H
       replace H : (if t1427 < 0 then (laws_FnExactWriteSector.j1 kj15 a1 a2 a3 t1402 true l0_0 l0_1 t1396 t1399 t1411 t1414) else ((laws_eqDisk.f kj15 t1411 t1414 t1396 t1399).bind fun t1430 => (if t1430 = true then (laws_FnExactWriteSector.j1 kj15 a1 a2 a3 t1402 (t1417 != t1402) l0_0 l0_1 t1396 t1399 t1411 t1414) else (laws_FnExactWriteSector.j1 kj15 a1 a2 a3 t1402 true l0_0 l0_1 t1396 t1399 t1411 t1414)))) = some r := H
       have A68 := Aside0.mk A680
       clear A680
       have HC69 := Aside0.mk H
       clear H
       try go_wp2
       have n0_ := Aside0.mk (Kd.R_drew HO_1404000.out)
       have n1_ := Aside0.mk (Kd.R_drew HO_1404001.out)
       have n2_ := Aside0.mk (Kd.R_drew HO_1411000.out)
       have n3_ := Aside0.mk (Kd.R_drew HO_1411001.out)
       have n4_ := Aside0.mk (Kd.R_drew HO_1419000.out)
       have n5_ := Aside0.mk (Kd.R_drew HO_1419001.out)
       have n6_ := Aside0.mk (blk_drew BK1388.out)
       have n7_ := Aside0.mk (blk_drew BK1403.out)
       have n8_ := Aside0.mk (blk_drew BK1410.out)
       have n9_ := Aside0.mk (blk_drew BK1418.out)
       have n10_ := Aside0.mk (below_drew1 HB.out)
       clear HO_1404000
       clear HO_1404001
       clear HO_1411000
       clear HO_1411001
       clear HO_1419000
       clear HO_1419001
       clear BK1388
       clear BK1403
       clear BK1410
       clear BK1418
       clear HB
       have HO_1404000 := n0_
       have HO_1404001 := n1_
       have HO_1411000 := n2_
       have HO_1411001 := n3_
       have HO_1419000 := n4_
       have HO_1419001 := n5_
       have BK1388 := n6_
       have BK1403 := n7_
       have BK1410 := n8_
       have BK1418 := n9_
       have HB := n10_
       clear n0_ n1_ n2_ n3_ n4_ n5_ n6_ n7_ n8_ n9_ n10_
       refine start_ (n := 5) (S := fun w' => w'.cell? ⟨gb1410, 0, none⟩ = some (.slice Ao33 t1404.length co33) ∧ w'.cell? ⟨gb1410, 1, none⟩ = some (.slice Ao37 t1407.length co37) ∧ w'.cell? ⟨gb1388, 0, none⟩ = some (.slice A0_0 l0_0.length c0_0) ∧ w'.cell? ⟨gb1388, 1, none⟩ = some (.slice A0_1 l0_1.length c0_1)) (ds := []) #[false, false, false, false, false] (by kernel_rfl) rfl rfl ⟨(blk_cell BK1410.out 0).trans rfl, (blk_cell BK1410.out 1).trans rfl, (blk_cell BK1388.out 0).trans rfl, (blk_cell BK1388.out 1).trans rfl⟩ (fun hHeld => ?_)
       generalize wc.drew = w70 at HO_1404000 HO_1404001 HO_1411000 HO_1411001 HO_1419000 HO_1419001 BK1388 BK1403 BK1410 BK1418 HB hHeld ⊢
       refine take_ (i := 0) (N := some 56) (v := ?_) (a' := ?_) #[true, false, false, false, false] rfl rfl (by kernel_rfl) (fun _ _ _ h => h) (Or.inl ⟨by rfl, ?_⟩) hHeld ?_ ?_
       rotate_left
       ·rintro w' ⟨s0, s1, s2, s3⟩
        go_simp
        with_reducible rfl
       rotate_left
       ·simp only [Act.put, List.setIfInBounds_toArray, List.set_cons_zero, List.set_cons_succ, i64_w, i32_w]
        rfl
       refine take_ (i := 1) (N := some 57) (v := ?_) (a' := ?_) #[true, true, false, false, false] rfl rfl (by kernel_rfl) (fun _ _ _ h => h) (Or.inl ⟨by rfl, ?_⟩) hHeld ?_ ?_
       rotate_left
       ·rintro w' ⟨s0, s1, s2, s3⟩
        go_simp
        with_reducible rfl
       rotate_left
       ·simp only [Act.put, List.setIfInBounds_toArray, List.set_cons_zero, List.set_cons_succ, i64_w, i32_w]
        rfl
       refine one_ (i := 2) (N := some 58) #[true, true, true, false, false] rfl rfl (by kernel_rfl) (by decide) (fun K hK => ?_)
       refine goes_ Try.func77 (by kernel_rfl) rfl #[.agg #[.slice A0_0 l0_0.length c0_0, .slice A0_1 l0_1.length c0_1]] (by rfl) rfl rfl (by (try simp only [List.map_toArray, List.map_cons, List.map_nil]); first | done | rfl | (simp only [List.length_drop, List.length_take]; rfl)) ?_
       with_reducible refine (laws_toDisk.calls kj15 _ _ l0_0 _ _ l0_1 t1420 t1423 _ ?side1 ?side2 ?side3 ?side4 A65.out).mono ?_
       (case side1 => repeat (first | exact (Kd.C_below HR0_0.out HB.out) | (with_reducible refine Kd.C_alloc ?_ _) | (with_reducible refine Kd.C_drewN ?_ _) | (with_reducible refine Kd.C_drew ?_)))
       (case side2 => exact HC0_0.out)
       (case side3 => repeat (first | exact (Kd.C_below HR0_1.out HB.out) | (with_reducible refine Kd.C_alloc ?_ _) | (with_reducible refine Kd.C_drewN ?_ _) | (with_reducible refine Kd.C_drew ?_)))
       (case side4 => exact HC0_1.out)
       rintro e w71 ⟨v1421, v1424, rfl, ho0, ho1, hb⟩
       refine ⟨_, rfl, ?_⟩
       have n0_ := Aside0.mk (Kd.R_elder' (by (with_reducible repeat (first | apply Kd.R_alloc | apply Kd.R_drewN | apply Kd.R_drew)); exact HO_1404000.out) (Kd.R_base ho0) hb)
       have n1_ := Aside0.mk (Kd.R_elder' (by (with_reducible repeat (first | apply Kd.R_alloc | apply Kd.R_drewN | apply Kd.R_drew)); exact HO_1404001.out) (Kd.R_base ho1) hb)
       have n2_ := Aside0.mk (Kd.R_elder' (by (with_reducible repeat (first | apply Kd.R_alloc | apply Kd.R_drewN | apply Kd.R_drew)); exact HO_1411000.out) (Kd.R_base ho0) hb)
       have n3_ := Aside0.mk (Kd.R_elder' (by (with_reducible repeat (first | apply Kd.R_alloc | apply Kd.R_drewN | apply Kd.R_drew)); exact HO_1411001.out) (Kd.R_base ho1) hb)
       have n4_ := Aside0.mk (Kd.R_elder' (by (with_reducible repeat (first | apply Kd.R_alloc | apply Kd.R_drewN | apply Kd.R_drew)); exact HO_1419000.out) (Kd.R_base ho0) hb)
       have n5_ := Aside0.mk (Kd.R_elder' (by (with_reducible repeat (first | apply Kd.R_alloc | apply Kd.R_drewN | apply Kd.R_drew)); exact HO_1419001.out) (Kd.R_base ho1) hb)
       have n6_ := Aside0.mk (Kd.R_lower (Kd.R_new' (Kd.R_new' (Kd.R_new' ho0 (Kd.R_lt (by (with_reducible repeat (first | apply Kd.R_alloc | apply Kd.R_drewN | apply Kd.R_drew)); exact HO_1404000.out))) (Kd.R_lt (by (with_reducible repeat (first | apply Kd.R_alloc | apply Kd.R_drewN | apply Kd.R_drew)); exact HO_1411000.out))) (Kd.R_lt (by (with_reducible repeat (first | apply Kd.R_alloc | apply Kd.R_drewN | apply Kd.R_drew)); exact HO_1419000.out))) (below_size (by repeat (first | (with_reducible first | exact HB.out | apply below_alloc | apply pw_below_drewN | apply below_drew1 | refine below_set ?_ GE1388.out | refine below_set ?_ GE1403.out | refine below_set ?_ GE1410.out | refine below_set ?_ GE1418.out) | exact HB.out))))
       have n7_ := Aside0.mk (Kd.R_lower (Kd.R_new' (Kd.R_new' (Kd.R_new' ho1 (Kd.R_lt (by (with_reducible repeat (first | apply Kd.R_alloc | apply Kd.R_drewN | apply Kd.R_drew)); exact HO_1404001.out))) (Kd.R_lt (by (with_reducible repeat (first | apply Kd.R_alloc | apply Kd.R_drewN | apply Kd.R_drew)); exact HO_1411001.out))) (Kd.R_lt (by (with_reducible repeat (first | apply Kd.R_alloc | apply Kd.R_drewN | apply Kd.R_drew)); exact HO_1419001.out))) (below_size (by repeat (first | (with_reducible first | exact HB.out | apply below_alloc | apply pw_below_drewN | apply below_drew1 | refine below_set ?_ GE1388.out | refine below_set ?_ GE1403.out | refine below_set ?_ GE1410.out | refine below_set ?_ GE1418.out) | exact HB.out))))
       have n8_ := Aside0.mk (blk_below (g := gb1388) (o := .cells #[.slice A0_0 l0_0.length c0_0, .slice A0_1 l0_1.length c0_1] 85 (0, 0)) (by (with_reducible repeat (first | refine blk_drewN ?_ _ | refine blk_drew ?_ | refine blk_alloc ?_ _)); exact BK1388.out) hb)
       have n9_ := Aside0.mk (blk_below (g := gb1403) (o := .cells #[.slice Ao26 t1396.length co26, .slice Ao29 t1399.length co29] 60 (0, 0)) (by (with_reducible repeat (first | refine blk_drewN ?_ _ | refine blk_drew ?_ | refine blk_alloc ?_ _)); exact BK1403.out) hb)
       have n10_ := Aside0.mk (blk_below (g := gb1410) (o := .cells #[.slice Ao33 t1404.length co33, .slice Ao37 t1407.length co37] 60 (0, 0)) (by (with_reducible repeat (first | refine blk_drewN ?_ _ | refine blk_drew ?_ | refine blk_alloc ?_ _)); exact BK1410.out) hb)
       have n11_ := Aside0.mk (blk_below (g := gb1418) (o := .cells #[.slice Ao40 t1411.length co40, .slice Ao45 t1414.length co45] 60 (0, 0)) (by (with_reducible repeat (first | refine blk_drewN ?_ _ | refine blk_drew ?_ | refine blk_alloc ?_ _)); exact BK1418.out) hb)
       have n12_ := Aside0.mk (below_step (by repeat (first | (with_reducible first | exact HB.out | apply below_alloc | apply pw_below_drewN | apply below_drew1 | refine below_set ?_ GE1388.out | refine below_set ?_ GE1403.out | refine below_set ?_ GE1410.out | refine below_set ?_ GE1418.out) | exact HB.out)) hb)
       clear HO_1404000
       clear HO_1404001
       clear HO_1411000
       clear HO_1411001
       clear HO_1419000
       clear HO_1419001
       clear BK1388
       clear BK1403
       clear BK1410
       clear BK1418
       clear HB
       have HO_1404000 := n0_
       have HO_1404001 := n1_
       have HO_1411000 := n2_
       have HO_1411001 := n3_
       have HO_1419000 := n4_
       have HO_1419001 := n5_
       have HO1422 := n6_
       have HO1425 := n7_
       have BK1388 := n8_
       have BK1403 := n9_
       have BK1410 := n10_
       have BK1418 := n11_
       have HB := n12_
       clear n0_ n1_ n2_ n3_ n4_ n5_ n6_ n7_ n8_ n9_ n10_ n11_ n12_
       (try clear hb)
       (try clear hb2)
       (try clear hk)
       (try clear hi)
       (try clear ho0)
       (try clear ho1)
       obtain ⟨Ao72, co72, eo72⟩ := Kd.R_slice HO1422.out
       (first | subst eo72 | (injection eo72 with f1_ f2_ f3_; have f4_ := f1_.symm; have f5_ := f3_.symm; clear f1_ f2_ f3_; subst f4_; subst f5_))
       obtain ⟨Ao73, co73, eo73⟩ := Kd.R_slice HO1425.out
       (first | subst eo73 | (injection eo73 with f1_ f2_ f3_; have f4_ := f1_.symm; have f5_ := f3_.symm; clear f1_ f2_ f3_; subst f4_; subst f5_))
       refine hK.out _ _ ⟨(blk_cell BK1410.out 0).trans rfl, (blk_cell BK1410.out 1).trans rfl, (blk_cell BK1388.out 0).trans rfl, (blk_cell BK1388.out 1).trans rfl⟩ (fun hHeld => ?_)
       clear hK K
       refine norm_ (a' := ?_) ?_ ?_
       rotate_left
       ·show Act.put _ (some 58) _ = _
        simp only [Act.put, List.setIfInBounds_toArray, List.set_cons_zero, List.set_cons_succ, i64_w, i32_w]
        rfl
       refine one_ (i := 3) (N := some 59) #[true, true, true, true, false] rfl rfl (by kernel_rfl) (by decide) (fun K hK => ?_)
       refine goes_ Try.func78 (by kernel_rfl) rfl #[.agg #[.slice Ao33 t1404.length co33, .slice Ao37 t1407.length co37], .agg #[.slice Ao72 t1420.length co72, .slice Ao73 t1423.length co73]] (by rfl) rfl rfl (by (try simp only [List.map_toArray, List.map_cons, List.map_nil]); first | done | rfl | (simp only [List.length_drop, List.length_take]; rfl)) ?_
       with_reducible refine (laws_eqDisk.calls kj15 _ _ t1404 _ _ t1407 _ _ t1420 _ _ t1423 true _ ?side1 ?side2 ?side3 ?side4 ?side5 ?side6 ?side7 ?side8 A66.out).mono ?_
       (case side1 => repeat (first | exact (Kd.R_reads' HO_1411000.out).2.2 | (with_reducible refine Kd.C_alloc ?_ _) | (with_reducible refine Kd.C_drewN ?_ _) | (with_reducible refine Kd.C_drew ?_)))
       (case side2 => exact (Kd.R_reads' HO_1411000.out).2.1)
       (case side3 => repeat (first | exact (Kd.R_reads' HO_1411001.out).2.2 | (with_reducible refine Kd.C_alloc ?_ _) | (with_reducible refine Kd.C_drewN ?_ _) | (with_reducible refine Kd.C_drew ?_)))
       (case side4 => exact (Kd.R_reads' HO_1411001.out).2.1)
       (case side5 => repeat (first | exact (Kd.R_reads' HO1422.out).2.2 | (with_reducible refine Kd.C_alloc ?_ _) | (with_reducible refine Kd.C_drewN ?_ _) | (with_reducible refine Kd.C_drew ?_)))
       (case side6 => exact (Kd.R_reads' HO1422.out).2.1)
       (case side7 => repeat (first | exact (Kd.R_reads' HO1425.out).2.2 | (with_reducible refine Kd.C_alloc ?_ _) | (with_reducible refine Kd.C_drewN ?_ _) | (with_reducible refine Kd.C_drew ?_)))
       (case side8 => exact (Kd.R_reads' HO1425.out).2.1)
       rintro e w74 ⟨rfl, hb⟩
       refine ⟨_, rfl, ?_⟩
       have n0_ := Aside0.mk (Kd.R_below (by (with_reducible repeat (first | apply Kd.R_alloc | apply Kd.R_drewN | apply Kd.R_drew)); exact HO_1404000.out) hb)
       have n1_ := Aside0.mk (Kd.R_below (by (with_reducible repeat (first | apply Kd.R_alloc | apply Kd.R_drewN | apply Kd.R_drew)); exact HO_1404001.out) hb)
       have n2_ := Aside0.mk (Kd.R_below (by (with_reducible repeat (first | apply Kd.R_alloc | apply Kd.R_drewN | apply Kd.R_drew)); exact HO_1411000.out) hb)
       have n3_ := Aside0.mk (Kd.R_below (by (with_reducible repeat (first | apply Kd.R_alloc | apply Kd.R_drewN | apply Kd.R_drew)); exact HO_1411001.out) hb)
       have n4_ := Aside0.mk (Kd.R_below (by (with_reducible repeat (first | apply Kd.R_alloc | apply Kd.R_drewN | apply Kd.R_drew)); exact HO_1419000.out) hb)
       have n5_ := Aside0.mk (Kd.R_below (by (with_reducible repeat (first | apply Kd.R_alloc | apply Kd.R_drewN | apply Kd.R_drew)); exact HO_1419001.out) hb)
       have n6_ := Aside0.mk (Kd.R_below (by (with_reducible repeat (first | apply Kd.R_alloc | apply Kd.R_drewN | apply Kd.R_drew)); exact HO1422.out) hb)
       have n7_ := Aside0.mk (Kd.R_below (by (with_reducible repeat (first | apply Kd.R_alloc | apply Kd.R_drewN | apply Kd.R_drew)); exact HO1425.out) hb)
       have n8_ := Aside0.mk (blk_below (g := gb1388) (o := .cells #[.slice A0_0 l0_0.length c0_0, .slice A0_1 l0_1.length c0_1] 85 (0, 0)) (by (with_reducible repeat (first | refine blk_drewN ?_ _ | refine blk_drew ?_ | refine blk_alloc ?_ _)); exact BK1388.out) hb)
       have n9_ := Aside0.mk (blk_below (g := gb1403) (o := .cells #[.slice Ao26 t1396.length co26, .slice Ao29 t1399.length co29] 60 (0, 0)) (by (with_reducible repeat (first | refine blk_drewN ?_ _ | refine blk_drew ?_ | refine blk_alloc ?_ _)); exact BK1403.out) hb)
       have n10_ := Aside0.mk (blk_below (g := gb1410) (o := .cells #[.slice Ao33 t1404.length co33, .slice Ao37 t1407.length co37] 60 (0, 0)) (by (with_reducible repeat (first | refine blk_drewN ?_ _ | refine blk_drew ?_ | refine blk_alloc ?_ _)); exact BK1410.out) hb)
       have n11_ := Aside0.mk (blk_below (g := gb1418) (o := .cells #[.slice Ao40 t1411.length co40, .slice Ao45 t1414.length co45] 60 (0, 0)) (by (with_reducible repeat (first | refine blk_drewN ?_ _ | refine blk_drew ?_ | refine blk_alloc ?_ _)); exact BK1418.out) hb)
       have n12_ := Aside0.mk (below_step (by repeat (first | (with_reducible first | exact HB.out | apply below_alloc | apply pw_below_drewN | apply below_drew1 | refine below_set ?_ GE1388.out | refine below_set ?_ GE1403.out | refine below_set ?_ GE1410.out | refine below_set ?_ GE1418.out) | exact HB.out)) hb)
       clear HO_1404000
       clear HO_1404001
       clear HO_1411000
       clear HO_1411001
       clear HO_1419000
       clear HO_1419001
       clear HO1422
       clear HO1425
       clear BK1388
       clear BK1403
       clear BK1410
       clear BK1418
       clear HB
       have HO_1404000 := n0_
       have HO_1404001 := n1_
       have HO_1411000 := n2_
       have HO_1411001 := n3_
       have HO_1419000 := n4_
       have HO_1419001 := n5_
       have HO1422 := n6_
       have HO1425 := n7_
       have BK1388 := n8_
       have BK1403 := n9_
       have BK1410 := n10_
       have BK1418 := n11_
       have HB := n12_
       clear n0_ n1_ n2_ n3_ n4_ n5_ n6_ n7_ n8_ n9_ n10_ n11_ n12_
       (try clear hb)
       (try clear hb2)
       (try clear hk)
       (try clear hi)
       refine hK.out _ _ ⟨(blk_cell BK1410.out 0).trans rfl, (blk_cell BK1410.out 1).trans rfl, (blk_cell BK1388.out 0).trans rfl, (blk_cell BK1388.out 1).trans rfl⟩ (fun hHeld => ?_)
       clear hK K
       refine norm_ (a' := ?_) ?_ ?_
       rotate_left
       ·show Act.put _ (some 59) _ = _
        simp only [Act.put, List.setIfInBounds_toArray, List.set_cons_zero, List.set_cons_succ, i64_w, i32_w]
        rfl
       refine pure_ (i := 4) (N := some 60) (v := ?_) (a' := ?_) #[true, true, true, true, true] rfl rfl (by kernel_rfl) (fun _ _ _ h => h) (Or.inl ⟨by rfl, ?_⟩) ?_ ?_
       rotate_left
       ·intro w'
        go_simp
        with_reducible rfl
       rotate_left
       ·simp only [Act.put, List.setIfInBounds_toArray, List.set_cons_zero, List.set_cons_succ, i64_w, i32_w]
        rfl
       refine done_ (by kernel_rfl) ?_
       have hnb75 := NB1410_1388.out
       have hnc75 := NB1388_1410.out
       have hnb76 := NB1410_1403.out
       have hnc76 := NB1403_1410.out
       have hnb77 := NB1410_1418.out
       have hnc77 := NB1418_1410.out
       have hcz78_0 : w74.cell? ⟨gb1410, 0, none⟩ = some (.slice Ao33 t1404.length co33) := (blk_cell BK1410.out 0).trans rfl
       have hcz78_1 : w74.cell? ⟨gb1410, 1, none⟩ = some (.slice Ao37 t1407.length co37) := (blk_cell BK1410.out 1).trans rfl
       have hfz78_0 := blk_frozen BK1410.out 0
       have hfz78_1 := blk_frozen BK1410.out 1
       go_upto_region 16 with (first | ((with_reducible refine gate_callee (f := 79) rfl ?_); refine goesL_ (some 63) rfl rfl Try.func79 (by kernel_rfl) rfl #[.agg #[.slice Ao33 t1404.length co33, .slice Ao37 t1407.length co37], .int .i64 1] rfl (by (try simp only [List.map_toArray, List.map_cons, List.map_nil]); first | done | rfl | (simp only [List.length_drop, List.length_take]; rfl)) ?_; (with_reducible refine (laws_markDisk.calls kj15 (fun k_ => some k_ = (.slice Ao33 t1404.length co33 : Value).ownBlock) (.slice Ao33 t1404.length co33) t1404 (fun k_ => some k_ = (.slice Ao37 t1407.length co37 : Value).ownBlock) (.slice Ao37 t1407.length co37) t1407 1 t1427 t1428 t1429 w _ ?side1 ?side2 ?side3 A68.out).mono ?_); (case side1 => repeat (first | (with_reducible first | exact HB.out | apply below_alloc | apply pw_below_drewN | apply below_drew1 | refine below_set ?_ GE1388.out | refine below_set ?_ GE1403.out | refine below_set ?_ GE1410.out | refine below_set ?_ GE1418.out) | exact HB.out)); (case side2 => exact Kd.R_tight rfl HO_1411000.out); (case side3 => exact Kd.R_tight rfl HO_1411001.out); rintro e w79 ⟨rfl, hy0, hy1, hb, hkp⟩; refine ⟨_, rfl, ?_⟩; have n0_ := Aside0.mk (Kd.R_mono (ok' := fun k_ => some k_ ≠ (.slice Ao33 t1404.length co33 : Value).ownBlock ∧ some k_ ≠ (.slice Ao40 t1411.length co40 : Value).ownBlock ∧ some k_ ≠ (.slice Ao72 t1420.length co72 : Value).ownBlock) (Kd.R_keptB ((Kd.R_apart' HO_1404000.out (Kd.R_typed HO_1411001.out) (by decide))) hkp (fun k_ hk_ hs_ => Or.elim hs_ (fun e_ => (hk_.1.1.1) e_) (fun e_ => (hk_.2) e_))) (fun k_ hk_ => ⟨hk_.1.1.1.1, hk_.1.1.1.2, hk_.1.1.2⟩)); have n1_ := Aside0.mk (Kd.R_mono (ok' := fun k_ => some k_ ≠ (.slice Ao37 t1407.length co37 : Value).ownBlock ∧ some k_ ≠ (.slice Ao45 t1414.length co45 : Value).ownBlock ∧ some k_ ≠ (.slice Ao73 t1423.length co73 : Value).ownBlock) (Kd.R_keptB ((Kd.R_apart' HO_1404001.out (Kd.R_typed HO_1411000.out) (by decide))) hkp (fun k_ hk_ hs_ => Or.elim hs_ (fun e_ => (hk_.2) e_) (fun e_ => (hk_.1.1.1) e_))) (fun k_ hk_ => ⟨hk_.1.1.1.1, hk_.1.1.1.2, hk_.1.1.2⟩)); have n2_ := Aside0.mk (Kd.R_reok rfl hy0 (fun k_ e_ => HO_1411000.out.1 k_ e_)); have n3_ := Aside0.mk (Kd.R_reok rfl hy1 (fun k_ e_ => HO_1411001.out.1 k_ e_)); have n4_ := Aside0.mk (Kd.R_mono (ok' := fun k_ => some k_ ≠ (.slice Ao26 t1396.length co26 : Value).ownBlock ∧ some k_ ≠ (.slice Ao33 t1404.length co33 : Value).ownBlock ∧ some k_ ≠ (.slice Ao72 t1420.length co72 : Value).ownBlock) (Kd.R_keptB ((Kd.R_apart' HO_1419000.out (Kd.R_typed HO_1411001.out) (by decide))) hkp (fun k_ hk_ hs_ => Or.elim hs_ (fun e_ => (hk_.1.1.2) e_) (fun e_ => (hk_.2) e_))) (fun k_ hk_ => ⟨hk_.1.1.1.1, hk_.1.1.1.2, hk_.1.1.2⟩)); have n5_ := Aside0.mk (Kd.R_mono (ok' := fun k_ => some k_ ≠ (.slice Ao29 t1399.length co29 : Value).ownBlock ∧ some k_ ≠ (.slice Ao37 t1407.length co37 : Value).ownBlock ∧ some k_ ≠ (.slice Ao73 t1423.length co73 : Value).ownBlock) (Kd.R_keptB ((Kd.R_apart' HO_1419001.out (Kd.R_typed HO_1411000.out) (by decide))) hkp (fun k_ hk_ hs_ => Or.elim hs_ (fun e_ => (hk_.2) e_) (fun e_ => (hk_.1.1.2) e_))) (fun k_ hk_ => ⟨hk_.1.1.1.1, hk_.1.1.1.2, hk_.1.1.2⟩)); have n6_ := Aside0.mk (blk_kept (by (with_reducible repeat (first | refine blk_drewN ?_ _ | refine blk_drew ?_ | refine blk_alloc ?_ _)); exact BK1388.out) hkp (fun hs_ => Or.elim hs_ (fun e_ => (fun e_ => (Kd.R_ne HO_1411000.out BK1388.out (by decide)) e_) e_) (fun e_ => (fun e_ => (Kd.R_ne HO_1411001.out BK1388.out (by decide)) e_) e_))); have n7_ := Aside0.mk (blk_kept (by (with_reducible repeat (first | refine blk_drewN ?_ _ | refine blk_drew ?_ | refine blk_alloc ?_ _)); exact BK1403.out) hkp (fun hs_ => Or.elim hs_ (fun e_ => (fun e_ => (Kd.R_ne HO_1411000.out BK1403.out (by decide)) e_) e_) (fun e_ => (fun e_ => (Kd.R_ne HO_1411001.out BK1403.out (by decide)) e_) e_))); have n8_ := Aside0.mk (blk_kept (by (with_reducible repeat (first | refine blk_drewN ?_ _ | refine blk_drew ?_ | refine blk_alloc ?_ _)); exact BK1410.out) hkp (fun hs_ => Or.elim hs_ (fun e_ => (fun e_ => (Kd.R_ne HO_1411000.out BK1410.out (by decide)) e_) e_) (fun e_ => (fun e_ => (Kd.R_ne HO_1411001.out BK1410.out (by decide)) e_) e_))); have n9_ := Aside0.mk (blk_kept (by (with_reducible repeat (first | refine blk_drewN ?_ _ | refine blk_drew ?_ | refine blk_alloc ?_ _)); exact BK1418.out) hkp (fun hs_ => Or.elim hs_ (fun e_ => (fun e_ => (Kd.R_ne HO_1411000.out BK1418.out (by decide)) e_) e_) (fun e_ => (fun e_ => (Kd.R_ne HO_1411001.out BK1418.out (by decide)) e_) e_))); have n10_ := Aside0.mk (Kd.R_mono (ok' := fun k_ => some k_ ≠ (.slice Ao26 t1396.length co26 : Value).ownBlock ∧ some k_ ≠ (.slice Ao33 t1404.length co33 : Value).ownBlock ∧ some k_ ≠ (.slice Ao40 t1411.length co40 : Value).ownBlock) (Kd.R_keptB ((Kd.R_apart' HO1422.out (Kd.R_typed HO_1411001.out) (by decide))) hkp (fun k_ hk_ hs_ => Or.elim hs_ (fun e_ => (hk_.1.1.2) e_) (fun e_ => (hk_.2) e_))) (fun k_ hk_ => ⟨hk_.1.1.1.1.2, hk_.1.1.1.2, hk_.1.1.2⟩)); have n11_ := Aside0.mk (Kd.R_mono (ok' := fun k_ => some k_ ≠ (.slice Ao29 t1399.length co29 : Value).ownBlock ∧ some k_ ≠ (.slice Ao37 t1407.length co37 : Value).ownBlock ∧ some k_ ≠ (.slice Ao45 t1414.length co45 : Value).ownBlock) (Kd.R_keptB ((Kd.R_apart' HO1425.out (Kd.R_typed HO_1411000.out) (by decide))) hkp (fun k_ hk_ hs_ => Or.elim hs_ (fun e_ => (hk_.2) e_) (fun e_ => (hk_.1.1.2) e_))) (fun k_ hk_ => ⟨hk_.1.1.1.1.2, hk_.1.1.1.2, hk_.1.1.2⟩)); have n12_ := Aside0.mk (hb); clear HO_1404000; clear HO_1404001; clear HO_1411000; clear HO_1411001; clear HO_1419000; clear HO_1419001; clear BK1388; clear BK1403; clear BK1410; clear BK1418; clear HO1422; clear HO1425; clear HB; have HO_1404000 := n0_; have HO_1404001 := n1_; have HO_1411000 := n2_; have HO_1411001 := n3_; have HO_1419000 := n4_; have HO_1419001 := n5_; have BK1388 := n6_; have BK1403 := n7_; have BK1410 := n8_; have BK1418 := n9_; have HO1422 := n10_; have HO1425 := n11_; have HB := n12_; clear n0_ n1_ n2_ n3_ n4_ n5_ n6_ n7_ n8_ n9_ n10_ n11_ n12_; (try clear hb); (try clear hkp); (try clear hy0); (try clear hy1)))
       (try simp only [Act.put, List.setIfInBounds_toArray, List.set_cons_zero, List.set_cons_succ])
       go_cut [76] (fun v76 wc => ∃ (kq : Nat) (x76_68 : Bool), v76 = .bool x76_68 ∧ Aside0 (laws_FnExactWriteSector.j1 kq a1 a2 a3 t1402 x76_68 l0_0 l0_1 t1396 t1399 t1411 t1414 = some r) ∧ Aside0 (kq ≤ kj15) ∧ Aside0 (Kd.R Kd.string 9 wc w.heap.size (fun k_ => some k_ ≠ ((.slice Ao33 t1404.length co33) : Value).ownBlock ∧ some k_ ≠ ((.slice Ao40 t1411.length co40) : Value).ownBlock) (.slice Ao26 t1396.length co26) t1396) ∧ Aside0 (Kd.R k122 122 wc w.heap.size (fun k_ => some k_ ≠ ((.slice Ao37 t1407.length co37) : Value).ownBlock ∧ some k_ ≠ ((.slice Ao45 t1414.length co45) : Value).ownBlock) (.slice Ao29 t1399.length co29) t1399) ∧ Aside0 (Kd.R Kd.string 9 wc w.heap.size (fun k_ => some k_ ≠ ((.slice Ao26 t1396.length co26) : Value).ownBlock ∧ some k_ ≠ ((.slice Ao40 t1411.length co40) : Value).ownBlock) (.slice Ao33 t1404.length co33) t1428) ∧ Aside0 (Kd.R k122 122 wc w.heap.size (fun k_ => some k_ ≠ ((.slice Ao29 t1399.length co29) : Value).ownBlock ∧ some k_ ≠ ((.slice Ao45 t1414.length co45) : Value).ownBlock) (.slice Ao37 t1407.length co37) t1429) ∧ Aside0 (Kd.R Kd.string 9 wc w.heap.size (fun k_ => some k_ ≠ ((.slice Ao26 t1396.length co26) : Value).ownBlock ∧ some k_ ≠ ((.slice Ao33 t1404.length co33) : Value).ownBlock) (.slice Ao40 t1411.length co40) t1411) ∧ Aside0 (Kd.R k122 122 wc w.heap.size (fun k_ => some k_ ≠ ((.slice Ao29 t1399.length co29) : Value).ownBlock ∧ some k_ ≠ ((.slice Ao37 t1407.length co37) : Value).ownBlock) (.slice Ao45 t1414.length co45) t1414) ∧ Aside0 (wc.heap[gb1388]? = some (.cells #[(.slice A0_0 l0_0.length c0_0), (.slice A0_1 l0_1.length c0_1)] 85 (0, 0))) ∧ Aside0 (wc.heap[gb1403]? = some (.cells #[(.slice Ao26 t1396.length co26), (.slice Ao29 t1399.length co29)] 60 (0, 0))) ∧ Aside0 (wc.heap[gb1410]? = some (.cells #[(.slice Ao33 t1404.length co33), (.slice Ao37 t1407.length co37)] 60 (0, 0))) ∧ Aside0 (wc.heap[gb1418]? = some (.cells #[(.slice Ao40 t1411.length co40), (.slice Ao45 t1414.length co45)] 60 (0, 0))) ∧ Aside0 (Below w.heap.size w wc))
       case first =>
        have H := HC69.out
        clear HC69
        by_cases c80 : t1427 < 0
        ·rw [if_pos c80] at H
         have c80b0 : decide (t1427 < 0) = true := decide_eq_true c80
         clear c80
         (first | rw [c80b0] | (simp only [i64_w, i32_w]; rw [c80b0]) | skip)
         have H' := Aside0.mk H
         clear H
         go_wp2
         go_meet
         case rel => exact ⟨_, (true), (by first | rfl | (simp; done) | (simp [*]; done)), H', ⟨by have := HJ15.out; first | omega | exact Nat.le_refl _⟩, ⟨by (with_reducible repeat (first | apply Kd.R_alloc | apply Kd.R_drewN | apply Kd.R_drew)); exact Kd.R_mono HO_1404000.out (fun _ hk => ⟨hk.1, hk.2.1⟩)⟩, ⟨by (with_reducible repeat (first | apply Kd.R_alloc | apply Kd.R_drewN | apply Kd.R_drew)); exact Kd.R_mono HO_1404001.out (fun _ hk => ⟨hk.1, hk.2.1⟩)⟩, ⟨by (with_reducible repeat (first | apply Kd.R_alloc | apply Kd.R_drewN | apply Kd.R_drew)); exact Kd.R_mono HO_1411000.out (fun _ hk => ⟨hk.1.1, hk.1.2⟩)⟩, ⟨by (with_reducible repeat (first | apply Kd.R_alloc | apply Kd.R_drewN | apply Kd.R_drew)); exact Kd.R_mono HO_1411001.out (fun _ hk => ⟨hk.1.1, hk.1.2⟩)⟩, ⟨by (with_reducible repeat (first | apply Kd.R_alloc | apply Kd.R_drewN | apply Kd.R_drew)); exact Kd.R_mono HO_1419000.out (fun _ hk => ⟨hk.1, hk.2.1⟩)⟩, ⟨by (with_reducible repeat (first | apply Kd.R_alloc | apply Kd.R_drewN | apply Kd.R_drew)); exact Kd.R_mono HO_1419001.out (fun _ hk => ⟨hk.1, hk.2.1⟩)⟩, ⟨by (with_reducible repeat (first | refine blk_drewN ?_ _ | refine blk_drew ?_ | refine blk_alloc ?_ _)); exact BK1388.out⟩, ⟨by (with_reducible repeat (first | refine blk_drewN ?_ _ | refine blk_drew ?_ | refine blk_alloc ?_ _)); exact BK1403.out⟩, ⟨by (with_reducible repeat (first | refine blk_drewN ?_ _ | refine blk_drew ?_ | refine blk_alloc ?_ _)); exact BK1410.out⟩, ⟨by (with_reducible repeat (first | refine blk_drewN ?_ _ | refine blk_drew ?_ | refine blk_alloc ?_ _)); exact BK1418.out⟩, ⟨by repeat (first | (with_reducible first | exact HB.out | apply below_alloc | apply pw_below_drewN | apply below_drew1 | refine below_set ?_ GE1388.out | refine below_set ?_ GE1403.out | refine below_set ?_ GE1410.out | refine below_set ?_ GE1418.out) | exact HB.out)⟩⟩
        ·rw [if_neg c80] at H
         have c80b0 : decide (t1427 < 0) = false := decide_eq_false c80
         clear c80
         (first | rw [c80b0] | (simp only [i64_w, i32_w]; rw [c80b0]) | skip)
         replace H := Option.bind_eq_some_iff.mp H
         obtain ⟨t1430, A810, H⟩ := H
         replace H : (if t1430 = true then (laws_FnExactWriteSector.j1 kj15 a1 a2 a3 t1402 (t1417 != t1402) l0_0 l0_1 t1396 t1399 t1411 t1414) else (laws_FnExactWriteSector.j1 kj15 a1 a2 a3 t1402 true l0_0 l0_1 t1396 t1399 t1411 t1414)) = some r := H
         have A81 := Aside0.mk A810
         clear A810
         by_cases c82 : t1430 = true
         ·subst c82
          have H1 : (laws_FnExactWriteSector.j1 kj15 a1 a2 a3 t1402 (t1417 != t1402) l0_0 l0_1 t1396 t1399 t1411 t1414) = some r := by rw [if_pos rfl] at H; exact H
          clear H
          have H := H1
          clear H1
          have H' := Aside0.mk H
          clear H
          have hnb83 := NB1418_1388.out
          have hnc83 := NB1388_1418.out
          have hnb84 := NB1418_1403.out
          have hnc84 := NB1403_1418.out
          have hnb85 := NB1418_1410.out
          have hnc85 := NB1410_1418.out
          have hcz86_0 : w79.cell? ⟨gb1418, 0, none⟩ = some (.slice Ao40 t1411.length co40) := (blk_cell BK1418.out 0).trans rfl
          have hcz86_1 : w79.cell? ⟨gb1418, 1, none⟩ = some (.slice Ao45 t1414.length co45) := (blk_cell BK1418.out 1).trans rfl
          have hfz86_0 := blk_frozen BK1418.out 0
          have hfz86_1 := blk_frozen BK1418.out 1
          have hnb87 := NB1403_1388.out
          have hnc87 := NB1388_1403.out
          have hnb88 := NB1403_1410.out
          have hnc88 := NB1410_1403.out
          have hcz89_0 : w79.cell? ⟨gb1403, 0, none⟩ = some (.slice Ao26 t1396.length co26) := (blk_cell BK1403.out 0).trans rfl
          have hcz89_1 : w79.cell? ⟨gb1403, 1, none⟩ = some (.slice Ao29 t1399.length co29) := (blk_cell BK1403.out 1).trans rfl
          have hfz89_0 := blk_frozen BK1403.out 0
          have hfz89_1 := blk_frozen BK1403.out 1
          go_wp2_with (first | (go_at_call 78; (with_reducible refine (laws_eqDisk.calls kj15 _ _ t1411 _ _ t1414 _ _ t1396 _ _ t1399 true _ ?side1 ?side2 ?side3 ?side4 ?side5 ?side6 ?side7 ?side8 A81.out).mono ?_); (case side1 => repeat (first | exact (Kd.R_reads' HO_1419000.out).2.2 | (with_reducible refine Kd.C_alloc ?_ _) | (with_reducible refine Kd.C_drewN ?_ _) | (with_reducible refine Kd.C_drew ?_))); (case side2 => exact (Kd.R_reads' HO_1419000.out).2.1); (case side3 => repeat (first | exact (Kd.R_reads' HO_1419001.out).2.2 | (with_reducible refine Kd.C_alloc ?_ _) | (with_reducible refine Kd.C_drewN ?_ _) | (with_reducible refine Kd.C_drew ?_))); (case side4 => exact (Kd.R_reads' HO_1419001.out).2.1); (case side5 => repeat (first | exact (Kd.R_reads' HO_1404000.out).2.2 | (with_reducible refine Kd.C_alloc ?_ _) | (with_reducible refine Kd.C_drewN ?_ _) | (with_reducible refine Kd.C_drew ?_))); (case side6 => exact (Kd.R_reads' HO_1404000.out).2.1); (case side7 => repeat (first | exact (Kd.R_reads' HO_1404001.out).2.2 | (with_reducible refine Kd.C_alloc ?_ _) | (with_reducible refine Kd.C_drewN ?_ _) | (with_reducible refine Kd.C_drew ?_))); (case side8 => exact (Kd.R_reads' HO_1404001.out).2.1); rintro e w90 ⟨rfl, hb⟩; have n0_ := Aside0.mk (Kd.R_below (by (with_reducible repeat (first | apply Kd.R_alloc | apply Kd.R_drewN | apply Kd.R_drew)); exact HO_1404000.out) hb); have n1_ := Aside0.mk (Kd.R_below (by (with_reducible repeat (first | apply Kd.R_alloc | apply Kd.R_drewN | apply Kd.R_drew)); exact HO_1404001.out) hb); have n2_ := Aside0.mk (Kd.R_below (by (with_reducible repeat (first | apply Kd.R_alloc | apply Kd.R_drewN | apply Kd.R_drew)); exact HO_1411000.out) hb); have n3_ := Aside0.mk (Kd.R_below (by (with_reducible repeat (first | apply Kd.R_alloc | apply Kd.R_drewN | apply Kd.R_drew)); exact HO_1411001.out) hb); have n4_ := Aside0.mk (Kd.R_below (by (with_reducible repeat (first | apply Kd.R_alloc | apply Kd.R_drewN | apply Kd.R_drew)); exact HO_1419000.out) hb); have n5_ := Aside0.mk (Kd.R_below (by (with_reducible repeat (first | apply Kd.R_alloc | apply Kd.R_drewN | apply Kd.R_drew)); exact HO_1419001.out) hb); have n6_ := Aside0.mk (Kd.R_below (by (with_reducible repeat (first | apply Kd.R_alloc | apply Kd.R_drewN | apply Kd.R_drew)); exact HO1422.out) hb); have n7_ := Aside0.mk (Kd.R_below (by (with_reducible repeat (first | apply Kd.R_alloc | apply Kd.R_drewN | apply Kd.R_drew)); exact HO1425.out) hb); have n8_ := Aside0.mk (blk_below (g := gb1388) (o := .cells #[.slice A0_0 l0_0.length c0_0, .slice A0_1 l0_1.length c0_1] 85 (0, 0)) (by (with_reducible repeat (first | refine blk_drewN ?_ _ | refine blk_drew ?_ | refine blk_alloc ?_ _)); exact BK1388.out) hb); have n9_ := Aside0.mk (blk_below (g := gb1403) (o := .cells #[.slice Ao26 t1396.length co26, .slice Ao29 t1399.length co29] 60 (0, 0)) (by (with_reducible repeat (first | refine blk_drewN ?_ _ | refine blk_drew ?_ | refine blk_alloc ?_ _)); exact BK1403.out) hb); have n10_ := Aside0.mk (blk_below (g := gb1410) (o := .cells #[.slice Ao33 t1404.length co33, .slice Ao37 t1407.length co37] 60 (0, 0)) (by (with_reducible repeat (first | refine blk_drewN ?_ _ | refine blk_drew ?_ | refine blk_alloc ?_ _)); exact BK1410.out) hb); have n11_ := Aside0.mk (blk_below (g := gb1418) (o := .cells #[.slice Ao40 t1411.length co40, .slice Ao45 t1414.length co45] 60 (0, 0)) (by (with_reducible repeat (first | refine blk_drewN ?_ _ | refine blk_drew ?_ | refine blk_alloc ?_ _)); exact BK1418.out) hb); have n12_ := Aside0.mk (below_step (by repeat (first | (with_reducible first | exact HB.out | apply below_alloc | apply pw_below_drewN | apply below_drew1 | refine below_set ?_ GE1388.out | refine below_set ?_ GE1403.out | refine below_set ?_ GE1410.out | refine below_set ?_ GE1418.out) | exact HB.out)) hb); clear HO_1404000; clear HO_1404001; clear HO_1411000; clear HO_1411001; clear HO_1419000; clear HO_1419001; clear HO1422; clear HO1425; clear BK1388; clear BK1403; clear BK1410; clear BK1418; clear HB; have HO_1404000 := n0_; have HO_1404001 := n1_; have HO_1411000 := n2_; have HO_1411001 := n3_; have HO_1419000 := n4_; have HO_1419001 := n5_; have HO1422 := n6_; have HO1425 := n7_; have BK1388 := n8_; have BK1403 := n9_; have BK1410 := n10_; have BK1418 := n11_; have HB := n12_; clear n0_ n1_ n2_ n3_ n4_ n5_ n6_ n7_ n8_ n9_ n10_ n11_ n12_; (try clear hb); (try clear hb2); (try clear hk); (try clear hi)))
          go_meet
          case rel => exact ⟨_, ((t1417 != t1402)), (by first | rfl | (simp; done) | (simp [*]; done)), H', ⟨by have := HJ15.out; first | omega | exact Nat.le_refl _⟩, ⟨by (with_reducible repeat (first | apply Kd.R_alloc | apply Kd.R_drewN | apply Kd.R_drew)); exact Kd.R_mono HO_1404000.out (fun _ hk => ⟨hk.1, hk.2.1⟩)⟩, ⟨by (with_reducible repeat (first | apply Kd.R_alloc | apply Kd.R_drewN | apply Kd.R_drew)); exact Kd.R_mono HO_1404001.out (fun _ hk => ⟨hk.1, hk.2.1⟩)⟩, ⟨by (with_reducible repeat (first | apply Kd.R_alloc | apply Kd.R_drewN | apply Kd.R_drew)); exact Kd.R_mono HO_1411000.out (fun _ hk => ⟨hk.1.1, hk.1.2⟩)⟩, ⟨by (with_reducible repeat (first | apply Kd.R_alloc | apply Kd.R_drewN | apply Kd.R_drew)); exact Kd.R_mono HO_1411001.out (fun _ hk => ⟨hk.1.1, hk.1.2⟩)⟩, ⟨by (with_reducible repeat (first | apply Kd.R_alloc | apply Kd.R_drewN | apply Kd.R_drew)); exact Kd.R_mono HO_1419000.out (fun _ hk => ⟨hk.1, hk.2.1⟩)⟩, ⟨by (with_reducible repeat (first | apply Kd.R_alloc | apply Kd.R_drewN | apply Kd.R_drew)); exact Kd.R_mono HO_1419001.out (fun _ hk => ⟨hk.1, hk.2.1⟩)⟩, ⟨by (with_reducible repeat (first | refine blk_drewN ?_ _ | refine blk_drew ?_ | refine blk_alloc ?_ _)); exact BK1388.out⟩, ⟨by (with_reducible repeat (first | refine blk_drewN ?_ _ | refine blk_drew ?_ | refine blk_alloc ?_ _)); exact BK1403.out⟩, ⟨by (with_reducible repeat (first | refine blk_drewN ?_ _ | refine blk_drew ?_ | refine blk_alloc ?_ _)); exact BK1410.out⟩, ⟨by (with_reducible repeat (first | refine blk_drewN ?_ _ | refine blk_drew ?_ | refine blk_alloc ?_ _)); exact BK1418.out⟩, ⟨by repeat (first | (with_reducible first | exact HB.out | apply below_alloc | apply pw_below_drewN | apply below_drew1 | refine below_set ?_ GE1388.out | refine below_set ?_ GE1403.out | refine below_set ?_ GE1410.out | refine below_set ?_ GE1418.out) | exact HB.out)⟩⟩
         ·replace c82 := Bool.eq_false_iff.mpr c82
          subst c82
          have H1 : (laws_FnExactWriteSector.j1 kj15 a1 a2 a3 t1402 true l0_0 l0_1 t1396 t1399 t1411 t1414) = some r := by rw [if_neg (show ¬ (false = true) by decide)] at H; exact H
          clear H
          have H := H1
          clear H1
          have H' := Aside0.mk H
          clear H
          have hnb91 := NB1418_1388.out
          have hnc91 := NB1388_1418.out
          have hnb92 := NB1418_1403.out
          have hnc92 := NB1403_1418.out
          have hnb93 := NB1418_1410.out
          have hnc93 := NB1410_1418.out
          have hcz94_0 : w79.cell? ⟨gb1418, 0, none⟩ = some (.slice Ao40 t1411.length co40) := (blk_cell BK1418.out 0).trans rfl
          have hcz94_1 : w79.cell? ⟨gb1418, 1, none⟩ = some (.slice Ao45 t1414.length co45) := (blk_cell BK1418.out 1).trans rfl
          have hfz94_0 := blk_frozen BK1418.out 0
          have hfz94_1 := blk_frozen BK1418.out 1
          have hnb95 := NB1403_1388.out
          have hnc95 := NB1388_1403.out
          have hnb96 := NB1403_1410.out
          have hnc96 := NB1410_1403.out
          have hcz97_0 : w79.cell? ⟨gb1403, 0, none⟩ = some (.slice Ao26 t1396.length co26) := (blk_cell BK1403.out 0).trans rfl
          have hcz97_1 : w79.cell? ⟨gb1403, 1, none⟩ = some (.slice Ao29 t1399.length co29) := (blk_cell BK1403.out 1).trans rfl
          have hfz97_0 := blk_frozen BK1403.out 0
          have hfz97_1 := blk_frozen BK1403.out 1
          go_wp2_with (first | (go_at_call 78; (with_reducible refine (laws_eqDisk.calls kj15 _ _ t1411 _ _ t1414 _ _ t1396 _ _ t1399 false _ ?side1 ?side2 ?side3 ?side4 ?side5 ?side6 ?side7 ?side8 A81.out).mono ?_); (case side1 => repeat (first | exact (Kd.R_reads' HO_1419000.out).2.2 | (with_reducible refine Kd.C_alloc ?_ _) | (with_reducible refine Kd.C_drewN ?_ _) | (with_reducible refine Kd.C_drew ?_))); (case side2 => exact (Kd.R_reads' HO_1419000.out).2.1); (case side3 => repeat (first | exact (Kd.R_reads' HO_1419001.out).2.2 | (with_reducible refine Kd.C_alloc ?_ _) | (with_reducible refine Kd.C_drewN ?_ _) | (with_reducible refine Kd.C_drew ?_))); (case side4 => exact (Kd.R_reads' HO_1419001.out).2.1); (case side5 => repeat (first | exact (Kd.R_reads' HO_1404000.out).2.2 | (with_reducible refine Kd.C_alloc ?_ _) | (with_reducible refine Kd.C_drewN ?_ _) | (with_reducible refine Kd.C_drew ?_))); (case side6 => exact (Kd.R_reads' HO_1404000.out).2.1); (case side7 => repeat (first | exact (Kd.R_reads' HO_1404001.out).2.2 | (with_reducible refine Kd.C_alloc ?_ _) | (with_reducible refine Kd.C_drewN ?_ _) | (with_reducible refine Kd.C_drew ?_))); (case side8 => exact (Kd.R_reads' HO_1404001.out).2.1); rintro e w98 ⟨rfl, hb⟩; have n0_ := Aside0.mk (Kd.R_below (by (with_reducible repeat (first | apply Kd.R_alloc | apply Kd.R_drewN | apply Kd.R_drew)); exact HO_1404000.out) hb); have n1_ := Aside0.mk (Kd.R_below (by (with_reducible repeat (first | apply Kd.R_alloc | apply Kd.R_drewN | apply Kd.R_drew)); exact HO_1404001.out) hb); have n2_ := Aside0.mk (Kd.R_below (by (with_reducible repeat (first | apply Kd.R_alloc | apply Kd.R_drewN | apply Kd.R_drew)); exact HO_1411000.out) hb); have n3_ := Aside0.mk (Kd.R_below (by (with_reducible repeat (first | apply Kd.R_alloc | apply Kd.R_drewN | apply Kd.R_drew)); exact HO_1411001.out) hb); have n4_ := Aside0.mk (Kd.R_below (by (with_reducible repeat (first | apply Kd.R_alloc | apply Kd.R_drewN | apply Kd.R_drew)); exact HO_1419000.out) hb); have n5_ := Aside0.mk (Kd.R_below (by (with_reducible repeat (first | apply Kd.R_alloc | apply Kd.R_drewN | apply Kd.R_drew)); exact HO_1419001.out) hb); have n6_ := Aside0.mk (Kd.R_below (by (with_reducible repeat (first | apply Kd.R_alloc | apply Kd.R_drewN | apply Kd.R_drew)); exact HO1422.out) hb); have n7_ := Aside0.mk (Kd.R_below (by (with_reducible repeat (first | apply Kd.R_alloc | apply Kd.R_drewN | apply Kd.R_drew)); exact HO1425.out) hb); have n8_ := Aside0.mk (blk_below (g := gb1388) (o := .cells #[.slice A0_0 l0_0.length c0_0, .slice A0_1 l0_1.length c0_1] 85 (0, 0)) (by (with_reducible repeat (first | refine blk_drewN ?_ _ | refine blk_drew ?_ | refine blk_alloc ?_ _)); exact BK1388.out) hb); have n9_ := Aside0.mk (blk_below (g := gb1403) (o := .cells #[.slice Ao26 t1396.length co26, .slice Ao29 t1399.length co29] 60 (0, 0)) (by (with_reducible repeat (first | refine blk_drewN ?_ _ | refine blk_drew ?_ | refine blk_alloc ?_ _)); exact BK1403.out) hb); have n10_ := Aside0.mk (blk_below (g := gb1410) (o := .cells #[.slice Ao33 t1404.length co33, .slice Ao37 t1407.length co37] 60 (0, 0)) (by (with_reducible repeat (first | refine blk_drewN ?_ _ | refine blk_drew ?_ | refine blk_alloc ?_ _)); exact BK1410.out) hb); have n11_ := Aside0.mk (blk_below (g := gb1418) (o := .cells #[.slice Ao40 t1411.length co40, .slice Ao45 t1414.length co45] 60 (0, 0)) (by (with_reducible repeat (first | refine blk_drewN ?_ _ | refine blk_drew ?_ | refine blk_alloc ?_ _)); exact BK1418.out) hb); have n12_ := Aside0.mk (below_step (by repeat (first | (with_reducible first | exact HB.out | apply below_alloc | apply pw_below_drewN | apply below_drew1 | refine below_set ?_ GE1388.out | refine below_set ?_ GE1403.out | refine below_set ?_ GE1410.out | refine below_set ?_ GE1418.out) | exact HB.out)) hb); clear HO_1404000; clear HO_1404001; clear HO_1411000; clear HO_1411001; clear HO_1419000; clear HO_1419001; clear HO1422; clear HO1425; clear BK1388; clear BK1403; clear BK1410; clear BK1418; clear HB; have HO_1404000 := n0_; have HO_1404001 := n1_; have HO_1411000 := n2_; have HO_1411001 := n3_; have HO_1419000 := n4_; have HO_1419001 := n5_; have HO1422 := n6_; have HO1425 := n7_; have BK1388 := n8_; have BK1403 := n9_; have BK1410 := n10_; have BK1418 := n11_; have HB := n12_; clear n0_ n1_ n2_ n3_ n4_ n5_ n6_ n7_ n8_ n9_ n10_ n11_ n12_; (try clear hb); (try clear hb2); (try clear hk); (try clear hi)))
          go_meet
          case rel => exact ⟨_, (true), (by first | rfl | (simp; done) | (simp [*]; done)), H', ⟨by have := HJ15.out; first | omega | exact Nat.le_refl _⟩, ⟨by (with_reducible repeat (first | apply Kd.R_alloc | apply Kd.R_drewN | apply Kd.R_drew)); exact Kd.R_mono HO_1404000.out (fun _ hk => ⟨hk.1, hk.2.1⟩)⟩, ⟨by (with_reducible repeat (first | apply Kd.R_alloc | apply Kd.R_drewN | apply Kd.R_drew)); exact Kd.R_mono HO_1404001.out (fun _ hk => ⟨hk.1, hk.2.1⟩)⟩, ⟨by (with_reducible repeat (first | apply Kd.R_alloc | apply Kd.R_drewN | apply Kd.R_drew)); exact Kd.R_mono HO_1411000.out (fun _ hk => ⟨hk.1.1, hk.1.2⟩)⟩, ⟨by (with_reducible repeat (first | apply Kd.R_alloc | apply Kd.R_drewN | apply Kd.R_drew)); exact Kd.R_mono HO_1411001.out (fun _ hk => ⟨hk.1.1, hk.1.2⟩)⟩, ⟨by (with_reducible repeat (first | apply Kd.R_alloc | apply Kd.R_drewN | apply Kd.R_drew)); exact Kd.R_mono HO_1419000.out (fun _ hk => ⟨hk.1, hk.2.1⟩)⟩, ⟨by (with_reducible repeat (first | apply Kd.R_alloc | apply Kd.R_drewN | apply Kd.R_drew)); exact Kd.R_mono HO_1419001.out (fun _ hk => ⟨hk.1, hk.2.1⟩)⟩, ⟨by (with_reducible repeat (first | refine blk_drewN ?_ _ | refine blk_drew ?_ | refine blk_alloc ?_ _)); exact BK1388.out⟩, ⟨by (with_reducible repeat (first | refine blk_drewN ?_ _ | refine blk_drew ?_ | refine blk_alloc ?_ _)); exact BK1403.out⟩, ⟨by (with_reducible repeat (first | refine blk_drewN ?_ _ | refine blk_drew ?_ | refine blk_alloc ?_ _)); exact BK1410.out⟩, ⟨by (with_reducible repeat (first | refine blk_drewN ?_ _ | refine blk_drew ?_ | refine blk_alloc ?_ _)); exact BK1418.out⟩, ⟨by repeat (first | (with_reducible first | exact HB.out | apply below_alloc | apply pw_below_drewN | apply below_drew1 | refine below_set ?_ GE1388.out | refine below_set ?_ GE1403.out | refine below_set ?_ GE1410.out | refine below_set ?_ GE1418.out) | exact HB.out)⟩⟩
       case rest =>
        clear HC69
        try clear c1
        try clear c2
        try clear p2
        try clear c3
        try clear c4
        try clear c5
        try clear c5b0
        try clear c5b1
        try clear c6
        try clear c7
        try clear c8
        try clear c8b0
        try clear c9
        try clear c14
        try clear c27
        try clear c34
        try clear c35
        try clear c41
        try clear c42
        try clear c43
        try clear c47
        try clear c48
        try clear c49
        try clear c50
        try clear c52
        try clear c53
        try clear c56
        try clear c57
        try clear c58
        try clear c60
        try clear c61
        try clear c64
        try clear c67
        try clear c70
        try clear c75
        try clear c76
        try clear c77
        try clear c78
        try clear c79
        try clear c80
        try clear c80b0
        try clear c82
        try clear c83
        try clear c84
        try clear c85
        try clear c87
        try clear c88
        try clear c91
        try clear c92
        try clear c93
        try clear c95
        try clear c96
        try clear hcz10_0
        try clear hcz10_1
        try clear hcz18_0
        try clear hcz18_1
        try clear hcz20_0
        try clear hcz20_1
        try clear hcz28_0
        try clear hcz28_1
        try clear hcz30_0
        try clear hcz30_1
        try clear hcz36_0
        try clear hcz36_1
        try clear hcz44_0
        try clear hcz44_1
        try clear hcz51_0
        try clear hcz51_1
        try clear hcz54_0
        try clear hcz54_1
        try clear hcz59_0
        try clear hcz59_1
        try clear hcz62_0
        try clear hcz62_1
        try clear hcz78_0
        try clear hcz78_1
        try clear hcz86_0
        try clear hcz86_1
        try clear hcz89_0
        try clear hcz89_1
        try clear hcz94_0
        try clear hcz94_1
        try clear hcz97_0
        try clear hcz97_1
        try clear hfz10_0
        try clear hfz10_1
        try clear hfz18_0
        try clear hfz18_1
        try clear hfz20_0
        try clear hfz20_1
        try clear hfz28_0
        try clear hfz28_1
        try clear hfz30_0
        try clear hfz30_1
        try clear hfz36_0
        try clear hfz36_1
        try clear hfz44_0
        try clear hfz44_1
        try clear hfz51_0
        try clear hfz51_1
        try clear hfz54_0
        try clear hfz54_1
        try clear hfz59_0
        try clear hfz59_1
        try clear hfz62_0
        try clear hfz62_1
        try clear hfz78_0
        try clear hfz78_1
        try clear hfz86_0
        try clear hfz86_1
        try clear hfz89_0
        try clear hfz89_1
        try clear hfz94_0
        try clear hfz94_1
        try clear hfz97_0
        try clear hfz97_1
        try clear p2
        obtain ⟨kq, x76_68, rfl, HA, HJ68, HO_1404000, HO_1404001, HO_1411000, HO_1411001, HO_1419000, HO_1419001, BK1388, BK1403, BK1410, BK1418, HB⟩ := hcut
        have hl1411000_68 := (Kd.R_reads' HO_1411000.out).1
        rw [hl1411000_68] at HO_1411000
        (try simp only [hl1411000_68])
        (try simp only [hl1411000_68] at BK1388)
        (try simp only [hl1411000_68] at BK1403)
        (try simp only [hl1411000_68] at BK1410)
        (try simp only [hl1411000_68] at BK1418)
        (try simp only [hl1411000_68] at HO_1404000)
        (try simp only [hl1411000_68] at HO_1404001)
        (try simp only [hl1411000_68] at HO_1411001)
        (try simp only [hl1411000_68] at HO_1419000)
        (try simp only [hl1411000_68] at HO_1419001)
        have hl1411001_68 := (Kd.R_reads' HO_1411001.out).1
        rw [hl1411001_68] at HO_1411001
        (try simp only [hl1411001_68])
        (try simp only [hl1411001_68] at BK1388)
        (try simp only [hl1411001_68] at BK1403)
        (try simp only [hl1411001_68] at BK1410)
        (try simp only [hl1411001_68] at BK1418)
        (try simp only [hl1411001_68] at HO_1404000)
        (try simp only [hl1411001_68] at HO_1404001)
        (try simp only [hl1411001_68] at HO_1411000)
        (try simp only [hl1411001_68] at HO_1419000)
        (try simp only [hl1411001_68] at HO_1419001)
        cases kq with
        | zero => exact absurd HA.out (by simp [laws_FnExactWriteSector.j1])
        | succ kj68 =>
         have H := HA.out
         clear HA
         simp only [laws_FnExactWriteSector.j1] at H
         by_cases c99 : x76_68 = true
         ·subst c99
          have H1 : (some false) = some r := by rw [if_pos rfl] at H; exact H
          clear H
          have H := H1
          clear H1
          obtain rfl := Option.some.inj H
          go_wp2
          go_ret
          exact ⟨by first | rfl | (simp [errW_none, errW_some] <;> rfl) | (simp [*, errW_none, errW_some] <;> rfl), by repeat (first | (with_reducible first | exact HB.out | apply below_alloc | apply pw_below_drewN | apply below_drew1 | refine below_set ?_ GE1388.out | refine below_set ?_ GE1403.out | refine below_set ?_ GE1410.out | refine below_set ?_ GE1418.out) | exact HB.out)⟩
         ·replace c99 := Bool.eq_false_iff.mpr c99
          subst c99
          have H1 : ((laws_markDisk.f kj68 t1411 t1414 1).bind fun bt1431 => ((laws_heldDisk.f kj68 bt1431.2.1 bt1431.2.2 1).bind fun t1434 => (if t1434 < 0 then (some false) else (if t1434 = bt1431.1 then ((laws_toDisk.f kj68 l0_0 l0_1).bind fun bt1435 => ((impl_WriteSector.f bt1435.1 bt1435.2 a1 a2 a3).bind fun bt1441 => ((laws_eqDisk.f kj68 bt1441.1 bt1441.2.1 t1396 t1399).bind fun t1449 => (if t1449 = true then (laws_FnExactWriteSector.j2 kj68 bt1431.1 (bt1441.2.2 != t1402) bt1431.2.1 bt1431.2.2) else (laws_FnExactWriteSector.j2 kj68 bt1431.1 true bt1431.2.1 bt1431.2.2))))) else (some false))))) = some r := by rw [if_neg (show ¬ (false = true) by decide)] at H; exact H
          clear H
          have H := H1
          clear H1
          replace H := Option.bind_eq_some_iff.mp H
          obtain ⟨⟨t1431, t1432, t1433⟩, A1000, H⟩ := H
          replace H : ((laws_heldDisk.f kj68 t1432 t1433 1).bind fun t1434 => (if t1434 < 0 then (some false) else (if t1434 = t1431 then ((laws_toDisk.f kj68 l0_0 l0_1).bind fun bt1435 => ((impl_WriteSector.f bt1435.1 bt1435.2 a1 a2 a3).bind fun bt1441 => ((laws_eqDisk.f kj68 bt1441.1 bt1441.2.1 t1396 t1399).bind fun t1449 => (if t1449 = true then (laws_FnExactWriteSector.j2 kj68 t1431 (bt1441.2.2 != t1402) t1432 t1433) else (laws_FnExactWriteSector.j2 kj68 t1431 true t1432 t1433))))) else (some false)))) = some r := H
          have A100 := Aside0.mk A1000
          clear A1000
          replace H := Option.bind_eq_some_iff.mp H
          obtain ⟨t1434, A1010, H⟩ := H
          replace H : (if t1434 < 0 then (some false) else (if t1434 = t1431 then ((laws_toDisk.f kj68 l0_0 l0_1).bind fun bt1435 => ((impl_WriteSector.f bt1435.1 bt1435.2 a1 a2 a3).bind fun bt1441 => ((laws_eqDisk.f kj68 bt1441.1 bt1441.2.1 t1396 t1399).bind fun t1449 => (if t1449 = true then (laws_FnExactWriteSector.j2 kj68 t1431 (bt1441.2.2 != t1402) t1432 t1433) else (laws_FnExactWriteSector.j2 kj68 t1431 true t1432 t1433))))) else (some false))) = some r := H
          have A101 := Aside0.mk A1010
          clear A1010
          by_cases c102 : t1434 < 0
          ·rw [if_pos c102] at H
           have c102b0 : decide (t1434 < 0) = true := decide_eq_true c102
           clear c102
           obtain rfl := Option.some.inj H
           have hnb103 := NB1418_1388.out
           have hnc103 := NB1388_1418.out
           have hnb104 := NB1418_1403.out
           have hnc104 := NB1403_1418.out
           have hnb105 := NB1418_1410.out
           have hnc105 := NB1410_1418.out
           have hcz106_0 : wc.cell? ⟨gb1418, 0, none⟩ = some (.slice Ao40 t1411.length co40) := (blk_cell BK1418.out 0).trans rfl
           have hcz106_1 : wc.cell? ⟨gb1418, 1, none⟩ = some (.slice Ao45 t1414.length co45) := (blk_cell BK1418.out 1).trans rfl
           have hfz106_0 := blk_frozen BK1418.out 0
           have hfz106_1 := blk_frozen BK1418.out 1
           go_wp2_with (first | ((with_reducible refine gate_callee (f := 79) rfl ?_); refine goesL_ (some 79) rfl rfl Try.func79 (by kernel_rfl) rfl #[.agg #[.slice Ao40 t1411.length co40, .slice Ao45 t1414.length co45], .int .i64 1] rfl (by (try simp only [List.map_toArray, List.map_cons, List.map_nil]); first | done | rfl | (simp only [List.length_drop, List.length_take]; rfl)) ?_; (with_reducible refine (laws_markDisk.calls kj68 (fun k_ => some k_ = (.slice Ao40 t1411.length co40 : Value).ownBlock) (.slice Ao40 t1411.length co40) t1411 (fun k_ => some k_ = (.slice Ao45 t1414.length co45 : Value).ownBlock) (.slice Ao45 t1414.length co45) t1414 1 t1431 t1432 t1433 w _ ?side1 ?side2 ?side3 A100.out).mono ?_); (case side1 => repeat (first | (with_reducible first | exact HB.out | apply below_alloc | apply pw_below_drewN | apply below_drew1 | refine below_set ?_ GE1388.out | refine below_set ?_ GE1403.out | refine below_set ?_ GE1410.out | refine below_set ?_ GE1418.out) | exact HB.out)); (case side2 => exact Kd.R_tight rfl HO_1419000.out); (case side3 => exact Kd.R_tight rfl HO_1419001.out); rintro e w107 ⟨rfl, hy0, hy1, hb, hkp⟩; refine ⟨_, rfl, ?_⟩; have n0_ := Aside0.mk (Kd.R_mono (ok' := fun k_ => some k_ ≠ (.slice Ao33 t1428.length co33 : Value).ownBlock ∧ some k_ ≠ (.slice Ao40 t1411.length co40 : Value).ownBlock) (Kd.R_keptB ((Kd.R_apart' HO_1404000.out (Kd.R_typed HO_1419001.out) (by decide))) hkp (fun k_ hk_ hs_ => Or.elim hs_ (fun e_ => (hk_.1.2) e_) (fun e_ => (hk_.2) e_))) (fun k_ hk_ => ⟨hk_.1.1.1, hk_.1.1.2⟩)); have n1_ := Aside0.mk (Kd.R_mono (ok' := fun k_ => some k_ ≠ (.slice Ao37 t1429.length co37 : Value).ownBlock ∧ some k_ ≠ (.slice Ao45 t1414.length co45 : Value).ownBlock) (Kd.R_keptB ((Kd.R_apart' HO_1404001.out (Kd.R_typed HO_1419000.out) (by decide))) hkp (fun k_ hk_ hs_ => Or.elim hs_ (fun e_ => (hk_.2) e_) (fun e_ => (hk_.1.2) e_))) (fun k_ hk_ => ⟨hk_.1.1.1, hk_.1.1.2⟩)); have n2_ := Aside0.mk (Kd.R_mono (ok' := fun k_ => some k_ ≠ (.slice Ao26 t1396.length co26 : Value).ownBlock ∧ some k_ ≠ (.slice Ao40 t1411.length co40 : Value).ownBlock) (Kd.R_keptB ((Kd.R_apart' HO_1411000.out (Kd.R_typed HO_1419001.out) (by decide))) hkp (fun k_ hk_ hs_ => Or.elim hs_ (fun e_ => (hk_.1.2) e_) (fun e_ => (hk_.2) e_))) (fun k_ hk_ => ⟨hk_.1.1.1, hk_.1.1.2⟩)); have n3_ := Aside0.mk (Kd.R_mono (ok' := fun k_ => some k_ ≠ (.slice Ao29 t1399.length co29 : Value).ownBlock ∧ some k_ ≠ (.slice Ao45 t1414.length co45 : Value).ownBlock) (Kd.R_keptB ((Kd.R_apart' HO_1411001.out (Kd.R_typed HO_1419000.out) (by decide))) hkp (fun k_ hk_ hs_ => Or.elim hs_ (fun e_ => (hk_.2) e_) (fun e_ => (hk_.1.2) e_))) (fun k_ hk_ => ⟨hk_.1.1.1, hk_.1.1.2⟩)); have n4_ := Aside0.mk (Kd.R_reok rfl hy0 (fun k_ e_ => HO_1419000.out.1 k_ e_)); have n5_ := Aside0.mk (Kd.R_reok rfl hy1 (fun k_ e_ => HO_1419001.out.1 k_ e_)); have n6_ := Aside0.mk (blk_kept (by (with_reducible repeat (first | refine blk_drewN ?_ _ | refine blk_drew ?_ | refine blk_alloc ?_ _)); exact BK1388.out) hkp (fun hs_ => Or.elim hs_ (fun e_ => (fun e_ => (Kd.R_ne HO_1419000.out BK1388.out (by decide)) e_) e_) (fun e_ => (fun e_ => (Kd.R_ne HO_1419001.out BK1388.out (by decide)) e_) e_))); have n7_ := Aside0.mk (blk_kept (by (with_reducible repeat (first | refine blk_drewN ?_ _ | refine blk_drew ?_ | refine blk_alloc ?_ _)); exact BK1403.out) hkp (fun hs_ => Or.elim hs_ (fun e_ => (fun e_ => (Kd.R_ne HO_1419000.out BK1403.out (by decide)) e_) e_) (fun e_ => (fun e_ => (Kd.R_ne HO_1419001.out BK1403.out (by decide)) e_) e_))); have n8_ := Aside0.mk (blk_kept (by (with_reducible repeat (first | refine blk_drewN ?_ _ | refine blk_drew ?_ | refine blk_alloc ?_ _)); exact BK1410.out) hkp (fun hs_ => Or.elim hs_ (fun e_ => (fun e_ => (Kd.R_ne HO_1419000.out BK1410.out (by decide)) e_) e_) (fun e_ => (fun e_ => (Kd.R_ne HO_1419001.out BK1410.out (by decide)) e_) e_))); have n9_ := Aside0.mk (blk_kept (by (with_reducible repeat (first | refine blk_drewN ?_ _ | refine blk_drew ?_ | refine blk_alloc ?_ _)); exact BK1418.out) hkp (fun hs_ => Or.elim hs_ (fun e_ => (fun e_ => (Kd.R_ne HO_1419000.out BK1418.out (by decide)) e_) e_) (fun e_ => (fun e_ => (Kd.R_ne HO_1419001.out BK1418.out (by decide)) e_) e_))); have n10_ := Aside0.mk (hb); clear HO_1404000; clear HO_1404001; clear HO_1411000; clear HO_1411001; clear HO_1419000; clear HO_1419001; clear BK1388; clear BK1403; clear BK1410; clear BK1418; clear HB; have HO_1404000 := n0_; have HO_1404001 := n1_; have HO_1411000 := n2_; have HO_1411001 := n3_; have HO_1419000 := n4_; have HO_1419001 := n5_; have BK1388 := n6_; have BK1403 := n7_; have BK1410 := n8_; have BK1418 := n9_; have HB := n10_; clear n0_ n1_ n2_ n3_ n4_ n5_ n6_ n7_ n8_ n9_ n10_; (try clear hb); (try clear hkp); (try clear hy0); (try clear hy1); have hcz108_0 : w107.cell? ⟨gb1418, 0, none⟩ = some (.slice Ao40 t1411.length co40) := (blk_cell BK1418.out 0).trans rfl; have hcz108_1 : w107.cell? ⟨gb1418, 1, none⟩ = some (.slice Ao45 t1414.length co45) := (blk_cell BK1418.out 1).trans rfl; have hfz108_0 := blk_frozen BK1418.out 0; have hfz108_1 := blk_frozen BK1418.out 1) | ((with_reducible refine gate_callee (f := 80) rfl ?_); refine goesL_ (some 82) rfl rfl Try.func80 (by kernel_rfl) rfl #[.agg #[.slice Ao40 t1432.length co40, .slice Ao45 t1433.length co45], .int .i64 1] rfl (by (try simp only [List.map_toArray, List.map_cons, List.map_nil]); first | done | (rw [show t1432.length = t1411.length from (Kd.R_reads' HO_1419000.out).1.symm, show t1433.length = t1414.length from (Kd.R_reads' HO_1419001.out).1.symm] <;> rfl) | rfl | (simp only [List.length_drop, List.length_take]; rfl)) ?_; (with_reducible refine (laws_heldDisk.calls kj68 _ _ t1432 _ _ t1433 1 t1434 _ ?side1 ?side2 ?side3 ?side4 A101.out).mono ?_); (case side1 => repeat (first | exact (Kd.R_reads' HO_1419000.out).2.2 | (with_reducible refine Kd.C_alloc ?_ _) | (with_reducible refine Kd.C_drewN ?_ _) | (with_reducible refine Kd.C_drew ?_))); (case side2 => rw [show t1432.length = t1411.length from (Kd.R_reads' HO_1419000.out).1.symm]; exact (Kd.R_reads' HO_1419000.out).2.1); (case side3 => repeat (first | exact (Kd.R_reads' HO_1419001.out).2.2 | (with_reducible refine Kd.C_alloc ?_ _) | (with_reducible refine Kd.C_drewN ?_ _) | (with_reducible refine Kd.C_drew ?_))); (case side4 => rw [show t1433.length = t1414.length from (Kd.R_reads' HO_1419001.out).1.symm]; exact (Kd.R_reads' HO_1419001.out).2.1); rintro e w109 ⟨rfl, hb⟩; refine ⟨_, rfl, ?_⟩; have n0_ := Aside0.mk (Kd.R_below (by (with_reducible repeat (first | apply Kd.R_alloc | apply Kd.R_drewN | apply Kd.R_drew)); exact HO_1404000.out) hb); have n1_ := Aside0.mk (Kd.R_below (by (with_reducible repeat (first | apply Kd.R_alloc | apply Kd.R_drewN | apply Kd.R_drew)); exact HO_1404001.out) hb); have n2_ := Aside0.mk (Kd.R_below (by (with_reducible repeat (first | apply Kd.R_alloc | apply Kd.R_drewN | apply Kd.R_drew)); exact HO_1411000.out) hb); have n3_ := Aside0.mk (Kd.R_below (by (with_reducible repeat (first | apply Kd.R_alloc | apply Kd.R_drewN | apply Kd.R_drew)); exact HO_1411001.out) hb); have n4_ := Aside0.mk (Kd.R_below (by (with_reducible repeat (first | apply Kd.R_alloc | apply Kd.R_drewN | apply Kd.R_drew)); exact HO_1419000.out) hb); have n5_ := Aside0.mk (Kd.R_below (by (with_reducible repeat (first | apply Kd.R_alloc | apply Kd.R_drewN | apply Kd.R_drew)); exact HO_1419001.out) hb); have n6_ := Aside0.mk (blk_below (g := gb1388) (o := .cells #[.slice A0_0 l0_0.length c0_0, .slice A0_1 l0_1.length c0_1] 85 (0, 0)) (by (with_reducible repeat (first | refine blk_drewN ?_ _ | refine blk_drew ?_ | refine blk_alloc ?_ _)); exact BK1388.out) hb); have n7_ := Aside0.mk (blk_below (g := gb1403) (o := .cells #[.slice Ao26 t1396.length co26, .slice Ao29 t1399.length co29] 60 (0, 0)) (by (with_reducible repeat (first | refine blk_drewN ?_ _ | refine blk_drew ?_ | refine blk_alloc ?_ _)); exact BK1403.out) hb); have n8_ := Aside0.mk (blk_below (g := gb1410) (o := .cells #[.slice Ao33 t1428.length co33, .slice Ao37 t1429.length co37] 60 (0, 0)) (by (with_reducible repeat (first | refine blk_drewN ?_ _ | refine blk_drew ?_ | refine blk_alloc ?_ _)); exact BK1410.out) hb); have n9_ := Aside0.mk (blk_below (g := gb1418) (o := .cells #[.slice Ao40 t1411.length co40, .slice Ao45 t1414.length co45] 60 (0, 0)) (by (with_reducible repeat (first | refine blk_drewN ?_ _ | refine blk_drew ?_ | refine blk_alloc ?_ _)); exact BK1418.out) hb); have n10_ := Aside0.mk (below_step (by repeat (first | (with_reducible first | exact HB.out | apply below_alloc | apply pw_below_drewN | apply below_drew1 | refine below_set ?_ GE1388.out | refine below_set ?_ GE1403.out | refine below_set ?_ GE1410.out | refine below_set ?_ GE1418.out) | exact HB.out)) hb); clear HO_1404000; clear HO_1404001; clear HO_1411000; clear HO_1411001; clear HO_1419000; clear HO_1419001; clear BK1388; clear BK1403; clear BK1410; clear BK1418; clear HB; have HO_1404000 := n0_; have HO_1404001 := n1_; have HO_1411000 := n2_; have HO_1411001 := n3_; have HO_1419000 := n4_; have HO_1419001 := n5_; have BK1388 := n6_; have BK1403 := n7_; have BK1410 := n8_; have BK1418 := n9_; have HB := n10_; clear n0_ n1_ n2_ n3_ n4_ n5_ n6_ n7_ n8_ n9_ n10_; (try clear hb); (try clear hb2); (try clear hk); (try clear hi)))
           go_ret
           exact ⟨by first | rfl | (simp [errW_none, errW_some] <;> rfl) | (simp [*, errW_none, errW_some] <;> rfl), by repeat (first | (with_reducible first | exact HB.out | apply below_alloc | apply pw_below_drewN | apply below_drew1 | refine below_set ?_ GE1388.out | refine below_set ?_ GE1403.out | refine below_set ?_ GE1410.out | refine below_set ?_ GE1418.out) | exact HB.out)⟩
          ·rw [if_neg c102] at H
           have c102b0 : decide (t1434 < 0) = false := decide_eq_false c102
           clear c102
           by_cases c110 : t1434 = t1431
           ·rw [if_pos c110] at H
            have c110b0 : (t1434 == t1431) = true := beq_iff_eq.mpr c110
            have c110b1 : (t1434 != t1431) = false := bne_eq_false_iff_eq.mpr c110
            clear c110
            replace H := Option.bind_eq_some_iff.mp H
            obtain ⟨⟨t1435, t1438⟩, A1110, H⟩ := H
            replace H : ((impl_WriteSector.f t1435 t1438 a1 a2 a3).bind fun bt1441 => ((laws_eqDisk.f kj68 bt1441.1 bt1441.2.1 t1396 t1399).bind fun t1449 => (if t1449 = true then (laws_FnExactWriteSector.j2 kj68 t1431 (bt1441.2.2 != t1402) t1432 t1433) else (laws_FnExactWriteSector.j2 kj68 t1431 true t1432 t1433)))) = some r := H
            have A111 := Aside0.mk A1110
            clear A1110
            replace H := Option.bind_eq_some_iff.mp H
            obtain ⟨⟨t1441, t1444, t1447⟩, A1120, H⟩ := H
            replace H : ((laws_eqDisk.f kj68 t1441 t1444 t1396 t1399).bind fun t1449 => (if t1449 = true then (laws_FnExactWriteSector.j2 kj68 t1431 (t1447 != t1402) t1432 t1433) else (laws_FnExactWriteSector.j2 kj68 t1431 true t1432 t1433))) = some r := H
            have A112 := Aside0.mk A1120
            clear A1120
            have HC113 := Aside0.mk H
            clear H
            have hnb114 := NB1418_1388.out
            have hnc114 := NB1388_1418.out
            have hnb115 := NB1418_1403.out
            have hnc115 := NB1403_1418.out
            have hnb116 := NB1418_1410.out
            have hnc116 := NB1410_1418.out
            have hcz117_0 : wc.cell? ⟨gb1418, 0, none⟩ = some (.slice Ao40 t1411.length co40) := (blk_cell BK1418.out 0).trans rfl
            have hcz117_1 : wc.cell? ⟨gb1418, 1, none⟩ = some (.slice Ao45 t1414.length co45) := (blk_cell BK1418.out 1).trans rfl
            have hfz117_0 := blk_frozen BK1418.out 0
            have hfz117_1 := blk_frozen BK1418.out 1
            go_upto_region 27 with (first | ((with_reducible refine gate_callee (f := 79) rfl ?_); refine goesL_ (some 79) rfl rfl Try.func79 (by kernel_rfl) rfl #[.agg #[.slice Ao40 t1411.length co40, .slice Ao45 t1414.length co45], .int .i64 1] rfl (by (try simp only [List.map_toArray, List.map_cons, List.map_nil]); first | done | rfl | (simp only [List.length_drop, List.length_take]; rfl)) ?_; (with_reducible refine (laws_markDisk.calls kj68 (fun k_ => some k_ = (.slice Ao40 t1411.length co40 : Value).ownBlock) (.slice Ao40 t1411.length co40) t1411 (fun k_ => some k_ = (.slice Ao45 t1414.length co45 : Value).ownBlock) (.slice Ao45 t1414.length co45) t1414 1 t1431 t1432 t1433 w _ ?side1 ?side2 ?side3 A100.out).mono ?_); (case side1 => repeat (first | (with_reducible first | exact HB.out | apply below_alloc | apply pw_below_drewN | apply below_drew1 | refine below_set ?_ GE1388.out | refine below_set ?_ GE1403.out | refine below_set ?_ GE1410.out | refine below_set ?_ GE1418.out) | exact HB.out)); (case side2 => exact Kd.R_tight rfl HO_1419000.out); (case side3 => exact Kd.R_tight rfl HO_1419001.out); rintro e w118 ⟨rfl, hy0, hy1, hb, hkp⟩; refine ⟨_, rfl, ?_⟩; have n0_ := Aside0.mk (Kd.R_mono (ok' := fun k_ => some k_ ≠ (.slice Ao33 t1428.length co33 : Value).ownBlock ∧ some k_ ≠ (.slice Ao40 t1411.length co40 : Value).ownBlock) (Kd.R_keptB ((Kd.R_apart' HO_1404000.out (Kd.R_typed HO_1419001.out) (by decide))) hkp (fun k_ hk_ hs_ => Or.elim hs_ (fun e_ => (hk_.1.2) e_) (fun e_ => (hk_.2) e_))) (fun k_ hk_ => ⟨hk_.1.1.1, hk_.1.1.2⟩)); have n1_ := Aside0.mk (Kd.R_mono (ok' := fun k_ => some k_ ≠ (.slice Ao37 t1429.length co37 : Value).ownBlock ∧ some k_ ≠ (.slice Ao45 t1414.length co45 : Value).ownBlock) (Kd.R_keptB ((Kd.R_apart' HO_1404001.out (Kd.R_typed HO_1419000.out) (by decide))) hkp (fun k_ hk_ hs_ => Or.elim hs_ (fun e_ => (hk_.2) e_) (fun e_ => (hk_.1.2) e_))) (fun k_ hk_ => ⟨hk_.1.1.1, hk_.1.1.2⟩)); have n2_ := Aside0.mk (Kd.R_mono (ok' := fun k_ => some k_ ≠ (.slice Ao26 t1396.length co26 : Value).ownBlock ∧ some k_ ≠ (.slice Ao40 t1411.length co40 : Value).ownBlock) (Kd.R_keptB ((Kd.R_apart' HO_1411000.out (Kd.R_typed HO_1419001.out) (by decide))) hkp (fun k_ hk_ hs_ => Or.elim hs_ (fun e_ => (hk_.1.2) e_) (fun e_ => (hk_.2) e_))) (fun k_ hk_ => ⟨hk_.1.1.1, hk_.1.1.2⟩)); have n3_ := Aside0.mk (Kd.R_mono (ok' := fun k_ => some k_ ≠ (.slice Ao29 t1399.length co29 : Value).ownBlock ∧ some k_ ≠ (.slice Ao45 t1414.length co45 : Value).ownBlock) (Kd.R_keptB ((Kd.R_apart' HO_1411001.out (Kd.R_typed HO_1419000.out) (by decide))) hkp (fun k_ hk_ hs_ => Or.elim hs_ (fun e_ => (hk_.2) e_) (fun e_ => (hk_.1.2) e_))) (fun k_ hk_ => ⟨hk_.1.1.1, hk_.1.1.2⟩)); have n4_ := Aside0.mk (Kd.R_reok rfl hy0 (fun k_ e_ => HO_1419000.out.1 k_ e_)); have n5_ := Aside0.mk (Kd.R_reok rfl hy1 (fun k_ e_ => HO_1419001.out.1 k_ e_)); have n6_ := Aside0.mk (blk_kept (by (with_reducible repeat (first | refine blk_drewN ?_ _ | refine blk_drew ?_ | refine blk_alloc ?_ _)); exact BK1388.out) hkp (fun hs_ => Or.elim hs_ (fun e_ => (fun e_ => (Kd.R_ne HO_1419000.out BK1388.out (by decide)) e_) e_) (fun e_ => (fun e_ => (Kd.R_ne HO_1419001.out BK1388.out (by decide)) e_) e_))); have n7_ := Aside0.mk (blk_kept (by (with_reducible repeat (first | refine blk_drewN ?_ _ | refine blk_drew ?_ | refine blk_alloc ?_ _)); exact BK1403.out) hkp (fun hs_ => Or.elim hs_ (fun e_ => (fun e_ => (Kd.R_ne HO_1419000.out BK1403.out (by decide)) e_) e_) (fun e_ => (fun e_ => (Kd.R_ne HO_1419001.out BK1403.out (by decide)) e_) e_))); have n8_ := Aside0.mk (blk_kept (by (with_reducible repeat (first | refine blk_drewN ?_ _ | refine blk_drew ?_ | refine blk_alloc ?_ _)); exact BK1410.out) hkp (fun hs_ => Or.elim hs_ (fun e_ => (fun e_ => (Kd.R_ne HO_1419000.out BK1410.out (by decide)) e_) e_) (fun e_ => (fun e_ => (Kd.R_ne HO_1419001.out BK1410.out (by decide)) e_) e_))); have n9_ := Aside0.mk (blk_kept (by (with_reducible repeat (first | refine blk_drewN ?_ _ | refine blk_drew ?_ | refine blk_alloc ?_ _)); exact BK1418.out) hkp (fun hs_ => Or.elim hs_ (fun e_ => (fun e_ => (Kd.R_ne HO_1419000.out BK1418.out (by decide)) e_) e_) (fun e_ => (fun e_ => (Kd.R_ne HO_1419001.out BK1418.out (by decide)) e_) e_))); have n10_ := Aside0.mk (hb); clear HO_1404000; clear HO_1404001; clear HO_1411000; clear HO_1411001; clear HO_1419000; clear HO_1419001; clear BK1388; clear BK1403; clear BK1410; clear BK1418; clear HB; have HO_1404000 := n0_; have HO_1404001 := n1_; have HO_1411000 := n2_; have HO_1411001 := n3_; have HO_1419000 := n4_; have HO_1419001 := n5_; have BK1388 := n6_; have BK1403 := n7_; have BK1410 := n8_; have BK1418 := n9_; have HB := n10_; clear n0_ n1_ n2_ n3_ n4_ n5_ n6_ n7_ n8_ n9_ n10_; (try clear hb); (try clear hkp); (try clear hy0); (try clear hy1); have hcz119_0 : w118.cell? ⟨gb1418, 0, none⟩ = some (.slice Ao40 t1411.length co40) := (blk_cell BK1418.out 0).trans rfl; have hcz119_1 : w118.cell? ⟨gb1418, 1, none⟩ = some (.slice Ao45 t1414.length co45) := (blk_cell BK1418.out 1).trans rfl; have hfz119_0 := blk_frozen BK1418.out 0; have hfz119_1 := blk_frozen BK1418.out 1) | ((with_reducible refine gate_callee (f := 80) rfl ?_); refine goesL_ (some 82) rfl rfl Try.func80 (by kernel_rfl) rfl #[.agg #[.slice Ao40 t1432.length co40, .slice Ao45 t1433.length co45], .int .i64 1] rfl (by (try simp only [List.map_toArray, List.map_cons, List.map_nil]); first | done | (rw [show t1432.length = t1411.length from (Kd.R_reads' HO_1419000.out).1.symm, show t1433.length = t1414.length from (Kd.R_reads' HO_1419001.out).1.symm] <;> rfl) | rfl | (simp only [List.length_drop, List.length_take]; rfl)) ?_; (with_reducible refine (laws_heldDisk.calls kj68 _ _ t1432 _ _ t1433 1 t1434 _ ?side1 ?side2 ?side3 ?side4 A101.out).mono ?_); (case side1 => repeat (first | exact (Kd.R_reads' HO_1419000.out).2.2 | (with_reducible refine Kd.C_alloc ?_ _) | (with_reducible refine Kd.C_drewN ?_ _) | (with_reducible refine Kd.C_drew ?_))); (case side2 => rw [show t1432.length = t1411.length from (Kd.R_reads' HO_1419000.out).1.symm]; exact (Kd.R_reads' HO_1419000.out).2.1); (case side3 => repeat (first | exact (Kd.R_reads' HO_1419001.out).2.2 | (with_reducible refine Kd.C_alloc ?_ _) | (with_reducible refine Kd.C_drewN ?_ _) | (with_reducible refine Kd.C_drew ?_))); (case side4 => rw [show t1433.length = t1414.length from (Kd.R_reads' HO_1419001.out).1.symm]; exact (Kd.R_reads' HO_1419001.out).2.1); rintro e w120 ⟨rfl, hb⟩; refine ⟨_, rfl, ?_⟩; have n0_ := Aside0.mk (Kd.R_below (by (with_reducible repeat (first | apply Kd.R_alloc | apply Kd.R_drewN | apply Kd.R_drew)); exact HO_1404000.out) hb); have n1_ := Aside0.mk (Kd.R_below (by (with_reducible repeat (first | apply Kd.R_alloc | apply Kd.R_drewN | apply Kd.R_drew)); exact HO_1404001.out) hb); have n2_ := Aside0.mk (Kd.R_below (by (with_reducible repeat (first | apply Kd.R_alloc | apply Kd.R_drewN | apply Kd.R_drew)); exact HO_1411000.out) hb); have n3_ := Aside0.mk (Kd.R_below (by (with_reducible repeat (first | apply Kd.R_alloc | apply Kd.R_drewN | apply Kd.R_drew)); exact HO_1411001.out) hb); have n4_ := Aside0.mk (Kd.R_below (by (with_reducible repeat (first | apply Kd.R_alloc | apply Kd.R_drewN | apply Kd.R_drew)); exact HO_1419000.out) hb); have n5_ := Aside0.mk (Kd.R_below (by (with_reducible repeat (first | apply Kd.R_alloc | apply Kd.R_drewN | apply Kd.R_drew)); exact HO_1419001.out) hb); have n6_ := Aside0.mk (blk_below (g := gb1388) (o := .cells #[.slice A0_0 l0_0.length c0_0, .slice A0_1 l0_1.length c0_1] 85 (0, 0)) (by (with_reducible repeat (first | refine blk_drewN ?_ _ | refine blk_drew ?_ | refine blk_alloc ?_ _)); exact BK1388.out) hb); have n7_ := Aside0.mk (blk_below (g := gb1403) (o := .cells #[.slice Ao26 t1396.length co26, .slice Ao29 t1399.length co29] 60 (0, 0)) (by (with_reducible repeat (first | refine blk_drewN ?_ _ | refine blk_drew ?_ | refine blk_alloc ?_ _)); exact BK1403.out) hb); have n8_ := Aside0.mk (blk_below (g := gb1410) (o := .cells #[.slice Ao33 t1428.length co33, .slice Ao37 t1429.length co37] 60 (0, 0)) (by (with_reducible repeat (first | refine blk_drewN ?_ _ | refine blk_drew ?_ | refine blk_alloc ?_ _)); exact BK1410.out) hb); have n9_ := Aside0.mk (blk_below (g := gb1418) (o := .cells #[.slice Ao40 t1411.length co40, .slice Ao45 t1414.length co45] 60 (0, 0)) (by (with_reducible repeat (first | refine blk_drewN ?_ _ | refine blk_drew ?_ | refine blk_alloc ?_ _)); exact BK1418.out) hb); have n10_ := Aside0.mk (below_step (by repeat (first | (with_reducible first | exact HB.out | apply below_alloc | apply pw_below_drewN | apply below_drew1 | refine below_set ?_ GE1388.out | refine below_set ?_ GE1403.out | refine below_set ?_ GE1410.out | refine below_set ?_ GE1418.out) | exact HB.out)) hb); clear HO_1404000; clear HO_1404001; clear HO_1411000; clear HO_1411001; clear HO_1419000; clear HO_1419001; clear BK1388; clear BK1403; clear BK1410; clear BK1418; clear HB; have HO_1404000 := n0_; have HO_1404001 := n1_; have HO_1411000 := n2_; have HO_1411001 := n3_; have HO_1419000 := n4_; have HO_1419001 := n5_; have BK1388 := n6_; have BK1403 := n7_; have BK1410 := n8_; have BK1418 := n9_; have HB := n10_; clear n0_ n1_ n2_ n3_ n4_ n5_ n6_ n7_ n8_ n9_ n10_; (try clear hb); (try clear hb2); (try clear hk); (try clear hi); have hnb121 := NB1388_1403.out; have hnc121 := NB1403_1388.out; have hnb122 := NB1388_1410.out; have hnc122 := NB1410_1388.out; have hcz123_0 : w120.cell? ⟨gb1388, 0, none⟩ = some (.slice A0_0 l0_0.length c0_0) := (blk_cell BK1388.out 0).trans rfl; have hcz123_1 : w120.cell? ⟨gb1388, 1, none⟩ = some (.slice A0_1 l0_1.length c0_1) := (blk_cell BK1388.out 1).trans rfl; have hfz123_0 := blk_frozen BK1388.out 0; have hfz123_1 := blk_frozen BK1388.out 1) | ((with_reducible refine gate_callee (f := 77) rfl ?_); refine goesL_ (some 90) rfl rfl Try.func77 (by kernel_rfl) rfl #[.agg #[.slice A0_0 l0_0.length c0_0, .slice A0_1 l0_1.length c0_1]] rfl (by (try simp only [List.map_toArray, List.map_cons, List.map_nil]); first | done | rfl | (simp only [List.length_drop, List.length_take]; rfl)) ?_; (with_reducible refine (laws_toDisk.calls kj68 _ _ l0_0 _ _ l0_1 t1435 t1438 _ ?side1 ?side2 ?side3 ?side4 A111.out).mono ?_); (case side1 => repeat (first | exact (Kd.C_below HR0_0.out HB.out) | (with_reducible refine Kd.C_alloc ?_ _) | (with_reducible refine Kd.C_drewN ?_ _) | (with_reducible refine Kd.C_drew ?_))); (case side2 => exact HC0_0.out); (case side3 => repeat (first | exact (Kd.C_below HR0_1.out HB.out) | (with_reducible refine Kd.C_alloc ?_ _) | (with_reducible refine Kd.C_drewN ?_ _) | (with_reducible refine Kd.C_drew ?_))); (case side4 => exact HC0_1.out); rintro e w124 ⟨v1436, v1439, rfl, ho0, ho1, hb⟩; refine ⟨_, rfl, ?_⟩; have n0_ := Aside0.mk (Kd.R_elder' (by (with_reducible repeat (first | apply Kd.R_alloc | apply Kd.R_drewN | apply Kd.R_drew)); exact HO_1404000.out) (Kd.R_base ho0) hb); have n1_ := Aside0.mk (Kd.R_elder' (by (with_reducible repeat (first | apply Kd.R_alloc | apply Kd.R_drewN | apply Kd.R_drew)); exact HO_1404001.out) (Kd.R_base ho1) hb); have n2_ := Aside0.mk (Kd.R_elder' (by (with_reducible repeat (first | apply Kd.R_alloc | apply Kd.R_drewN | apply Kd.R_drew)); exact HO_1411000.out) (Kd.R_base ho0) hb); have n3_ := Aside0.mk (Kd.R_elder' (by (with_reducible repeat (first | apply Kd.R_alloc | apply Kd.R_drewN | apply Kd.R_drew)); exact HO_1411001.out) (Kd.R_base ho1) hb); have n4_ := Aside0.mk (Kd.R_elder' (by (with_reducible repeat (first | apply Kd.R_alloc | apply Kd.R_drewN | apply Kd.R_drew)); exact HO_1419000.out) (Kd.R_base ho0) hb); have n5_ := Aside0.mk (Kd.R_elder' (by (with_reducible repeat (first | apply Kd.R_alloc | apply Kd.R_drewN | apply Kd.R_drew)); exact HO_1419001.out) (Kd.R_base ho1) hb); have n6_ := Aside0.mk (Kd.R_lower (Kd.R_new' (Kd.R_new' (Kd.R_new' ho0 (Kd.R_lt (by (with_reducible repeat (first | apply Kd.R_alloc | apply Kd.R_drewN | apply Kd.R_drew)); exact HO_1404000.out))) (Kd.R_lt (by (with_reducible repeat (first | apply Kd.R_alloc | apply Kd.R_drewN | apply Kd.R_drew)); exact HO_1411000.out))) (Kd.R_lt (by (with_reducible repeat (first | apply Kd.R_alloc | apply Kd.R_drewN | apply Kd.R_drew)); exact HO_1419000.out))) (below_size (by repeat (first | (with_reducible first | exact HB.out | apply below_alloc | apply pw_below_drewN | apply below_drew1 | refine below_set ?_ GE1388.out | refine below_set ?_ GE1403.out | refine below_set ?_ GE1410.out | refine below_set ?_ GE1418.out) | exact HB.out)))); have n7_ := Aside0.mk (Kd.R_lower (Kd.R_new' (Kd.R_new' (Kd.R_new' ho1 (Kd.R_lt (by (with_reducible repeat (first | apply Kd.R_alloc | apply Kd.R_drewN | apply Kd.R_drew)); exact HO_1404001.out))) (Kd.R_lt (by (with_reducible repeat (first | apply Kd.R_alloc | apply Kd.R_drewN | apply Kd.R_drew)); exact HO_1411001.out))) (Kd.R_lt (by (with_reducible repeat (first | apply Kd.R_alloc | apply Kd.R_drewN | apply Kd.R_drew)); exact HO_1419001.out))) (below_size (by repeat (first | (with_reducible first | exact HB.out | apply below_alloc | apply pw_below_drewN | apply below_drew1 | refine below_set ?_ GE1388.out | refine below_set ?_ GE1403.out | refine below_set ?_ GE1410.out | refine below_set ?_ GE1418.out) | exact HB.out)))); have n8_ := Aside0.mk (blk_below (g := gb1388) (o := .cells #[.slice A0_0 l0_0.length c0_0, .slice A0_1 l0_1.length c0_1] 85 (0, 0)) (by (with_reducible repeat (first | refine blk_drewN ?_ _ | refine blk_drew ?_ | refine blk_alloc ?_ _)); exact BK1388.out) hb); have n9_ := Aside0.mk (blk_below (g := gb1403) (o := .cells #[.slice Ao26 t1396.length co26, .slice Ao29 t1399.length co29] 60 (0, 0)) (by (with_reducible repeat (first | refine blk_drewN ?_ _ | refine blk_drew ?_ | refine blk_alloc ?_ _)); exact BK1403.out) hb); have n10_ := Aside0.mk (blk_below (g := gb1410) (o := .cells #[.slice Ao33 t1428.length co33, .slice Ao37 t1429.length co37] 60 (0, 0)) (by (with_reducible repeat (first | refine blk_drewN ?_ _ | refine blk_drew ?_ | refine blk_alloc ?_ _)); exact BK1410.out) hb); have n11_ := Aside0.mk (blk_below (g := gb1418) (o := .cells #[.slice Ao40 t1411.length co40, .slice Ao45 t1414.length co45] 60 (0, 0)) (by (with_reducible repeat (first | refine blk_drewN ?_ _ | refine blk_drew ?_ | refine blk_alloc ?_ _)); exact BK1418.out) hb); have n12_ := Aside0.mk (below_step (by repeat (first | (with_reducible first | exact HB.out | apply below_alloc | apply pw_below_drewN | apply below_drew1 | refine below_set ?_ GE1388.out | refine below_set ?_ GE1403.out | refine below_set ?_ GE1410.out | refine below_set ?_ GE1418.out) | exact HB.out)) hb); clear HO_1404000; clear HO_1404001; clear HO_1411000; clear HO_1411001; clear HO_1419000; clear HO_1419001; clear BK1388; clear BK1403; clear BK1410; clear BK1418; clear HB; have HO_1404000 := n0_; have HO_1404001 := n1_; have HO_1411000 := n2_; have HO_1411001 := n3_; have HO_1419000 := n4_; have HO_1419001 := n5_; have HO1437 := n6_; have HO1440 := n7_; have BK1388 := n8_; have BK1403 := n9_; have BK1410 := n10_; have BK1418 := n11_; have HB := n12_; clear n0_ n1_ n2_ n3_ n4_ n5_ n6_ n7_ n8_ n9_ n10_ n11_ n12_; (try clear hb); (try clear hb2); (try clear hk); (try clear hi); (try clear ho0); (try clear ho1); obtain ⟨Ao125, co125, eo125⟩ := Kd.R_slice HO1437.out; subst eo125; obtain ⟨Ao126, co126, eo126⟩ := Kd.R_slice HO1440.out; subst eo126) | ((with_reducible refine gate_callee (f := 70) rfl ?_); refine goesL_ (some 94) rfl rfl Try.func70 (by kernel_rfl) rfl #[.agg #[.slice Ao125 t1435.length co125, .slice Ao126 t1438.length co126], .int .i64 a1, .int .i64 a2, .string a3] rfl (by (try simp only [List.map_toArray, List.map_cons, List.map_nil]); first | done | rfl | (simp only [List.length_drop, List.length_take]; rfl)) ?_; (with_reducible refine (impl_WriteSector.calls _ _ t1435 _ _ t1438 a1 a2 a3 t1441 t1444 t1447 _ ?side1 ?side2 ?side3 ?side4 A112.out).mono ?_); (case side1 => repeat (first | exact (Kd.R_reads' HO1437.out).2.2 | (with_reducible refine Kd.C_alloc ?_ _) | (with_reducible refine Kd.C_drewN ?_ _) | (with_reducible refine Kd.C_drew ?_))); (case side2 => exact (Kd.R_reads' HO1437.out).2.1); (case side3 => repeat (first | exact (Kd.R_reads' HO1440.out).2.2 | (with_reducible refine Kd.C_alloc ?_ _) | (with_reducible refine Kd.C_drewN ?_ _) | (with_reducible refine Kd.C_drew ?_))); (case side4 => exact (Kd.R_reads' HO1440.out).2.1); rintro e w127 ⟨v1442, v1445, rfl, ho0, ho1, hb⟩; refine ⟨_, rfl, ?_⟩; have n0_ := Aside0.mk (Kd.R_elder' (by (with_reducible repeat (first | apply Kd.R_alloc | apply Kd.R_drewN | apply Kd.R_drew)); exact HO_1404000.out) (Kd.R_base ho0) hb); have n1_ := Aside0.mk (Kd.R_elder' (by (with_reducible repeat (first | apply Kd.R_alloc | apply Kd.R_drewN | apply Kd.R_drew)); exact HO_1404001.out) (Kd.R_base ho1) hb); have n2_ := Aside0.mk (Kd.R_elder' (by (with_reducible repeat (first | apply Kd.R_alloc | apply Kd.R_drewN | apply Kd.R_drew)); exact HO_1411000.out) (Kd.R_base ho0) hb); have n3_ := Aside0.mk (Kd.R_elder' (by (with_reducible repeat (first | apply Kd.R_alloc | apply Kd.R_drewN | apply Kd.R_drew)); exact HO_1411001.out) (Kd.R_base ho1) hb); have n4_ := Aside0.mk (Kd.R_elder' (by (with_reducible repeat (first | apply Kd.R_alloc | apply Kd.R_drewN | apply Kd.R_drew)); exact HO_1419000.out) (Kd.R_base ho0) hb); have n5_ := Aside0.mk (Kd.R_elder' (by (with_reducible repeat (first | apply Kd.R_alloc | apply Kd.R_drewN | apply Kd.R_drew)); exact HO_1419001.out) (Kd.R_base ho1) hb); have n6_ := Aside0.mk (Kd.R_elder' (by (with_reducible repeat (first | apply Kd.R_alloc | apply Kd.R_drewN | apply Kd.R_drew)); exact HO1437.out) (Kd.R_base ho0) hb); have n7_ := Aside0.mk (Kd.R_elder' (by (with_reducible repeat (first | apply Kd.R_alloc | apply Kd.R_drewN | apply Kd.R_drew)); exact HO1440.out) (Kd.R_base ho1) hb); have n8_ := Aside0.mk (Kd.R_lower (Kd.R_new' (Kd.R_new' (Kd.R_new' (Kd.R_new' ho0 (Kd.R_lt (by (with_reducible repeat (first | apply Kd.R_alloc | apply Kd.R_drewN | apply Kd.R_drew)); exact HO_1404000.out))) (Kd.R_lt (by (with_reducible repeat (first | apply Kd.R_alloc | apply Kd.R_drewN | apply Kd.R_drew)); exact HO_1411000.out))) (Kd.R_lt (by (with_reducible repeat (first | apply Kd.R_alloc | apply Kd.R_drewN | apply Kd.R_drew)); exact HO_1419000.out))) (Kd.R_lt (by (with_reducible repeat (first | apply Kd.R_alloc | apply Kd.R_drewN | apply Kd.R_drew)); exact HO1437.out))) (below_size (by repeat (first | (with_reducible first | exact HB.out | apply below_alloc | apply pw_below_drewN | apply below_drew1 | refine below_set ?_ GE1388.out | refine below_set ?_ GE1403.out | refine below_set ?_ GE1410.out | refine below_set ?_ GE1418.out) | exact HB.out)))); have n9_ := Aside0.mk (Kd.R_lower (Kd.R_new' (Kd.R_new' (Kd.R_new' (Kd.R_new' ho1 (Kd.R_lt (by (with_reducible repeat (first | apply Kd.R_alloc | apply Kd.R_drewN | apply Kd.R_drew)); exact HO_1404001.out))) (Kd.R_lt (by (with_reducible repeat (first | apply Kd.R_alloc | apply Kd.R_drewN | apply Kd.R_drew)); exact HO_1411001.out))) (Kd.R_lt (by (with_reducible repeat (first | apply Kd.R_alloc | apply Kd.R_drewN | apply Kd.R_drew)); exact HO_1419001.out))) (Kd.R_lt (by (with_reducible repeat (first | apply Kd.R_alloc | apply Kd.R_drewN | apply Kd.R_drew)); exact HO1440.out))) (below_size (by repeat (first | (with_reducible first | exact HB.out | apply below_alloc | apply pw_below_drewN | apply below_drew1 | refine below_set ?_ GE1388.out | refine below_set ?_ GE1403.out | refine below_set ?_ GE1410.out | refine below_set ?_ GE1418.out) | exact HB.out)))); have n10_ := Aside0.mk (blk_below (g := gb1388) (o := .cells #[.slice A0_0 l0_0.length c0_0, .slice A0_1 l0_1.length c0_1] 85 (0, 0)) (by (with_reducible repeat (first | refine blk_drewN ?_ _ | refine blk_drew ?_ | refine blk_alloc ?_ _)); exact BK1388.out) hb); have n11_ := Aside0.mk (blk_below (g := gb1403) (o := .cells #[.slice Ao26 t1396.length co26, .slice Ao29 t1399.length co29] 60 (0, 0)) (by (with_reducible repeat (first | refine blk_drewN ?_ _ | refine blk_drew ?_ | refine blk_alloc ?_ _)); exact BK1403.out) hb); have n12_ := Aside0.mk (blk_below (g := gb1410) (o := .cells #[.slice Ao33 t1428.length co33, .slice Ao37 t1429.length co37] 60 (0, 0)) (by (with_reducible repeat (first | refine blk_drewN ?_ _ | refine blk_drew ?_ | refine blk_alloc ?_ _)); exact BK1410.out) hb); have n13_ := Aside0.mk (blk_below (g := gb1418) (o := .cells #[.slice Ao40 t1411.length co40, .slice Ao45 t1414.length co45] 60 (0, 0)) (by (with_reducible repeat (first | refine blk_drewN ?_ _ | refine blk_drew ?_ | refine blk_alloc ?_ _)); exact BK1418.out) hb); have n14_ := Aside0.mk (below_step (by repeat (first | (with_reducible first | exact HB.out | apply below_alloc | apply pw_below_drewN | apply below_drew1 | refine below_set ?_ GE1388.out | refine below_set ?_ GE1403.out | refine below_set ?_ GE1410.out | refine below_set ?_ GE1418.out) | exact HB.out)) hb); clear HO_1404000; clear HO_1404001; clear HO_1411000; clear HO_1411001; clear HO_1419000; clear HO_1419001; clear HO1437; clear HO1440; clear BK1388; clear BK1403; clear BK1410; clear BK1418; clear HB; have HO_1404000 := n0_; have HO_1404001 := n1_; have HO_1411000 := n2_; have HO_1411001 := n3_; have HO_1419000 := n4_; have HO_1419001 := n5_; have HO1437 := n6_; have HO1440 := n7_; have HO1443 := n8_; have HO1446 := n9_; have BK1388 := n10_; have BK1403 := n11_; have BK1410 := n12_; have BK1418 := n13_; have HB := n14_; clear n0_ n1_ n2_ n3_ n4_ n5_ n6_ n7_ n8_ n9_ n10_ n11_ n12_ n13_ n14_; (try clear hb); (try clear hb2); (try clear hk); (try clear hi); (try clear ho0); (try clear ho1)) | ((with_reducible refine gate_dst (N := 18) rfl ?_); refine box_event ?hg (N := 18) ?hd (cs := #[.slice none 0 0, .slice none 0 0]) (t := 60) ?hr ?_; (case hd => rfl); (case hg => rfl); (case hr => first | (go_simp; done) | (go_simp; rfl)); intro gb1448 hg w128 hbox hb; have n0_ := Aside0.mk (Kd.R_below (by (with_reducible repeat (first | apply Kd.R_alloc | apply Kd.R_drewN | apply Kd.R_drew)); exact HO_1404000.out) hb); have n1_ := Aside0.mk (Kd.R_below (by (with_reducible repeat (first | apply Kd.R_alloc | apply Kd.R_drewN | apply Kd.R_drew)); exact HO_1404001.out) hb); have n2_ := Aside0.mk (Kd.R_below (by (with_reducible repeat (first | apply Kd.R_alloc | apply Kd.R_drewN | apply Kd.R_drew)); exact HO_1411000.out) hb); have n3_ := Aside0.mk (Kd.R_below (by (with_reducible repeat (first | apply Kd.R_alloc | apply Kd.R_drewN | apply Kd.R_drew)); exact HO_1411001.out) hb); have n4_ := Aside0.mk (Kd.R_below (by (with_reducible repeat (first | apply Kd.R_alloc | apply Kd.R_drewN | apply Kd.R_drew)); exact HO_1419000.out) hb); have n5_ := Aside0.mk (Kd.R_below (by (with_reducible repeat (first | apply Kd.R_alloc | apply Kd.R_drewN | apply Kd.R_drew)); exact HO_1419001.out) hb); have n6_ := Aside0.mk (Kd.R_below (by (with_reducible repeat (first | apply Kd.R_alloc | apply Kd.R_drewN | apply Kd.R_drew)); exact HO1437.out) hb); have n7_ := Aside0.mk (Kd.R_below (by (with_reducible repeat (first | apply Kd.R_alloc | apply Kd.R_drewN | apply Kd.R_drew)); exact HO1440.out) hb); have n8_ := Aside0.mk (Kd.R_below (by (with_reducible repeat (first | apply Kd.R_alloc | apply Kd.R_drewN | apply Kd.R_drew)); exact HO1443.out) hb); have n9_ := Aside0.mk (Kd.R_below (by (with_reducible repeat (first | apply Kd.R_alloc | apply Kd.R_drewN | apply Kd.R_drew)); exact HO1446.out) hb); have n10_ := Aside0.mk (blk_below (g := gb1388) (o := .cells #[.slice A0_0 l0_0.length c0_0, .slice A0_1 l0_1.length c0_1] 85 (0, 0)) (by (with_reducible repeat (first | refine blk_drewN ?_ _ | refine blk_drew ?_ | refine blk_alloc ?_ _)); exact BK1388.out) hb); have n11_ := Aside0.mk (blk_below (g := gb1403) (o := .cells #[.slice Ao26 t1396.length co26, .slice Ao29 t1399.length co29] 60 (0, 0)) (by (with_reducible repeat (first | refine blk_drewN ?_ _ | refine blk_drew ?_ | refine blk_alloc ?_ _)); exact BK1403.out) hb); have n12_ := Aside0.mk (blk_below (g := gb1410) (o := .cells #[.slice Ao33 t1428.length co33, .slice Ao37 t1429.length co37] 60 (0, 0)) (by (with_reducible repeat (first | refine blk_drewN ?_ _ | refine blk_drew ?_ | refine blk_alloc ?_ _)); exact BK1410.out) hb); have n13_ := Aside0.mk (blk_below (g := gb1418) (o := .cells #[.slice Ao40 t1411.length co40, .slice Ao45 t1414.length co45] 60 (0, 0)) (by (with_reducible repeat (first | refine blk_drewN ?_ _ | refine blk_drew ?_ | refine blk_alloc ?_ _)); exact BK1418.out) hb); have n14_ := Aside0.mk (below_step (by repeat (first | (with_reducible first | exact HB.out | apply below_alloc | apply pw_below_drewN | apply below_drew1 | refine below_set ?_ GE1388.out | refine below_set ?_ GE1403.out | refine below_set ?_ GE1410.out | refine below_set ?_ GE1418.out) | exact HB.out)) hb); have n15_ := Aside0.mk (hbox); have n16_ := Aside0.mk ((by rw [hg]; exact (below_size (by repeat (first | (with_reducible first | exact HB.out | apply below_alloc | apply pw_below_drewN | apply below_drew1 | refine below_set ?_ GE1388.out | refine below_set ?_ GE1403.out | refine below_set ?_ GE1410.out | refine below_set ?_ GE1418.out) | exact HB.out))) : w.heap.size ≤ gb1448)); have n17_ := Aside0.mk ((by rw [hg]; exact (below_size (by repeat (first | (with_reducible first | exact HB.out | apply below_alloc | apply pw_below_drewN | apply below_drew1 | refine below_set ?_ GE1388.out | refine below_set ?_ GE1403.out | refine below_set ?_ GE1410.out | refine below_set ?_ GE1418.out) | exact HB.out))) : w.heap.size ≤ gb1448)); have n18_ := Aside0.mk ((by rw [hg]; exact Nat.ne_of_lt (blk_lt (g := gb1388) (o := .cells #[.slice A0_0 l0_0.length c0_0, .slice A0_1 l0_1.length c0_1] 85 (0, 0)) (by (with_reducible repeat (first | refine blk_drewN ?_ _ | refine blk_drew ?_ | refine blk_alloc ?_ _)); exact BK1388.out)) : gb1388 ≠ gb1448)); have n19_ := Aside0.mk ((by rw [hg]; exact Nat.ne_of_gt (blk_lt (g := gb1388) (o := .cells #[.slice A0_0 l0_0.length c0_0, .slice A0_1 l0_1.length c0_1] 85 (0, 0)) (by (with_reducible repeat (first | refine blk_drewN ?_ _ | refine blk_drew ?_ | refine blk_alloc ?_ _)); exact BK1388.out)) : gb1448 ≠ gb1388)); have n20_ := Aside0.mk ((by rw [hg]; exact Nat.ne_of_lt (blk_lt (g := gb1403) (o := .cells #[.slice Ao26 t1396.length co26, .slice Ao29 t1399.length co29] 60 (0, 0)) (by (with_reducible repeat (first | refine blk_drewN ?_ _ | refine blk_drew ?_ | refine blk_alloc ?_ _)); exact BK1403.out)) : gb1403 ≠ gb1448)); have n21_ := Aside0.mk ((by rw [hg]; exact Nat.ne_of_gt (blk_lt (g := gb1403) (o := .cells #[.slice Ao26 t1396.length co26, .slice Ao29 t1399.length co29] 60 (0, 0)) (by (with_reducible repeat (first | refine blk_drewN ?_ _ | refine blk_drew ?_ | refine blk_alloc ?_ _)); exact BK1403.out)) : gb1448 ≠ gb1403)); have n22_ := Aside0.mk ((by rw [hg]; exact Nat.ne_of_lt (blk_lt (g := gb1410) (o := .cells #[.slice Ao33 t1428.length co33, .slice Ao37 t1429.length co37] 60 (0, 0)) (by (with_reducible repeat (first | refine blk_drewN ?_ _ | refine blk_drew ?_ | refine blk_alloc ?_ _)); exact BK1410.out)) : gb1410 ≠ gb1448)); have n23_ := Aside0.mk ((by rw [hg]; exact Nat.ne_of_gt (blk_lt (g := gb1410) (o := .cells #[.slice Ao33 t1428.length co33, .slice Ao37 t1429.length co37] 60 (0, 0)) (by (with_reducible repeat (first | refine blk_drewN ?_ _ | refine blk_drew ?_ | refine blk_alloc ?_ _)); exact BK1410.out)) : gb1448 ≠ gb1410)); have n24_ := Aside0.mk ((by rw [hg]; exact Nat.ne_of_lt (blk_lt (g := gb1418) (o := .cells #[.slice Ao40 t1411.length co40, .slice Ao45 t1414.length co45] 60 (0, 0)) (by (with_reducible repeat (first | refine blk_drewN ?_ _ | refine blk_drew ?_ | refine blk_alloc ?_ _)); exact BK1418.out)) : gb1418 ≠ gb1448)); have n25_ := Aside0.mk ((by rw [hg]; exact Nat.ne_of_gt (blk_lt (g := gb1418) (o := .cells #[.slice Ao40 t1411.length co40, .slice Ao45 t1414.length co45] 60 (0, 0)) (by (with_reducible repeat (first | refine blk_drewN ?_ _ | refine blk_drew ?_ | refine blk_alloc ?_ _)); exact BK1418.out)) : gb1448 ≠ gb1418)); clear HO_1404000; clear HO_1404001; clear HO_1411000; clear HO_1411001; clear HO_1419000; clear HO_1419001; clear HO1437; clear HO1440; clear HO1443; clear HO1446; clear BK1388; clear BK1403; clear BK1410; clear BK1418; clear HB; have HO_1404000 := n0_; have HO_1404001 := n1_; have HO_1411000 := n2_; have HO_1411001 := n3_; have HO_1419000 := n4_; have HO_1419001 := n5_; have HO1437 := n6_; have HO1440 := n7_; have HO1443 := n8_; have HO1446 := n9_; have BK1388 := n10_; have BK1403 := n11_; have BK1410 := n12_; have BK1418 := n13_; have HB := n14_; have BK1448 := n15_; have GW1448 := n16_; have GE1448 := n17_; have NB1388_1448 := n18_; have NB1448_1388 := n19_; have NB1403_1448 := n20_; have NB1448_1403 := n21_; have NB1410_1448 := n22_; have NB1448_1410 := n23_; have NB1418_1448 := n24_; have NB1448_1418 := n25_; clear n0_ n1_ n2_ n3_ n4_ n5_ n6_ n7_ n8_ n9_ n10_ n11_ n12_ n13_ n14_ n15_ n16_ n17_ n18_ n19_ n20_ n21_ n22_ n23_ n24_ n25_; clear hb hbox hg; obtain ⟨Ao129, co129, eo129⟩ := Kd.R_slice HO1443.out; subst eo129; have hnb130 := NB1448_1388.out; have hnc130 := NB1388_1448.out; have hnb131 := NB1448_1403.out; have hnc131 := NB1403_1448.out; have hnb132 := NB1448_1410.out; have hnc132 := NB1410_1448.out; have hnb133 := NB1448_1418.out; have hnc133 := NB1418_1448.out; have hcz134_0 : w128.cell? ⟨gb1448, 0, none⟩ = some (.slice none 0 0) := (blk_cell BK1448.out 0).trans rfl; have hcz134_1 : w128.cell? ⟨gb1448, 1, none⟩ = some (.slice none 0 0) := (blk_cell BK1448.out 1).trans rfl; have hfz134_0 := blk_frozen BK1448.out 0; have hfz134_1 := blk_frozen BK1448.out 1; obtain ⟨Ao135, co135, eo135⟩ := Kd.R_slice HO1446.out; subst eo135))
            (try simp only [Act.put, List.setIfInBounds_toArray, List.set_cons_zero, List.set_cons_succ])
            go_cut [105] (fun v105 wc => ∃ (kq : Nat) (x105_112 : Bool), v105 = .bool x105_112 ∧ Aside0 (laws_FnExactWriteSector.j2 kq t1431 x105_112 t1432 t1433 = some r) ∧ Aside0 (kq ≤ kj68) ∧ Aside0 (Kd.R Kd.string 9 wc w.heap.size (fun k_ => some k_ ≠ ((.slice Ao33 t1428.length co33) : Value).ownBlock ∧ some k_ ≠ ((.slice Ao40 t1411.length co40) : Value).ownBlock ∧ some k_ ≠ ((.slice Ao129 t1441.length co129) : Value).ownBlock) (.slice Ao26 t1396.length co26) t1396) ∧ Aside0 (Kd.R k122 122 wc w.heap.size (fun k_ => some k_ ≠ ((.slice Ao37 t1429.length co37) : Value).ownBlock ∧ some k_ ≠ ((.slice Ao45 t1414.length co45) : Value).ownBlock ∧ some k_ ≠ ((.slice Ao135 t1444.length co135) : Value).ownBlock) (.slice Ao29 t1399.length co29) t1399) ∧ Aside0 (Kd.R Kd.string 9 wc w.heap.size (fun k_ => some k_ ≠ ((.slice Ao26 t1396.length co26) : Value).ownBlock ∧ some k_ ≠ ((.slice Ao40 t1411.length co40) : Value).ownBlock ∧ some k_ ≠ ((.slice Ao129 t1441.length co129) : Value).ownBlock) (.slice Ao33 t1428.length co33) t1428) ∧ Aside0 (Kd.R k122 122 wc w.heap.size (fun k_ => some k_ ≠ ((.slice Ao29 t1399.length co29) : Value).ownBlock ∧ some k_ ≠ ((.slice Ao45 t1414.length co45) : Value).ownBlock ∧ some k_ ≠ ((.slice Ao135 t1444.length co135) : Value).ownBlock) (.slice Ao37 t1429.length co37) t1429) ∧ Aside0 (Kd.R Kd.string 9 wc w.heap.size (fun k_ => some k_ ≠ ((.slice Ao26 t1396.length co26) : Value).ownBlock ∧ some k_ ≠ ((.slice Ao33 t1428.length co33) : Value).ownBlock ∧ some k_ ≠ ((.slice Ao129 t1441.length co129) : Value).ownBlock) (.slice Ao40 t1411.length co40) t1432) ∧ Aside0 (Kd.R k122 122 wc w.heap.size (fun k_ => some k_ ≠ ((.slice Ao29 t1399.length co29) : Value).ownBlock ∧ some k_ ≠ ((.slice Ao37 t1429.length co37) : Value).ownBlock ∧ some k_ ≠ ((.slice Ao135 t1444.length co135) : Value).ownBlock) (.slice Ao45 t1414.length co45) t1433) ∧ Aside0 (Kd.R Kd.string 9 wc w.heap.size (fun k_ => some k_ ≠ ((.slice Ao26 t1396.length co26) : Value).ownBlock ∧ some k_ ≠ ((.slice Ao33 t1428.length co33) : Value).ownBlock ∧ some k_ ≠ ((.slice Ao40 t1411.length co40) : Value).ownBlock) (.slice Ao129 t1441.length co129) t1441) ∧ Aside0 (Kd.R k122 122 wc w.heap.size (fun k_ => some k_ ≠ ((.slice Ao29 t1399.length co29) : Value).ownBlock ∧ some k_ ≠ ((.slice Ao37 t1429.length co37) : Value).ownBlock ∧ some k_ ≠ ((.slice Ao45 t1414.length co45) : Value).ownBlock) (.slice Ao135 t1444.length co135) t1444) ∧ Aside0 (wc.heap[gb1388]? = some (.cells #[(.slice A0_0 l0_0.length c0_0), (.slice A0_1 l0_1.length c0_1)] 85 (0, 0))) ∧ Aside0 (wc.heap[gb1403]? = some (.cells #[(.slice Ao26 t1396.length co26), (.slice Ao29 t1399.length co29)] 60 (0, 0))) ∧ Aside0 (wc.heap[gb1410]? = some (.cells #[(.slice Ao33 t1428.length co33), (.slice Ao37 t1429.length co37)] 60 (0, 0))) ∧ Aside0 (wc.heap[gb1418]? = some (.cells #[(.slice Ao40 t1411.length co40), (.slice Ao45 t1414.length co45)] 60 (0, 0))) ∧ Aside0 (wc.heap[gb1448]? = some (.cells #[(.slice Ao129 t1441.length co129), (.slice Ao135 t1444.length co135)] 60 (0, 0))) ∧ Aside0 (Below w.heap.size w wc))
            case first =>
             have H := HC113.out
             clear HC113
             replace H := Option.bind_eq_some_iff.mp H
             obtain ⟨t1449, A1360, H⟩ := H
             replace H : (if t1449 = true then (laws_FnExactWriteSector.j2 kj68 t1431 (t1447 != t1402) t1432 t1433) else (laws_FnExactWriteSector.j2 kj68 t1431 true t1432 t1433)) = some r := H
             have A136 := Aside0.mk A1360
             clear A1360
             by_cases c137 : t1449 = true
             ·subst c137
              have H1 : (laws_FnExactWriteSector.j2 kj68 t1431 (t1447 != t1402) t1432 t1433) = some r := by rw [if_pos rfl] at H; exact H
              clear H
              have H := H1
              clear H1
              have H' := Aside0.mk H
              clear H
              have hnb138 := NB1448_1388.out
              have hnc138 := NB1388_1448.out
              have hnb139 := NB1448_1403.out
              have hnc139 := NB1403_1448.out
              have hnb140 := NB1448_1410.out
              have hnc140 := NB1410_1448.out
              have hnb141 := NB1448_1418.out
              have hnc141 := NB1418_1448.out
              have hcz142_0 : w128.cell? ⟨gb1448, 0, none⟩ = some (.slice none 0 0) := (blk_cell BK1448.out 0).trans rfl
              have hcz142_1 : w128.cell? ⟨gb1448, 1, none⟩ = some (.slice none 0 0) := (blk_cell BK1448.out 1).trans rfl
              have hfz142_0 := blk_frozen BK1448.out 0
              have hfz142_1 := blk_frozen BK1448.out 1
              have hnb143 := NB1403_1388.out
              have hnc143 := NB1388_1403.out
              have hnb144 := NB1403_1410.out
              have hnc144 := NB1410_1403.out
              have hnb145 := NB1403_1418.out
              have hnc145 := NB1418_1403.out
              have hcz146_0 : w128.cell? ⟨gb1403, 0, none⟩ = some (.slice Ao26 t1396.length co26) := (blk_cell BK1403.out 0).trans rfl
              have hcz146_1 : w128.cell? ⟨gb1403, 1, none⟩ = some (.slice Ao29 t1399.length co29) := (blk_cell BK1403.out 1).trans rfl
              have hfz146_0 := blk_frozen BK1403.out 0
              have hfz146_1 := blk_frozen BK1403.out 1
              go_wp2_with (first | ((with_reducible refine gate_callee (f := 78) rfl ?_); refine goesL_ (some 99) rfl rfl Try.func78 (by kernel_rfl) rfl #[.agg #[.slice Ao129 t1441.length co129, .slice Ao135 t1444.length co135], .agg #[.slice Ao26 t1396.length co26, .slice Ao29 t1399.length co29]] rfl (by (try simp only [List.map_toArray, List.map_cons, List.map_nil]); first | done | rfl | (simp only [List.length_drop, List.length_take]; rfl)) ?_; (with_reducible refine (laws_eqDisk.calls kj68 _ _ t1441 _ _ t1444 _ _ t1396 _ _ t1399 true _ ?side1 ?side2 ?side3 ?side4 ?side5 ?side6 ?side7 ?side8 A136.out).mono ?_); (case side1 => refine (Kd.R_reads' (e := 9) (base := w.heap.size) (ok := fun k_ => ((((True ∧ some k_ ≠ (.slice Ao26 t1396.length co26 : Value).ownBlock) ∧ some k_ ≠ (.slice Ao33 t1428.length co33 : Value).ownBlock) ∧ some k_ ≠ (.slice Ao40 t1411.length co40 : Value).ownBlock) ∧ some k_ ≠ (.slice Ao125 t1435.length co125 : Value).ownBlock)) (n := t1441.length) (c := co129) ?_).2.2; exact (by (with_reducible repeat (first | apply Kd.R_alloc | apply Kd.R_drewN | apply Kd.R_drew)); exact (Kd.R_mono (Kd.R_far (p := ⟨gb1448, 1, none⟩) (Kd.R_far (p := ⟨gb1448, 0, none⟩) (Kd.R_types HO1443.out BK1448.out (by decide)) (fun _ hk => hk.2) (.slice Ao129 t1441.length co129)) (fun _ hk => hk.2) (.slice Ao135 t1444.length co135)) (fun _ h_ => h_.1)))); (case side2 => exact (Kd.R_reads' HO1443.out).2.1); (case side3 => refine (Kd.R_reads' (e := 122) (base := w.heap.size) (ok := fun k_ => ((((True ∧ some k_ ≠ (.slice Ao29 t1399.length co29 : Value).ownBlock) ∧ some k_ ≠ (.slice Ao37 t1429.length co37 : Value).ownBlock) ∧ some k_ ≠ (.slice Ao45 t1414.length co45 : Value).ownBlock) ∧ some k_ ≠ (.slice Ao126 t1438.length co126 : Value).ownBlock)) (n := t1444.length) (c := co135) ?_).2.2; exact (by (with_reducible repeat (first | apply Kd.R_alloc | apply Kd.R_drewN | apply Kd.R_drew)); exact (Kd.R_mono (Kd.R_far (p := ⟨gb1448, 1, none⟩) (Kd.R_far (p := ⟨gb1448, 0, none⟩) (Kd.R_types HO1446.out BK1448.out (by decide)) (fun _ hk => hk.2) (.slice Ao129 t1441.length co129)) (fun _ hk => hk.2) (.slice Ao135 t1444.length co135)) (fun _ h_ => h_.1)))); (case side4 => exact (Kd.R_reads' HO1446.out).2.1); (case side5 => refine (Kd.R_reads' (e := 9) (base := w.heap.size) (ok := fun k_ => (((some k_ ≠ (.slice Ao33 t1428.length co33 : Value).ownBlock ∧ some k_ ≠ (.slice Ao40 t1411.length co40 : Value).ownBlock) ∧ some k_ ≠ (.slice Ao125 t1435.length co125 : Value).ownBlock) ∧ some k_ ≠ (.slice Ao129 t1441.length co129 : Value).ownBlock)) (n := t1396.length) (c := co26) ?_).2.2; exact (by (with_reducible repeat (first | apply Kd.R_alloc | apply Kd.R_drewN | apply Kd.R_drew)); exact (Kd.R_mono (Kd.R_far (p := ⟨gb1448, 1, none⟩) (Kd.R_far (p := ⟨gb1448, 0, none⟩) (Kd.R_types HO_1404000.out BK1448.out (by decide)) (fun _ hk => hk.2) (.slice Ao129 t1441.length co129)) (fun _ hk => hk.2) (.slice Ao135 t1444.length co135)) (fun _ h_ => h_.1)))); (case side6 => exact (Kd.R_reads' HO_1404000.out).2.1); (case side7 => refine (Kd.R_reads' (e := 122) (base := w.heap.size) (ok := fun k_ => (((some k_ ≠ (.slice Ao37 t1429.length co37 : Value).ownBlock ∧ some k_ ≠ (.slice Ao45 t1414.length co45 : Value).ownBlock) ∧ some k_ ≠ (.slice Ao126 t1438.length co126 : Value).ownBlock) ∧ some k_ ≠ (.slice Ao135 t1444.length co135 : Value).ownBlock)) (n := t1399.length) (c := co29) ?_).2.2; exact (by (with_reducible repeat (first | apply Kd.R_alloc | apply Kd.R_drewN | apply Kd.R_drew)); exact (Kd.R_mono (Kd.R_far (p := ⟨gb1448, 1, none⟩) (Kd.R_far (p := ⟨gb1448, 0, none⟩) (Kd.R_types HO_1404001.out BK1448.out (by decide)) (fun _ hk => hk.2) (.slice Ao129 t1441.length co129)) (fun _ hk => hk.2) (.slice Ao135 t1444.length co135)) (fun _ h_ => h_.1)))); (case side8 => exact (Kd.R_reads' HO_1404001.out).2.1); rintro e w147 ⟨rfl, hb⟩; refine ⟨_, rfl, ?_⟩; have n0_ := Aside0.mk (Kd.R_below (by (with_reducible repeat (first | apply Kd.R_alloc | apply Kd.R_drewN | apply Kd.R_drew)); exact (Kd.R_mono (Kd.R_far (p := ⟨gb1448, 1, none⟩) (Kd.R_far (p := ⟨gb1448, 0, none⟩) (Kd.R_types HO_1404000.out BK1448.out (by decide)) (fun _ hk => hk.2) (.slice Ao129 t1441.length co129)) (fun _ hk => hk.2) (.slice Ao135 t1444.length co135)) (fun _ h_ => h_.1))) hb); have n1_ := Aside0.mk (Kd.R_below (by (with_reducible repeat (first | apply Kd.R_alloc | apply Kd.R_drewN | apply Kd.R_drew)); exact (Kd.R_mono (Kd.R_far (p := ⟨gb1448, 1, none⟩) (Kd.R_far (p := ⟨gb1448, 0, none⟩) (Kd.R_types HO_1404001.out BK1448.out (by decide)) (fun _ hk => hk.2) (.slice Ao129 t1441.length co129)) (fun _ hk => hk.2) (.slice Ao135 t1444.length co135)) (fun _ h_ => h_.1))) hb); have n2_ := Aside0.mk (Kd.R_below (by (with_reducible repeat (first | apply Kd.R_alloc | apply Kd.R_drewN | apply Kd.R_drew)); exact (Kd.R_mono (Kd.R_far (p := ⟨gb1448, 1, none⟩) (Kd.R_far (p := ⟨gb1448, 0, none⟩) (Kd.R_types HO_1411000.out BK1448.out (by decide)) (fun _ hk => hk.2) (.slice Ao129 t1441.length co129)) (fun _ hk => hk.2) (.slice Ao135 t1444.length co135)) (fun _ h_ => h_.1))) hb); have n3_ := Aside0.mk (Kd.R_below (by (with_reducible repeat (first | apply Kd.R_alloc | apply Kd.R_drewN | apply Kd.R_drew)); exact (Kd.R_mono (Kd.R_far (p := ⟨gb1448, 1, none⟩) (Kd.R_far (p := ⟨gb1448, 0, none⟩) (Kd.R_types HO_1411001.out BK1448.out (by decide)) (fun _ hk => hk.2) (.slice Ao129 t1441.length co129)) (fun _ hk => hk.2) (.slice Ao135 t1444.length co135)) (fun _ h_ => h_.1))) hb); have n4_ := Aside0.mk (Kd.R_below (by (with_reducible repeat (first | apply Kd.R_alloc | apply Kd.R_drewN | apply Kd.R_drew)); exact (Kd.R_mono (Kd.R_far (p := ⟨gb1448, 1, none⟩) (Kd.R_far (p := ⟨gb1448, 0, none⟩) (Kd.R_types HO_1419000.out BK1448.out (by decide)) (fun _ hk => hk.2) (.slice Ao129 t1441.length co129)) (fun _ hk => hk.2) (.slice Ao135 t1444.length co135)) (fun _ h_ => h_.1))) hb); have n5_ := Aside0.mk (Kd.R_below (by (with_reducible repeat (first | apply Kd.R_alloc | apply Kd.R_drewN | apply Kd.R_drew)); exact (Kd.R_mono (Kd.R_far (p := ⟨gb1448, 1, none⟩) (Kd.R_far (p := ⟨gb1448, 0, none⟩) (Kd.R_types HO_1419001.out BK1448.out (by decide)) (fun _ hk => hk.2) (.slice Ao129 t1441.length co129)) (fun _ hk => hk.2) (.slice Ao135 t1444.length co135)) (fun _ h_ => h_.1))) hb); have n6_ := Aside0.mk (Kd.R_below (by (with_reducible repeat (first | apply Kd.R_alloc | apply Kd.R_drewN | apply Kd.R_drew)); exact (Kd.R_mono (Kd.R_far (p := ⟨gb1448, 1, none⟩) (Kd.R_far (p := ⟨gb1448, 0, none⟩) (Kd.R_types HO1437.out BK1448.out (by decide)) (fun _ hk => hk.2) (.slice Ao129 t1441.length co129)) (fun _ hk => hk.2) (.slice Ao135 t1444.length co135)) (fun _ h_ => h_.1))) hb); have n7_ := Aside0.mk (Kd.R_below (by (with_reducible repeat (first | apply Kd.R_alloc | apply Kd.R_drewN | apply Kd.R_drew)); exact (Kd.R_mono (Kd.R_far (p := ⟨gb1448, 1, none⟩) (Kd.R_far (p := ⟨gb1448, 0, none⟩) (Kd.R_types HO1440.out BK1448.out (by decide)) (fun _ hk => hk.2) (.slice Ao129 t1441.length co129)) (fun _ hk => hk.2) (.slice Ao135 t1444.length co135)) (fun _ h_ => h_.1))) hb); have n8_ := Aside0.mk (Kd.R_below (by (with_reducible repeat (first | apply Kd.R_alloc | apply Kd.R_drewN | apply Kd.R_drew)); exact (Kd.R_mono (Kd.R_far (p := ⟨gb1448, 1, none⟩) (Kd.R_far (p := ⟨gb1448, 0, none⟩) (Kd.R_types HO1443.out BK1448.out (by decide)) (fun _ hk => hk.2) (.slice Ao129 t1441.length co129)) (fun _ hk => hk.2) (.slice Ao135 t1444.length co135)) (fun _ h_ => h_.1))) hb); have n9_ := Aside0.mk (Kd.R_below (by (with_reducible repeat (first | apply Kd.R_alloc | apply Kd.R_drewN | apply Kd.R_drew)); exact (Kd.R_mono (Kd.R_far (p := ⟨gb1448, 1, none⟩) (Kd.R_far (p := ⟨gb1448, 0, none⟩) (Kd.R_types HO1446.out BK1448.out (by decide)) (fun _ hk => hk.2) (.slice Ao129 t1441.length co129)) (fun _ hk => hk.2) (.slice Ao135 t1444.length co135)) (fun _ h_ => h_.1))) hb); have n10_ := Aside0.mk (blk_below (g := gb1388) (o := .cells #[.slice A0_0 l0_0.length c0_0, .slice A0_1 l0_1.length c0_1] 85 (0, 0)) (by (with_reducible repeat (first | refine blk_drewN ?_ _ | refine blk_drew ?_ | refine blk_alloc ?_ _)); refine blk_far ?_ NB1388_1448.out _; (with_reducible repeat (first | refine blk_drewN ?_ _ | refine blk_drew ?_ | refine blk_alloc ?_ _)); refine blk_far ?_ NB1388_1448.out _; (with_reducible repeat (first | refine blk_drewN ?_ _ | refine blk_drew ?_ | refine blk_alloc ?_ _)); exact BK1388.out) hb); have n11_ := Aside0.mk (blk_below (g := gb1403) (o := .cells #[.slice Ao26 t1396.length co26, .slice Ao29 t1399.length co29] 60 (0, 0)) (by (with_reducible repeat (first | refine blk_drewN ?_ _ | refine blk_drew ?_ | refine blk_alloc ?_ _)); refine blk_far ?_ NB1403_1448.out _; (with_reducible repeat (first | refine blk_drewN ?_ _ | refine blk_drew ?_ | refine blk_alloc ?_ _)); refine blk_far ?_ NB1403_1448.out _; (with_reducible repeat (first | refine blk_drewN ?_ _ | refine blk_drew ?_ | refine blk_alloc ?_ _)); exact BK1403.out) hb); have n12_ := Aside0.mk (blk_below (g := gb1410) (o := .cells #[.slice Ao33 t1428.length co33, .slice Ao37 t1429.length co37] 60 (0, 0)) (by (with_reducible repeat (first | refine blk_drewN ?_ _ | refine blk_drew ?_ | refine blk_alloc ?_ _)); refine blk_far ?_ NB1410_1448.out _; (with_reducible repeat (first | refine blk_drewN ?_ _ | refine blk_drew ?_ | refine blk_alloc ?_ _)); refine blk_far ?_ NB1410_1448.out _; (with_reducible repeat (first | refine blk_drewN ?_ _ | refine blk_drew ?_ | refine blk_alloc ?_ _)); exact BK1410.out) hb); have n13_ := Aside0.mk (blk_below (g := gb1418) (o := .cells #[.slice Ao40 t1411.length co40, .slice Ao45 t1414.length co45] 60 (0, 0)) (by (with_reducible repeat (first | refine blk_drewN ?_ _ | refine blk_drew ?_ | refine blk_alloc ?_ _)); refine blk_far ?_ NB1418_1448.out _; (with_reducible repeat (first | refine blk_drewN ?_ _ | refine blk_drew ?_ | refine blk_alloc ?_ _)); refine blk_far ?_ NB1418_1448.out _; (with_reducible repeat (first | refine blk_drewN ?_ _ | refine blk_drew ?_ | refine blk_alloc ?_ _)); exact BK1418.out) hb); have n14_ := Aside0.mk (blk_below (g := gb1448) (o := .cells #[.slice Ao129 t1441.length co129, .slice Ao135 t1444.length co135] 60 (0, 0)) (by (with_reducible repeat (first | refine blk_drewN ?_ _ | refine blk_drew ?_ | refine blk_alloc ?_ _)); refine blk_put (cs := #[.slice Ao129 t1441.length co129, .slice none 0 0]) ?_ 1 _ rfl; (with_reducible repeat (first | refine blk_drewN ?_ _ | refine blk_drew ?_ | refine blk_alloc ?_ _)); refine blk_put (cs := #[.slice none 0 0, .slice none 0 0]) ?_ 0 _ rfl; (with_reducible repeat (first | refine blk_drewN ?_ _ | refine blk_drew ?_ | refine blk_alloc ?_ _)); exact BK1448.out) hb); have n15_ := Aside0.mk (below_step (by repeat (first | (with_reducible first | exact HB.out | apply below_alloc | apply pw_below_drewN | apply below_drew1 | refine below_set ?_ GE1388.out | refine below_set ?_ GE1403.out | refine below_set ?_ GE1410.out | refine below_set ?_ GE1418.out | refine below_set ?_ GE1448.out) | exact HB.out)) hb); clear HO_1404000; clear HO_1404001; clear HO_1411000; clear HO_1411001; clear HO_1419000; clear HO_1419001; clear HO1437; clear HO1440; clear HO1443; clear HO1446; clear BK1388; clear BK1403; clear BK1410; clear BK1418; clear BK1448; clear HB; have HO_1404000 := n0_; have HO_1404001 := n1_; have HO_1411000 := n2_; have HO_1411001 := n3_; have HO_1419000 := n4_; have HO_1419001 := n5_; have HO1437 := n6_; have HO1440 := n7_; have HO1443 := n8_; have HO1446 := n9_; have BK1388 := n10_; have BK1403 := n11_; have BK1410 := n12_; have BK1418 := n13_; have BK1448 := n14_; have HB := n15_; clear n0_ n1_ n2_ n3_ n4_ n5_ n6_ n7_ n8_ n9_ n10_ n11_ n12_ n13_ n14_ n15_; (try clear hb); (try clear hb2); (try clear hk); (try clear hi)))
              go_meet
              case rel => exact ⟨_, ((t1447 != t1402)), (by first | rfl | (simp; done) | (simp [*]; done)), H', ⟨by have := HJ15.out; have := HJ68.out; first | omega | exact Nat.le_refl _⟩, ⟨by (try simp only [hl1411000_68]); (try simp only [hl1411001_68]); (with_reducible repeat (first | apply Kd.R_alloc | apply Kd.R_drewN | apply Kd.R_drew)); exact Kd.R_mono HO_1404000.out (fun _ hk => ⟨hk.1.1.1, ⟨hk.1.1.2, hk.2⟩⟩)⟩, ⟨by (try simp only [hl1411000_68]); (try simp only [hl1411001_68]); (with_reducible repeat (first | apply Kd.R_alloc | apply Kd.R_drewN | apply Kd.R_drew)); exact Kd.R_mono HO_1404001.out (fun _ hk => ⟨hk.1.1.1, ⟨hk.1.1.2, hk.2⟩⟩)⟩, ⟨by (try simp only [hl1411000_68]); (try simp only [hl1411001_68]); (with_reducible repeat (first | apply Kd.R_alloc | apply Kd.R_drewN | apply Kd.R_drew)); exact Kd.R_mono HO_1411000.out (fun _ hk => ⟨hk.1.1.1, ⟨hk.1.1.2, hk.2⟩⟩)⟩, ⟨by (try simp only [hl1411000_68]); (try simp only [hl1411001_68]); (with_reducible repeat (first | apply Kd.R_alloc | apply Kd.R_drewN | apply Kd.R_drew)); exact Kd.R_mono HO_1411001.out (fun _ hk => ⟨hk.1.1.1, ⟨hk.1.1.2, hk.2⟩⟩)⟩, ⟨by (try simp only [hl1411000_68]); (try simp only [hl1411001_68]); (with_reducible repeat (first | apply Kd.R_alloc | apply Kd.R_drewN | apply Kd.R_drew)); exact Kd.R_mono HO_1419000.out (fun _ hk => ⟨hk.1.1.1, ⟨hk.1.1.2, hk.2⟩⟩)⟩, ⟨by (try simp only [hl1411000_68]); (try simp only [hl1411001_68]); (with_reducible repeat (first | apply Kd.R_alloc | apply Kd.R_drewN | apply Kd.R_drew)); exact Kd.R_mono HO_1419001.out (fun _ hk => ⟨hk.1.1.1, ⟨hk.1.1.2, hk.2⟩⟩)⟩, ⟨by (try simp only [hl1411000_68]); (try simp only [hl1411001_68]); (with_reducible repeat (first | apply Kd.R_alloc | apply Kd.R_drewN | apply Kd.R_drew)); exact Kd.R_mono HO1443.out (fun _ hk => ⟨hk.1.1.1.2, ⟨hk.1.1.2, hk.1.2⟩⟩)⟩, ⟨by (try simp only [hl1411000_68]); (try simp only [hl1411001_68]); (with_reducible repeat (first | apply Kd.R_alloc | apply Kd.R_drewN | apply Kd.R_drew)); exact Kd.R_mono HO1446.out (fun _ hk => ⟨hk.1.1.1.2, ⟨hk.1.1.2, hk.1.2⟩⟩)⟩, ⟨by (try simp only [hl1411000_68]); (try simp only [hl1411001_68]); (with_reducible repeat (first | refine blk_drewN ?_ _ | refine blk_drew ?_ | refine blk_alloc ?_ _)); exact BK1388.out⟩, ⟨by (try simp only [hl1411000_68]); (try simp only [hl1411001_68]); (with_reducible repeat (first | refine blk_drewN ?_ _ | refine blk_drew ?_ | refine blk_alloc ?_ _)); exact BK1403.out⟩, ⟨by (try simp only [hl1411000_68]); (try simp only [hl1411001_68]); (with_reducible repeat (first | refine blk_drewN ?_ _ | refine blk_drew ?_ | refine blk_alloc ?_ _)); exact BK1410.out⟩, ⟨by (try simp only [hl1411000_68]); (try simp only [hl1411001_68]); (with_reducible repeat (first | refine blk_drewN ?_ _ | refine blk_drew ?_ | refine blk_alloc ?_ _)); exact BK1418.out⟩, ⟨by (try simp only [hl1411000_68]); (try simp only [hl1411001_68]); (with_reducible repeat (first | refine blk_drewN ?_ _ | refine blk_drew ?_ | refine blk_alloc ?_ _)); exact BK1448.out⟩, ⟨by repeat (first | (with_reducible first | exact HB.out | apply below_alloc | apply pw_below_drewN | apply below_drew1 | refine below_set ?_ GE1388.out | refine below_set ?_ GE1403.out | refine below_set ?_ GE1410.out | refine below_set ?_ GE1418.out | refine below_set ?_ GE1448.out) | exact HB.out)⟩⟩
             ·replace c137 := Bool.eq_false_iff.mpr c137
              subst c137
              have H1 : (laws_FnExactWriteSector.j2 kj68 t1431 true t1432 t1433) = some r := by rw [if_neg (show ¬ (false = true) by decide)] at H; exact H
              clear H
              have H := H1
              clear H1
              have H' := Aside0.mk H
              clear H
              have hnb148 := NB1448_1388.out
              have hnc148 := NB1388_1448.out
              have hnb149 := NB1448_1403.out
              have hnc149 := NB1403_1448.out
              have hnb150 := NB1448_1410.out
              have hnc150 := NB1410_1448.out
              have hnb151 := NB1448_1418.out
              have hnc151 := NB1418_1448.out
              have hcz152_0 : w128.cell? ⟨gb1448, 0, none⟩ = some (.slice none 0 0) := (blk_cell BK1448.out 0).trans rfl
              have hcz152_1 : w128.cell? ⟨gb1448, 1, none⟩ = some (.slice none 0 0) := (blk_cell BK1448.out 1).trans rfl
              have hfz152_0 := blk_frozen BK1448.out 0
              have hfz152_1 := blk_frozen BK1448.out 1
              have hnb153 := NB1403_1388.out
              have hnc153 := NB1388_1403.out
              have hnb154 := NB1403_1410.out
              have hnc154 := NB1410_1403.out
              have hnb155 := NB1403_1418.out
              have hnc155 := NB1418_1403.out
              have hcz156_0 : w128.cell? ⟨gb1403, 0, none⟩ = some (.slice Ao26 t1396.length co26) := (blk_cell BK1403.out 0).trans rfl
              have hcz156_1 : w128.cell? ⟨gb1403, 1, none⟩ = some (.slice Ao29 t1399.length co29) := (blk_cell BK1403.out 1).trans rfl
              have hfz156_0 := blk_frozen BK1403.out 0
              have hfz156_1 := blk_frozen BK1403.out 1
              go_wp2_with (first | ((with_reducible refine gate_callee (f := 78) rfl ?_); refine goesL_ (some 99) rfl rfl Try.func78 (by kernel_rfl) rfl #[.agg #[.slice Ao129 t1441.length co129, .slice Ao135 t1444.length co135], .agg #[.slice Ao26 t1396.length co26, .slice Ao29 t1399.length co29]] rfl (by (try simp only [List.map_toArray, List.map_cons, List.map_nil]); first | done | rfl | (simp only [List.length_drop, List.length_take]; rfl)) ?_; (with_reducible refine (laws_eqDisk.calls kj68 _ _ t1441 _ _ t1444 _ _ t1396 _ _ t1399 false _ ?side1 ?side2 ?side3 ?side4 ?side5 ?side6 ?side7 ?side8 A136.out).mono ?_); (case side1 => refine (Kd.R_reads' (e := 9) (base := w.heap.size) (ok := fun k_ => ((((True ∧ some k_ ≠ (.slice Ao26 t1396.length co26 : Value).ownBlock) ∧ some k_ ≠ (.slice Ao33 t1428.length co33 : Value).ownBlock) ∧ some k_ ≠ (.slice Ao40 t1411.length co40 : Value).ownBlock) ∧ some k_ ≠ (.slice Ao125 t1435.length co125 : Value).ownBlock)) (n := t1441.length) (c := co129) ?_).2.2; exact (by (with_reducible repeat (first | apply Kd.R_alloc | apply Kd.R_drewN | apply Kd.R_drew)); exact (Kd.R_mono (Kd.R_far (p := ⟨gb1448, 1, none⟩) (Kd.R_far (p := ⟨gb1448, 0, none⟩) (Kd.R_types HO1443.out BK1448.out (by decide)) (fun _ hk => hk.2) (.slice Ao129 t1441.length co129)) (fun _ hk => hk.2) (.slice Ao135 t1444.length co135)) (fun _ h_ => h_.1)))); (case side2 => exact (Kd.R_reads' HO1443.out).2.1); (case side3 => refine (Kd.R_reads' (e := 122) (base := w.heap.size) (ok := fun k_ => ((((True ∧ some k_ ≠ (.slice Ao29 t1399.length co29 : Value).ownBlock) ∧ some k_ ≠ (.slice Ao37 t1429.length co37 : Value).ownBlock) ∧ some k_ ≠ (.slice Ao45 t1414.length co45 : Value).ownBlock) ∧ some k_ ≠ (.slice Ao126 t1438.length co126 : Value).ownBlock)) (n := t1444.length) (c := co135) ?_).2.2; exact (by (with_reducible repeat (first | apply Kd.R_alloc | apply Kd.R_drewN | apply Kd.R_drew)); exact (Kd.R_mono (Kd.R_far (p := ⟨gb1448, 1, none⟩) (Kd.R_far (p := ⟨gb1448, 0, none⟩) (Kd.R_types HO1446.out BK1448.out (by decide)) (fun _ hk => hk.2) (.slice Ao129 t1441.length co129)) (fun _ hk => hk.2) (.slice Ao135 t1444.length co135)) (fun _ h_ => h_.1)))); (case side4 => exact (Kd.R_reads' HO1446.out).2.1); (case side5 => refine (Kd.R_reads' (e := 9) (base := w.heap.size) (ok := fun k_ => (((some k_ ≠ (.slice Ao33 t1428.length co33 : Value).ownBlock ∧ some k_ ≠ (.slice Ao40 t1411.length co40 : Value).ownBlock) ∧ some k_ ≠ (.slice Ao125 t1435.length co125 : Value).ownBlock) ∧ some k_ ≠ (.slice Ao129 t1441.length co129 : Value).ownBlock)) (n := t1396.length) (c := co26) ?_).2.2; exact (by (with_reducible repeat (first | apply Kd.R_alloc | apply Kd.R_drewN | apply Kd.R_drew)); exact (Kd.R_mono (Kd.R_far (p := ⟨gb1448, 1, none⟩) (Kd.R_far (p := ⟨gb1448, 0, none⟩) (Kd.R_types HO_1404000.out BK1448.out (by decide)) (fun _ hk => hk.2) (.slice Ao129 t1441.length co129)) (fun _ hk => hk.2) (.slice Ao135 t1444.length co135)) (fun _ h_ => h_.1)))); (case side6 => exact (Kd.R_reads' HO_1404000.out).2.1); (case side7 => refine (Kd.R_reads' (e := 122) (base := w.heap.size) (ok := fun k_ => (((some k_ ≠ (.slice Ao37 t1429.length co37 : Value).ownBlock ∧ some k_ ≠ (.slice Ao45 t1414.length co45 : Value).ownBlock) ∧ some k_ ≠ (.slice Ao126 t1438.length co126 : Value).ownBlock) ∧ some k_ ≠ (.slice Ao135 t1444.length co135 : Value).ownBlock)) (n := t1399.length) (c := co29) ?_).2.2; exact (by (with_reducible repeat (first | apply Kd.R_alloc | apply Kd.R_drewN | apply Kd.R_drew)); exact (Kd.R_mono (Kd.R_far (p := ⟨gb1448, 1, none⟩) (Kd.R_far (p := ⟨gb1448, 0, none⟩) (Kd.R_types HO_1404001.out BK1448.out (by decide)) (fun _ hk => hk.2) (.slice Ao129 t1441.length co129)) (fun _ hk => hk.2) (.slice Ao135 t1444.length co135)) (fun _ h_ => h_.1)))); (case side8 => exact (Kd.R_reads' HO_1404001.out).2.1); rintro e w157 ⟨rfl, hb⟩; refine ⟨_, rfl, ?_⟩; have n0_ := Aside0.mk (Kd.R_below (by (with_reducible repeat (first | apply Kd.R_alloc | apply Kd.R_drewN | apply Kd.R_drew)); exact (Kd.R_mono (Kd.R_far (p := ⟨gb1448, 1, none⟩) (Kd.R_far (p := ⟨gb1448, 0, none⟩) (Kd.R_types HO_1404000.out BK1448.out (by decide)) (fun _ hk => hk.2) (.slice Ao129 t1441.length co129)) (fun _ hk => hk.2) (.slice Ao135 t1444.length co135)) (fun _ h_ => h_.1))) hb); have n1_ := Aside0.mk (Kd.R_below (by (with_reducible repeat (first | apply Kd.R_alloc | apply Kd.R_drewN | apply Kd.R_drew)); exact (Kd.R_mono (Kd.R_far (p := ⟨gb1448, 1, none⟩) (Kd.R_far (p := ⟨gb1448, 0, none⟩) (Kd.R_types HO_1404001.out BK1448.out (by decide)) (fun _ hk => hk.2) (.slice Ao129 t1441.length co129)) (fun _ hk => hk.2) (.slice Ao135 t1444.length co135)) (fun _ h_ => h_.1))) hb); have n2_ := Aside0.mk (Kd.R_below (by (with_reducible repeat (first | apply Kd.R_alloc | apply Kd.R_drewN | apply Kd.R_drew)); exact (Kd.R_mono (Kd.R_far (p := ⟨gb1448, 1, none⟩) (Kd.R_far (p := ⟨gb1448, 0, none⟩) (Kd.R_types HO_1411000.out BK1448.out (by decide)) (fun _ hk => hk.2) (.slice Ao129 t1441.length co129)) (fun _ hk => hk.2) (.slice Ao135 t1444.length co135)) (fun _ h_ => h_.1))) hb); have n3_ := Aside0.mk (Kd.R_below (by (with_reducible repeat (first | apply Kd.R_alloc | apply Kd.R_drewN | apply Kd.R_drew)); exact (Kd.R_mono (Kd.R_far (p := ⟨gb1448, 1, none⟩) (Kd.R_far (p := ⟨gb1448, 0, none⟩) (Kd.R_types HO_1411001.out BK1448.out (by decide)) (fun _ hk => hk.2) (.slice Ao129 t1441.length co129)) (fun _ hk => hk.2) (.slice Ao135 t1444.length co135)) (fun _ h_ => h_.1))) hb); have n4_ := Aside0.mk (Kd.R_below (by (with_reducible repeat (first | apply Kd.R_alloc | apply Kd.R_drewN | apply Kd.R_drew)); exact (Kd.R_mono (Kd.R_far (p := ⟨gb1448, 1, none⟩) (Kd.R_far (p := ⟨gb1448, 0, none⟩) (Kd.R_types HO_1419000.out BK1448.out (by decide)) (fun _ hk => hk.2) (.slice Ao129 t1441.length co129)) (fun _ hk => hk.2) (.slice Ao135 t1444.length co135)) (fun _ h_ => h_.1))) hb); have n5_ := Aside0.mk (Kd.R_below (by (with_reducible repeat (first | apply Kd.R_alloc | apply Kd.R_drewN | apply Kd.R_drew)); exact (Kd.R_mono (Kd.R_far (p := ⟨gb1448, 1, none⟩) (Kd.R_far (p := ⟨gb1448, 0, none⟩) (Kd.R_types HO_1419001.out BK1448.out (by decide)) (fun _ hk => hk.2) (.slice Ao129 t1441.length co129)) (fun _ hk => hk.2) (.slice Ao135 t1444.length co135)) (fun _ h_ => h_.1))) hb); have n6_ := Aside0.mk (Kd.R_below (by (with_reducible repeat (first | apply Kd.R_alloc | apply Kd.R_drewN | apply Kd.R_drew)); exact (Kd.R_mono (Kd.R_far (p := ⟨gb1448, 1, none⟩) (Kd.R_far (p := ⟨gb1448, 0, none⟩) (Kd.R_types HO1437.out BK1448.out (by decide)) (fun _ hk => hk.2) (.slice Ao129 t1441.length co129)) (fun _ hk => hk.2) (.slice Ao135 t1444.length co135)) (fun _ h_ => h_.1))) hb); have n7_ := Aside0.mk (Kd.R_below (by (with_reducible repeat (first | apply Kd.R_alloc | apply Kd.R_drewN | apply Kd.R_drew)); exact (Kd.R_mono (Kd.R_far (p := ⟨gb1448, 1, none⟩) (Kd.R_far (p := ⟨gb1448, 0, none⟩) (Kd.R_types HO1440.out BK1448.out (by decide)) (fun _ hk => hk.2) (.slice Ao129 t1441.length co129)) (fun _ hk => hk.2) (.slice Ao135 t1444.length co135)) (fun _ h_ => h_.1))) hb); have n8_ := Aside0.mk (Kd.R_below (by (with_reducible repeat (first | apply Kd.R_alloc | apply Kd.R_drewN | apply Kd.R_drew)); exact (Kd.R_mono (Kd.R_far (p := ⟨gb1448, 1, none⟩) (Kd.R_far (p := ⟨gb1448, 0, none⟩) (Kd.R_types HO1443.out BK1448.out (by decide)) (fun _ hk => hk.2) (.slice Ao129 t1441.length co129)) (fun _ hk => hk.2) (.slice Ao135 t1444.length co135)) (fun _ h_ => h_.1))) hb); have n9_ := Aside0.mk (Kd.R_below (by (with_reducible repeat (first | apply Kd.R_alloc | apply Kd.R_drewN | apply Kd.R_drew)); exact (Kd.R_mono (Kd.R_far (p := ⟨gb1448, 1, none⟩) (Kd.R_far (p := ⟨gb1448, 0, none⟩) (Kd.R_types HO1446.out BK1448.out (by decide)) (fun _ hk => hk.2) (.slice Ao129 t1441.length co129)) (fun _ hk => hk.2) (.slice Ao135 t1444.length co135)) (fun _ h_ => h_.1))) hb); have n10_ := Aside0.mk (blk_below (g := gb1388) (o := .cells #[.slice A0_0 l0_0.length c0_0, .slice A0_1 l0_1.length c0_1] 85 (0, 0)) (by (with_reducible repeat (first | refine blk_drewN ?_ _ | refine blk_drew ?_ | refine blk_alloc ?_ _)); refine blk_far ?_ NB1388_1448.out _; (with_reducible repeat (first | refine blk_drewN ?_ _ | refine blk_drew ?_ | refine blk_alloc ?_ _)); refine blk_far ?_ NB1388_1448.out _; (with_reducible repeat (first | refine blk_drewN ?_ _ | refine blk_drew ?_ | refine blk_alloc ?_ _)); exact BK1388.out) hb); have n11_ := Aside0.mk (blk_below (g := gb1403) (o := .cells #[.slice Ao26 t1396.length co26, .slice Ao29 t1399.length co29] 60 (0, 0)) (by (with_reducible repeat (first | refine blk_drewN ?_ _ | refine blk_drew ?_ | refine blk_alloc ?_ _)); refine blk_far ?_ NB1403_1448.out _; (with_reducible repeat (first | refine blk_drewN ?_ _ | refine blk_drew ?_ | refine blk_alloc ?_ _)); refine blk_far ?_ NB1403_1448.out _; (with_reducible repeat (first | refine blk_drewN ?_ _ | refine blk_drew ?_ | refine blk_alloc ?_ _)); exact BK1403.out) hb); have n12_ := Aside0.mk (blk_below (g := gb1410) (o := .cells #[.slice Ao33 t1428.length co33, .slice Ao37 t1429.length co37] 60 (0, 0)) (by (with_reducible repeat (first | refine blk_drewN ?_ _ | refine blk_drew ?_ | refine blk_alloc ?_ _)); refine blk_far ?_ NB1410_1448.out _; (with_reducible repeat (first | refine blk_drewN ?_ _ | refine blk_drew ?_ | refine blk_alloc ?_ _)); refine blk_far ?_ NB1410_1448.out _; (with_reducible repeat (first | refine blk_drewN ?_ _ | refine blk_drew ?_ | refine blk_alloc ?_ _)); exact BK1410.out) hb); have n13_ := Aside0.mk (blk_below (g := gb1418) (o := .cells #[.slice Ao40 t1411.length co40, .slice Ao45 t1414.length co45] 60 (0, 0)) (by (with_reducible repeat (first | refine blk_drewN ?_ _ | refine blk_drew ?_ | refine blk_alloc ?_ _)); refine blk_far ?_ NB1418_1448.out _; (with_reducible repeat (first | refine blk_drewN ?_ _ | refine blk_drew ?_ | refine blk_alloc ?_ _)); refine blk_far ?_ NB1418_1448.out _; (with_reducible repeat (first | refine blk_drewN ?_ _ | refine blk_drew ?_ | refine blk_alloc ?_ _)); exact BK1418.out) hb); have n14_ := Aside0.mk (blk_below (g := gb1448) (o := .cells #[.slice Ao129 t1441.length co129, .slice Ao135 t1444.length co135] 60 (0, 0)) (by (with_reducible repeat (first | refine blk_drewN ?_ _ | refine blk_drew ?_ | refine blk_alloc ?_ _)); refine blk_put (cs := #[.slice Ao129 t1441.length co129, .slice none 0 0]) ?_ 1 _ rfl; (with_reducible repeat (first | refine blk_drewN ?_ _ | refine blk_drew ?_ | refine blk_alloc ?_ _)); refine blk_put (cs := #[.slice none 0 0, .slice none 0 0]) ?_ 0 _ rfl; (with_reducible repeat (first | refine blk_drewN ?_ _ | refine blk_drew ?_ | refine blk_alloc ?_ _)); exact BK1448.out) hb); have n15_ := Aside0.mk (below_step (by repeat (first | (with_reducible first | exact HB.out | apply below_alloc | apply pw_below_drewN | apply below_drew1 | refine below_set ?_ GE1388.out | refine below_set ?_ GE1403.out | refine below_set ?_ GE1410.out | refine below_set ?_ GE1418.out | refine below_set ?_ GE1448.out) | exact HB.out)) hb); clear HO_1404000; clear HO_1404001; clear HO_1411000; clear HO_1411001; clear HO_1419000; clear HO_1419001; clear HO1437; clear HO1440; clear HO1443; clear HO1446; clear BK1388; clear BK1403; clear BK1410; clear BK1418; clear BK1448; clear HB; have HO_1404000 := n0_; have HO_1404001 := n1_; have HO_1411000 := n2_; have HO_1411001 := n3_; have HO_1419000 := n4_; have HO_1419001 := n5_; have HO1437 := n6_; have HO1440 := n7_; have HO1443 := n8_; have HO1446 := n9_; have BK1388 := n10_; have BK1403 := n11_; have BK1410 := n12_; have BK1418 := n13_; have BK1448 := n14_; have HB := n15_; clear n0_ n1_ n2_ n3_ n4_ n5_ n6_ n7_ n8_ n9_ n10_ n11_ n12_ n13_ n14_ n15_; (try clear hb); (try clear hb2); (try clear hk); (try clear hi)))
              go_meet
              case rel => exact ⟨_, (true), (by first | rfl | (simp; done) | (simp [*]; done)), H', ⟨by have := HJ15.out; have := HJ68.out; first | omega | exact Nat.le_refl _⟩, ⟨by (try simp only [hl1411000_68]); (try simp only [hl1411001_68]); (with_reducible repeat (first | apply Kd.R_alloc | apply Kd.R_drewN | apply Kd.R_drew)); exact Kd.R_mono HO_1404000.out (fun _ hk => ⟨hk.1.1.1, ⟨hk.1.1.2, hk.2⟩⟩)⟩, ⟨by (try simp only [hl1411000_68]); (try simp only [hl1411001_68]); (with_reducible repeat (first | apply Kd.R_alloc | apply Kd.R_drewN | apply Kd.R_drew)); exact Kd.R_mono HO_1404001.out (fun _ hk => ⟨hk.1.1.1, ⟨hk.1.1.2, hk.2⟩⟩)⟩, ⟨by (try simp only [hl1411000_68]); (try simp only [hl1411001_68]); (with_reducible repeat (first | apply Kd.R_alloc | apply Kd.R_drewN | apply Kd.R_drew)); exact Kd.R_mono HO_1411000.out (fun _ hk => ⟨hk.1.1.1, ⟨hk.1.1.2, hk.2⟩⟩)⟩, ⟨by (try simp only [hl1411000_68]); (try simp only [hl1411001_68]); (with_reducible repeat (first | apply Kd.R_alloc | apply Kd.R_drewN | apply Kd.R_drew)); exact Kd.R_mono HO_1411001.out (fun _ hk => ⟨hk.1.1.1, ⟨hk.1.1.2, hk.2⟩⟩)⟩, ⟨by (try simp only [hl1411000_68]); (try simp only [hl1411001_68]); (with_reducible repeat (first | apply Kd.R_alloc | apply Kd.R_drewN | apply Kd.R_drew)); exact Kd.R_mono HO_1419000.out (fun _ hk => ⟨hk.1.1.1, ⟨hk.1.1.2, hk.2⟩⟩)⟩, ⟨by (try simp only [hl1411000_68]); (try simp only [hl1411001_68]); (with_reducible repeat (first | apply Kd.R_alloc | apply Kd.R_drewN | apply Kd.R_drew)); exact Kd.R_mono HO_1419001.out (fun _ hk => ⟨hk.1.1.1, ⟨hk.1.1.2, hk.2⟩⟩)⟩, ⟨by (try simp only [hl1411000_68]); (try simp only [hl1411001_68]); (with_reducible repeat (first | apply Kd.R_alloc | apply Kd.R_drewN | apply Kd.R_drew)); exact Kd.R_mono HO1443.out (fun _ hk => ⟨hk.1.1.1.2, ⟨hk.1.1.2, hk.1.2⟩⟩)⟩, ⟨by (try simp only [hl1411000_68]); (try simp only [hl1411001_68]); (with_reducible repeat (first | apply Kd.R_alloc | apply Kd.R_drewN | apply Kd.R_drew)); exact Kd.R_mono HO1446.out (fun _ hk => ⟨hk.1.1.1.2, ⟨hk.1.1.2, hk.1.2⟩⟩)⟩, ⟨by (try simp only [hl1411000_68]); (try simp only [hl1411001_68]); (with_reducible repeat (first | refine blk_drewN ?_ _ | refine blk_drew ?_ | refine blk_alloc ?_ _)); exact BK1388.out⟩, ⟨by (try simp only [hl1411000_68]); (try simp only [hl1411001_68]); (with_reducible repeat (first | refine blk_drewN ?_ _ | refine blk_drew ?_ | refine blk_alloc ?_ _)); exact BK1403.out⟩, ⟨by (try simp only [hl1411000_68]); (try simp only [hl1411001_68]); (with_reducible repeat (first | refine blk_drewN ?_ _ | refine blk_drew ?_ | refine blk_alloc ?_ _)); exact BK1410.out⟩, ⟨by (try simp only [hl1411000_68]); (try simp only [hl1411001_68]); (with_reducible repeat (first | refine blk_drewN ?_ _ | refine blk_drew ?_ | refine blk_alloc ?_ _)); exact BK1418.out⟩, ⟨by (try simp only [hl1411000_68]); (try simp only [hl1411001_68]); (with_reducible repeat (first | refine blk_drewN ?_ _ | refine blk_drew ?_ | refine blk_alloc ?_ _)); exact BK1448.out⟩, ⟨by repeat (first | (with_reducible first | exact HB.out | apply below_alloc | apply pw_below_drewN | apply below_drew1 | refine below_set ?_ GE1388.out | refine below_set ?_ GE1403.out | refine below_set ?_ GE1410.out | refine below_set ?_ GE1418.out | refine below_set ?_ GE1448.out) | exact HB.out)⟩⟩
            case rest =>
             clear HC113
             try clear c1
             try clear c2
             try clear p2
             try clear c3
             try clear c4
             try clear c5
             try clear c5b0
             try clear c5b1
             try clear c6
             try clear c7
             try clear c8
             try clear c8b0
             try clear c9
             try clear c10
             try clear c11
             try clear c12
             try clear c13
             try clear c14
             try clear c15
             try clear c27
             try clear c34
             try clear c35
             try clear c41
             try clear c42
             try clear c43
             try clear c47
             try clear c48
             try clear c49
             try clear c50
             try clear c52
             try clear c53
             try clear c56
             try clear c57
             try clear c58
             try clear c60
             try clear c61
             try clear c64
             try clear c67
             try clear c70
             try clear c75
             try clear c76
             try clear c77
             try clear c78
             try clear c79
             try clear c80
             try clear c80b0
             try clear c82
             try clear c83
             try clear c84
             try clear c85
             try clear c87
             try clear c88
             try clear c91
             try clear c92
             try clear c93
             try clear c95
             try clear c96
             try clear c99
             try clear c102
             try clear c102b0
             try clear c103
             try clear c104
             try clear c105
             try clear c110
             try clear c110b0
             try clear c110b1
             try clear c114
             try clear c115
             try clear c116
             try clear c121
             try clear c122
             try clear c130
             try clear c131
             try clear c132
             try clear c133
             try clear c137
             try clear c138
             try clear c139
             try clear c140
             try clear c141
             try clear c143
             try clear c144
             try clear c145
             try clear c148
             try clear c149
             try clear c150
             try clear c151
             try clear c153
             try clear c154
             try clear c155
             try clear hcz106_0
             try clear hcz106_1
             try clear hcz108_0
             try clear hcz108_1
             try clear hcz10_0
             try clear hcz10_1
             try clear hcz117_0
             try clear hcz117_1
             try clear hcz119_0
             try clear hcz119_1
             try clear hcz123_0
             try clear hcz123_1
             try clear hcz134_0
             try clear hcz134_1
             try clear hcz142_0
             try clear hcz142_1
             try clear hcz146_0
             try clear hcz146_1
             try clear hcz152_0
             try clear hcz152_1
             try clear hcz156_0
             try clear hcz156_1
             try clear hcz18_0
             try clear hcz18_1
             try clear hcz20_0
             try clear hcz20_1
             try clear hcz28_0
             try clear hcz28_1
             try clear hcz30_0
             try clear hcz30_1
             try clear hcz36_0
             try clear hcz36_1
             try clear hcz44_0
             try clear hcz44_1
             try clear hcz51_0
             try clear hcz51_1
             try clear hcz54_0
             try clear hcz54_1
             try clear hcz59_0
             try clear hcz59_1
             try clear hcz62_0
             try clear hcz62_1
             try clear hcz78_0
             try clear hcz78_1
             try clear hcz86_0
             try clear hcz86_1
             try clear hcz89_0
             try clear hcz89_1
             try clear hcz94_0
             try clear hcz94_1
             try clear hcz97_0
             try clear hcz97_1
             try clear hfz106_0
             try clear hfz106_1
             try clear hfz108_0
             try clear hfz108_1
             try clear hfz10_0
             try clear hfz10_1
             try clear hfz117_0
             try clear hfz117_1
             try clear hfz119_0
             try clear hfz119_1
             try clear hfz123_0
             try clear hfz123_1
             try clear hfz134_0
             try clear hfz134_1
             try clear hfz142_0
             try clear hfz142_1
             try clear hfz146_0
             try clear hfz146_1
             try clear hfz152_0
             try clear hfz152_1
             try clear hfz156_0
             try clear hfz156_1
             try clear hfz18_0
             try clear hfz18_1
             try clear hfz20_0
             try clear hfz20_1
             try clear hfz28_0
             try clear hfz28_1
             try clear hfz30_0
             try clear hfz30_1
             try clear hfz36_0
             try clear hfz36_1
             try clear hfz44_0
             try clear hfz44_1
             try clear hfz51_0
             try clear hfz51_1
             try clear hfz54_0
             try clear hfz54_1
             try clear hfz59_0
             try clear hfz59_1
             try clear hfz62_0
             try clear hfz62_1
             try clear hfz78_0
             try clear hfz78_1
             try clear hfz86_0
             try clear hfz86_1
             try clear hfz89_0
             try clear hfz89_1
             try clear hfz94_0
             try clear hfz94_1
             try clear hfz97_0
             try clear hfz97_1
             try clear p2
             obtain ⟨kq, x105_112, rfl, HA, HJ112, HO_1404000, HO_1404001, HO_1411000, HO_1411001, HO_1419000, HO_1419001, HO_1449000, HO_1449001, BK1388, BK1403, BK1410, BK1418, BK1448, HB⟩ := hcut
             have hl1419000_112 := (Kd.R_reads' HO_1419000.out).1
             rw [hl1419000_112] at HO_1419000
             (try simp only [hl1419000_112])
             (try simp only [hl1419000_112] at BK1388)
             (try simp only [hl1419000_112] at BK1403)
             (try simp only [hl1419000_112] at BK1410)
             (try simp only [hl1419000_112] at BK1418)
             (try simp only [hl1419000_112] at BK1448)
             (try simp only [hl1419000_112] at HO_1404000)
             (try simp only [hl1419000_112] at HO_1404001)
             (try simp only [hl1419000_112] at HO_1411000)
             (try simp only [hl1419000_112] at HO_1411001)
             (try simp only [hl1419000_112] at HO_1419001)
             (try simp only [hl1419000_112] at HO_1449000)
             (try simp only [hl1419000_112] at HO_1449001)
             have hl1419001_112 := (Kd.R_reads' HO_1419001.out).1
             rw [hl1419001_112] at HO_1419001
             (try simp only [hl1419001_112])
             (try simp only [hl1419001_112] at BK1388)
             (try simp only [hl1419001_112] at BK1403)
             (try simp only [hl1419001_112] at BK1410)
             (try simp only [hl1419001_112] at BK1418)
             (try simp only [hl1419001_112] at BK1448)
             (try simp only [hl1419001_112] at HO_1404000)
             (try simp only [hl1419001_112] at HO_1404001)
             (try simp only [hl1419001_112] at HO_1411000)
             (try simp only [hl1419001_112] at HO_1411001)
             (try simp only [hl1419001_112] at HO_1419000)
             (try simp only [hl1419001_112] at HO_1449000)
             (try simp only [hl1419001_112] at HO_1449001)
             cases kq with
             | zero => exact absurd HA.out (by simp [laws_FnExactWriteSector.j2])
             | succ kj112 =>
              have H := HA.out
              clear HA
              simp only [laws_FnExactWriteSector.j2] at H
              by_cases c158 : x105_112 = true
              ·subst c158
               have H1 : (some false) = some r := by rw [if_pos rfl] at H; exact H
               clear H
               have H := H1
               clear H1
               obtain rfl := Option.some.inj H
               go_wp2
               go_ret
               exact ⟨by first | rfl | (simp [errW_none, errW_some] <;> rfl) | (simp [*, errW_none, errW_some] <;> rfl), by repeat (first | (with_reducible first | exact HB.out | apply below_alloc | apply pw_below_drewN | apply below_drew1 | refine below_set ?_ GE1388.out | refine below_set ?_ GE1403.out | refine below_set ?_ GE1410.out | refine below_set ?_ GE1418.out | refine below_set ?_ GE1448.out) | exact HB.out)⟩
              ·replace c158 := Bool.eq_false_iff.mpr c158
               subst c158
               have H1 : ((laws_heldDisk.f kj112 t1432 t1433 1).bind fun t1450 => (if t1450 < 0 then (some false) else (if t1450 = t1431 then (some true) else (some false)))) = some r := by rw [if_neg (show ¬ (false = true) by decide)] at H; exact H
               clear H
               have H := H1
               clear H1
               replace H := Option.bind_eq_some_iff.mp H
               obtain ⟨t1450, A1590, H⟩ := H
               replace H : (if t1450 < 0 then (some false) else (if t1450 = t1431 then (some true) else (some false))) = some r := H
               have A159 := Aside0.mk A1590
               clear A1590
               by_cases c160 : t1450 < 0
               ·rw [if_pos c160] at H
                have c160b0 : decide (t1450 < 0) = true := decide_eq_true c160
                clear c160
                obtain rfl := Option.some.inj H
                have hnb161 := NB1418_1388.out
                have hnc161 := NB1388_1418.out
                have hnb162 := NB1418_1403.out
                have hnc162 := NB1403_1418.out
                have hnb163 := NB1418_1410.out
                have hnc163 := NB1410_1418.out
                have hnb164 := NB1418_1448.out
                have hnc164 := NB1448_1418.out
                have hcz165_0 : wc.cell? ⟨gb1418, 0, none⟩ = some (.slice Ao40 t1432.length co40) := (blk_cell BK1418.out 0).trans rfl
                have hcz165_1 : wc.cell? ⟨gb1418, 1, none⟩ = some (.slice Ao45 t1433.length co45) := (blk_cell BK1418.out 1).trans rfl
                have hfz165_0 := blk_frozen BK1418.out 0
                have hfz165_1 := blk_frozen BK1418.out 1
                go_wp2_with (first | ((with_reducible refine gate_callee (f := 80) rfl ?_); refine goesL_ (some 108) rfl rfl Try.func80 (by kernel_rfl) rfl #[.agg #[.slice Ao40 t1432.length co40, .slice Ao45 t1433.length co45], .int .i64 1] rfl (by (try simp only [List.map_toArray, List.map_cons, List.map_nil]); first | done | rfl | (simp only [List.length_drop, List.length_take]; rfl)) ?_; (with_reducible refine (laws_heldDisk.calls kj112 _ _ t1432 _ _ t1433 1 t1450 _ ?side1 ?side2 ?side3 ?side4 A159.out).mono ?_); (case side1 => repeat (first | exact (Kd.R_reads' HO_1419000.out).2.2 | (with_reducible refine Kd.C_alloc ?_ _) | (with_reducible refine Kd.C_drewN ?_ _) | (with_reducible refine Kd.C_drew ?_))); (case side2 => exact (Kd.R_reads' HO_1419000.out).2.1); (case side3 => repeat (first | exact (Kd.R_reads' HO_1419001.out).2.2 | (with_reducible refine Kd.C_alloc ?_ _) | (with_reducible refine Kd.C_drewN ?_ _) | (with_reducible refine Kd.C_drew ?_))); (case side4 => exact (Kd.R_reads' HO_1419001.out).2.1); rintro e w166 ⟨rfl, hb⟩; refine ⟨_, rfl, ?_⟩; have n0_ := Aside0.mk (Kd.R_below (by (with_reducible repeat (first | apply Kd.R_alloc | apply Kd.R_drewN | apply Kd.R_drew)); exact HO_1404000.out) hb); have n1_ := Aside0.mk (Kd.R_below (by (with_reducible repeat (first | apply Kd.R_alloc | apply Kd.R_drewN | apply Kd.R_drew)); exact HO_1404001.out) hb); have n2_ := Aside0.mk (Kd.R_below (by (with_reducible repeat (first | apply Kd.R_alloc | apply Kd.R_drewN | apply Kd.R_drew)); exact HO_1411000.out) hb); have n3_ := Aside0.mk (Kd.R_below (by (with_reducible repeat (first | apply Kd.R_alloc | apply Kd.R_drewN | apply Kd.R_drew)); exact HO_1411001.out) hb); have n4_ := Aside0.mk (Kd.R_below (by (with_reducible repeat (first | apply Kd.R_alloc | apply Kd.R_drewN | apply Kd.R_drew)); exact HO_1419000.out) hb); have n5_ := Aside0.mk (Kd.R_below (by (with_reducible repeat (first | apply Kd.R_alloc | apply Kd.R_drewN | apply Kd.R_drew)); exact HO_1419001.out) hb); have n6_ := Aside0.mk (Kd.R_below (by (with_reducible repeat (first | apply Kd.R_alloc | apply Kd.R_drewN | apply Kd.R_drew)); exact HO_1449000.out) hb); have n7_ := Aside0.mk (Kd.R_below (by (with_reducible repeat (first | apply Kd.R_alloc | apply Kd.R_drewN | apply Kd.R_drew)); exact HO_1449001.out) hb); have n8_ := Aside0.mk (blk_below (g := gb1388) (o := .cells #[.slice A0_0 l0_0.length c0_0, .slice A0_1 l0_1.length c0_1] 85 (0, 0)) (by (with_reducible repeat (first | refine blk_drewN ?_ _ | refine blk_drew ?_ | refine blk_alloc ?_ _)); exact BK1388.out) hb); have n9_ := Aside0.mk (blk_below (g := gb1403) (o := .cells #[.slice Ao26 t1396.length co26, .slice Ao29 t1399.length co29] 60 (0, 0)) (by (with_reducible repeat (first | refine blk_drewN ?_ _ | refine blk_drew ?_ | refine blk_alloc ?_ _)); exact BK1403.out) hb); have n10_ := Aside0.mk (blk_below (g := gb1410) (o := .cells #[.slice Ao33 t1428.length co33, .slice Ao37 t1429.length co37] 60 (0, 0)) (by (with_reducible repeat (first | refine blk_drewN ?_ _ | refine blk_drew ?_ | refine blk_alloc ?_ _)); exact BK1410.out) hb); have n11_ := Aside0.mk (blk_below (g := gb1418) (o := .cells #[.slice Ao40 t1432.length co40, .slice Ao45 t1433.length co45] 60 (0, 0)) (by (with_reducible repeat (first | refine blk_drewN ?_ _ | refine blk_drew ?_ | refine blk_alloc ?_ _)); exact BK1418.out) hb); have n12_ := Aside0.mk (blk_below (g := gb1448) (o := .cells #[.slice Ao129 t1441.length co129, .slice Ao135 t1444.length co135] 60 (0, 0)) (by (with_reducible repeat (first | refine blk_drewN ?_ _ | refine blk_drew ?_ | refine blk_alloc ?_ _)); exact BK1448.out) hb); have n13_ := Aside0.mk (below_step (by repeat (first | (with_reducible first | exact HB.out | apply below_alloc | apply pw_below_drewN | apply below_drew1 | refine below_set ?_ GE1388.out | refine below_set ?_ GE1403.out | refine below_set ?_ GE1410.out | refine below_set ?_ GE1418.out | refine below_set ?_ GE1448.out) | exact HB.out)) hb); clear HO_1404000; clear HO_1404001; clear HO_1411000; clear HO_1411001; clear HO_1419000; clear HO_1419001; clear HO_1449000; clear HO_1449001; clear BK1388; clear BK1403; clear BK1410; clear BK1418; clear BK1448; clear HB; have HO_1404000 := n0_; have HO_1404001 := n1_; have HO_1411000 := n2_; have HO_1411001 := n3_; have HO_1419000 := n4_; have HO_1419001 := n5_; have HO_1449000 := n6_; have HO_1449001 := n7_; have BK1388 := n8_; have BK1403 := n9_; have BK1410 := n10_; have BK1418 := n11_; have BK1448 := n12_; have HB := n13_; clear n0_ n1_ n2_ n3_ n4_ n5_ n6_ n7_ n8_ n9_ n10_ n11_ n12_ n13_; (try clear hb); (try clear hb2); (try clear hk); (try clear hi)))
                go_ret
                exact ⟨by first | rfl | (simp [errW_none, errW_some] <;> rfl) | (simp [*, errW_none, errW_some] <;> rfl), by repeat (first | (with_reducible first | exact HB.out | apply below_alloc | apply pw_below_drewN | apply below_drew1 | refine below_set ?_ GE1388.out | refine below_set ?_ GE1403.out | refine below_set ?_ GE1410.out | refine below_set ?_ GE1418.out | refine below_set ?_ GE1448.out) | exact HB.out)⟩
               ·rw [if_neg c160] at H
                have c160b0 : decide (t1450 < 0) = false := decide_eq_false c160
                clear c160
                by_cases c167 : t1450 = t1431
                ·rw [if_pos c167] at H
                 have c167b0 : (t1450 == t1431) = true := beq_iff_eq.mpr c167
                 have c167b1 : (t1450 != t1431) = false := bne_eq_false_iff_eq.mpr c167
                 clear c167
                 obtain rfl := Option.some.inj H
                 have hnb168 := NB1418_1388.out
                 have hnc168 := NB1388_1418.out
                 have hnb169 := NB1418_1403.out
                 have hnc169 := NB1403_1418.out
                 have hnb170 := NB1418_1410.out
                 have hnc170 := NB1410_1418.out
                 have hnb171 := NB1418_1448.out
                 have hnc171 := NB1448_1418.out
                 have hcz172_0 : wc.cell? ⟨gb1418, 0, none⟩ = some (.slice Ao40 t1432.length co40) := (blk_cell BK1418.out 0).trans rfl
                 have hcz172_1 : wc.cell? ⟨gb1418, 1, none⟩ = some (.slice Ao45 t1433.length co45) := (blk_cell BK1418.out 1).trans rfl
                 have hfz172_0 := blk_frozen BK1418.out 0
                 have hfz172_1 := blk_frozen BK1418.out 1
                 go_wp2_with (first | ((with_reducible refine gate_callee (f := 80) rfl ?_); refine goesL_ (some 108) rfl rfl Try.func80 (by kernel_rfl) rfl #[.agg #[.slice Ao40 t1432.length co40, .slice Ao45 t1433.length co45], .int .i64 1] rfl (by (try simp only [List.map_toArray, List.map_cons, List.map_nil]); first | done | rfl | (simp only [List.length_drop, List.length_take]; rfl)) ?_; (with_reducible refine (laws_heldDisk.calls kj112 _ _ t1432 _ _ t1433 1 t1450 _ ?side1 ?side2 ?side3 ?side4 A159.out).mono ?_); (case side1 => repeat (first | exact (Kd.R_reads' HO_1419000.out).2.2 | (with_reducible refine Kd.C_alloc ?_ _) | (with_reducible refine Kd.C_drewN ?_ _) | (with_reducible refine Kd.C_drew ?_))); (case side2 => exact (Kd.R_reads' HO_1419000.out).2.1); (case side3 => repeat (first | exact (Kd.R_reads' HO_1419001.out).2.2 | (with_reducible refine Kd.C_alloc ?_ _) | (with_reducible refine Kd.C_drewN ?_ _) | (with_reducible refine Kd.C_drew ?_))); (case side4 => exact (Kd.R_reads' HO_1419001.out).2.1); rintro e w173 ⟨rfl, hb⟩; refine ⟨_, rfl, ?_⟩; have n0_ := Aside0.mk (Kd.R_below (by (with_reducible repeat (first | apply Kd.R_alloc | apply Kd.R_drewN | apply Kd.R_drew)); exact HO_1404000.out) hb); have n1_ := Aside0.mk (Kd.R_below (by (with_reducible repeat (first | apply Kd.R_alloc | apply Kd.R_drewN | apply Kd.R_drew)); exact HO_1404001.out) hb); have n2_ := Aside0.mk (Kd.R_below (by (with_reducible repeat (first | apply Kd.R_alloc | apply Kd.R_drewN | apply Kd.R_drew)); exact HO_1411000.out) hb); have n3_ := Aside0.mk (Kd.R_below (by (with_reducible repeat (first | apply Kd.R_alloc | apply Kd.R_drewN | apply Kd.R_drew)); exact HO_1411001.out) hb); have n4_ := Aside0.mk (Kd.R_below (by (with_reducible repeat (first | apply Kd.R_alloc | apply Kd.R_drewN | apply Kd.R_drew)); exact HO_1419000.out) hb); have n5_ := Aside0.mk (Kd.R_below (by (with_reducible repeat (first | apply Kd.R_alloc | apply Kd.R_drewN | apply Kd.R_drew)); exact HO_1419001.out) hb); have n6_ := Aside0.mk (Kd.R_below (by (with_reducible repeat (first | apply Kd.R_alloc | apply Kd.R_drewN | apply Kd.R_drew)); exact HO_1449000.out) hb); have n7_ := Aside0.mk (Kd.R_below (by (with_reducible repeat (first | apply Kd.R_alloc | apply Kd.R_drewN | apply Kd.R_drew)); exact HO_1449001.out) hb); have n8_ := Aside0.mk (blk_below (g := gb1388) (o := .cells #[.slice A0_0 l0_0.length c0_0, .slice A0_1 l0_1.length c0_1] 85 (0, 0)) (by (with_reducible repeat (first | refine blk_drewN ?_ _ | refine blk_drew ?_ | refine blk_alloc ?_ _)); exact BK1388.out) hb); have n9_ := Aside0.mk (blk_below (g := gb1403) (o := .cells #[.slice Ao26 t1396.length co26, .slice Ao29 t1399.length co29] 60 (0, 0)) (by (with_reducible repeat (first | refine blk_drewN ?_ _ | refine blk_drew ?_ | refine blk_alloc ?_ _)); exact BK1403.out) hb); have n10_ := Aside0.mk (blk_below (g := gb1410) (o := .cells #[.slice Ao33 t1428.length co33, .slice Ao37 t1429.length co37] 60 (0, 0)) (by (with_reducible repeat (first | refine blk_drewN ?_ _ | refine blk_drew ?_ | refine blk_alloc ?_ _)); exact BK1410.out) hb); have n11_ := Aside0.mk (blk_below (g := gb1418) (o := .cells #[.slice Ao40 t1432.length co40, .slice Ao45 t1433.length co45] 60 (0, 0)) (by (with_reducible repeat (first | refine blk_drewN ?_ _ | refine blk_drew ?_ | refine blk_alloc ?_ _)); exact BK1418.out) hb); have n12_ := Aside0.mk (blk_below (g := gb1448) (o := .cells #[.slice Ao129 t1441.length co129, .slice Ao135 t1444.length co135] 60 (0, 0)) (by (with_reducible repeat (first | refine blk_drewN ?_ _ | refine blk_drew ?_ | refine blk_alloc ?_ _)); exact BK1448.out) hb); have n13_ := Aside0.mk (below_step (by repeat (first | (with_reducible first | exact HB.out | apply below_alloc | apply pw_below_drewN | apply below_drew1 | refine below_set ?_ GE1388.out | refine below_set ?_ GE1403.out | refine below_set ?_ GE1410.out | refine below_set ?_ GE1418.out | refine below_set ?_ GE1448.out) | exact HB.out)) hb); clear HO_1404000; clear HO_1404001; clear HO_1411000; clear HO_1411001; clear HO_1419000; clear HO_1419001; clear HO_1449000; clear HO_1449001; clear BK1388; clear BK1403; clear BK1410; clear BK1418; clear BK1448; clear HB; have HO_1404000 := n0_; have HO_1404001 := n1_; have HO_1411000 := n2_; have HO_1411001 := n3_; have HO_1419000 := n4_; have HO_1419001 := n5_; have HO_1449000 := n6_; have HO_1449001 := n7_; have BK1388 := n8_; have BK1403 := n9_; have BK1410 := n10_; have BK1418 := n11_; have BK1448 := n12_; have HB := n13_; clear n0_ n1_ n2_ n3_ n4_ n5_ n6_ n7_ n8_ n9_ n10_ n11_ n12_ n13_; (try clear hb); (try clear hb2); (try clear hk); (try clear hi)))
                 go_ret
                 exact ⟨by first | rfl | (simp [errW_none, errW_some] <;> rfl) | (simp [*, errW_none, errW_some] <;> rfl), by repeat (first | (with_reducible first | exact HB.out | apply below_alloc | apply pw_below_drewN | apply below_drew1 | refine below_set ?_ GE1388.out | refine below_set ?_ GE1403.out | refine below_set ?_ GE1410.out | refine below_set ?_ GE1418.out | refine below_set ?_ GE1448.out) | exact HB.out)⟩
                ·rw [if_neg c167] at H
                 have c167b0 : (t1450 == t1431) = false := beq_eq_false_iff_ne.mpr c167
                 have c167b1 : (t1450 != t1431) = true := bne_iff_ne.mpr c167
                 obtain rfl := Option.some.inj H
                 have hnb174 := NB1418_1388.out
                 have hnc174 := NB1388_1418.out
                 have hnb175 := NB1418_1403.out
                 have hnc175 := NB1403_1418.out
                 have hnb176 := NB1418_1410.out
                 have hnc176 := NB1410_1418.out
                 have hnb177 := NB1418_1448.out
                 have hnc177 := NB1448_1418.out
                 have hcz178_0 : wc.cell? ⟨gb1418, 0, none⟩ = some (.slice Ao40 t1432.length co40) := (blk_cell BK1418.out 0).trans rfl
                 have hcz178_1 : wc.cell? ⟨gb1418, 1, none⟩ = some (.slice Ao45 t1433.length co45) := (blk_cell BK1418.out 1).trans rfl
                 have hfz178_0 := blk_frozen BK1418.out 0
                 have hfz178_1 := blk_frozen BK1418.out 1
                 go_wp2_with (first | ((with_reducible refine gate_callee (f := 80) rfl ?_); refine goesL_ (some 108) rfl rfl Try.func80 (by kernel_rfl) rfl #[.agg #[.slice Ao40 t1432.length co40, .slice Ao45 t1433.length co45], .int .i64 1] rfl (by (try simp only [List.map_toArray, List.map_cons, List.map_nil]); first | done | rfl | (simp only [List.length_drop, List.length_take]; rfl)) ?_; (with_reducible refine (laws_heldDisk.calls kj112 _ _ t1432 _ _ t1433 1 t1450 _ ?side1 ?side2 ?side3 ?side4 A159.out).mono ?_); (case side1 => repeat (first | exact (Kd.R_reads' HO_1419000.out).2.2 | (with_reducible refine Kd.C_alloc ?_ _) | (with_reducible refine Kd.C_drewN ?_ _) | (with_reducible refine Kd.C_drew ?_))); (case side2 => exact (Kd.R_reads' HO_1419000.out).2.1); (case side3 => repeat (first | exact (Kd.R_reads' HO_1419001.out).2.2 | (with_reducible refine Kd.C_alloc ?_ _) | (with_reducible refine Kd.C_drewN ?_ _) | (with_reducible refine Kd.C_drew ?_))); (case side4 => exact (Kd.R_reads' HO_1419001.out).2.1); rintro e w179 ⟨rfl, hb⟩; refine ⟨_, rfl, ?_⟩; have n0_ := Aside0.mk (Kd.R_below (by (with_reducible repeat (first | apply Kd.R_alloc | apply Kd.R_drewN | apply Kd.R_drew)); exact HO_1404000.out) hb); have n1_ := Aside0.mk (Kd.R_below (by (with_reducible repeat (first | apply Kd.R_alloc | apply Kd.R_drewN | apply Kd.R_drew)); exact HO_1404001.out) hb); have n2_ := Aside0.mk (Kd.R_below (by (with_reducible repeat (first | apply Kd.R_alloc | apply Kd.R_drewN | apply Kd.R_drew)); exact HO_1411000.out) hb); have n3_ := Aside0.mk (Kd.R_below (by (with_reducible repeat (first | apply Kd.R_alloc | apply Kd.R_drewN | apply Kd.R_drew)); exact HO_1411001.out) hb); have n4_ := Aside0.mk (Kd.R_below (by (with_reducible repeat (first | apply Kd.R_alloc | apply Kd.R_drewN | apply Kd.R_drew)); exact HO_1419000.out) hb); have n5_ := Aside0.mk (Kd.R_below (by (with_reducible repeat (first | apply Kd.R_alloc | apply Kd.R_drewN | apply Kd.R_drew)); exact HO_1419001.out) hb); have n6_ := Aside0.mk (Kd.R_below (by (with_reducible repeat (first | apply Kd.R_alloc | apply Kd.R_drewN | apply Kd.R_drew)); exact HO_1449000.out) hb); have n7_ := Aside0.mk (Kd.R_below (by (with_reducible repeat (first | apply Kd.R_alloc | apply Kd.R_drewN | apply Kd.R_drew)); exact HO_1449001.out) hb); have n8_ := Aside0.mk (blk_below (g := gb1388) (o := .cells #[.slice A0_0 l0_0.length c0_0, .slice A0_1 l0_1.length c0_1] 85 (0, 0)) (by (with_reducible repeat (first | refine blk_drewN ?_ _ | refine blk_drew ?_ | refine blk_alloc ?_ _)); exact BK1388.out) hb); have n9_ := Aside0.mk (blk_below (g := gb1403) (o := .cells #[.slice Ao26 t1396.length co26, .slice Ao29 t1399.length co29] 60 (0, 0)) (by (with_reducible repeat (first | refine blk_drewN ?_ _ | refine blk_drew ?_ | refine blk_alloc ?_ _)); exact BK1403.out) hb); have n10_ := Aside0.mk (blk_below (g := gb1410) (o := .cells #[.slice Ao33 t1428.length co33, .slice Ao37 t1429.length co37] 60 (0, 0)) (by (with_reducible repeat (first | refine blk_drewN ?_ _ | refine blk_drew ?_ | refine blk_alloc ?_ _)); exact BK1410.out) hb); have n11_ := Aside0.mk (blk_below (g := gb1418) (o := .cells #[.slice Ao40 t1432.length co40, .slice Ao45 t1433.length co45] 60 (0, 0)) (by (with_reducible repeat (first | refine blk_drewN ?_ _ | refine blk_drew ?_ | refine blk_alloc ?_ _)); exact BK1418.out) hb); have n12_ := Aside0.mk (blk_below (g := gb1448) (o := .cells #[.slice Ao129 t1441.length co129, .slice Ao135 t1444.length co135] 60 (0, 0)) (by (with_reducible repeat (first | refine blk_drewN ?_ _ | refine blk_drew ?_ | refine blk_alloc ?_ _)); exact BK1448.out) hb); have n13_ := Aside0.mk (below_step (by repeat (first | (with_reducible first | exact HB.out | apply below_alloc | apply pw_below_drewN | apply below_drew1 | refine below_set ?_ GE1388.out | refine below_set ?_ GE1403.out | refine below_set ?_ GE1410.out | refine below_set ?_ GE1418.out | refine below_set ?_ GE1448.out) | exact HB.out)) hb); clear HO_1404000; clear HO_1404001; clear HO_1411000; clear HO_1411001; clear HO_1419000; clear HO_1419001; clear HO_1449000; clear HO_1449001; clear BK1388; clear BK1403; clear BK1410; clear BK1418; clear BK1448; clear HB; have HO_1404000 := n0_; have HO_1404001 := n1_; have HO_1411000 := n2_; have HO_1411001 := n3_; have HO_1419000 := n4_; have HO_1419001 := n5_; have HO_1449000 := n6_; have HO_1449001 := n7_; have BK1388 := n8_; have BK1403 := n9_; have BK1410 := n10_; have BK1418 := n11_; have BK1448 := n12_; have HB := n13_; clear n0_ n1_ n2_ n3_ n4_ n5_ n6_ n7_ n8_ n9_ n10_ n11_ n12_ n13_; (try clear hb); (try clear hb2); (try clear hk); (try clear hi)))
                 go_ret
                 exact ⟨by first | rfl | (simp [errW_none, errW_some] <;> rfl) | (simp [*, errW_none, errW_some] <;> rfl), by repeat (first | (with_reducible first | exact HB.out | apply below_alloc | apply pw_below_drewN | apply below_drew1 | refine below_set ?_ GE1388.out | refine below_set ?_ GE1403.out | refine below_set ?_ GE1410.out | refine below_set ?_ GE1418.out | refine below_set ?_ GE1448.out) | exact HB.out)⟩
           ·rw [if_neg c110] at H
            have c110b0 : (t1434 == t1431) = false := beq_eq_false_iff_ne.mpr c110
            have c110b1 : (t1434 != t1431) = true := bne_iff_ne.mpr c110
            obtain rfl := Option.some.inj H
            have hnb180 := NB1418_1388.out
            have hnc180 := NB1388_1418.out
            have hnb181 := NB1418_1403.out
            have hnc181 := NB1403_1418.out
            have hnb182 := NB1418_1410.out
            have hnc182 := NB1410_1418.out
            have hcz183_0 : wc.cell? ⟨gb1418, 0, none⟩ = some (.slice Ao40 t1411.length co40) := (blk_cell BK1418.out 0).trans rfl
            have hcz183_1 : wc.cell? ⟨gb1418, 1, none⟩ = some (.slice Ao45 t1414.length co45) := (blk_cell BK1418.out 1).trans rfl
            have hfz183_0 := blk_frozen BK1418.out 0
            have hfz183_1 := blk_frozen BK1418.out 1
            go_wp2_with (first | ((with_reducible refine gate_callee (f := 79) rfl ?_); refine goesL_ (some 79) rfl rfl Try.func79 (by kernel_rfl) rfl #[.agg #[.slice Ao40 t1411.length co40, .slice Ao45 t1414.length co45], .int .i64 1] rfl (by (try simp only [List.map_toArray, List.map_cons, List.map_nil]); first | done | rfl | (simp only [List.length_drop, List.length_take]; rfl)) ?_; (with_reducible refine (laws_markDisk.calls kj68 (fun k_ => some k_ = (.slice Ao40 t1411.length co40 : Value).ownBlock) (.slice Ao40 t1411.length co40) t1411 (fun k_ => some k_ = (.slice Ao45 t1414.length co45 : Value).ownBlock) (.slice Ao45 t1414.length co45) t1414 1 t1431 t1432 t1433 w _ ?side1 ?side2 ?side3 A100.out).mono ?_); (case side1 => repeat (first | (with_reducible first | exact HB.out | apply below_alloc | apply pw_below_drewN | apply below_drew1 | refine below_set ?_ GE1388.out | refine below_set ?_ GE1403.out | refine below_set ?_ GE1410.out | refine below_set ?_ GE1418.out) | exact HB.out)); (case side2 => exact Kd.R_tight rfl HO_1419000.out); (case side3 => exact Kd.R_tight rfl HO_1419001.out); rintro e w184 ⟨rfl, hy0, hy1, hb, hkp⟩; refine ⟨_, rfl, ?_⟩; have n0_ := Aside0.mk (Kd.R_mono (ok' := fun k_ => some k_ ≠ (.slice Ao33 t1428.length co33 : Value).ownBlock ∧ some k_ ≠ (.slice Ao40 t1411.length co40 : Value).ownBlock) (Kd.R_keptB ((Kd.R_apart' HO_1404000.out (Kd.R_typed HO_1419001.out) (by decide))) hkp (fun k_ hk_ hs_ => Or.elim hs_ (fun e_ => (hk_.1.2) e_) (fun e_ => (hk_.2) e_))) (fun k_ hk_ => ⟨hk_.1.1.1, hk_.1.1.2⟩)); have n1_ := Aside0.mk (Kd.R_mono (ok' := fun k_ => some k_ ≠ (.slice Ao37 t1429.length co37 : Value).ownBlock ∧ some k_ ≠ (.slice Ao45 t1414.length co45 : Value).ownBlock) (Kd.R_keptB ((Kd.R_apart' HO_1404001.out (Kd.R_typed HO_1419000.out) (by decide))) hkp (fun k_ hk_ hs_ => Or.elim hs_ (fun e_ => (hk_.2) e_) (fun e_ => (hk_.1.2) e_))) (fun k_ hk_ => ⟨hk_.1.1.1, hk_.1.1.2⟩)); have n2_ := Aside0.mk (Kd.R_mono (ok' := fun k_ => some k_ ≠ (.slice Ao26 t1396.length co26 : Value).ownBlock ∧ some k_ ≠ (.slice Ao40 t1411.length co40 : Value).ownBlock) (Kd.R_keptB ((Kd.R_apart' HO_1411000.out (Kd.R_typed HO_1419001.out) (by decide))) hkp (fun k_ hk_ hs_ => Or.elim hs_ (fun e_ => (hk_.1.2) e_) (fun e_ => (hk_.2) e_))) (fun k_ hk_ => ⟨hk_.1.1.1, hk_.1.1.2⟩)); have n3_ := Aside0.mk (Kd.R_mono (ok' := fun k_ => some k_ ≠ (.slice Ao29 t1399.length co29 : Value).ownBlock ∧ some k_ ≠ (.slice Ao45 t1414.length co45 : Value).ownBlock) (Kd.R_keptB ((Kd.R_apart' HO_1411001.out (Kd.R_typed HO_1419000.out) (by decide))) hkp (fun k_ hk_ hs_ => Or.elim hs_ (fun e_ => (hk_.2) e_) (fun e_ => (hk_.1.2) e_))) (fun k_ hk_ => ⟨hk_.1.1.1, hk_.1.1.2⟩)); have n4_ := Aside0.mk (Kd.R_reok rfl hy0 (fun k_ e_ => HO_1419000.out.1 k_ e_)); have n5_ := Aside0.mk (Kd.R_reok rfl hy1 (fun k_ e_ => HO_1419001.out.1 k_ e_)); have n6_ := Aside0.mk (blk_kept (by (with_reducible repeat (first | refine blk_drewN ?_ _ | refine blk_drew ?_ | refine blk_alloc ?_ _)); exact BK1388.out) hkp (fun hs_ => Or.elim hs_ (fun e_ => (fun e_ => (Kd.R_ne HO_1419000.out BK1388.out (by decide)) e_) e_) (fun e_ => (fun e_ => (Kd.R_ne HO_1419001.out BK1388.out (by decide)) e_) e_))); have n7_ := Aside0.mk (blk_kept (by (with_reducible repeat (first | refine blk_drewN ?_ _ | refine blk_drew ?_ | refine blk_alloc ?_ _)); exact BK1403.out) hkp (fun hs_ => Or.elim hs_ (fun e_ => (fun e_ => (Kd.R_ne HO_1419000.out BK1403.out (by decide)) e_) e_) (fun e_ => (fun e_ => (Kd.R_ne HO_1419001.out BK1403.out (by decide)) e_) e_))); have n8_ := Aside0.mk (blk_kept (by (with_reducible repeat (first | refine blk_drewN ?_ _ | refine blk_drew ?_ | refine blk_alloc ?_ _)); exact BK1410.out) hkp (fun hs_ => Or.elim hs_ (fun e_ => (fun e_ => (Kd.R_ne HO_1419000.out BK1410.out (by decide)) e_) e_) (fun e_ => (fun e_ => (Kd.R_ne HO_1419001.out BK1410.out (by decide)) e_) e_))); have n9_ := Aside0.mk (blk_kept (by (with_reducible repeat (first | refine blk_drewN ?_ _ | refine blk_drew ?_ | refine blk_alloc ?_ _)); exact BK1418.out) hkp (fun hs_ => Or.elim hs_ (fun e_ => (fun e_ => (Kd.R_ne HO_1419000.out BK1418.out (by decide)) e_) e_) (fun e_ => (fun e_ => (Kd.R_ne HO_1419001.out BK1418.out (by decide)) e_) e_))); have n10_ := Aside0.mk (hb); clear HO_1404000; clear HO_1404001; clear HO_1411000; clear HO_1411001; clear HO_1419000; clear HO_1419001; clear BK1388; clear BK1403; clear BK1410; clear BK1418; clear HB; have HO_1404000 := n0_; have HO_1404001 := n1_; have HO_1411000 := n2_; have HO_1411001 := n3_; have HO_1419000 := n4_; have HO_1419001 := n5_; have BK1388 := n6_; have BK1403 := n7_; have BK1410 := n8_; have BK1418 := n9_; have HB := n10_; clear n0_ n1_ n2_ n3_ n4_ n5_ n6_ n7_ n8_ n9_ n10_; (try clear hb); (try clear hkp); (try clear hy0); (try clear hy1); have hcz185_0 : w184.cell? ⟨gb1418, 0, none⟩ = some (.slice Ao40 t1411.length co40) := (blk_cell BK1418.out 0).trans rfl; have hcz185_1 : w184.cell? ⟨gb1418, 1, none⟩ = some (.slice Ao45 t1414.length co45) := (blk_cell BK1418.out 1).trans rfl; have hfz185_0 := blk_frozen BK1418.out 0; have hfz185_1 := blk_frozen BK1418.out 1) | ((with_reducible refine gate_callee (f := 80) rfl ?_); refine goesL_ (some 82) rfl rfl Try.func80 (by kernel_rfl) rfl #[.agg #[.slice Ao40 t1432.length co40, .slice Ao45 t1433.length co45], .int .i64 1] rfl (by (try simp only [List.map_toArray, List.map_cons, List.map_nil]); first | done | (rw [show t1432.length = t1411.length from (Kd.R_reads' HO_1419000.out).1.symm, show t1433.length = t1414.length from (Kd.R_reads' HO_1419001.out).1.symm] <;> rfl) | rfl | (simp only [List.length_drop, List.length_take]; rfl)) ?_; (with_reducible refine (laws_heldDisk.calls kj68 _ _ t1432 _ _ t1433 1 t1434 _ ?side1 ?side2 ?side3 ?side4 A101.out).mono ?_); (case side1 => repeat (first | exact (Kd.R_reads' HO_1419000.out).2.2 | (with_reducible refine Kd.C_alloc ?_ _) | (with_reducible refine Kd.C_drewN ?_ _) | (with_reducible refine Kd.C_drew ?_))); (case side2 => rw [show t1432.length = t1411.length from (Kd.R_reads' HO_1419000.out).1.symm]; exact (Kd.R_reads' HO_1419000.out).2.1); (case side3 => repeat (first | exact (Kd.R_reads' HO_1419001.out).2.2 | (with_reducible refine Kd.C_alloc ?_ _) | (with_reducible refine Kd.C_drewN ?_ _) | (with_reducible refine Kd.C_drew ?_))); (case side4 => rw [show t1433.length = t1414.length from (Kd.R_reads' HO_1419001.out).1.symm]; exact (Kd.R_reads' HO_1419001.out).2.1); rintro e w186 ⟨rfl, hb⟩; refine ⟨_, rfl, ?_⟩; have n0_ := Aside0.mk (Kd.R_below (by (with_reducible repeat (first | apply Kd.R_alloc | apply Kd.R_drewN | apply Kd.R_drew)); exact HO_1404000.out) hb); have n1_ := Aside0.mk (Kd.R_below (by (with_reducible repeat (first | apply Kd.R_alloc | apply Kd.R_drewN | apply Kd.R_drew)); exact HO_1404001.out) hb); have n2_ := Aside0.mk (Kd.R_below (by (with_reducible repeat (first | apply Kd.R_alloc | apply Kd.R_drewN | apply Kd.R_drew)); exact HO_1411000.out) hb); have n3_ := Aside0.mk (Kd.R_below (by (with_reducible repeat (first | apply Kd.R_alloc | apply Kd.R_drewN | apply Kd.R_drew)); exact HO_1411001.out) hb); have n4_ := Aside0.mk (Kd.R_below (by (with_reducible repeat (first | apply Kd.R_alloc | apply Kd.R_drewN | apply Kd.R_drew)); exact HO_1419000.out) hb); have n5_ := Aside0.mk (Kd.R_below (by (with_reducible repeat (first | apply Kd.R_alloc | apply Kd.R_drewN | apply Kd.R_drew)); exact HO_1419001.out) hb); have n6_ := Aside0.mk (blk_below (g := gb1388) (o := .cells #[.slice A0_0 l0_0.length c0_0, .slice A0_1 l0_1.length c0_1] 85 (0, 0)) (by (with_reducible repeat (first | refine blk_drewN ?_ _ | refine blk_drew ?_ | refine blk_alloc ?_ _)); exact BK1388.out) hb); have n7_ := Aside0.mk (blk_below (g := gb1403) (o := .cells #[.slice Ao26 t1396.length co26, .slice Ao29 t1399.length co29] 60 (0, 0)) (by (with_reducible repeat (first | refine blk_drewN ?_ _ | refine blk_drew ?_ | refine blk_alloc ?_ _)); exact BK1403.out) hb); have n8_ := Aside0.mk (blk_below (g := gb1410) (o := .cells #[.slice Ao33 t1428.length co33, .slice Ao37 t1429.length co37] 60 (0, 0)) (by (with_reducible repeat (first | refine blk_drewN ?_ _ | refine blk_drew ?_ | refine blk_alloc ?_ _)); exact BK1410.out) hb); have n9_ := Aside0.mk (blk_below (g := gb1418) (o := .cells #[.slice Ao40 t1411.length co40, .slice Ao45 t1414.length co45] 60 (0, 0)) (by (with_reducible repeat (first | refine blk_drewN ?_ _ | refine blk_drew ?_ | refine blk_alloc ?_ _)); exact BK1418.out) hb); have n10_ := Aside0.mk (below_step (by repeat (first | (with_reducible first | exact HB.out | apply below_alloc | apply pw_below_drewN | apply below_drew1 | refine below_set ?_ GE1388.out | refine below_set ?_ GE1403.out | refine below_set ?_ GE1410.out | refine below_set ?_ GE1418.out) | exact HB.out)) hb); clear HO_1404000; clear HO_1404001; clear HO_1411000; clear HO_1411001; clear HO_1419000; clear HO_1419001; clear BK1388; clear BK1403; clear BK1410; clear BK1418; clear HB; have HO_1404000 := n0_; have HO_1404001 := n1_; have HO_1411000 := n2_; have HO_1411001 := n3_; have HO_1419000 := n4_; have HO_1419001 := n5_; have BK1388 := n6_; have BK1403 := n7_; have BK1410 := n8_; have BK1418 := n9_; have HB := n10_; clear n0_ n1_ n2_ n3_ n4_ n5_ n6_ n7_ n8_ n9_ n10_; (try clear hb); (try clear hb2); (try clear hk); (try clear hi)))
            go_ret
            exact ⟨by first | rfl | (simp [errW_none, errW_some] <;> rfl) | (simp [*, errW_none, errW_some] <;> rfl), by repeat (first | (with_reducible first | exact HB.out | apply below_alloc | apply pw_below_drewN | apply below_drew1 | refine below_set ?_ GE1388.out | refine below_set ?_ GE1403.out | refine below_set ?_ GE1410.out | refine below_set ?_ GE1418.out) | exact HB.out)⟩
      ·replace c67 := Bool.eq_false_iff.mpr c67
       subst c67
       have H1 : (some false) = some r := by rw [if_neg (show ¬ (false = true) by decide)] at H; exact H
       clear H
       have H := H1
       clear H1
       obtain rfl := Option.some.inj H
       try go_wp2
       have n0_ := Aside0.mk (Kd.R_drew HO_1404000.out)
       have n1_ := Aside0.mk (Kd.R_drew HO_1404001.out)
       have n2_ := Aside0.mk (Kd.R_drew HO_1411000.out)
       have n3_ := Aside0.mk (Kd.R_drew HO_1411001.out)
       have n4_ := Aside0.mk (Kd.R_drew HO_1419000.out)
       have n5_ := Aside0.mk (Kd.R_drew HO_1419001.out)
       have n6_ := Aside0.mk (blk_drew BK1388.out)
       have n7_ := Aside0.mk (blk_drew BK1403.out)
       have n8_ := Aside0.mk (blk_drew BK1410.out)
       have n9_ := Aside0.mk (blk_drew BK1418.out)
       have n10_ := Aside0.mk (below_drew1 HB.out)
       clear HO_1404000
       clear HO_1404001
       clear HO_1411000
       clear HO_1411001
       clear HO_1419000
       clear HO_1419001
       clear BK1388
       clear BK1403
       clear BK1410
       clear BK1418
       clear HB
       have HO_1404000 := n0_
       have HO_1404001 := n1_
       have HO_1411000 := n2_
       have HO_1411001 := n3_
       have HO_1419000 := n4_
       have HO_1419001 := n5_
       have BK1388 := n6_
       have BK1403 := n7_
       have BK1410 := n8_
       have BK1418 := n9_
       have HB := n10_
       clear n0_ n1_ n2_ n3_ n4_ n5_ n6_ n7_ n8_ n9_ n10_
       refine start_ (n := 5) (S := fun w' => w'.cell? ⟨gb1410, 0, none⟩ = some (.slice Ao33 t1404.length co33) ∧ w'.cell? ⟨gb1410, 1, none⟩ = some (.slice Ao37 t1407.length co37) ∧ w'.cell? ⟨gb1388, 0, none⟩ = some (.slice A0_0 l0_0.length c0_0) ∧ w'.cell? ⟨gb1388, 1, none⟩ = some (.slice A0_1 l0_1.length c0_1)) (ds := []) #[false, false, false, false, false] (by kernel_rfl) rfl rfl ⟨(blk_cell BK1410.out 0).trans rfl, (blk_cell BK1410.out 1).trans rfl, (blk_cell BK1388.out 0).trans rfl, (blk_cell BK1388.out 1).trans rfl⟩ (fun hHeld => ?_)
       generalize wc.drew = w187 at HO_1404000 HO_1404001 HO_1411000 HO_1411001 HO_1419000 HO_1419001 BK1388 BK1403 BK1410 BK1418 HB hHeld ⊢
       refine take_ (i := 0) (N := some 56) (v := ?_) (a' := ?_) #[true, false, false, false, false] rfl rfl (by kernel_rfl) (fun _ _ _ h => h) (Or.inl ⟨by rfl, ?_⟩) hHeld ?_ ?_
       rotate_left
       ·rintro w' ⟨s0, s1, s2, s3⟩
        go_simp
        with_reducible rfl
       rotate_left
       ·simp only [Act.put, List.setIfInBounds_toArray, List.set_cons_zero, List.set_cons_succ, i64_w, i32_w]
        rfl
       refine take_ (i := 1) (N := some 57) (v := ?_) (a' := ?_) #[true, true, false, false, false] rfl rfl (by kernel_rfl) (fun _ _ _ h => h) (Or.inl ⟨by rfl, ?_⟩) hHeld ?_ ?_
       rotate_left
       ·rintro w' ⟨s0, s1, s2, s3⟩
        go_simp
        with_reducible rfl
       rotate_left
       ·simp only [Act.put, List.setIfInBounds_toArray, List.set_cons_zero, List.set_cons_succ, i64_w, i32_w]
        rfl
       refine one_ (i := 2) (N := some 58) #[true, true, true, false, false] rfl rfl (by kernel_rfl) (by decide) (fun K hK => ?_)
       refine goes_ Try.func77 (by kernel_rfl) rfl #[.agg #[.slice A0_0 l0_0.length c0_0, .slice A0_1 l0_1.length c0_1]] (by rfl) rfl rfl (by (try simp only [List.map_toArray, List.map_cons, List.map_nil]); first | done | rfl | (simp only [List.length_drop, List.length_take]; rfl)) ?_
       with_reducible refine (laws_toDisk.calls kj15 _ _ l0_0 _ _ l0_1 t1420 t1423 _ ?side1 ?side2 ?side3 ?side4 A65.out).mono ?_
       (case side1 => repeat (first | exact (Kd.C_below HR0_0.out HB.out) | (with_reducible refine Kd.C_alloc ?_ _) | (with_reducible refine Kd.C_drewN ?_ _) | (with_reducible refine Kd.C_drew ?_)))
       (case side2 => exact HC0_0.out)
       (case side3 => repeat (first | exact (Kd.C_below HR0_1.out HB.out) | (with_reducible refine Kd.C_alloc ?_ _) | (with_reducible refine Kd.C_drewN ?_ _) | (with_reducible refine Kd.C_drew ?_)))
       (case side4 => exact HC0_1.out)
       rintro e w188 ⟨v1421, v1424, rfl, ho0, ho1, hb⟩
       refine ⟨_, rfl, ?_⟩
       have n0_ := Aside0.mk (Kd.R_elder' (by (with_reducible repeat (first | apply Kd.R_alloc | apply Kd.R_drewN | apply Kd.R_drew)); exact HO_1404000.out) (Kd.R_base ho0) hb)
       have n1_ := Aside0.mk (Kd.R_elder' (by (with_reducible repeat (first | apply Kd.R_alloc | apply Kd.R_drewN | apply Kd.R_drew)); exact HO_1404001.out) (Kd.R_base ho1) hb)
       have n2_ := Aside0.mk (Kd.R_elder' (by (with_reducible repeat (first | apply Kd.R_alloc | apply Kd.R_drewN | apply Kd.R_drew)); exact HO_1411000.out) (Kd.R_base ho0) hb)
       have n3_ := Aside0.mk (Kd.R_elder' (by (with_reducible repeat (first | apply Kd.R_alloc | apply Kd.R_drewN | apply Kd.R_drew)); exact HO_1411001.out) (Kd.R_base ho1) hb)
       have n4_ := Aside0.mk (Kd.R_elder' (by (with_reducible repeat (first | apply Kd.R_alloc | apply Kd.R_drewN | apply Kd.R_drew)); exact HO_1419000.out) (Kd.R_base ho0) hb)
       have n5_ := Aside0.mk (Kd.R_elder' (by (with_reducible repeat (first | apply Kd.R_alloc | apply Kd.R_drewN | apply Kd.R_drew)); exact HO_1419001.out) (Kd.R_base ho1) hb)
       have n6_ := Aside0.mk (Kd.R_lower (Kd.R_new' (Kd.R_new' (Kd.R_new' ho0 (Kd.R_lt (by (with_reducible repeat (first | apply Kd.R_alloc | apply Kd.R_drewN | apply Kd.R_drew)); exact HO_1404000.out))) (Kd.R_lt (by (with_reducible repeat (first | apply Kd.R_alloc | apply Kd.R_drewN | apply Kd.R_drew)); exact HO_1411000.out))) (Kd.R_lt (by (with_reducible repeat (first | apply Kd.R_alloc | apply Kd.R_drewN | apply Kd.R_drew)); exact HO_1419000.out))) (below_size (by repeat (first | (with_reducible first | exact HB.out | apply below_alloc | apply pw_below_drewN | apply below_drew1 | refine below_set ?_ GE1388.out | refine below_set ?_ GE1403.out | refine below_set ?_ GE1410.out | refine below_set ?_ GE1418.out) | exact HB.out))))
       have n7_ := Aside0.mk (Kd.R_lower (Kd.R_new' (Kd.R_new' (Kd.R_new' ho1 (Kd.R_lt (by (with_reducible repeat (first | apply Kd.R_alloc | apply Kd.R_drewN | apply Kd.R_drew)); exact HO_1404001.out))) (Kd.R_lt (by (with_reducible repeat (first | apply Kd.R_alloc | apply Kd.R_drewN | apply Kd.R_drew)); exact HO_1411001.out))) (Kd.R_lt (by (with_reducible repeat (first | apply Kd.R_alloc | apply Kd.R_drewN | apply Kd.R_drew)); exact HO_1419001.out))) (below_size (by repeat (first | (with_reducible first | exact HB.out | apply below_alloc | apply pw_below_drewN | apply below_drew1 | refine below_set ?_ GE1388.out | refine below_set ?_ GE1403.out | refine below_set ?_ GE1410.out | refine below_set ?_ GE1418.out) | exact HB.out))))
       have n8_ := Aside0.mk (blk_below (g := gb1388) (o := .cells #[.slice A0_0 l0_0.length c0_0, .slice A0_1 l0_1.length c0_1] 85 (0, 0)) (by (with_reducible repeat (first | refine blk_drewN ?_ _ | refine blk_drew ?_ | refine blk_alloc ?_ _)); exact BK1388.out) hb)
       have n9_ := Aside0.mk (blk_below (g := gb1403) (o := .cells #[.slice Ao26 t1396.length co26, .slice Ao29 t1399.length co29] 60 (0, 0)) (by (with_reducible repeat (first | refine blk_drewN ?_ _ | refine blk_drew ?_ | refine blk_alloc ?_ _)); exact BK1403.out) hb)
       have n10_ := Aside0.mk (blk_below (g := gb1410) (o := .cells #[.slice Ao33 t1404.length co33, .slice Ao37 t1407.length co37] 60 (0, 0)) (by (with_reducible repeat (first | refine blk_drewN ?_ _ | refine blk_drew ?_ | refine blk_alloc ?_ _)); exact BK1410.out) hb)
       have n11_ := Aside0.mk (blk_below (g := gb1418) (o := .cells #[.slice Ao40 t1411.length co40, .slice Ao45 t1414.length co45] 60 (0, 0)) (by (with_reducible repeat (first | refine blk_drewN ?_ _ | refine blk_drew ?_ | refine blk_alloc ?_ _)); exact BK1418.out) hb)
       have n12_ := Aside0.mk (below_step (by repeat (first | (with_reducible first | exact HB.out | apply below_alloc | apply pw_below_drewN | apply below_drew1 | refine below_set ?_ GE1388.out | refine below_set ?_ GE1403.out | refine below_set ?_ GE1410.out | refine below_set ?_ GE1418.out) | exact HB.out)) hb)
       clear HO_1404000
       clear HO_1404001
       clear HO_1411000
       clear HO_1411001
       clear HO_1419000
       clear HO_1419001
       clear BK1388
       clear BK1403
       clear BK1410
       clear BK1418
       clear HB
       have HO_1404000 := n0_
       have HO_1404001 := n1_
       have HO_1411000 := n2_
       have HO_1411001 := n3_
       have HO_1419000 := n4_
       have HO_1419001 := n5_
       have HO1422 := n6_
       have HO1425 := n7_
       have BK1388 := n8_
       have BK1403 := n9_
       have BK1410 := n10_
       have BK1418 := n11_
       have HB := n12_
       clear n0_ n1_ n2_ n3_ n4_ n5_ n6_ n7_ n8_ n9_ n10_ n11_ n12_
       (try clear hb)
       (try clear hb2)
       (try clear hk)
       (try clear hi)
       (try clear ho0)
       (try clear ho1)
       obtain ⟨Ao189, co189, eo189⟩ := Kd.R_slice HO1422.out
       (first | subst eo189 | (injection eo189 with f1_ f2_ f3_; have f4_ := f1_.symm; have f5_ := f3_.symm; clear f1_ f2_ f3_; subst f4_; subst f5_))
       obtain ⟨Ao190, co190, eo190⟩ := Kd.R_slice HO1425.out
       (first | subst eo190 | (injection eo190 with f1_ f2_ f3_; have f4_ := f1_.symm; have f5_ := f3_.symm; clear f1_ f2_ f3_; subst f4_; subst f5_))
       refine hK.out _ _ ⟨(blk_cell BK1410.out 0).trans rfl, (blk_cell BK1410.out 1).trans rfl, (blk_cell BK1388.out 0).trans rfl, (blk_cell BK1388.out 1).trans rfl⟩ (fun hHeld => ?_)
       clear hK K
       refine norm_ (a' := ?_) ?_ ?_
       rotate_left
       ·show Act.put _ (some 58) _ = _
        simp only [Act.put, List.setIfInBounds_toArray, List.set_cons_zero, List.set_cons_succ, i64_w, i32_w]
        rfl
       refine one_ (i := 3) (N := some 59) #[true, true, true, true, false] rfl rfl (by kernel_rfl) (by decide) (fun K hK => ?_)
       refine goes_ Try.func78 (by kernel_rfl) rfl #[.agg #[.slice Ao33 t1404.length co33, .slice Ao37 t1407.length co37], .agg #[.slice Ao189 t1420.length co189, .slice Ao190 t1423.length co190]] (by rfl) rfl rfl (by (try simp only [List.map_toArray, List.map_cons, List.map_nil]); first | done | rfl | (simp only [List.length_drop, List.length_take]; rfl)) ?_
       with_reducible refine (laws_eqDisk.calls kj15 _ _ t1404 _ _ t1407 _ _ t1420 _ _ t1423 false _ ?side1 ?side2 ?side3 ?side4 ?side5 ?side6 ?side7 ?side8 A66.out).mono ?_
       (case side1 => repeat (first | exact (Kd.R_reads' HO_1411000.out).2.2 | (with_reducible refine Kd.C_alloc ?_ _) | (with_reducible refine Kd.C_drewN ?_ _) | (with_reducible refine Kd.C_drew ?_)))
       (case side2 => exact (Kd.R_reads' HO_1411000.out).2.1)
       (case side3 => repeat (first | exact (Kd.R_reads' HO_1411001.out).2.2 | (with_reducible refine Kd.C_alloc ?_ _) | (with_reducible refine Kd.C_drewN ?_ _) | (with_reducible refine Kd.C_drew ?_)))
       (case side4 => exact (Kd.R_reads' HO_1411001.out).2.1)
       (case side5 => repeat (first | exact (Kd.R_reads' HO1422.out).2.2 | (with_reducible refine Kd.C_alloc ?_ _) | (with_reducible refine Kd.C_drewN ?_ _) | (with_reducible refine Kd.C_drew ?_)))
       (case side6 => exact (Kd.R_reads' HO1422.out).2.1)
       (case side7 => repeat (first | exact (Kd.R_reads' HO1425.out).2.2 | (with_reducible refine Kd.C_alloc ?_ _) | (with_reducible refine Kd.C_drewN ?_ _) | (with_reducible refine Kd.C_drew ?_)))
       (case side8 => exact (Kd.R_reads' HO1425.out).2.1)
       rintro e w191 ⟨rfl, hb⟩
       refine ⟨_, rfl, ?_⟩
       have n0_ := Aside0.mk (Kd.R_below (by (with_reducible repeat (first | apply Kd.R_alloc | apply Kd.R_drewN | apply Kd.R_drew)); exact HO_1404000.out) hb)
       have n1_ := Aside0.mk (Kd.R_below (by (with_reducible repeat (first | apply Kd.R_alloc | apply Kd.R_drewN | apply Kd.R_drew)); exact HO_1404001.out) hb)
       have n2_ := Aside0.mk (Kd.R_below (by (with_reducible repeat (first | apply Kd.R_alloc | apply Kd.R_drewN | apply Kd.R_drew)); exact HO_1411000.out) hb)
       have n3_ := Aside0.mk (Kd.R_below (by (with_reducible repeat (first | apply Kd.R_alloc | apply Kd.R_drewN | apply Kd.R_drew)); exact HO_1411001.out) hb)
       have n4_ := Aside0.mk (Kd.R_below (by (with_reducible repeat (first | apply Kd.R_alloc | apply Kd.R_drewN | apply Kd.R_drew)); exact HO_1419000.out) hb)
       have n5_ := Aside0.mk (Kd.R_below (by (with_reducible repeat (first | apply Kd.R_alloc | apply Kd.R_drewN | apply Kd.R_drew)); exact HO_1419001.out) hb)
       have n6_ := Aside0.mk (Kd.R_below (by (with_reducible repeat (first | apply Kd.R_alloc | apply Kd.R_drewN | apply Kd.R_drew)); exact HO1422.out) hb)
       have n7_ := Aside0.mk (Kd.R_below (by (with_reducible repeat (first | apply Kd.R_alloc | apply Kd.R_drewN | apply Kd.R_drew)); exact HO1425.out) hb)
       have n8_ := Aside0.mk (blk_below (g := gb1388) (o := .cells #[.slice A0_0 l0_0.length c0_0, .slice A0_1 l0_1.length c0_1] 85 (0, 0)) (by (with_reducible repeat (first | refine blk_drewN ?_ _ | refine blk_drew ?_ | refine blk_alloc ?_ _)); exact BK1388.out) hb)
       have n9_ := Aside0.mk (blk_below (g := gb1403) (o := .cells #[.slice Ao26 t1396.length co26, .slice Ao29 t1399.length co29] 60 (0, 0)) (by (with_reducible repeat (first | refine blk_drewN ?_ _ | refine blk_drew ?_ | refine blk_alloc ?_ _)); exact BK1403.out) hb)
       have n10_ := Aside0.mk (blk_below (g := gb1410) (o := .cells #[.slice Ao33 t1404.length co33, .slice Ao37 t1407.length co37] 60 (0, 0)) (by (with_reducible repeat (first | refine blk_drewN ?_ _ | refine blk_drew ?_ | refine blk_alloc ?_ _)); exact BK1410.out) hb)
       have n11_ := Aside0.mk (blk_below (g := gb1418) (o := .cells #[.slice Ao40 t1411.length co40, .slice Ao45 t1414.length co45] 60 (0, 0)) (by (with_reducible repeat (first | refine blk_drewN ?_ _ | refine blk_drew ?_ | refine blk_alloc ?_ _)); exact BK1418.out) hb)
       have n12_ := Aside0.mk (below_step (by repeat (first | (with_reducible first | exact HB.out | apply below_alloc | apply pw_below_drewN | apply below_drew1 | refine below_set ?_ GE1388.out | refine below_set ?_ GE1403.out | refine below_set ?_ GE1410.out | refine below_set ?_ GE1418.out) | exact HB.out)) hb)
       clear HO_1404000
       clear HO_1404001
       clear HO_1411000
       clear HO_1411001
       clear HO_1419000
       clear HO_1419001
       clear HO1422
       clear HO1425
       clear BK1388
       clear BK1403
       clear BK1410
       clear BK1418
       clear HB
       have HO_1404000 := n0_
       have HO_1404001 := n1_
       have HO_1411000 := n2_
       have HO_1411001 := n3_
       have HO_1419000 := n4_
       have HO_1419001 := n5_
       have HO1422 := n6_
       have HO1425 := n7_
       have BK1388 := n8_
       have BK1403 := n9_
       have BK1410 := n10_
       have BK1418 := n11_
       have HB := n12_
       clear n0_ n1_ n2_ n3_ n4_ n5_ n6_ n7_ n8_ n9_ n10_ n11_ n12_
       (try clear hb)
       (try clear hb2)
       (try clear hk)
       (try clear hi)
       refine hK.out _ _ ⟨(blk_cell BK1410.out 0).trans rfl, (blk_cell BK1410.out 1).trans rfl, (blk_cell BK1388.out 0).trans rfl, (blk_cell BK1388.out 1).trans rfl⟩ (fun hHeld => ?_)
       clear hK K
       refine norm_ (a' := ?_) ?_ ?_
       rotate_left
       ·show Act.put _ (some 59) _ = _
        simp only [Act.put, List.setIfInBounds_toArray, List.set_cons_zero, List.set_cons_succ, i64_w, i32_w]
        rfl
       refine pure_ (i := 4) (N := some 60) (v := ?_) (a' := ?_) #[true, true, true, true, true] rfl rfl (by kernel_rfl) (fun _ _ _ h => h) (Or.inl ⟨by rfl, ?_⟩) ?_ ?_
       rotate_left
       ·intro w'
        go_simp
        with_reducible rfl
       rotate_left
       ·simp only [Act.put, List.setIfInBounds_toArray, List.set_cons_zero, List.set_cons_succ, i64_w, i32_w]
        rfl
       refine done_ (by kernel_rfl) ?_
       try go_wp2
       go_ret
       exact ⟨by first | rfl | (simp [errW_none, errW_some] <;> rfl) | (simp [*, errW_none, errW_some] <;> rfl), by repeat (first | (with_reducible first | exact HB.out | apply below_alloc | apply pw_below_drewN | apply below_drew1 | refine below_set ?_ GE1388.out | refine below_set ?_ GE1403.out | refine below_set ?_ GE1410.out | refine below_set ?_ GE1418.out) | exact HB.out)⟩
end Go.Proofs.Ythlbjmgoibnopaa.Q
