/- What laws.FnExactGuestOK reaches, part 4: the functions as Lean functions, the proofs that the program's functions answer so, and plain laws about them. -/
import Derived.Test.YtbojcpgfkppkbaaKFnExactGuestOK1
import Derived.Test.YtbojcpgfkppkbaaKFnExactGuestOK2
import Derived.Test.YtbojcpgfkppkbaaKFnExactGuestOK3
namespace Go.Proofs.Ytbojcpgfkppkbaa.Q
open Go.RowKit Go.Proofs.Ytbojcpgfkppkbaa.Ext Go.Proofs.YtbojcpgfkppkbaaW.PrintWords Go.Proofs.YtbojcpgfkppkbaaW.PrintLast Go.Proofs.YtbojcpgfkppkbaaW.PrintMore
attribute [local go_sem] max2_int min2_int max_two min_two max_three min_three max_four min_four   -- for this text's walks alone
set_option linter.unusedVariables false
set_option linter.unusedSimpArgs false

set_option linter.unusedVariables false
set_option linter.unusedSimpArgs false
/-! ### laws_FnExactGuestOK: function 10 -/
def laws_FnExactGuestOK.f (k : Nat) (l0_0 : List Int) (l0_1 : List (S155)) : Option (Bool) := (laws_szGuest.f k l0_0 l0_1 1048576).bind fun t1066 => (if t1066 < 0 then (some true) else ((laws_toGuest.f k l0_0 l0_1).bind fun bt1067 => ((spec_GuestOK.f k bt1067.1 bt1067.2).bind fun t1073 => ((laws_toGuest.f k l0_0 l0_1).bind fun bt1074 => ((impl_GuestOK.f k bt1074.1 bt1074.2).bind fun t1081 => (if (t1081 != t1073) = true then (some false) else ((laws_toGuest.f k l0_0 l0_1).bind fun bt1082 => ((laws_eqGuest.f k bt1074.1 bt1074.2 bt1082.1 bt1082.2).bind fun t1088 => (if t1088 = true then (some true) else (some false))))))))))
theorem laws_FnExactGuestOK.mono : ∀ a0 a1 k, LeO (laws_FnExactGuestOK.f k a0 a1) (laws_FnExactGuestOK.f (k + 1) a0 a1) := by
  intro a0 a1 k
  unfold laws_FnExactGuestOK.f
  repeat' first
      | (with_reducible exact impl_GuestOK.mono _ _ _)
      | (with_reducible exact laws_eqGuest.mono _ _ _ _ _)
      | (with_reducible exact laws_szGuest.mono _ _ _ _)
      | (with_reducible exact laws_toGuest.mono _ _ _)
      | (with_reducible exact spec_GuestOK.mono _ _ _)
      | (with_reducible exact LeO.refl _)
      | (with_reducible exact LeO.none _)
      | (with_reducible refine LeO.ite ?_ ?_)
      | (with_reducible refine LeO.bind ?_ (fun _ => ?_))
      | exact impl_GuestOK.mono _ _ _
      | exact laws_eqGuest.mono _ _ _ _ _
      | exact laws_szGuest.mono _ _ _ _
      | exact laws_toGuest.mono _ _ _
      | exact spec_GuestOK.mono _ _ _
      | exact LeO.none _
      | refine LeO.ite ?_ ?_
      | refine LeO.bind ?_ (fun _ => ?_)
set_option maxHeartbeats 8000000 in
set_option maxRecDepth 100000 in
theorem laws_FnExactGuestOK.calls (k : Nat) (A0_0 : Option Addr) (c0_0 : Nat) (l0_0 : List Int) (A0_1 : Option Addr) (c0_1 : Nat) (l0_1 : List (S155)) (r : Bool) (w : World) (hr0_0 : Kd.C (Kd.int .i64) w A0_0 l0_0.length l0_0) (hc0_0 : l0_0.length ≤ c0_0) (hr0_1 : Kd.C k155 w A0_1 l0_1.length l0_1) (hc0_1 : l0_1.length ≤ c0_1) (h : laws_FnExactGuestOK.f k l0_0 l0_1 = some r) :
    Calls Try.prog 10 #[.agg #[.slice A0_0 l0_0.length c0_0, .slice A0_1 l0_1.length c0_1]] w fun e w' => e = .returned (.bool r) ∧ Below w.heap.size w w' := by
 have hu64 := Try.underlying64
 have hu69 := Try.underlying69
 have HR0_0 := Aside0.mk hr0_0
 have HC0_0 := Aside0.mk hc0_0
 clear hr0_0 hc0_0
 have HR0_1 := Aside0.mk hr0_1
 have HC0_1 := Aside0.mk hc0_1
 clear hr0_1 hc0_1
 have HB := Aside0.mk (Below.refl w.heap.size w)
 have H : ((laws_szGuest.f k l0_0 l0_1 1048576).bind fun t1066 => (if t1066 < 0 then (some true) else ((laws_toGuest.f k l0_0 l0_1).bind fun bt1067 => ((spec_GuestOK.f k bt1067.1 bt1067.2).bind fun t1073 => ((laws_toGuest.f k l0_0 l0_1).bind fun bt1074 => ((impl_GuestOK.f k bt1074.1 bt1074.2).bind fun t1081 => (if (t1081 != t1073) = true then (some false) else ((laws_toGuest.f k l0_0 l0_1).bind fun bt1082 => ((laws_eqGuest.f k bt1074.1 bt1074.2 bt1082.1 bt1082.2).bind fun t1088 => (if t1088 = true then (some true) else (some false))))))))))) = some r := h
 clear h
 replace H := Option.bind_eq_some_iff.mp H
 obtain ⟨t1066, A20, H⟩ := H
 replace H : (if t1066 < 0 then (some true) else ((laws_toGuest.f k l0_0 l0_1).bind fun bt1067 => ((spec_GuestOK.f k bt1067.1 bt1067.2).bind fun t1073 => ((laws_toGuest.f k l0_0 l0_1).bind fun bt1074 => ((impl_GuestOK.f k bt1074.1 bt1074.2).bind fun t1081 => (if (t1081 != t1073) = true then (some false) else ((laws_toGuest.f k l0_0 l0_1).bind fun bt1082 => ((laws_eqGuest.f k bt1074.1 bt1074.2 bt1082.1 bt1082.2).bind fun t1088 => (if t1088 = true then (some true) else (some false)))))))))) = some r := H
 have A2 := Aside0.mk A20
 clear A20
 by_cases c3 : t1066 < 0
 ·rw [if_pos c3] at H
  have c3b0 : decide (t1066 < 0) = true := decide_eq_true c3
  clear c3
  obtain rfl := Option.some.inj H
  go_enter Try.func10, Try.ntmps10
  go_wp2_with (first | ((with_reducible refine gate_dst (N := 1) rfl ?_); refine box_event ?hg (N := 1) ?hd (cs := #[.slice A0_0 l0_0.length c0_0, .slice A0_1 l0_1.length c0_1]) (t := 64) ?hr ?_; (case hd => rfl); (case hg => rfl); (case hr => first | (go_simp; done) | (go_simp; rfl)); intro gb1065 hg w4 hbox hb; have n0_ := Aside0.mk (below_step (by repeat (first | (with_reducible first | exact HB.out | apply below_alloc | apply pw_below_drewN | apply below_drew1) | exact HB.out)) hb); have n1_ := Aside0.mk (hbox); have n2_ := Aside0.mk ((by rw [hg]; exact (below_size (by repeat (first | (with_reducible first | exact HB.out | apply below_alloc | apply pw_below_drewN | apply below_drew1) | exact HB.out))) : w.heap.size ≤ gb1065)); have n3_ := Aside0.mk ((by rw [hg]; exact (below_size (by repeat (first | (with_reducible first | exact HB.out | apply below_alloc | apply pw_below_drewN | apply below_drew1) | exact HB.out))) : w.heap.size ≤ gb1065)); clear HB; have HB := n0_; have BK1065 := n1_; have GW1065 := n2_; have GE1065 := n3_; clear n0_ n1_ n2_ n3_; clear hb hbox hg; have hcz5_0 : w4.cell? ⟨gb1065, 0, none⟩ = some (.slice A0_0 l0_0.length c0_0) := (blk_cell BK1065.out 0).trans rfl; have hcz5_1 : w4.cell? ⟨gb1065, 1, none⟩ = some (.slice A0_1 l0_1.length c0_1) := (blk_cell BK1065.out 1).trans rfl; have hfz5_0 := blk_frozen BK1065.out 0; have hfz5_1 := blk_frozen BK1065.out 1) | ((with_reducible refine gate_callee (f := 36) rfl ?_); refine goesL_ (some 9) rfl rfl Try.func36 (by kernel_rfl) rfl #[.agg #[.slice A0_0 l0_0.length c0_0, .slice A0_1 l0_1.length c0_1], .int .i64 1048576] rfl (by (try simp only [List.map_toArray, List.map_cons, List.map_nil]); first | done | rfl | (simp only [List.length_drop, List.length_take]; rfl)) ?_; (with_reducible refine (laws_szGuest.calls k _ _ l0_0 _ _ l0_1 1048576 t1066 _ ?side1 ?side2 ?side3 ?side4 A2.out).mono ?_); (case side1 => repeat (first | exact (Kd.C_below HR0_0.out HB.out) | (with_reducible refine Kd.C_alloc ?_ _) | (with_reducible refine Kd.C_drewN ?_ _) | (with_reducible refine Kd.C_drew ?_))); (case side2 => exact HC0_0.out); (case side3 => repeat (first | exact (Kd.C_below HR0_1.out HB.out) | (with_reducible refine Kd.C_alloc ?_ _) | (with_reducible refine Kd.C_drewN ?_ _) | (with_reducible refine Kd.C_drew ?_))); (case side4 => exact HC0_1.out); rintro e w6 ⟨rfl, hb⟩; refine ⟨_, rfl, ?_⟩; have n0_ := Aside0.mk (blk_below (g := gb1065) (o := .cells #[.slice A0_0 l0_0.length c0_0, .slice A0_1 l0_1.length c0_1] 64 (0, 0)) (by (with_reducible repeat (first | refine blk_drewN ?_ _ | refine blk_drew ?_ | refine blk_alloc ?_ _)); exact BK1065.out) hb); have n1_ := Aside0.mk (below_step (by repeat (first | (with_reducible first | exact HB.out | apply below_alloc | apply pw_below_drewN | apply below_drew1 | refine below_set ?_ GE1065.out) | exact HB.out)) hb); clear BK1065; clear HB; have BK1065 := n0_; have HB := n1_; clear n0_ n1_; (try clear hb); (try clear hb2); (try clear hk); (try clear hi)))
  go_ret
  exact ⟨by first | rfl | (simp [errW_none, errW_some] <;> rfl) | (simp [*, errW_none, errW_some] <;> rfl), by repeat (first | (with_reducible first | exact HB.out | apply below_alloc | apply pw_below_drewN | apply below_drew1 | refine below_set ?_ GE1065.out) | exact HB.out)⟩
 ·rw [if_neg c3] at H
  have c3b0 : decide (t1066 < 0) = false := decide_eq_false c3
  clear c3
  replace H := Option.bind_eq_some_iff.mp H
  obtain ⟨⟨t1067, t1070⟩, A70, H⟩ := H
  replace H : ((spec_GuestOK.f k t1067 t1070).bind fun t1073 => ((laws_toGuest.f k l0_0 l0_1).bind fun bt1074 => ((impl_GuestOK.f k bt1074.1 bt1074.2).bind fun t1081 => (if (t1081 != t1073) = true then (some false) else ((laws_toGuest.f k l0_0 l0_1).bind fun bt1082 => ((laws_eqGuest.f k bt1074.1 bt1074.2 bt1082.1 bt1082.2).bind fun t1088 => (if t1088 = true then (some true) else (some false)))))))) = some r := H
  have A7 := Aside0.mk A70
  clear A70
  replace H := Option.bind_eq_some_iff.mp H
  obtain ⟨t1073, A80, H⟩ := H
  replace H : ((laws_toGuest.f k l0_0 l0_1).bind fun bt1074 => ((impl_GuestOK.f k bt1074.1 bt1074.2).bind fun t1081 => (if (t1081 != t1073) = true then (some false) else ((laws_toGuest.f k l0_0 l0_1).bind fun bt1082 => ((laws_eqGuest.f k bt1074.1 bt1074.2 bt1082.1 bt1082.2).bind fun t1088 => (if t1088 = true then (some true) else (some false))))))) = some r := H
  have A8 := Aside0.mk A80
  clear A80
  replace H := Option.bind_eq_some_iff.mp H
  obtain ⟨⟨t1074, t1077⟩, A90, H⟩ := H
  replace H : ((impl_GuestOK.f k t1074 t1077).bind fun t1081 => (if (t1081 != t1073) = true then (some false) else ((laws_toGuest.f k l0_0 l0_1).bind fun bt1082 => ((laws_eqGuest.f k t1074 t1077 bt1082.1 bt1082.2).bind fun t1088 => (if t1088 = true then (some true) else (some false)))))) = some r := H
  have A9 := Aside0.mk A90
  clear A90
  replace H := Option.bind_eq_some_iff.mp H
  obtain ⟨t1081, A100, H⟩ := H
  replace H : (if (t1081 != t1073) = true then (some false) else ((laws_toGuest.f k l0_0 l0_1).bind fun bt1082 => ((laws_eqGuest.f k t1074 t1077 bt1082.1 bt1082.2).bind fun t1088 => (if t1088 = true then (some true) else (some false))))) = some r := H
  have A10 := Aside0.mk A100
  clear A100
  by_cases c11 : (t1081 != t1073) = true
  ·rw [if_pos c11] at H
   have c11b0 : (t1081 != t1073) = true := c11
   (try (have c11b1 : decide (t1081 = t1073) = false := by simpa using c11))
   (try (have c11b2 : (t1081 == t1073) = false := by simpa using c11))
   (try (have c11b3 : ¬ (t1081 = t1073) := by simpa using c11))
   clear c11
   obtain rfl := Option.some.inj H
   go_enter Try.func10, Try.ntmps10
   go_wp2_with (first | ((with_reducible refine gate_dst (N := 1) rfl ?_); refine box_event ?hg (N := 1) ?hd (cs := #[.slice A0_0 l0_0.length c0_0, .slice A0_1 l0_1.length c0_1]) (t := 64) ?hr ?_; (case hd => rfl); (case hg => rfl); (case hr => first | (go_simp; done) | (go_simp; rfl)); intro gb1065 hg w12 hbox hb; have n0_ := Aside0.mk (below_step (by repeat (first | (with_reducible first | exact HB.out | apply below_alloc | apply pw_below_drewN | apply below_drew1) | exact HB.out)) hb); have n1_ := Aside0.mk (hbox); have n2_ := Aside0.mk ((by rw [hg]; exact (below_size (by repeat (first | (with_reducible first | exact HB.out | apply below_alloc | apply pw_below_drewN | apply below_drew1) | exact HB.out))) : w.heap.size ≤ gb1065)); have n3_ := Aside0.mk ((by rw [hg]; exact (below_size (by repeat (first | (with_reducible first | exact HB.out | apply below_alloc | apply pw_below_drewN | apply below_drew1) | exact HB.out))) : w.heap.size ≤ gb1065)); clear HB; have HB := n0_; have BK1065 := n1_; have GW1065 := n2_; have GE1065 := n3_; clear n0_ n1_ n2_ n3_; clear hb hbox hg; have hcz13_0 : w12.cell? ⟨gb1065, 0, none⟩ = some (.slice A0_0 l0_0.length c0_0) := (blk_cell BK1065.out 0).trans rfl; have hcz13_1 : w12.cell? ⟨gb1065, 1, none⟩ = some (.slice A0_1 l0_1.length c0_1) := (blk_cell BK1065.out 1).trans rfl; have hfz13_0 := blk_frozen BK1065.out 0; have hfz13_1 := blk_frozen BK1065.out 1) | ((with_reducible refine gate_callee (f := 36) rfl ?_); refine goesL_ (some 9) rfl rfl Try.func36 (by kernel_rfl) rfl #[.agg #[.slice A0_0 l0_0.length c0_0, .slice A0_1 l0_1.length c0_1], .int .i64 1048576] rfl (by (try simp only [List.map_toArray, List.map_cons, List.map_nil]); first | done | rfl | (simp only [List.length_drop, List.length_take]; rfl)) ?_; (with_reducible refine (laws_szGuest.calls k _ _ l0_0 _ _ l0_1 1048576 t1066 _ ?side1 ?side2 ?side3 ?side4 A2.out).mono ?_); (case side1 => repeat (first | exact (Kd.C_below HR0_0.out HB.out) | (with_reducible refine Kd.C_alloc ?_ _) | (with_reducible refine Kd.C_drewN ?_ _) | (with_reducible refine Kd.C_drew ?_))); (case side2 => exact HC0_0.out); (case side3 => repeat (first | exact (Kd.C_below HR0_1.out HB.out) | (with_reducible refine Kd.C_alloc ?_ _) | (with_reducible refine Kd.C_drewN ?_ _) | (with_reducible refine Kd.C_drew ?_))); (case side4 => exact HC0_1.out); rintro e w14 ⟨rfl, hb⟩; refine ⟨_, rfl, ?_⟩; have n0_ := Aside0.mk (blk_below (g := gb1065) (o := .cells #[.slice A0_0 l0_0.length c0_0, .slice A0_1 l0_1.length c0_1] 64 (0, 0)) (by (with_reducible repeat (first | refine blk_drewN ?_ _ | refine blk_drew ?_ | refine blk_alloc ?_ _)); exact BK1065.out) hb); have n1_ := Aside0.mk (below_step (by repeat (first | (with_reducible first | exact HB.out | apply below_alloc | apply pw_below_drewN | apply below_drew1 | refine below_set ?_ GE1065.out) | exact HB.out)) hb); clear BK1065; clear HB; have BK1065 := n0_; have HB := n1_; clear n0_ n1_; (try clear hb); (try clear hb2); (try clear hk); (try clear hi); have hcz15_0 : w14.cell? ⟨gb1065, 0, none⟩ = some (.slice A0_0 l0_0.length c0_0) := (blk_cell BK1065.out 0).trans rfl; have hcz15_1 : w14.cell? ⟨gb1065, 1, none⟩ = some (.slice A0_1 l0_1.length c0_1) := (blk_cell BK1065.out 1).trans rfl; have hfz15_0 := blk_frozen BK1065.out 0; have hfz15_1 := blk_frozen BK1065.out 1) | ((with_reducible refine gate_callee (f := 38) rfl ?_); refine goesL_ (some 13) rfl rfl Try.func38 (by kernel_rfl) rfl #[.agg #[.slice A0_0 l0_0.length c0_0, .slice A0_1 l0_1.length c0_1]] rfl (by (try simp only [List.map_toArray, List.map_cons, List.map_nil]); first | done | rfl | (simp only [List.length_drop, List.length_take]; rfl)) ?_; (with_reducible refine (laws_toGuest.calls k _ _ l0_0 _ _ l0_1 t1067 t1070 _ ?side1 ?side2 ?side3 ?side4 A7.out).mono ?_); (case side1 => repeat (first | exact (Kd.C_below HR0_0.out HB.out) | (with_reducible refine Kd.C_alloc ?_ _) | (with_reducible refine Kd.C_drewN ?_ _) | (with_reducible refine Kd.C_drew ?_))); (case side2 => exact HC0_0.out); (case side3 => repeat (first | exact (Kd.C_below HR0_1.out HB.out) | (with_reducible refine Kd.C_alloc ?_ _) | (with_reducible refine Kd.C_drewN ?_ _) | (with_reducible refine Kd.C_drew ?_))); (case side4 => exact HC0_1.out); rintro e w16 ⟨v1068, v1071, rfl, ho0, ho1, hb⟩; refine ⟨_, rfl, ?_⟩; have n0_ := Aside0.mk (Kd.R_lower ho0 (below_size (by repeat (first | (with_reducible first | exact HB.out | apply below_alloc | apply pw_below_drewN | apply below_drew1 | refine below_set ?_ GE1065.out) | exact HB.out)))); have n1_ := Aside0.mk (Kd.S_lower ho1 (below_size (by repeat (first | (with_reducible first | exact HB.out | apply below_alloc | apply pw_below_drewN | apply below_drew1 | refine below_set ?_ GE1065.out) | exact HB.out)))); have n2_ := Aside0.mk (blk_below (g := gb1065) (o := .cells #[.slice A0_0 l0_0.length c0_0, .slice A0_1 l0_1.length c0_1] 64 (0, 0)) (by (with_reducible repeat (first | refine blk_drewN ?_ _ | refine blk_drew ?_ | refine blk_alloc ?_ _)); exact BK1065.out) hb); have n3_ := Aside0.mk (below_step (by repeat (first | (with_reducible first | exact HB.out | apply below_alloc | apply pw_below_drewN | apply below_drew1 | refine below_set ?_ GE1065.out) | exact HB.out)) hb); clear BK1065; clear HB; have HO1069 := n0_; have HO1072 := n1_; have BK1065 := n2_; have HB := n3_; clear n0_ n1_ n2_ n3_; (try clear hb); (try clear hb2); (try clear hk); (try clear hi); (try clear ho0); (try clear ho1); obtain ⟨Ao17, co17, eo17⟩ := Kd.R_slice HO1069.out; subst eo17; obtain ⟨Ao18, co18, eo18⟩ := Kd.S_slice HO1072.out; subst eo18) | ((with_reducible refine gate_callee (f := 37) rfl ?_); refine goesL_ (some 14) rfl rfl Try.func37 (by kernel_rfl) rfl #[.agg #[.slice Ao17 t1067.length co17, .slice Ao18 t1070.length co18]] rfl (by (try simp only [List.map_toArray, List.map_cons, List.map_nil]); first | done | rfl | (simp only [List.length_drop, List.length_take]; rfl)) ?_; (with_reducible refine (spec_GuestOK.calls k _ _ t1067 _ _ t1070 t1073 _ ?side1 ?side2 ?side3 ?side4 A8.out).mono ?_); (case side1 => repeat (first | exact (Kd.R_reads' HO1069.out).2.2 | (with_reducible refine Kd.C_alloc ?_ _) | (with_reducible refine Kd.C_drewN ?_ _) | (with_reducible refine Kd.C_drew ?_))); (case side2 => exact (Kd.R_reads' HO1069.out).2.1); (case side3 => repeat (first | exact (Kd.S_reads' HO1072.out).2.2 | (with_reducible refine Kd.C_alloc ?_ _) | (with_reducible refine Kd.C_drewN ?_ _) | (with_reducible refine Kd.C_drew ?_))); (case side4 => exact (Kd.S_reads' HO1072.out).2.1); rintro e w19 ⟨rfl, hb⟩; refine ⟨_, rfl, ?_⟩; have n0_ := Aside0.mk (Kd.R_below (by (with_reducible repeat (first | apply Kd.R_alloc | apply Kd.R_drewN | apply Kd.R_drew)); exact HO1069.out) hb); have n1_ := Aside0.mk (Kd.S_below (by (with_reducible repeat (first | apply Kd.S_alloc | apply Kd.S_drewN | apply Kd.S_drew)); exact HO1072.out) hb); have n2_ := Aside0.mk (blk_below (g := gb1065) (o := .cells #[.slice A0_0 l0_0.length c0_0, .slice A0_1 l0_1.length c0_1] 64 (0, 0)) (by (with_reducible repeat (first | refine blk_drewN ?_ _ | refine blk_drew ?_ | refine blk_alloc ?_ _)); exact BK1065.out) hb); have n3_ := Aside0.mk (below_step (by repeat (first | (with_reducible first | exact HB.out | apply below_alloc | apply pw_below_drewN | apply below_drew1 | refine below_set ?_ GE1065.out) | exact HB.out)) hb); clear HO1069; clear HO1072; clear BK1065; clear HB; have HO1069 := n0_; have HO1072 := n1_; have BK1065 := n2_; have HB := n3_; clear n0_ n1_ n2_ n3_; (try clear hb); (try clear hb2); (try clear hk); (try clear hi); have hcz20_0 : w19.cell? ⟨gb1065, 0, none⟩ = some (.slice A0_0 l0_0.length c0_0) := (blk_cell BK1065.out 0).trans rfl; have hcz20_1 : w19.cell? ⟨gb1065, 1, none⟩ = some (.slice A0_1 l0_1.length c0_1) := (blk_cell BK1065.out 1).trans rfl; have hfz20_0 := blk_frozen BK1065.out 0; have hfz20_1 := blk_frozen BK1065.out 1) | ((with_reducible refine gate_callee (f := 38) rfl ?_); refine goesL_ (some 16) rfl rfl Try.func38 (by kernel_rfl) rfl #[.agg #[.slice A0_0 l0_0.length c0_0, .slice A0_1 l0_1.length c0_1]] rfl (by (try simp only [List.map_toArray, List.map_cons, List.map_nil]); first | done | rfl | (simp only [List.length_drop, List.length_take]; rfl)) ?_; (with_reducible refine (laws_toGuest.calls k _ _ l0_0 _ _ l0_1 t1074 t1077 _ ?side1 ?side2 ?side3 ?side4 A9.out).mono ?_); (case side1 => repeat (first | exact (Kd.C_below HR0_0.out HB.out) | (with_reducible refine Kd.C_alloc ?_ _) | (with_reducible refine Kd.C_drewN ?_ _) | (with_reducible refine Kd.C_drew ?_))); (case side2 => exact HC0_0.out); (case side3 => repeat (first | exact (Kd.C_below HR0_1.out HB.out) | (with_reducible refine Kd.C_alloc ?_ _) | (with_reducible refine Kd.C_drewN ?_ _) | (with_reducible refine Kd.C_drew ?_))); (case side4 => exact HC0_1.out); rintro e w21 ⟨v1075, v1078, rfl, ho0, ho1, hb⟩; refine ⟨_, rfl, ?_⟩; have n0_ := Aside0.mk (Kd.R_elder' (by (with_reducible repeat (first | apply Kd.R_alloc | apply Kd.R_drewN | apply Kd.R_drew)); exact HO1069.out) (Kd.R_base ho0) hb); have n1_ := Aside0.mk (Kd.S_mono (Kd.S_told (Kd.S_told (Kd.S_old (by (with_reducible repeat (first | apply Kd.S_alloc | apply Kd.S_drewN | apply Kd.S_drew)); exact HO1072.out) hb) (Kd.R_base ho0)) (Kd.S_base ho1)) (fun _ h_ => h_.1)); have n2_ := Aside0.mk (Kd.R_lower (Kd.R_new' ho0 (Kd.R_lt (by (with_reducible repeat (first | apply Kd.R_alloc | apply Kd.R_drewN | apply Kd.R_drew)); exact HO1069.out))) (below_size (by repeat (first | (with_reducible first | exact HB.out | apply below_alloc | apply pw_below_drewN | apply below_drew1 | refine below_set ?_ GE1065.out) | exact HB.out)))); have n3_ := Aside0.mk (Kd.S_lower (Kd.S_new' (Kd.S_new' ho1 (Kd.R_lt (by (with_reducible repeat (first | apply Kd.R_alloc | apply Kd.R_drewN | apply Kd.R_drew)); exact HO1069.out))) (Kd.S_lt (by (with_reducible repeat (first | apply Kd.S_alloc | apply Kd.S_drewN | apply Kd.S_drew)); exact HO1072.out))) (below_size (by repeat (first | (with_reducible first | exact HB.out | apply below_alloc | apply pw_below_drewN | apply below_drew1 | refine below_set ?_ GE1065.out) | exact HB.out)))); have n4_ := Aside0.mk (blk_below (g := gb1065) (o := .cells #[.slice A0_0 l0_0.length c0_0, .slice A0_1 l0_1.length c0_1] 64 (0, 0)) (by (with_reducible repeat (first | refine blk_drewN ?_ _ | refine blk_drew ?_ | refine blk_alloc ?_ _)); exact BK1065.out) hb); have n5_ := Aside0.mk (below_step (by repeat (first | (with_reducible first | exact HB.out | apply below_alloc | apply pw_below_drewN | apply below_drew1 | refine below_set ?_ GE1065.out) | exact HB.out)) hb); clear HO1069; clear HO1072; clear BK1065; clear HB; have HO1069 := n0_; have HO1072 := n1_; have HO1076 := n2_; have HO1079 := n3_; have BK1065 := n4_; have HB := n5_; clear n0_ n1_ n2_ n3_ n4_ n5_; (try clear hb); (try clear hb2); (try clear hk); (try clear hi); (try clear ho0); (try clear ho1)) | ((with_reducible refine gate_dst (N := 5) rfl ?_); refine box_event ?hg (N := 5) ?hd (cs := #[.slice none 0 0, .slice none 0 0]) (t := 69) ?hr ?_; (case hd => rfl); (case hg => rfl); (case hr => first | (go_simp; done) | (go_simp; rfl)); intro gb1080 hg w22 hbox hb; have n0_ := Aside0.mk (Kd.R_below (by (with_reducible repeat (first | apply Kd.R_alloc | apply Kd.R_drewN | apply Kd.R_drew)); exact HO1069.out) hb); have n1_ := Aside0.mk (Kd.S_below (by (with_reducible repeat (first | apply Kd.S_alloc | apply Kd.S_drewN | apply Kd.S_drew)); exact HO1072.out) hb); have n2_ := Aside0.mk (Kd.R_below (by (with_reducible repeat (first | apply Kd.R_alloc | apply Kd.R_drewN | apply Kd.R_drew)); exact HO1076.out) hb); have n3_ := Aside0.mk (Kd.S_below (by (with_reducible repeat (first | apply Kd.S_alloc | apply Kd.S_drewN | apply Kd.S_drew)); exact HO1079.out) hb); have n4_ := Aside0.mk (blk_below (g := gb1065) (o := .cells #[.slice A0_0 l0_0.length c0_0, .slice A0_1 l0_1.length c0_1] 64 (0, 0)) (by (with_reducible repeat (first | refine blk_drewN ?_ _ | refine blk_drew ?_ | refine blk_alloc ?_ _)); exact BK1065.out) hb); have n5_ := Aside0.mk (below_step (by repeat (first | (with_reducible first | exact HB.out | apply below_alloc | apply pw_below_drewN | apply below_drew1 | refine below_set ?_ GE1065.out) | exact HB.out)) hb); have n6_ := Aside0.mk (hbox); have n7_ := Aside0.mk ((by rw [hg]; exact (below_size (by repeat (first | (with_reducible first | exact HB.out | apply below_alloc | apply pw_below_drewN | apply below_drew1 | refine below_set ?_ GE1065.out) | exact HB.out))) : w.heap.size ≤ gb1080)); have n8_ := Aside0.mk ((by rw [hg]; exact (below_size (by repeat (first | (with_reducible first | exact HB.out | apply below_alloc | apply pw_below_drewN | apply below_drew1 | refine below_set ?_ GE1065.out) | exact HB.out))) : w.heap.size ≤ gb1080)); have n9_ := Aside0.mk ((by rw [hg]; exact Nat.ne_of_lt (blk_lt (g := gb1065) (o := .cells #[.slice A0_0 l0_0.length c0_0, .slice A0_1 l0_1.length c0_1] 64 (0, 0)) (by (with_reducible repeat (first | refine blk_drewN ?_ _ | refine blk_drew ?_ | refine blk_alloc ?_ _)); exact BK1065.out)) : gb1065 ≠ gb1080)); have n10_ := Aside0.mk ((by rw [hg]; exact Nat.ne_of_gt (blk_lt (g := gb1065) (o := .cells #[.slice A0_0 l0_0.length c0_0, .slice A0_1 l0_1.length c0_1] 64 (0, 0)) (by (with_reducible repeat (first | refine blk_drewN ?_ _ | refine blk_drew ?_ | refine blk_alloc ?_ _)); exact BK1065.out)) : gb1080 ≠ gb1065)); clear HO1069; clear HO1072; clear HO1076; clear HO1079; clear BK1065; clear HB; have HO1069 := n0_; have HO1072 := n1_; have HO1076 := n2_; have HO1079 := n3_; have BK1065 := n4_; have HB := n5_; have BK1080 := n6_; have GW1080 := n7_; have GE1080 := n8_; have NB1065_1080 := n9_; have NB1080_1065 := n10_; clear n0_ n1_ n2_ n3_ n4_ n5_ n6_ n7_ n8_ n9_ n10_; clear hb hbox hg; obtain ⟨Ao23, co23, eo23⟩ := Kd.R_slice HO1076.out; subst eo23; have hnb24 := NB1080_1065.out; have hnc24 := NB1065_1080.out; have hcz25_0 : w22.cell? ⟨gb1080, 0, none⟩ = some (.slice none 0 0) := (blk_cell BK1080.out 0).trans rfl; have hcz25_1 : w22.cell? ⟨gb1080, 1, none⟩ = some (.slice none 0 0) := (blk_cell BK1080.out 1).trans rfl; have hfz25_0 := blk_frozen BK1080.out 0; have hfz25_1 := blk_frozen BK1080.out 1; obtain ⟨Ao26, co26, eo26⟩ := Kd.S_slice HO1079.out; subst eo26) | ((with_reducible refine gate_callee (f := 39) rfl ?_); refine goesL_ (some 18) rfl rfl Try.func39 (by kernel_rfl) rfl #[.agg #[.slice Ao23 t1074.length co23, .slice Ao26 t1077.length co26]] rfl (by (try simp only [List.map_toArray, List.map_cons, List.map_nil]); first | done | rfl | (simp only [List.length_drop, List.length_take]; rfl)) ?_; (with_reducible refine (impl_GuestOK.calls k _ _ t1074 _ _ t1077 t1081 _ ?side1 ?side2 ?side3 ?side4 A10.out).mono ?_); (case side1 => refine (Kd.R_reads' (e := 3) (base := w.heap.size) (ok := fun k_ => (True ∧ some k_ ≠ (.slice Ao17 t1067.length co17 : Value).ownBlock)) (n := t1074.length) (c := co23) ?_).2.2; exact (by (with_reducible repeat (first | apply Kd.R_alloc | apply Kd.R_drewN | apply Kd.R_drew)); exact (Kd.R_mono (Kd.R_far (p := ⟨gb1080, 1, none⟩) (Kd.R_far (p := ⟨gb1080, 0, none⟩) (Kd.R_types HO1076.out BK1080.out (by decide)) (fun _ hk => hk.2) (.slice Ao23 t1074.length co23)) (fun _ hk => hk.2) (.slice Ao26 t1077.length co26)) (fun _ h_ => h_.1)))); (case side2 => exact (Kd.R_reads' HO1076.out).2.1); (case side3 => refine (Kd.S_reads' (e := 117) (base := w.heap.size) (ok := fun k_ => ((some k_ ≠ (.slice Ao23 t1074.length co23 : Value).ownBlock ∧ some k_ ≠ (.slice Ao17 t1067.length co17 : Value).ownBlock) ∧ some k_ ≠ (.slice Ao18 t1070.length co18 : Value).ownBlock)) (n := t1077.length) (c := co26) ?_).2.2; exact (by (with_reducible repeat (first | apply Kd.S_alloc | apply Kd.S_drewN | apply Kd.S_drew)); exact (Kd.S_mono (Kd.S_far (p := ⟨gb1080, 1, none⟩) (Kd.S_far (p := ⟨gb1080, 0, none⟩) (Kd.S_types HO1079.out BK1080.out (by decide)) (fun _ hk => hk.2) (.slice Ao23 t1074.length co23)) (fun _ hk => hk.2) (.slice Ao26 t1077.length co26)) (fun _ h_ => h_.1)))); (case side4 => exact (Kd.S_reads' HO1079.out).2.1); rintro e w27 ⟨rfl, hb⟩; refine ⟨_, rfl, ?_⟩; have n0_ := Aside0.mk (Kd.R_below (by (with_reducible repeat (first | apply Kd.R_alloc | apply Kd.R_drewN | apply Kd.R_drew)); exact (Kd.R_mono (Kd.R_far (p := ⟨gb1080, 1, none⟩) (Kd.R_far (p := ⟨gb1080, 0, none⟩) (Kd.R_types HO1069.out BK1080.out (by decide)) (fun _ hk => hk.2) (.slice Ao23 t1074.length co23)) (fun _ hk => hk.2) (.slice Ao26 t1077.length co26)) (fun _ h_ => h_.1))) hb); have n1_ := Aside0.mk (Kd.S_below (by (with_reducible repeat (first | apply Kd.S_alloc | apply Kd.S_drewN | apply Kd.S_drew)); exact (Kd.S_mono (Kd.S_far (p := ⟨gb1080, 1, none⟩) (Kd.S_far (p := ⟨gb1080, 0, none⟩) (Kd.S_types HO1072.out BK1080.out (by decide)) (fun _ hk => hk.2) (.slice Ao23 t1074.length co23)) (fun _ hk => hk.2) (.slice Ao26 t1077.length co26)) (fun _ h_ => h_.1))) hb); have n2_ := Aside0.mk (Kd.R_below (by (with_reducible repeat (first | apply Kd.R_alloc | apply Kd.R_drewN | apply Kd.R_drew)); exact (Kd.R_mono (Kd.R_far (p := ⟨gb1080, 1, none⟩) (Kd.R_far (p := ⟨gb1080, 0, none⟩) (Kd.R_types HO1076.out BK1080.out (by decide)) (fun _ hk => hk.2) (.slice Ao23 t1074.length co23)) (fun _ hk => hk.2) (.slice Ao26 t1077.length co26)) (fun _ h_ => h_.1))) hb); have n3_ := Aside0.mk (Kd.S_below (by (with_reducible repeat (first | apply Kd.S_alloc | apply Kd.S_drewN | apply Kd.S_drew)); exact (Kd.S_mono (Kd.S_far (p := ⟨gb1080, 1, none⟩) (Kd.S_far (p := ⟨gb1080, 0, none⟩) (Kd.S_types HO1079.out BK1080.out (by decide)) (fun _ hk => hk.2) (.slice Ao23 t1074.length co23)) (fun _ hk => hk.2) (.slice Ao26 t1077.length co26)) (fun _ h_ => h_.1))) hb); have n4_ := Aside0.mk (blk_below (g := gb1065) (o := .cells #[.slice A0_0 l0_0.length c0_0, .slice A0_1 l0_1.length c0_1] 64 (0, 0)) (by (with_reducible repeat (first | refine blk_drewN ?_ _ | refine blk_drew ?_ | refine blk_alloc ?_ _)); refine blk_far ?_ NB1065_1080.out _; (with_reducible repeat (first | refine blk_drewN ?_ _ | refine blk_drew ?_ | refine blk_alloc ?_ _)); refine blk_far ?_ NB1065_1080.out _; (with_reducible repeat (first | refine blk_drewN ?_ _ | refine blk_drew ?_ | refine blk_alloc ?_ _)); exact BK1065.out) hb); have n5_ := Aside0.mk (blk_below (g := gb1080) (o := .cells #[.slice Ao23 t1074.length co23, .slice Ao26 t1077.length co26] 69 (0, 0)) (by (with_reducible repeat (first | refine blk_drewN ?_ _ | refine blk_drew ?_ | refine blk_alloc ?_ _)); refine blk_put (cs := #[.slice Ao23 t1074.length co23, .slice none 0 0]) ?_ 1 _ rfl; (with_reducible repeat (first | refine blk_drewN ?_ _ | refine blk_drew ?_ | refine blk_alloc ?_ _)); refine blk_put (cs := #[.slice none 0 0, .slice none 0 0]) ?_ 0 _ rfl; (with_reducible repeat (first | refine blk_drewN ?_ _ | refine blk_drew ?_ | refine blk_alloc ?_ _)); exact BK1080.out) hb); have n6_ := Aside0.mk (below_step (by repeat (first | (with_reducible first | exact HB.out | apply below_alloc | apply pw_below_drewN | apply below_drew1 | refine below_set ?_ GE1065.out | refine below_set ?_ GE1080.out) | exact HB.out)) hb); clear HO1069; clear HO1072; clear HO1076; clear HO1079; clear BK1065; clear BK1080; clear HB; have HO1069 := n0_; have HO1072 := n1_; have HO1076 := n2_; have HO1079 := n3_; have BK1065 := n4_; have BK1080 := n5_; have HB := n6_; clear n0_ n1_ n2_ n3_ n4_ n5_ n6_; (try clear hb); (try clear hb2); (try clear hk); (try clear hi)))
   go_ret
   exact ⟨by first | rfl | (simp [errW_none, errW_some] <;> rfl) | (simp [*, errW_none, errW_some] <;> rfl), by repeat (first | (with_reducible first | exact HB.out | apply below_alloc | apply pw_below_drewN | apply below_drew1 | refine below_set ?_ GE1065.out | refine below_set ?_ GE1080.out) | exact HB.out)⟩
  ·rw [if_neg c11] at H
   have c11b0 : (t1081 != t1073) = false := by simpa using c11
   (try (have c11b1 : decide (t1081 = t1073) = true := by simpa using c11))
   (try (have c11b2 : (t1081 == t1073) = true := by simpa using c11))
   clear c11
   replace H := Option.bind_eq_some_iff.mp H
   obtain ⟨⟨t1082, t1085⟩, A280, H⟩ := H
   replace H : ((laws_eqGuest.f k t1074 t1077 t1082 t1085).bind fun t1088 => (if t1088 = true then (some true) else (some false))) = some r := H
   have A28 := Aside0.mk A280
   clear A280
   replace H := Option.bind_eq_some_iff.mp H
   obtain ⟨t1088, A290, H⟩ := H
   replace H : (if t1088 = true then (some true) else (some false)) = some r := H
   have A29 := Aside0.mk A290
   clear A290
   by_cases c30 : t1088 = true
   ·subst c30
    have H1 : (some true) = some r := by rw [if_pos rfl] at H; exact H
    clear H
    have H := H1
    clear H1
    obtain rfl := Option.some.inj H
    go_enter Try.func10, Try.ntmps10
    try go_wp2_with (first | ((with_reducible refine gate_dst (N := 1) rfl ?_); refine box_event ?hg (N := 1) ?hd (cs := #[.slice A0_0 l0_0.length c0_0, .slice A0_1 l0_1.length c0_1]) (t := 64) ?hr ?_; (case hd => rfl); (case hg => rfl); (case hr => first | (go_simp; done) | (go_simp; rfl)); intro gb1065 hg w31 hbox hb; have n0_ := Aside0.mk (below_step (by repeat (first | (with_reducible first | exact HB.out | apply below_alloc | apply pw_below_drewN | apply below_drew1) | exact HB.out)) hb); have n1_ := Aside0.mk (hbox); have n2_ := Aside0.mk ((by rw [hg]; exact (below_size (by repeat (first | (with_reducible first | exact HB.out | apply below_alloc | apply pw_below_drewN | apply below_drew1) | exact HB.out))) : w.heap.size ≤ gb1065)); have n3_ := Aside0.mk ((by rw [hg]; exact (below_size (by repeat (first | (with_reducible first | exact HB.out | apply below_alloc | apply pw_below_drewN | apply below_drew1) | exact HB.out))) : w.heap.size ≤ gb1065)); clear HB; have HB := n0_; have BK1065 := n1_; have GW1065 := n2_; have GE1065 := n3_; clear n0_ n1_ n2_ n3_; clear hb hbox hg; have hcz32_0 : w31.cell? ⟨gb1065, 0, none⟩ = some (.slice A0_0 l0_0.length c0_0) := (blk_cell BK1065.out 0).trans rfl; have hcz32_1 : w31.cell? ⟨gb1065, 1, none⟩ = some (.slice A0_1 l0_1.length c0_1) := (blk_cell BK1065.out 1).trans rfl; have hfz32_0 := blk_frozen BK1065.out 0; have hfz32_1 := blk_frozen BK1065.out 1) | ((with_reducible refine gate_callee (f := 36) rfl ?_); refine goesL_ (some 9) rfl rfl Try.func36 (by kernel_rfl) rfl #[.agg #[.slice A0_0 l0_0.length c0_0, .slice A0_1 l0_1.length c0_1], .int .i64 1048576] rfl (by (try simp only [List.map_toArray, List.map_cons, List.map_nil]); first | done | rfl | (simp only [List.length_drop, List.length_take]; rfl)) ?_; (with_reducible refine (laws_szGuest.calls k _ _ l0_0 _ _ l0_1 1048576 t1066 _ ?side1 ?side2 ?side3 ?side4 A2.out).mono ?_); (case side1 => repeat (first | exact (Kd.C_below HR0_0.out HB.out) | (with_reducible refine Kd.C_alloc ?_ _) | (with_reducible refine Kd.C_drewN ?_ _) | (with_reducible refine Kd.C_drew ?_))); (case side2 => exact HC0_0.out); (case side3 => repeat (first | exact (Kd.C_below HR0_1.out HB.out) | (with_reducible refine Kd.C_alloc ?_ _) | (with_reducible refine Kd.C_drewN ?_ _) | (with_reducible refine Kd.C_drew ?_))); (case side4 => exact HC0_1.out); rintro e w33 ⟨rfl, hb⟩; refine ⟨_, rfl, ?_⟩; have n0_ := Aside0.mk (blk_below (g := gb1065) (o := .cells #[.slice A0_0 l0_0.length c0_0, .slice A0_1 l0_1.length c0_1] 64 (0, 0)) (by (with_reducible repeat (first | refine blk_drewN ?_ _ | refine blk_drew ?_ | refine blk_alloc ?_ _)); exact BK1065.out) hb); have n1_ := Aside0.mk (below_step (by repeat (first | (with_reducible first | exact HB.out | apply below_alloc | apply pw_below_drewN | apply below_drew1 | refine below_set ?_ GE1065.out) | exact HB.out)) hb); clear BK1065; clear HB; have BK1065 := n0_; have HB := n1_; clear n0_ n1_; (try clear hb); (try clear hb2); (try clear hk); (try clear hi); have hcz34_0 : w33.cell? ⟨gb1065, 0, none⟩ = some (.slice A0_0 l0_0.length c0_0) := (blk_cell BK1065.out 0).trans rfl; have hcz34_1 : w33.cell? ⟨gb1065, 1, none⟩ = some (.slice A0_1 l0_1.length c0_1) := (blk_cell BK1065.out 1).trans rfl; have hfz34_0 := blk_frozen BK1065.out 0; have hfz34_1 := blk_frozen BK1065.out 1) | ((with_reducible refine gate_callee (f := 38) rfl ?_); refine goesL_ (some 13) rfl rfl Try.func38 (by kernel_rfl) rfl #[.agg #[.slice A0_0 l0_0.length c0_0, .slice A0_1 l0_1.length c0_1]] rfl (by (try simp only [List.map_toArray, List.map_cons, List.map_nil]); first | done | rfl | (simp only [List.length_drop, List.length_take]; rfl)) ?_; (with_reducible refine (laws_toGuest.calls k _ _ l0_0 _ _ l0_1 t1067 t1070 _ ?side1 ?side2 ?side3 ?side4 A7.out).mono ?_); (case side1 => repeat (first | exact (Kd.C_below HR0_0.out HB.out) | (with_reducible refine Kd.C_alloc ?_ _) | (with_reducible refine Kd.C_drewN ?_ _) | (with_reducible refine Kd.C_drew ?_))); (case side2 => exact HC0_0.out); (case side3 => repeat (first | exact (Kd.C_below HR0_1.out HB.out) | (with_reducible refine Kd.C_alloc ?_ _) | (with_reducible refine Kd.C_drewN ?_ _) | (with_reducible refine Kd.C_drew ?_))); (case side4 => exact HC0_1.out); rintro e w35 ⟨v1068, v1071, rfl, ho0, ho1, hb⟩; refine ⟨_, rfl, ?_⟩; have n0_ := Aside0.mk (Kd.R_lower ho0 (below_size (by repeat (first | (with_reducible first | exact HB.out | apply below_alloc | apply pw_below_drewN | apply below_drew1 | refine below_set ?_ GE1065.out) | exact HB.out)))); have n1_ := Aside0.mk (Kd.S_lower ho1 (below_size (by repeat (first | (with_reducible first | exact HB.out | apply below_alloc | apply pw_below_drewN | apply below_drew1 | refine below_set ?_ GE1065.out) | exact HB.out)))); have n2_ := Aside0.mk (blk_below (g := gb1065) (o := .cells #[.slice A0_0 l0_0.length c0_0, .slice A0_1 l0_1.length c0_1] 64 (0, 0)) (by (with_reducible repeat (first | refine blk_drewN ?_ _ | refine blk_drew ?_ | refine blk_alloc ?_ _)); exact BK1065.out) hb); have n3_ := Aside0.mk (below_step (by repeat (first | (with_reducible first | exact HB.out | apply below_alloc | apply pw_below_drewN | apply below_drew1 | refine below_set ?_ GE1065.out) | exact HB.out)) hb); clear BK1065; clear HB; have HO1069 := n0_; have HO1072 := n1_; have BK1065 := n2_; have HB := n3_; clear n0_ n1_ n2_ n3_; (try clear hb); (try clear hb2); (try clear hk); (try clear hi); (try clear ho0); (try clear ho1); obtain ⟨Ao36, co36, eo36⟩ := Kd.R_slice HO1069.out; subst eo36; obtain ⟨Ao37, co37, eo37⟩ := Kd.S_slice HO1072.out; subst eo37) | ((with_reducible refine gate_callee (f := 37) rfl ?_); refine goesL_ (some 14) rfl rfl Try.func37 (by kernel_rfl) rfl #[.agg #[.slice Ao36 t1067.length co36, .slice Ao37 t1070.length co37]] rfl (by (try simp only [List.map_toArray, List.map_cons, List.map_nil]); first | done | rfl | (simp only [List.length_drop, List.length_take]; rfl)) ?_; (with_reducible refine (spec_GuestOK.calls k _ _ t1067 _ _ t1070 t1073 _ ?side1 ?side2 ?side3 ?side4 A8.out).mono ?_); (case side1 => repeat (first | exact (Kd.R_reads' HO1069.out).2.2 | (with_reducible refine Kd.C_alloc ?_ _) | (with_reducible refine Kd.C_drewN ?_ _) | (with_reducible refine Kd.C_drew ?_))); (case side2 => exact (Kd.R_reads' HO1069.out).2.1); (case side3 => repeat (first | exact (Kd.S_reads' HO1072.out).2.2 | (with_reducible refine Kd.C_alloc ?_ _) | (with_reducible refine Kd.C_drewN ?_ _) | (with_reducible refine Kd.C_drew ?_))); (case side4 => exact (Kd.S_reads' HO1072.out).2.1); rintro e w38 ⟨rfl, hb⟩; refine ⟨_, rfl, ?_⟩; have n0_ := Aside0.mk (Kd.R_below (by (with_reducible repeat (first | apply Kd.R_alloc | apply Kd.R_drewN | apply Kd.R_drew)); exact HO1069.out) hb); have n1_ := Aside0.mk (Kd.S_below (by (with_reducible repeat (first | apply Kd.S_alloc | apply Kd.S_drewN | apply Kd.S_drew)); exact HO1072.out) hb); have n2_ := Aside0.mk (blk_below (g := gb1065) (o := .cells #[.slice A0_0 l0_0.length c0_0, .slice A0_1 l0_1.length c0_1] 64 (0, 0)) (by (with_reducible repeat (first | refine blk_drewN ?_ _ | refine blk_drew ?_ | refine blk_alloc ?_ _)); exact BK1065.out) hb); have n3_ := Aside0.mk (below_step (by repeat (first | (with_reducible first | exact HB.out | apply below_alloc | apply pw_below_drewN | apply below_drew1 | refine below_set ?_ GE1065.out) | exact HB.out)) hb); clear HO1069; clear HO1072; clear BK1065; clear HB; have HO1069 := n0_; have HO1072 := n1_; have BK1065 := n2_; have HB := n3_; clear n0_ n1_ n2_ n3_; (try clear hb); (try clear hb2); (try clear hk); (try clear hi); have hcz39_0 : w38.cell? ⟨gb1065, 0, none⟩ = some (.slice A0_0 l0_0.length c0_0) := (blk_cell BK1065.out 0).trans rfl; have hcz39_1 : w38.cell? ⟨gb1065, 1, none⟩ = some (.slice A0_1 l0_1.length c0_1) := (blk_cell BK1065.out 1).trans rfl; have hfz39_0 := blk_frozen BK1065.out 0; have hfz39_1 := blk_frozen BK1065.out 1) | ((with_reducible refine gate_callee (f := 38) rfl ?_); refine goesL_ (some 16) rfl rfl Try.func38 (by kernel_rfl) rfl #[.agg #[.slice A0_0 l0_0.length c0_0, .slice A0_1 l0_1.length c0_1]] rfl (by (try simp only [List.map_toArray, List.map_cons, List.map_nil]); first | done | rfl | (simp only [List.length_drop, List.length_take]; rfl)) ?_; (with_reducible refine (laws_toGuest.calls k _ _ l0_0 _ _ l0_1 t1074 t1077 _ ?side1 ?side2 ?side3 ?side4 A9.out).mono ?_); (case side1 => repeat (first | exact (Kd.C_below HR0_0.out HB.out) | (with_reducible refine Kd.C_alloc ?_ _) | (with_reducible refine Kd.C_drewN ?_ _) | (with_reducible refine Kd.C_drew ?_))); (case side2 => exact HC0_0.out); (case side3 => repeat (first | exact (Kd.C_below HR0_1.out HB.out) | (with_reducible refine Kd.C_alloc ?_ _) | (with_reducible refine Kd.C_drewN ?_ _) | (with_reducible refine Kd.C_drew ?_))); (case side4 => exact HC0_1.out); rintro e w40 ⟨v1075, v1078, rfl, ho0, ho1, hb⟩; refine ⟨_, rfl, ?_⟩; have n0_ := Aside0.mk (Kd.R_elder' (by (with_reducible repeat (first | apply Kd.R_alloc | apply Kd.R_drewN | apply Kd.R_drew)); exact HO1069.out) (Kd.R_base ho0) hb); have n1_ := Aside0.mk (Kd.S_mono (Kd.S_told (Kd.S_told (Kd.S_old (by (with_reducible repeat (first | apply Kd.S_alloc | apply Kd.S_drewN | apply Kd.S_drew)); exact HO1072.out) hb) (Kd.R_base ho0)) (Kd.S_base ho1)) (fun _ h_ => h_.1)); have n2_ := Aside0.mk (Kd.R_lower (Kd.R_new' ho0 (Kd.R_lt (by (with_reducible repeat (first | apply Kd.R_alloc | apply Kd.R_drewN | apply Kd.R_drew)); exact HO1069.out))) (below_size (by repeat (first | (with_reducible first | exact HB.out | apply below_alloc | apply pw_below_drewN | apply below_drew1 | refine below_set ?_ GE1065.out) | exact HB.out)))); have n3_ := Aside0.mk (Kd.S_lower (Kd.S_new' (Kd.S_new' ho1 (Kd.R_lt (by (with_reducible repeat (first | apply Kd.R_alloc | apply Kd.R_drewN | apply Kd.R_drew)); exact HO1069.out))) (Kd.S_lt (by (with_reducible repeat (first | apply Kd.S_alloc | apply Kd.S_drewN | apply Kd.S_drew)); exact HO1072.out))) (below_size (by repeat (first | (with_reducible first | exact HB.out | apply below_alloc | apply pw_below_drewN | apply below_drew1 | refine below_set ?_ GE1065.out) | exact HB.out)))); have n4_ := Aside0.mk (blk_below (g := gb1065) (o := .cells #[.slice A0_0 l0_0.length c0_0, .slice A0_1 l0_1.length c0_1] 64 (0, 0)) (by (with_reducible repeat (first | refine blk_drewN ?_ _ | refine blk_drew ?_ | refine blk_alloc ?_ _)); exact BK1065.out) hb); have n5_ := Aside0.mk (below_step (by repeat (first | (with_reducible first | exact HB.out | apply below_alloc | apply pw_below_drewN | apply below_drew1 | refine below_set ?_ GE1065.out) | exact HB.out)) hb); clear HO1069; clear HO1072; clear BK1065; clear HB; have HO1069 := n0_; have HO1072 := n1_; have HO1076 := n2_; have HO1079 := n3_; have BK1065 := n4_; have HB := n5_; clear n0_ n1_ n2_ n3_ n4_ n5_; (try clear hb); (try clear hb2); (try clear hk); (try clear hi); (try clear ho0); (try clear ho1)) | ((with_reducible refine gate_dst (N := 5) rfl ?_); refine box_event ?hg (N := 5) ?hd (cs := #[.slice none 0 0, .slice none 0 0]) (t := 69) ?hr ?_; (case hd => rfl); (case hg => rfl); (case hr => first | (go_simp; done) | (go_simp; rfl)); intro gb1080 hg w41 hbox hb; have n0_ := Aside0.mk (Kd.R_below (by (with_reducible repeat (first | apply Kd.R_alloc | apply Kd.R_drewN | apply Kd.R_drew)); exact HO1069.out) hb); have n1_ := Aside0.mk (Kd.S_below (by (with_reducible repeat (first | apply Kd.S_alloc | apply Kd.S_drewN | apply Kd.S_drew)); exact HO1072.out) hb); have n2_ := Aside0.mk (Kd.R_below (by (with_reducible repeat (first | apply Kd.R_alloc | apply Kd.R_drewN | apply Kd.R_drew)); exact HO1076.out) hb); have n3_ := Aside0.mk (Kd.S_below (by (with_reducible repeat (first | apply Kd.S_alloc | apply Kd.S_drewN | apply Kd.S_drew)); exact HO1079.out) hb); have n4_ := Aside0.mk (blk_below (g := gb1065) (o := .cells #[.slice A0_0 l0_0.length c0_0, .slice A0_1 l0_1.length c0_1] 64 (0, 0)) (by (with_reducible repeat (first | refine blk_drewN ?_ _ | refine blk_drew ?_ | refine blk_alloc ?_ _)); exact BK1065.out) hb); have n5_ := Aside0.mk (below_step (by repeat (first | (with_reducible first | exact HB.out | apply below_alloc | apply pw_below_drewN | apply below_drew1 | refine below_set ?_ GE1065.out) | exact HB.out)) hb); have n6_ := Aside0.mk (hbox); have n7_ := Aside0.mk ((by rw [hg]; exact (below_size (by repeat (first | (with_reducible first | exact HB.out | apply below_alloc | apply pw_below_drewN | apply below_drew1 | refine below_set ?_ GE1065.out) | exact HB.out))) : w.heap.size ≤ gb1080)); have n8_ := Aside0.mk ((by rw [hg]; exact (below_size (by repeat (first | (with_reducible first | exact HB.out | apply below_alloc | apply pw_below_drewN | apply below_drew1 | refine below_set ?_ GE1065.out) | exact HB.out))) : w.heap.size ≤ gb1080)); have n9_ := Aside0.mk ((by rw [hg]; exact Nat.ne_of_lt (blk_lt (g := gb1065) (o := .cells #[.slice A0_0 l0_0.length c0_0, .slice A0_1 l0_1.length c0_1] 64 (0, 0)) (by (with_reducible repeat (first | refine blk_drewN ?_ _ | refine blk_drew ?_ | refine blk_alloc ?_ _)); exact BK1065.out)) : gb1065 ≠ gb1080)); have n10_ := Aside0.mk ((by rw [hg]; exact Nat.ne_of_gt (blk_lt (g := gb1065) (o := .cells #[.slice A0_0 l0_0.length c0_0, .slice A0_1 l0_1.length c0_1] 64 (0, 0)) (by (with_reducible repeat (first | refine blk_drewN ?_ _ | refine blk_drew ?_ | refine blk_alloc ?_ _)); exact BK1065.out)) : gb1080 ≠ gb1065)); clear HO1069; clear HO1072; clear HO1076; clear HO1079; clear BK1065; clear HB; have HO1069 := n0_; have HO1072 := n1_; have HO1076 := n2_; have HO1079 := n3_; have BK1065 := n4_; have HB := n5_; have BK1080 := n6_; have GW1080 := n7_; have GE1080 := n8_; have NB1065_1080 := n9_; have NB1080_1065 := n10_; clear n0_ n1_ n2_ n3_ n4_ n5_ n6_ n7_ n8_ n9_ n10_; clear hb hbox hg; obtain ⟨Ao42, co42, eo42⟩ := Kd.R_slice HO1076.out; subst eo42; have hnb43 := NB1080_1065.out; have hnc43 := NB1065_1080.out; have hcz44_0 : w41.cell? ⟨gb1080, 0, none⟩ = some (.slice none 0 0) := (blk_cell BK1080.out 0).trans rfl; have hcz44_1 : w41.cell? ⟨gb1080, 1, none⟩ = some (.slice none 0 0) := (blk_cell BK1080.out 1).trans rfl; have hfz44_0 := blk_frozen BK1080.out 0; have hfz44_1 := blk_frozen BK1080.out 1; obtain ⟨Ao45, co45, eo45⟩ := Kd.S_slice HO1079.out; subst eo45) | ((with_reducible refine gate_callee (f := 39) rfl ?_); refine goesL_ (some 18) rfl rfl Try.func39 (by kernel_rfl) rfl #[.agg #[.slice Ao42 t1074.length co42, .slice Ao45 t1077.length co45]] rfl (by (try simp only [List.map_toArray, List.map_cons, List.map_nil]); first | done | rfl | (simp only [List.length_drop, List.length_take]; rfl)) ?_; (with_reducible refine (impl_GuestOK.calls k _ _ t1074 _ _ t1077 t1081 _ ?side1 ?side2 ?side3 ?side4 A10.out).mono ?_); (case side1 => refine (Kd.R_reads' (e := 3) (base := w.heap.size) (ok := fun k_ => (True ∧ some k_ ≠ (.slice Ao36 t1067.length co36 : Value).ownBlock)) (n := t1074.length) (c := co42) ?_).2.2; exact (by (with_reducible repeat (first | apply Kd.R_alloc | apply Kd.R_drewN | apply Kd.R_drew)); exact (Kd.R_mono (Kd.R_far (p := ⟨gb1080, 1, none⟩) (Kd.R_far (p := ⟨gb1080, 0, none⟩) (Kd.R_types HO1076.out BK1080.out (by decide)) (fun _ hk => hk.2) (.slice Ao42 t1074.length co42)) (fun _ hk => hk.2) (.slice Ao45 t1077.length co45)) (fun _ h_ => h_.1)))); (case side2 => exact (Kd.R_reads' HO1076.out).2.1); (case side3 => refine (Kd.S_reads' (e := 117) (base := w.heap.size) (ok := fun k_ => ((some k_ ≠ (.slice Ao42 t1074.length co42 : Value).ownBlock ∧ some k_ ≠ (.slice Ao36 t1067.length co36 : Value).ownBlock) ∧ some k_ ≠ (.slice Ao37 t1070.length co37 : Value).ownBlock)) (n := t1077.length) (c := co45) ?_).2.2; exact (by (with_reducible repeat (first | apply Kd.S_alloc | apply Kd.S_drewN | apply Kd.S_drew)); exact (Kd.S_mono (Kd.S_far (p := ⟨gb1080, 1, none⟩) (Kd.S_far (p := ⟨gb1080, 0, none⟩) (Kd.S_types HO1079.out BK1080.out (by decide)) (fun _ hk => hk.2) (.slice Ao42 t1074.length co42)) (fun _ hk => hk.2) (.slice Ao45 t1077.length co45)) (fun _ h_ => h_.1)))); (case side4 => exact (Kd.S_reads' HO1079.out).2.1); rintro e w46 ⟨rfl, hb⟩; refine ⟨_, rfl, ?_⟩; have n0_ := Aside0.mk (Kd.R_below (by (with_reducible repeat (first | apply Kd.R_alloc | apply Kd.R_drewN | apply Kd.R_drew)); exact (Kd.R_mono (Kd.R_far (p := ⟨gb1080, 1, none⟩) (Kd.R_far (p := ⟨gb1080, 0, none⟩) (Kd.R_types HO1069.out BK1080.out (by decide)) (fun _ hk => hk.2) (.slice Ao42 t1074.length co42)) (fun _ hk => hk.2) (.slice Ao45 t1077.length co45)) (fun _ h_ => h_.1))) hb); have n1_ := Aside0.mk (Kd.S_below (by (with_reducible repeat (first | apply Kd.S_alloc | apply Kd.S_drewN | apply Kd.S_drew)); exact (Kd.S_mono (Kd.S_far (p := ⟨gb1080, 1, none⟩) (Kd.S_far (p := ⟨gb1080, 0, none⟩) (Kd.S_types HO1072.out BK1080.out (by decide)) (fun _ hk => hk.2) (.slice Ao42 t1074.length co42)) (fun _ hk => hk.2) (.slice Ao45 t1077.length co45)) (fun _ h_ => h_.1))) hb); have n2_ := Aside0.mk (Kd.R_below (by (with_reducible repeat (first | apply Kd.R_alloc | apply Kd.R_drewN | apply Kd.R_drew)); exact (Kd.R_mono (Kd.R_far (p := ⟨gb1080, 1, none⟩) (Kd.R_far (p := ⟨gb1080, 0, none⟩) (Kd.R_types HO1076.out BK1080.out (by decide)) (fun _ hk => hk.2) (.slice Ao42 t1074.length co42)) (fun _ hk => hk.2) (.slice Ao45 t1077.length co45)) (fun _ h_ => h_.1))) hb); have n3_ := Aside0.mk (Kd.S_below (by (with_reducible repeat (first | apply Kd.S_alloc | apply Kd.S_drewN | apply Kd.S_drew)); exact (Kd.S_mono (Kd.S_far (p := ⟨gb1080, 1, none⟩) (Kd.S_far (p := ⟨gb1080, 0, none⟩) (Kd.S_types HO1079.out BK1080.out (by decide)) (fun _ hk => hk.2) (.slice Ao42 t1074.length co42)) (fun _ hk => hk.2) (.slice Ao45 t1077.length co45)) (fun _ h_ => h_.1))) hb); have n4_ := Aside0.mk (blk_below (g := gb1065) (o := .cells #[.slice A0_0 l0_0.length c0_0, .slice A0_1 l0_1.length c0_1] 64 (0, 0)) (by (with_reducible repeat (first | refine blk_drewN ?_ _ | refine blk_drew ?_ | refine blk_alloc ?_ _)); refine blk_far ?_ NB1065_1080.out _; (with_reducible repeat (first | refine blk_drewN ?_ _ | refine blk_drew ?_ | refine blk_alloc ?_ _)); refine blk_far ?_ NB1065_1080.out _; (with_reducible repeat (first | refine blk_drewN ?_ _ | refine blk_drew ?_ | refine blk_alloc ?_ _)); exact BK1065.out) hb); have n5_ := Aside0.mk (blk_below (g := gb1080) (o := .cells #[.slice Ao42 t1074.length co42, .slice Ao45 t1077.length co45] 69 (0, 0)) (by (with_reducible repeat (first | refine blk_drewN ?_ _ | refine blk_drew ?_ | refine blk_alloc ?_ _)); refine blk_put (cs := #[.slice Ao42 t1074.length co42, .slice none 0 0]) ?_ 1 _ rfl; (with_reducible repeat (first | refine blk_drewN ?_ _ | refine blk_drew ?_ | refine blk_alloc ?_ _)); refine blk_put (cs := #[.slice none 0 0, .slice none 0 0]) ?_ 0 _ rfl; (with_reducible repeat (first | refine blk_drewN ?_ _ | refine blk_drew ?_ | refine blk_alloc ?_ _)); exact BK1080.out) hb); have n6_ := Aside0.mk (below_step (by repeat (first | (with_reducible first | exact HB.out | apply below_alloc | apply pw_below_drewN | apply below_drew1 | refine below_set ?_ GE1065.out | refine below_set ?_ GE1080.out) | exact HB.out)) hb); clear HO1069; clear HO1072; clear HO1076; clear HO1079; clear BK1065; clear BK1080; clear HB; have HO1069 := n0_; have HO1072 := n1_; have HO1076 := n2_; have HO1079 := n3_; have BK1065 := n4_; have BK1080 := n5_; have HB := n6_; clear n0_ n1_ n2_ n3_ n4_ n5_ n6_; (try clear hb); (try clear hb2); (try clear hk); (try clear hi)))
    have n0_ := Aside0.mk (Kd.R_drew HO1069.out)
    have n1_ := Aside0.mk (Kd.S_drew HO1072.out)
    have n2_ := Aside0.mk (Kd.R_drew HO1076.out)
    have n3_ := Aside0.mk (Kd.S_drew HO1079.out)
    have n4_ := Aside0.mk (blk_drew BK1065.out)
    have n5_ := Aside0.mk (blk_drew BK1080.out)
    have n6_ := Aside0.mk (below_drew1 HB.out)
    clear HO1069
    clear HO1072
    clear HO1076
    clear HO1079
    clear BK1065
    clear BK1080
    clear HB
    have HO1069 := n0_
    have HO1072 := n1_
    have HO1076 := n2_
    have HO1079 := n3_
    have BK1065 := n4_
    have BK1080 := n5_
    have HB := n6_
    clear n0_ n1_ n2_ n3_ n4_ n5_ n6_
    refine start_ (n := 5) (S := fun w' => w'.cell? ⟨gb1080, 0, none⟩ = some (.slice Ao42 t1074.length co42) ∧ w'.cell? ⟨gb1080, 1, none⟩ = some (.slice Ao45 t1077.length co45) ∧ w'.cell? ⟨gb1065, 0, none⟩ = some (.slice A0_0 l0_0.length c0_0) ∧ w'.cell? ⟨gb1065, 1, none⟩ = some (.slice A0_1 l0_1.length c0_1)) (ds := []) #[false, false, false, false, false] (by kernel_rfl) rfl rfl ⟨(blk_cell BK1080.out 0).trans rfl, (blk_cell BK1080.out 1).trans rfl, (blk_cell BK1065.out 0).trans rfl, (blk_cell BK1065.out 1).trans rfl⟩ (fun hHeld => ?_)
    generalize w46.drew = w47 at HO1069 HO1072 HO1076 HO1079 BK1065 BK1080 HB hHeld ⊢
    refine take_ (i := 0) (N := some 22) (v := ?_) (a' := ?_) #[true, false, false, false, false] rfl rfl (by kernel_rfl) (fun _ _ _ h => h) (Or.inl ⟨by rfl, ?_⟩) hHeld ?_ ?_
    rotate_left
    ·rintro w' ⟨s0, s1, s2, s3⟩
     go_simp
     with_reducible rfl
    rotate_left
    ·simp only [Act.put, List.setIfInBounds_toArray, List.set_cons_zero, List.set_cons_succ, i64_w, i32_w]
     rfl
    refine take_ (i := 1) (N := some 23) (v := ?_) (a' := ?_) #[true, true, false, false, false] rfl rfl (by kernel_rfl) (fun _ _ _ h => h) (Or.inl ⟨by rfl, ?_⟩) hHeld ?_ ?_
    rotate_left
    ·rintro w' ⟨s0, s1, s2, s3⟩
     go_simp
     with_reducible rfl
    rotate_left
    ·simp only [Act.put, List.setIfInBounds_toArray, List.set_cons_zero, List.set_cons_succ, i64_w, i32_w]
     rfl
    refine one_ (i := 2) (N := some 24) #[true, true, true, false, false] rfl rfl (by kernel_rfl) (by decide) (fun K hK => ?_)
    refine goes_ Try.func38 (by kernel_rfl) rfl #[.agg #[.slice A0_0 l0_0.length c0_0, .slice A0_1 l0_1.length c0_1]] (by rfl) rfl rfl (by (try simp only [List.map_toArray, List.map_cons, List.map_nil]); first | done | rfl | (simp only [List.length_drop, List.length_take]; rfl)) ?_
    with_reducible refine (laws_toGuest.calls k _ _ l0_0 _ _ l0_1 t1082 t1085 _ ?side1 ?side2 ?side3 ?side4 A28.out).mono ?_
    (case side1 => repeat (first | exact (Kd.C_below HR0_0.out HB.out) | (with_reducible refine Kd.C_alloc ?_ _) | (with_reducible refine Kd.C_drewN ?_ _) | (with_reducible refine Kd.C_drew ?_)))
    (case side2 => exact HC0_0.out)
    (case side3 => repeat (first | exact (Kd.C_below HR0_1.out HB.out) | (with_reducible refine Kd.C_alloc ?_ _) | (with_reducible refine Kd.C_drewN ?_ _) | (with_reducible refine Kd.C_drew ?_)))
    (case side4 => exact HC0_1.out)
    rintro e w48 ⟨v1083, v1086, rfl, ho0, ho1, hb⟩
    refine ⟨_, rfl, ?_⟩
    have n0_ := Aside0.mk (Kd.R_elder' (by (with_reducible repeat (first | apply Kd.R_alloc | apply Kd.R_drewN | apply Kd.R_drew)); exact HO1069.out) (Kd.R_base ho0) hb)
    have n1_ := Aside0.mk (Kd.S_mono (Kd.S_told (Kd.S_told (Kd.S_old (by (with_reducible repeat (first | apply Kd.S_alloc | apply Kd.S_drewN | apply Kd.S_drew)); exact HO1072.out) hb) (Kd.R_base ho0)) (Kd.S_base ho1)) (fun _ h_ => h_.1))
    have n2_ := Aside0.mk (Kd.R_elder' (by (with_reducible repeat (first | apply Kd.R_alloc | apply Kd.R_drewN | apply Kd.R_drew)); exact HO1076.out) (Kd.R_base ho0) hb)
    have n3_ := Aside0.mk (Kd.S_mono (Kd.S_told (Kd.S_told (Kd.S_old (by (with_reducible repeat (first | apply Kd.S_alloc | apply Kd.S_drewN | apply Kd.S_drew)); exact HO1079.out) hb) (Kd.R_base ho0)) (Kd.S_base ho1)) (fun _ h_ => h_.1))
    have n4_ := Aside0.mk (Kd.R_lower (Kd.R_new' (Kd.R_new' ho0 (Kd.R_lt (by (with_reducible repeat (first | apply Kd.R_alloc | apply Kd.R_drewN | apply Kd.R_drew)); exact HO1069.out))) (Kd.R_lt (by (with_reducible repeat (first | apply Kd.R_alloc | apply Kd.R_drewN | apply Kd.R_drew)); exact HO1076.out))) (below_size (by repeat (first | (with_reducible first | exact HB.out | apply below_alloc | apply pw_below_drewN | apply below_drew1 | refine below_set ?_ GE1065.out | refine below_set ?_ GE1080.out) | exact HB.out))))
    have n5_ := Aside0.mk (Kd.S_lower (Kd.S_new' (Kd.S_new' (Kd.S_new' (Kd.S_new' ho1 (Kd.R_lt (by (with_reducible repeat (first | apply Kd.R_alloc | apply Kd.R_drewN | apply Kd.R_drew)); exact HO1069.out))) (Kd.S_lt (by (with_reducible repeat (first | apply Kd.S_alloc | apply Kd.S_drewN | apply Kd.S_drew)); exact HO1072.out))) (Kd.R_lt (by (with_reducible repeat (first | apply Kd.R_alloc | apply Kd.R_drewN | apply Kd.R_drew)); exact HO1076.out))) (Kd.S_lt (by (with_reducible repeat (first | apply Kd.S_alloc | apply Kd.S_drewN | apply Kd.S_drew)); exact HO1079.out))) (below_size (by repeat (first | (with_reducible first | exact HB.out | apply below_alloc | apply pw_below_drewN | apply below_drew1 | refine below_set ?_ GE1065.out | refine below_set ?_ GE1080.out) | exact HB.out))))
    have n6_ := Aside0.mk (blk_below (g := gb1065) (o := .cells #[.slice A0_0 l0_0.length c0_0, .slice A0_1 l0_1.length c0_1] 64 (0, 0)) (by (with_reducible repeat (first | refine blk_drewN ?_ _ | refine blk_drew ?_ | refine blk_alloc ?_ _)); exact BK1065.out) hb)
    have n7_ := Aside0.mk (blk_below (g := gb1080) (o := .cells #[.slice Ao42 t1074.length co42, .slice Ao45 t1077.length co45] 69 (0, 0)) (by (with_reducible repeat (first | refine blk_drewN ?_ _ | refine blk_drew ?_ | refine blk_alloc ?_ _)); exact BK1080.out) hb)
    have n8_ := Aside0.mk (below_step (by repeat (first | (with_reducible first | exact HB.out | apply below_alloc | apply pw_below_drewN | apply below_drew1 | refine below_set ?_ GE1065.out | refine below_set ?_ GE1080.out) | exact HB.out)) hb)
    clear HO1069
    clear HO1072
    clear HO1076
    clear HO1079
    clear BK1065
    clear BK1080
    clear HB
    have HO1069 := n0_
    have HO1072 := n1_
    have HO1076 := n2_
    have HO1079 := n3_
    have HO1084 := n4_
    have HO1087 := n5_
    have BK1065 := n6_
    have BK1080 := n7_
    have HB := n8_
    clear n0_ n1_ n2_ n3_ n4_ n5_ n6_ n7_ n8_
    (try clear hb)
    (try clear hb2)
    (try clear hk)
    (try clear hi)
    (try clear ho0)
    (try clear ho1)
    obtain ⟨Ao49, co49, eo49⟩ := Kd.R_slice HO1084.out
    (first | subst eo49 | (injection eo49 with f1_ f2_ f3_; have f4_ := f1_.symm; have f5_ := f3_.symm; clear f1_ f2_ f3_; subst f4_; subst f5_))
    obtain ⟨Ao50, co50, eo50⟩ := Kd.S_slice HO1087.out
    (first | subst eo50 | (injection eo50 with f1_ f2_ f3_; have f4_ := f1_.symm; have f5_ := f3_.symm; clear f1_ f2_ f3_; subst f4_; subst f5_))
    refine hK.out _ _ ⟨(blk_cell BK1080.out 0).trans rfl, (blk_cell BK1080.out 1).trans rfl, (blk_cell BK1065.out 0).trans rfl, (blk_cell BK1065.out 1).trans rfl⟩ (fun hHeld => ?_)
    clear hK K
    refine norm_ (a' := ?_) ?_ ?_
    rotate_left
    ·show Act.put _ (some 24) _ = _
     simp only [Act.put, List.setIfInBounds_toArray, List.set_cons_zero, List.set_cons_succ, i64_w, i32_w]
     rfl
    refine one_ (i := 3) (N := some 25) #[true, true, true, true, false] rfl rfl (by kernel_rfl) (by decide) (fun K hK => ?_)
    refine goes_ Try.func40 (by kernel_rfl) rfl #[.agg #[.slice Ao42 t1074.length co42, .slice Ao45 t1077.length co45], .agg #[.slice Ao49 t1082.length co49, .slice Ao50 t1085.length co50]] (by rfl) rfl rfl (by (try simp only [List.map_toArray, List.map_cons, List.map_nil]); first | done | rfl | (simp only [List.length_drop, List.length_take]; rfl)) ?_
    with_reducible refine (laws_eqGuest.calls k _ _ t1074 _ _ t1077 _ _ t1082 _ _ t1085 true _ ?side1 ?side2 ?side3 ?side4 ?side5 ?side6 ?side7 ?side8 A29.out).mono ?_
    (case side1 => repeat (first | exact (Kd.R_reads' HO1076.out).2.2 | (with_reducible refine Kd.C_alloc ?_ _) | (with_reducible refine Kd.C_drewN ?_ _) | (with_reducible refine Kd.C_drew ?_)))
    (case side2 => exact (Kd.R_reads' HO1076.out).2.1)
    (case side3 => repeat (first | exact (Kd.S_reads' HO1079.out).2.2 | (with_reducible refine Kd.C_alloc ?_ _) | (with_reducible refine Kd.C_drewN ?_ _) | (with_reducible refine Kd.C_drew ?_)))
    (case side4 => exact (Kd.S_reads' HO1079.out).2.1)
    (case side5 => repeat (first | exact (Kd.R_reads' HO1084.out).2.2 | (with_reducible refine Kd.C_alloc ?_ _) | (with_reducible refine Kd.C_drewN ?_ _) | (with_reducible refine Kd.C_drew ?_)))
    (case side6 => exact (Kd.R_reads' HO1084.out).2.1)
    (case side7 => repeat (first | exact (Kd.S_reads' HO1087.out).2.2 | (with_reducible refine Kd.C_alloc ?_ _) | (with_reducible refine Kd.C_drewN ?_ _) | (with_reducible refine Kd.C_drew ?_)))
    (case side8 => exact (Kd.S_reads' HO1087.out).2.1)
    rintro e w51 ⟨rfl, hb⟩
    refine ⟨_, rfl, ?_⟩
    have n0_ := Aside0.mk (Kd.R_below (by (with_reducible repeat (first | apply Kd.R_alloc | apply Kd.R_drewN | apply Kd.R_drew)); exact HO1069.out) hb)
    have n1_ := Aside0.mk (Kd.S_below (by (with_reducible repeat (first | apply Kd.S_alloc | apply Kd.S_drewN | apply Kd.S_drew)); exact HO1072.out) hb)
    have n2_ := Aside0.mk (Kd.R_below (by (with_reducible repeat (first | apply Kd.R_alloc | apply Kd.R_drewN | apply Kd.R_drew)); exact HO1076.out) hb)
    have n3_ := Aside0.mk (Kd.S_below (by (with_reducible repeat (first | apply Kd.S_alloc | apply Kd.S_drewN | apply Kd.S_drew)); exact HO1079.out) hb)
    have n4_ := Aside0.mk (Kd.R_below (by (with_reducible repeat (first | apply Kd.R_alloc | apply Kd.R_drewN | apply Kd.R_drew)); exact HO1084.out) hb)
    have n5_ := Aside0.mk (Kd.S_below (by (with_reducible repeat (first | apply Kd.S_alloc | apply Kd.S_drewN | apply Kd.S_drew)); exact HO1087.out) hb)
    have n6_ := Aside0.mk (blk_below (g := gb1065) (o := .cells #[.slice A0_0 l0_0.length c0_0, .slice A0_1 l0_1.length c0_1] 64 (0, 0)) (by (with_reducible repeat (first | refine blk_drewN ?_ _ | refine blk_drew ?_ | refine blk_alloc ?_ _)); exact BK1065.out) hb)
    have n7_ := Aside0.mk (blk_below (g := gb1080) (o := .cells #[.slice Ao42 t1074.length co42, .slice Ao45 t1077.length co45] 69 (0, 0)) (by (with_reducible repeat (first | refine blk_drewN ?_ _ | refine blk_drew ?_ | refine blk_alloc ?_ _)); exact BK1080.out) hb)
    have n8_ := Aside0.mk (below_step (by repeat (first | (with_reducible first | exact HB.out | apply below_alloc | apply pw_below_drewN | apply below_drew1 | refine below_set ?_ GE1065.out | refine below_set ?_ GE1080.out) | exact HB.out)) hb)
    clear HO1069
    clear HO1072
    clear HO1076
    clear HO1079
    clear HO1084
    clear HO1087
    clear BK1065
    clear BK1080
    clear HB
    have HO1069 := n0_
    have HO1072 := n1_
    have HO1076 := n2_
    have HO1079 := n3_
    have HO1084 := n4_
    have HO1087 := n5_
    have BK1065 := n6_
    have BK1080 := n7_
    have HB := n8_
    clear n0_ n1_ n2_ n3_ n4_ n5_ n6_ n7_ n8_
    (try clear hb)
    (try clear hb2)
    (try clear hk)
    (try clear hi)
    refine hK.out _ _ ⟨(blk_cell BK1080.out 0).trans rfl, (blk_cell BK1080.out 1).trans rfl, (blk_cell BK1065.out 0).trans rfl, (blk_cell BK1065.out 1).trans rfl⟩ (fun hHeld => ?_)
    clear hK K
    refine norm_ (a' := ?_) ?_ ?_
    rotate_left
    ·show Act.put _ (some 25) _ = _
     simp only [Act.put, List.setIfInBounds_toArray, List.set_cons_zero, List.set_cons_succ, i64_w, i32_w]
     rfl
    refine pure_ (i := 4) (N := some 26) (v := ?_) (a' := ?_) #[true, true, true, true, true] rfl rfl (by kernel_rfl) (fun _ _ _ h => h) (Or.inl ⟨by rfl, ?_⟩) ?_ ?_
    rotate_left
    ·intro w'
     go_simp
     with_reducible rfl
    rotate_left
    ·simp only [Act.put, List.setIfInBounds_toArray, List.set_cons_zero, List.set_cons_succ, i64_w, i32_w]
     rfl
    refine done_ (by kernel_rfl) ?_
    try go_wp2
    go_ret
    exact ⟨by first | rfl | (simp [errW_none, errW_some] <;> rfl) | (simp [*, errW_none, errW_some] <;> rfl), by repeat (first | (with_reducible first | exact HB.out | apply below_alloc | apply pw_below_drewN | apply below_drew1 | refine below_set ?_ GE1065.out | refine below_set ?_ GE1080.out) | exact HB.out)⟩
   ·replace c30 := Bool.eq_false_iff.mpr c30
    subst c30
    have H1 : (some false) = some r := by rw [if_neg (show ¬ (false = true) by decide)] at H; exact H
    clear H
    have H := H1
    clear H1
    obtain rfl := Option.some.inj H
    go_enter Try.func10, Try.ntmps10
    try go_wp2_with (first | ((with_reducible refine gate_dst (N := 1) rfl ?_); refine box_event ?hg (N := 1) ?hd (cs := #[.slice A0_0 l0_0.length c0_0, .slice A0_1 l0_1.length c0_1]) (t := 64) ?hr ?_; (case hd => rfl); (case hg => rfl); (case hr => first | (go_simp; done) | (go_simp; rfl)); intro gb1065 hg w52 hbox hb; have n0_ := Aside0.mk (below_step (by repeat (first | (with_reducible first | exact HB.out | apply below_alloc | apply pw_below_drewN | apply below_drew1) | exact HB.out)) hb); have n1_ := Aside0.mk (hbox); have n2_ := Aside0.mk ((by rw [hg]; exact (below_size (by repeat (first | (with_reducible first | exact HB.out | apply below_alloc | apply pw_below_drewN | apply below_drew1) | exact HB.out))) : w.heap.size ≤ gb1065)); have n3_ := Aside0.mk ((by rw [hg]; exact (below_size (by repeat (first | (with_reducible first | exact HB.out | apply below_alloc | apply pw_below_drewN | apply below_drew1) | exact HB.out))) : w.heap.size ≤ gb1065)); clear HB; have HB := n0_; have BK1065 := n1_; have GW1065 := n2_; have GE1065 := n3_; clear n0_ n1_ n2_ n3_; clear hb hbox hg; have hcz53_0 : w52.cell? ⟨gb1065, 0, none⟩ = some (.slice A0_0 l0_0.length c0_0) := (blk_cell BK1065.out 0).trans rfl; have hcz53_1 : w52.cell? ⟨gb1065, 1, none⟩ = some (.slice A0_1 l0_1.length c0_1) := (blk_cell BK1065.out 1).trans rfl; have hfz53_0 := blk_frozen BK1065.out 0; have hfz53_1 := blk_frozen BK1065.out 1) | ((with_reducible refine gate_callee (f := 36) rfl ?_); refine goesL_ (some 9) rfl rfl Try.func36 (by kernel_rfl) rfl #[.agg #[.slice A0_0 l0_0.length c0_0, .slice A0_1 l0_1.length c0_1], .int .i64 1048576] rfl (by (try simp only [List.map_toArray, List.map_cons, List.map_nil]); first | done | rfl | (simp only [List.length_drop, List.length_take]; rfl)) ?_; (with_reducible refine (laws_szGuest.calls k _ _ l0_0 _ _ l0_1 1048576 t1066 _ ?side1 ?side2 ?side3 ?side4 A2.out).mono ?_); (case side1 => repeat (first | exact (Kd.C_below HR0_0.out HB.out) | (with_reducible refine Kd.C_alloc ?_ _) | (with_reducible refine Kd.C_drewN ?_ _) | (with_reducible refine Kd.C_drew ?_))); (case side2 => exact HC0_0.out); (case side3 => repeat (first | exact (Kd.C_below HR0_1.out HB.out) | (with_reducible refine Kd.C_alloc ?_ _) | (with_reducible refine Kd.C_drewN ?_ _) | (with_reducible refine Kd.C_drew ?_))); (case side4 => exact HC0_1.out); rintro e w54 ⟨rfl, hb⟩; refine ⟨_, rfl, ?_⟩; have n0_ := Aside0.mk (blk_below (g := gb1065) (o := .cells #[.slice A0_0 l0_0.length c0_0, .slice A0_1 l0_1.length c0_1] 64 (0, 0)) (by (with_reducible repeat (first | refine blk_drewN ?_ _ | refine blk_drew ?_ | refine blk_alloc ?_ _)); exact BK1065.out) hb); have n1_ := Aside0.mk (below_step (by repeat (first | (with_reducible first | exact HB.out | apply below_alloc | apply pw_below_drewN | apply below_drew1 | refine below_set ?_ GE1065.out) | exact HB.out)) hb); clear BK1065; clear HB; have BK1065 := n0_; have HB := n1_; clear n0_ n1_; (try clear hb); (try clear hb2); (try clear hk); (try clear hi); have hcz55_0 : w54.cell? ⟨gb1065, 0, none⟩ = some (.slice A0_0 l0_0.length c0_0) := (blk_cell BK1065.out 0).trans rfl; have hcz55_1 : w54.cell? ⟨gb1065, 1, none⟩ = some (.slice A0_1 l0_1.length c0_1) := (blk_cell BK1065.out 1).trans rfl; have hfz55_0 := blk_frozen BK1065.out 0; have hfz55_1 := blk_frozen BK1065.out 1) | ((with_reducible refine gate_callee (f := 38) rfl ?_); refine goesL_ (some 13) rfl rfl Try.func38 (by kernel_rfl) rfl #[.agg #[.slice A0_0 l0_0.length c0_0, .slice A0_1 l0_1.length c0_1]] rfl (by (try simp only [List.map_toArray, List.map_cons, List.map_nil]); first | done | rfl | (simp only [List.length_drop, List.length_take]; rfl)) ?_; (with_reducible refine (laws_toGuest.calls k _ _ l0_0 _ _ l0_1 t1067 t1070 _ ?side1 ?side2 ?side3 ?side4 A7.out).mono ?_); (case side1 => repeat (first | exact (Kd.C_below HR0_0.out HB.out) | (with_reducible refine Kd.C_alloc ?_ _) | (with_reducible refine Kd.C_drewN ?_ _) | (with_reducible refine Kd.C_drew ?_))); (case side2 => exact HC0_0.out); (case side3 => repeat (first | exact (Kd.C_below HR0_1.out HB.out) | (with_reducible refine Kd.C_alloc ?_ _) | (with_reducible refine Kd.C_drewN ?_ _) | (with_reducible refine Kd.C_drew ?_))); (case side4 => exact HC0_1.out); rintro e w56 ⟨v1068, v1071, rfl, ho0, ho1, hb⟩; refine ⟨_, rfl, ?_⟩; have n0_ := Aside0.mk (Kd.R_lower ho0 (below_size (by repeat (first | (with_reducible first | exact HB.out | apply below_alloc | apply pw_below_drewN | apply below_drew1 | refine below_set ?_ GE1065.out) | exact HB.out)))); have n1_ := Aside0.mk (Kd.S_lower ho1 (below_size (by repeat (first | (with_reducible first | exact HB.out | apply below_alloc | apply pw_below_drewN | apply below_drew1 | refine below_set ?_ GE1065.out) | exact HB.out)))); have n2_ := Aside0.mk (blk_below (g := gb1065) (o := .cells #[.slice A0_0 l0_0.length c0_0, .slice A0_1 l0_1.length c0_1] 64 (0, 0)) (by (with_reducible repeat (first | refine blk_drewN ?_ _ | refine blk_drew ?_ | refine blk_alloc ?_ _)); exact BK1065.out) hb); have n3_ := Aside0.mk (below_step (by repeat (first | (with_reducible first | exact HB.out | apply below_alloc | apply pw_below_drewN | apply below_drew1 | refine below_set ?_ GE1065.out) | exact HB.out)) hb); clear BK1065; clear HB; have HO1069 := n0_; have HO1072 := n1_; have BK1065 := n2_; have HB := n3_; clear n0_ n1_ n2_ n3_; (try clear hb); (try clear hb2); (try clear hk); (try clear hi); (try clear ho0); (try clear ho1); obtain ⟨Ao57, co57, eo57⟩ := Kd.R_slice HO1069.out; subst eo57; obtain ⟨Ao58, co58, eo58⟩ := Kd.S_slice HO1072.out; subst eo58) | ((with_reducible refine gate_callee (f := 37) rfl ?_); refine goesL_ (some 14) rfl rfl Try.func37 (by kernel_rfl) rfl #[.agg #[.slice Ao57 t1067.length co57, .slice Ao58 t1070.length co58]] rfl (by (try simp only [List.map_toArray, List.map_cons, List.map_nil]); first | done | rfl | (simp only [List.length_drop, List.length_take]; rfl)) ?_; (with_reducible refine (spec_GuestOK.calls k _ _ t1067 _ _ t1070 t1073 _ ?side1 ?side2 ?side3 ?side4 A8.out).mono ?_); (case side1 => repeat (first | exact (Kd.R_reads' HO1069.out).2.2 | (with_reducible refine Kd.C_alloc ?_ _) | (with_reducible refine Kd.C_drewN ?_ _) | (with_reducible refine Kd.C_drew ?_))); (case side2 => exact (Kd.R_reads' HO1069.out).2.1); (case side3 => repeat (first | exact (Kd.S_reads' HO1072.out).2.2 | (with_reducible refine Kd.C_alloc ?_ _) | (with_reducible refine Kd.C_drewN ?_ _) | (with_reducible refine Kd.C_drew ?_))); (case side4 => exact (Kd.S_reads' HO1072.out).2.1); rintro e w59 ⟨rfl, hb⟩; refine ⟨_, rfl, ?_⟩; have n0_ := Aside0.mk (Kd.R_below (by (with_reducible repeat (first | apply Kd.R_alloc | apply Kd.R_drewN | apply Kd.R_drew)); exact HO1069.out) hb); have n1_ := Aside0.mk (Kd.S_below (by (with_reducible repeat (first | apply Kd.S_alloc | apply Kd.S_drewN | apply Kd.S_drew)); exact HO1072.out) hb); have n2_ := Aside0.mk (blk_below (g := gb1065) (o := .cells #[.slice A0_0 l0_0.length c0_0, .slice A0_1 l0_1.length c0_1] 64 (0, 0)) (by (with_reducible repeat (first | refine blk_drewN ?_ _ | refine blk_drew ?_ | refine blk_alloc ?_ _)); exact BK1065.out) hb); have n3_ := Aside0.mk (below_step (by repeat (first | (with_reducible first | exact HB.out | apply below_alloc | apply pw_below_drewN | apply below_drew1 | refine below_set ?_ GE1065.out) | exact HB.out)) hb); clear HO1069; clear HO1072; clear BK1065; clear HB; have HO1069 := n0_; have HO1072 := n1_; have BK1065 := n2_; have HB := n3_; clear n0_ n1_ n2_ n3_; (try clear hb); (try clear hb2); (try clear hk); (try clear hi); have hcz60_0 : w59.cell? ⟨gb1065, 0, none⟩ = some (.slice A0_0 l0_0.length c0_0) := (blk_cell BK1065.out 0).trans rfl; have hcz60_1 : w59.cell? ⟨gb1065, 1, none⟩ = some (.slice A0_1 l0_1.length c0_1) := (blk_cell BK1065.out 1).trans rfl; have hfz60_0 := blk_frozen BK1065.out 0; have hfz60_1 := blk_frozen BK1065.out 1) | ((with_reducible refine gate_callee (f := 38) rfl ?_); refine goesL_ (some 16) rfl rfl Try.func38 (by kernel_rfl) rfl #[.agg #[.slice A0_0 l0_0.length c0_0, .slice A0_1 l0_1.length c0_1]] rfl (by (try simp only [List.map_toArray, List.map_cons, List.map_nil]); first | done | rfl | (simp only [List.length_drop, List.length_take]; rfl)) ?_; (with_reducible refine (laws_toGuest.calls k _ _ l0_0 _ _ l0_1 t1074 t1077 _ ?side1 ?side2 ?side3 ?side4 A9.out).mono ?_); (case side1 => repeat (first | exact (Kd.C_below HR0_0.out HB.out) | (with_reducible refine Kd.C_alloc ?_ _) | (with_reducible refine Kd.C_drewN ?_ _) | (with_reducible refine Kd.C_drew ?_))); (case side2 => exact HC0_0.out); (case side3 => repeat (first | exact (Kd.C_below HR0_1.out HB.out) | (with_reducible refine Kd.C_alloc ?_ _) | (with_reducible refine Kd.C_drewN ?_ _) | (with_reducible refine Kd.C_drew ?_))); (case side4 => exact HC0_1.out); rintro e w61 ⟨v1075, v1078, rfl, ho0, ho1, hb⟩; refine ⟨_, rfl, ?_⟩; have n0_ := Aside0.mk (Kd.R_elder' (by (with_reducible repeat (first | apply Kd.R_alloc | apply Kd.R_drewN | apply Kd.R_drew)); exact HO1069.out) (Kd.R_base ho0) hb); have n1_ := Aside0.mk (Kd.S_mono (Kd.S_told (Kd.S_told (Kd.S_old (by (with_reducible repeat (first | apply Kd.S_alloc | apply Kd.S_drewN | apply Kd.S_drew)); exact HO1072.out) hb) (Kd.R_base ho0)) (Kd.S_base ho1)) (fun _ h_ => h_.1)); have n2_ := Aside0.mk (Kd.R_lower (Kd.R_new' ho0 (Kd.R_lt (by (with_reducible repeat (first | apply Kd.R_alloc | apply Kd.R_drewN | apply Kd.R_drew)); exact HO1069.out))) (below_size (by repeat (first | (with_reducible first | exact HB.out | apply below_alloc | apply pw_below_drewN | apply below_drew1 | refine below_set ?_ GE1065.out) | exact HB.out)))); have n3_ := Aside0.mk (Kd.S_lower (Kd.S_new' (Kd.S_new' ho1 (Kd.R_lt (by (with_reducible repeat (first | apply Kd.R_alloc | apply Kd.R_drewN | apply Kd.R_drew)); exact HO1069.out))) (Kd.S_lt (by (with_reducible repeat (first | apply Kd.S_alloc | apply Kd.S_drewN | apply Kd.S_drew)); exact HO1072.out))) (below_size (by repeat (first | (with_reducible first | exact HB.out | apply below_alloc | apply pw_below_drewN | apply below_drew1 | refine below_set ?_ GE1065.out) | exact HB.out)))); have n4_ := Aside0.mk (blk_below (g := gb1065) (o := .cells #[.slice A0_0 l0_0.length c0_0, .slice A0_1 l0_1.length c0_1] 64 (0, 0)) (by (with_reducible repeat (first | refine blk_drewN ?_ _ | refine blk_drew ?_ | refine blk_alloc ?_ _)); exact BK1065.out) hb); have n5_ := Aside0.mk (below_step (by repeat (first | (with_reducible first | exact HB.out | apply below_alloc | apply pw_below_drewN | apply below_drew1 | refine below_set ?_ GE1065.out) | exact HB.out)) hb); clear HO1069; clear HO1072; clear BK1065; clear HB; have HO1069 := n0_; have HO1072 := n1_; have HO1076 := n2_; have HO1079 := n3_; have BK1065 := n4_; have HB := n5_; clear n0_ n1_ n2_ n3_ n4_ n5_; (try clear hb); (try clear hb2); (try clear hk); (try clear hi); (try clear ho0); (try clear ho1)) | ((with_reducible refine gate_dst (N := 5) rfl ?_); refine box_event ?hg (N := 5) ?hd (cs := #[.slice none 0 0, .slice none 0 0]) (t := 69) ?hr ?_; (case hd => rfl); (case hg => rfl); (case hr => first | (go_simp; done) | (go_simp; rfl)); intro gb1080 hg w62 hbox hb; have n0_ := Aside0.mk (Kd.R_below (by (with_reducible repeat (first | apply Kd.R_alloc | apply Kd.R_drewN | apply Kd.R_drew)); exact HO1069.out) hb); have n1_ := Aside0.mk (Kd.S_below (by (with_reducible repeat (first | apply Kd.S_alloc | apply Kd.S_drewN | apply Kd.S_drew)); exact HO1072.out) hb); have n2_ := Aside0.mk (Kd.R_below (by (with_reducible repeat (first | apply Kd.R_alloc | apply Kd.R_drewN | apply Kd.R_drew)); exact HO1076.out) hb); have n3_ := Aside0.mk (Kd.S_below (by (with_reducible repeat (first | apply Kd.S_alloc | apply Kd.S_drewN | apply Kd.S_drew)); exact HO1079.out) hb); have n4_ := Aside0.mk (blk_below (g := gb1065) (o := .cells #[.slice A0_0 l0_0.length c0_0, .slice A0_1 l0_1.length c0_1] 64 (0, 0)) (by (with_reducible repeat (first | refine blk_drewN ?_ _ | refine blk_drew ?_ | refine blk_alloc ?_ _)); exact BK1065.out) hb); have n5_ := Aside0.mk (below_step (by repeat (first | (with_reducible first | exact HB.out | apply below_alloc | apply pw_below_drewN | apply below_drew1 | refine below_set ?_ GE1065.out) | exact HB.out)) hb); have n6_ := Aside0.mk (hbox); have n7_ := Aside0.mk ((by rw [hg]; exact (below_size (by repeat (first | (with_reducible first | exact HB.out | apply below_alloc | apply pw_below_drewN | apply below_drew1 | refine below_set ?_ GE1065.out) | exact HB.out))) : w.heap.size ≤ gb1080)); have n8_ := Aside0.mk ((by rw [hg]; exact (below_size (by repeat (first | (with_reducible first | exact HB.out | apply below_alloc | apply pw_below_drewN | apply below_drew1 | refine below_set ?_ GE1065.out) | exact HB.out))) : w.heap.size ≤ gb1080)); have n9_ := Aside0.mk ((by rw [hg]; exact Nat.ne_of_lt (blk_lt (g := gb1065) (o := .cells #[.slice A0_0 l0_0.length c0_0, .slice A0_1 l0_1.length c0_1] 64 (0, 0)) (by (with_reducible repeat (first | refine blk_drewN ?_ _ | refine blk_drew ?_ | refine blk_alloc ?_ _)); exact BK1065.out)) : gb1065 ≠ gb1080)); have n10_ := Aside0.mk ((by rw [hg]; exact Nat.ne_of_gt (blk_lt (g := gb1065) (o := .cells #[.slice A0_0 l0_0.length c0_0, .slice A0_1 l0_1.length c0_1] 64 (0, 0)) (by (with_reducible repeat (first | refine blk_drewN ?_ _ | refine blk_drew ?_ | refine blk_alloc ?_ _)); exact BK1065.out)) : gb1080 ≠ gb1065)); clear HO1069; clear HO1072; clear HO1076; clear HO1079; clear BK1065; clear HB; have HO1069 := n0_; have HO1072 := n1_; have HO1076 := n2_; have HO1079 := n3_; have BK1065 := n4_; have HB := n5_; have BK1080 := n6_; have GW1080 := n7_; have GE1080 := n8_; have NB1065_1080 := n9_; have NB1080_1065 := n10_; clear n0_ n1_ n2_ n3_ n4_ n5_ n6_ n7_ n8_ n9_ n10_; clear hb hbox hg; obtain ⟨Ao63, co63, eo63⟩ := Kd.R_slice HO1076.out; subst eo63; have hnb64 := NB1080_1065.out; have hnc64 := NB1065_1080.out; have hcz65_0 : w62.cell? ⟨gb1080, 0, none⟩ = some (.slice none 0 0) := (blk_cell BK1080.out 0).trans rfl; have hcz65_1 : w62.cell? ⟨gb1080, 1, none⟩ = some (.slice none 0 0) := (blk_cell BK1080.out 1).trans rfl; have hfz65_0 := blk_frozen BK1080.out 0; have hfz65_1 := blk_frozen BK1080.out 1; obtain ⟨Ao66, co66, eo66⟩ := Kd.S_slice HO1079.out; subst eo66) | ((with_reducible refine gate_callee (f := 39) rfl ?_); refine goesL_ (some 18) rfl rfl Try.func39 (by kernel_rfl) rfl #[.agg #[.slice Ao63 t1074.length co63, .slice Ao66 t1077.length co66]] rfl (by (try simp only [List.map_toArray, List.map_cons, List.map_nil]); first | done | rfl | (simp only [List.length_drop, List.length_take]; rfl)) ?_; (with_reducible refine (impl_GuestOK.calls k _ _ t1074 _ _ t1077 t1081 _ ?side1 ?side2 ?side3 ?side4 A10.out).mono ?_); (case side1 => refine (Kd.R_reads' (e := 3) (base := w.heap.size) (ok := fun k_ => (True ∧ some k_ ≠ (.slice Ao57 t1067.length co57 : Value).ownBlock)) (n := t1074.length) (c := co63) ?_).2.2; exact (by (with_reducible repeat (first | apply Kd.R_alloc | apply Kd.R_drewN | apply Kd.R_drew)); exact (Kd.R_mono (Kd.R_far (p := ⟨gb1080, 1, none⟩) (Kd.R_far (p := ⟨gb1080, 0, none⟩) (Kd.R_types HO1076.out BK1080.out (by decide)) (fun _ hk => hk.2) (.slice Ao63 t1074.length co63)) (fun _ hk => hk.2) (.slice Ao66 t1077.length co66)) (fun _ h_ => h_.1)))); (case side2 => exact (Kd.R_reads' HO1076.out).2.1); (case side3 => refine (Kd.S_reads' (e := 117) (base := w.heap.size) (ok := fun k_ => ((some k_ ≠ (.slice Ao63 t1074.length co63 : Value).ownBlock ∧ some k_ ≠ (.slice Ao57 t1067.length co57 : Value).ownBlock) ∧ some k_ ≠ (.slice Ao58 t1070.length co58 : Value).ownBlock)) (n := t1077.length) (c := co66) ?_).2.2; exact (by (with_reducible repeat (first | apply Kd.S_alloc | apply Kd.S_drewN | apply Kd.S_drew)); exact (Kd.S_mono (Kd.S_far (p := ⟨gb1080, 1, none⟩) (Kd.S_far (p := ⟨gb1080, 0, none⟩) (Kd.S_types HO1079.out BK1080.out (by decide)) (fun _ hk => hk.2) (.slice Ao63 t1074.length co63)) (fun _ hk => hk.2) (.slice Ao66 t1077.length co66)) (fun _ h_ => h_.1)))); (case side4 => exact (Kd.S_reads' HO1079.out).2.1); rintro e w67 ⟨rfl, hb⟩; refine ⟨_, rfl, ?_⟩; have n0_ := Aside0.mk (Kd.R_below (by (with_reducible repeat (first | apply Kd.R_alloc | apply Kd.R_drewN | apply Kd.R_drew)); exact (Kd.R_mono (Kd.R_far (p := ⟨gb1080, 1, none⟩) (Kd.R_far (p := ⟨gb1080, 0, none⟩) (Kd.R_types HO1069.out BK1080.out (by decide)) (fun _ hk => hk.2) (.slice Ao63 t1074.length co63)) (fun _ hk => hk.2) (.slice Ao66 t1077.length co66)) (fun _ h_ => h_.1))) hb); have n1_ := Aside0.mk (Kd.S_below (by (with_reducible repeat (first | apply Kd.S_alloc | apply Kd.S_drewN | apply Kd.S_drew)); exact (Kd.S_mono (Kd.S_far (p := ⟨gb1080, 1, none⟩) (Kd.S_far (p := ⟨gb1080, 0, none⟩) (Kd.S_types HO1072.out BK1080.out (by decide)) (fun _ hk => hk.2) (.slice Ao63 t1074.length co63)) (fun _ hk => hk.2) (.slice Ao66 t1077.length co66)) (fun _ h_ => h_.1))) hb); have n2_ := Aside0.mk (Kd.R_below (by (with_reducible repeat (first | apply Kd.R_alloc | apply Kd.R_drewN | apply Kd.R_drew)); exact (Kd.R_mono (Kd.R_far (p := ⟨gb1080, 1, none⟩) (Kd.R_far (p := ⟨gb1080, 0, none⟩) (Kd.R_types HO1076.out BK1080.out (by decide)) (fun _ hk => hk.2) (.slice Ao63 t1074.length co63)) (fun _ hk => hk.2) (.slice Ao66 t1077.length co66)) (fun _ h_ => h_.1))) hb); have n3_ := Aside0.mk (Kd.S_below (by (with_reducible repeat (first | apply Kd.S_alloc | apply Kd.S_drewN | apply Kd.S_drew)); exact (Kd.S_mono (Kd.S_far (p := ⟨gb1080, 1, none⟩) (Kd.S_far (p := ⟨gb1080, 0, none⟩) (Kd.S_types HO1079.out BK1080.out (by decide)) (fun _ hk => hk.2) (.slice Ao63 t1074.length co63)) (fun _ hk => hk.2) (.slice Ao66 t1077.length co66)) (fun _ h_ => h_.1))) hb); have n4_ := Aside0.mk (blk_below (g := gb1065) (o := .cells #[.slice A0_0 l0_0.length c0_0, .slice A0_1 l0_1.length c0_1] 64 (0, 0)) (by (with_reducible repeat (first | refine blk_drewN ?_ _ | refine blk_drew ?_ | refine blk_alloc ?_ _)); refine blk_far ?_ NB1065_1080.out _; (with_reducible repeat (first | refine blk_drewN ?_ _ | refine blk_drew ?_ | refine blk_alloc ?_ _)); refine blk_far ?_ NB1065_1080.out _; (with_reducible repeat (first | refine blk_drewN ?_ _ | refine blk_drew ?_ | refine blk_alloc ?_ _)); exact BK1065.out) hb); have n5_ := Aside0.mk (blk_below (g := gb1080) (o := .cells #[.slice Ao63 t1074.length co63, .slice Ao66 t1077.length co66] 69 (0, 0)) (by (with_reducible repeat (first | refine blk_drewN ?_ _ | refine blk_drew ?_ | refine blk_alloc ?_ _)); refine blk_put (cs := #[.slice Ao63 t1074.length co63, .slice none 0 0]) ?_ 1 _ rfl; (with_reducible repeat (first | refine blk_drewN ?_ _ | refine blk_drew ?_ | refine blk_alloc ?_ _)); refine blk_put (cs := #[.slice none 0 0, .slice none 0 0]) ?_ 0 _ rfl; (with_reducible repeat (first | refine blk_drewN ?_ _ | refine blk_drew ?_ | refine blk_alloc ?_ _)); exact BK1080.out) hb); have n6_ := Aside0.mk (below_step (by repeat (first | (with_reducible first | exact HB.out | apply below_alloc | apply pw_below_drewN | apply below_drew1 | refine below_set ?_ GE1065.out | refine below_set ?_ GE1080.out) | exact HB.out)) hb); clear HO1069; clear HO1072; clear HO1076; clear HO1079; clear BK1065; clear BK1080; clear HB; have HO1069 := n0_; have HO1072 := n1_; have HO1076 := n2_; have HO1079 := n3_; have BK1065 := n4_; have BK1080 := n5_; have HB := n6_; clear n0_ n1_ n2_ n3_ n4_ n5_ n6_; (try clear hb); (try clear hb2); (try clear hk); (try clear hi)))
    have n0_ := Aside0.mk (Kd.R_drew HO1069.out)
    have n1_ := Aside0.mk (Kd.S_drew HO1072.out)
    have n2_ := Aside0.mk (Kd.R_drew HO1076.out)
    have n3_ := Aside0.mk (Kd.S_drew HO1079.out)
    have n4_ := Aside0.mk (blk_drew BK1065.out)
    have n5_ := Aside0.mk (blk_drew BK1080.out)
    have n6_ := Aside0.mk (below_drew1 HB.out)
    clear HO1069
    clear HO1072
    clear HO1076
    clear HO1079
    clear BK1065
    clear BK1080
    clear HB
    have HO1069 := n0_
    have HO1072 := n1_
    have HO1076 := n2_
    have HO1079 := n3_
    have BK1065 := n4_
    have BK1080 := n5_
    have HB := n6_
    clear n0_ n1_ n2_ n3_ n4_ n5_ n6_
    refine start_ (n := 5) (S := fun w' => w'.cell? ⟨gb1080, 0, none⟩ = some (.slice Ao63 t1074.length co63) ∧ w'.cell? ⟨gb1080, 1, none⟩ = some (.slice Ao66 t1077.length co66) ∧ w'.cell? ⟨gb1065, 0, none⟩ = some (.slice A0_0 l0_0.length c0_0) ∧ w'.cell? ⟨gb1065, 1, none⟩ = some (.slice A0_1 l0_1.length c0_1)) (ds := []) #[false, false, false, false, false] (by kernel_rfl) rfl rfl ⟨(blk_cell BK1080.out 0).trans rfl, (blk_cell BK1080.out 1).trans rfl, (blk_cell BK1065.out 0).trans rfl, (blk_cell BK1065.out 1).trans rfl⟩ (fun hHeld => ?_)
    generalize w67.drew = w68 at HO1069 HO1072 HO1076 HO1079 BK1065 BK1080 HB hHeld ⊢
    refine take_ (i := 0) (N := some 22) (v := ?_) (a' := ?_) #[true, false, false, false, false] rfl rfl (by kernel_rfl) (fun _ _ _ h => h) (Or.inl ⟨by rfl, ?_⟩) hHeld ?_ ?_
    rotate_left
    ·rintro w' ⟨s0, s1, s2, s3⟩
     go_simp
     with_reducible rfl
    rotate_left
    ·simp only [Act.put, List.setIfInBounds_toArray, List.set_cons_zero, List.set_cons_succ, i64_w, i32_w]
     rfl
    refine take_ (i := 1) (N := some 23) (v := ?_) (a' := ?_) #[true, true, false, false, false] rfl rfl (by kernel_rfl) (fun _ _ _ h => h) (Or.inl ⟨by rfl, ?_⟩) hHeld ?_ ?_
    rotate_left
    ·rintro w' ⟨s0, s1, s2, s3⟩
     go_simp
     with_reducible rfl
    rotate_left
    ·simp only [Act.put, List.setIfInBounds_toArray, List.set_cons_zero, List.set_cons_succ, i64_w, i32_w]
     rfl
    refine one_ (i := 2) (N := some 24) #[true, true, true, false, false] rfl rfl (by kernel_rfl) (by decide) (fun K hK => ?_)
    refine goes_ Try.func38 (by kernel_rfl) rfl #[.agg #[.slice A0_0 l0_0.length c0_0, .slice A0_1 l0_1.length c0_1]] (by rfl) rfl rfl (by (try simp only [List.map_toArray, List.map_cons, List.map_nil]); first | done | rfl | (simp only [List.length_drop, List.length_take]; rfl)) ?_
    with_reducible refine (laws_toGuest.calls k _ _ l0_0 _ _ l0_1 t1082 t1085 _ ?side1 ?side2 ?side3 ?side4 A28.out).mono ?_
    (case side1 => repeat (first | exact (Kd.C_below HR0_0.out HB.out) | (with_reducible refine Kd.C_alloc ?_ _) | (with_reducible refine Kd.C_drewN ?_ _) | (with_reducible refine Kd.C_drew ?_)))
    (case side2 => exact HC0_0.out)
    (case side3 => repeat (first | exact (Kd.C_below HR0_1.out HB.out) | (with_reducible refine Kd.C_alloc ?_ _) | (with_reducible refine Kd.C_drewN ?_ _) | (with_reducible refine Kd.C_drew ?_)))
    (case side4 => exact HC0_1.out)
    rintro e w69 ⟨v1083, v1086, rfl, ho0, ho1, hb⟩
    refine ⟨_, rfl, ?_⟩
    have n0_ := Aside0.mk (Kd.R_elder' (by (with_reducible repeat (first | apply Kd.R_alloc | apply Kd.R_drewN | apply Kd.R_drew)); exact HO1069.out) (Kd.R_base ho0) hb)
    have n1_ := Aside0.mk (Kd.S_mono (Kd.S_told (Kd.S_told (Kd.S_old (by (with_reducible repeat (first | apply Kd.S_alloc | apply Kd.S_drewN | apply Kd.S_drew)); exact HO1072.out) hb) (Kd.R_base ho0)) (Kd.S_base ho1)) (fun _ h_ => h_.1))
    have n2_ := Aside0.mk (Kd.R_elder' (by (with_reducible repeat (first | apply Kd.R_alloc | apply Kd.R_drewN | apply Kd.R_drew)); exact HO1076.out) (Kd.R_base ho0) hb)
    have n3_ := Aside0.mk (Kd.S_mono (Kd.S_told (Kd.S_told (Kd.S_old (by (with_reducible repeat (first | apply Kd.S_alloc | apply Kd.S_drewN | apply Kd.S_drew)); exact HO1079.out) hb) (Kd.R_base ho0)) (Kd.S_base ho1)) (fun _ h_ => h_.1))
    have n4_ := Aside0.mk (Kd.R_lower (Kd.R_new' (Kd.R_new' ho0 (Kd.R_lt (by (with_reducible repeat (first | apply Kd.R_alloc | apply Kd.R_drewN | apply Kd.R_drew)); exact HO1069.out))) (Kd.R_lt (by (with_reducible repeat (first | apply Kd.R_alloc | apply Kd.R_drewN | apply Kd.R_drew)); exact HO1076.out))) (below_size (by repeat (first | (with_reducible first | exact HB.out | apply below_alloc | apply pw_below_drewN | apply below_drew1 | refine below_set ?_ GE1065.out | refine below_set ?_ GE1080.out) | exact HB.out))))
    have n5_ := Aside0.mk (Kd.S_lower (Kd.S_new' (Kd.S_new' (Kd.S_new' (Kd.S_new' ho1 (Kd.R_lt (by (with_reducible repeat (first | apply Kd.R_alloc | apply Kd.R_drewN | apply Kd.R_drew)); exact HO1069.out))) (Kd.S_lt (by (with_reducible repeat (first | apply Kd.S_alloc | apply Kd.S_drewN | apply Kd.S_drew)); exact HO1072.out))) (Kd.R_lt (by (with_reducible repeat (first | apply Kd.R_alloc | apply Kd.R_drewN | apply Kd.R_drew)); exact HO1076.out))) (Kd.S_lt (by (with_reducible repeat (first | apply Kd.S_alloc | apply Kd.S_drewN | apply Kd.S_drew)); exact HO1079.out))) (below_size (by repeat (first | (with_reducible first | exact HB.out | apply below_alloc | apply pw_below_drewN | apply below_drew1 | refine below_set ?_ GE1065.out | refine below_set ?_ GE1080.out) | exact HB.out))))
    have n6_ := Aside0.mk (blk_below (g := gb1065) (o := .cells #[.slice A0_0 l0_0.length c0_0, .slice A0_1 l0_1.length c0_1] 64 (0, 0)) (by (with_reducible repeat (first | refine blk_drewN ?_ _ | refine blk_drew ?_ | refine blk_alloc ?_ _)); exact BK1065.out) hb)
    have n7_ := Aside0.mk (blk_below (g := gb1080) (o := .cells #[.slice Ao63 t1074.length co63, .slice Ao66 t1077.length co66] 69 (0, 0)) (by (with_reducible repeat (first | refine blk_drewN ?_ _ | refine blk_drew ?_ | refine blk_alloc ?_ _)); exact BK1080.out) hb)
    have n8_ := Aside0.mk (below_step (by repeat (first | (with_reducible first | exact HB.out | apply below_alloc | apply pw_below_drewN | apply below_drew1 | refine below_set ?_ GE1065.out | refine below_set ?_ GE1080.out) | exact HB.out)) hb)
    clear HO1069
    clear HO1072
    clear HO1076
    clear HO1079
    clear BK1065
    clear BK1080
    clear HB
    have HO1069 := n0_
    have HO1072 := n1_
    have HO1076 := n2_
    have HO1079 := n3_
    have HO1084 := n4_
    have HO1087 := n5_
    have BK1065 := n6_
    have BK1080 := n7_
    have HB := n8_
    clear n0_ n1_ n2_ n3_ n4_ n5_ n6_ n7_ n8_
    (try clear hb)
    (try clear hb2)
    (try clear hk)
    (try clear hi)
    (try clear ho0)
    (try clear ho1)
    obtain ⟨Ao70, co70, eo70⟩ := Kd.R_slice HO1084.out
    (first | subst eo70 | (injection eo70 with f1_ f2_ f3_; have f4_ := f1_.symm; have f5_ := f3_.symm; clear f1_ f2_ f3_; subst f4_; subst f5_))
    obtain ⟨Ao71, co71, eo71⟩ := Kd.S_slice HO1087.out
    (first | subst eo71 | (injection eo71 with f1_ f2_ f3_; have f4_ := f1_.symm; have f5_ := f3_.symm; clear f1_ f2_ f3_; subst f4_; subst f5_))
    refine hK.out _ _ ⟨(blk_cell BK1080.out 0).trans rfl, (blk_cell BK1080.out 1).trans rfl, (blk_cell BK1065.out 0).trans rfl, (blk_cell BK1065.out 1).trans rfl⟩ (fun hHeld => ?_)
    clear hK K
    refine norm_ (a' := ?_) ?_ ?_
    rotate_left
    ·show Act.put _ (some 24) _ = _
     simp only [Act.put, List.setIfInBounds_toArray, List.set_cons_zero, List.set_cons_succ, i64_w, i32_w]
     rfl
    refine one_ (i := 3) (N := some 25) #[true, true, true, true, false] rfl rfl (by kernel_rfl) (by decide) (fun K hK => ?_)
    refine goes_ Try.func40 (by kernel_rfl) rfl #[.agg #[.slice Ao63 t1074.length co63, .slice Ao66 t1077.length co66], .agg #[.slice Ao70 t1082.length co70, .slice Ao71 t1085.length co71]] (by rfl) rfl rfl (by (try simp only [List.map_toArray, List.map_cons, List.map_nil]); first | done | rfl | (simp only [List.length_drop, List.length_take]; rfl)) ?_
    with_reducible refine (laws_eqGuest.calls k _ _ t1074 _ _ t1077 _ _ t1082 _ _ t1085 false _ ?side1 ?side2 ?side3 ?side4 ?side5 ?side6 ?side7 ?side8 A29.out).mono ?_
    (case side1 => repeat (first | exact (Kd.R_reads' HO1076.out).2.2 | (with_reducible refine Kd.C_alloc ?_ _) | (with_reducible refine Kd.C_drewN ?_ _) | (with_reducible refine Kd.C_drew ?_)))
    (case side2 => exact (Kd.R_reads' HO1076.out).2.1)
    (case side3 => repeat (first | exact (Kd.S_reads' HO1079.out).2.2 | (with_reducible refine Kd.C_alloc ?_ _) | (with_reducible refine Kd.C_drewN ?_ _) | (with_reducible refine Kd.C_drew ?_)))
    (case side4 => exact (Kd.S_reads' HO1079.out).2.1)
    (case side5 => repeat (first | exact (Kd.R_reads' HO1084.out).2.2 | (with_reducible refine Kd.C_alloc ?_ _) | (with_reducible refine Kd.C_drewN ?_ _) | (with_reducible refine Kd.C_drew ?_)))
    (case side6 => exact (Kd.R_reads' HO1084.out).2.1)
    (case side7 => repeat (first | exact (Kd.S_reads' HO1087.out).2.2 | (with_reducible refine Kd.C_alloc ?_ _) | (with_reducible refine Kd.C_drewN ?_ _) | (with_reducible refine Kd.C_drew ?_)))
    (case side8 => exact (Kd.S_reads' HO1087.out).2.1)
    rintro e w72 ⟨rfl, hb⟩
    refine ⟨_, rfl, ?_⟩
    have n0_ := Aside0.mk (Kd.R_below (by (with_reducible repeat (first | apply Kd.R_alloc | apply Kd.R_drewN | apply Kd.R_drew)); exact HO1069.out) hb)
    have n1_ := Aside0.mk (Kd.S_below (by (with_reducible repeat (first | apply Kd.S_alloc | apply Kd.S_drewN | apply Kd.S_drew)); exact HO1072.out) hb)
    have n2_ := Aside0.mk (Kd.R_below (by (with_reducible repeat (first | apply Kd.R_alloc | apply Kd.R_drewN | apply Kd.R_drew)); exact HO1076.out) hb)
    have n3_ := Aside0.mk (Kd.S_below (by (with_reducible repeat (first | apply Kd.S_alloc | apply Kd.S_drewN | apply Kd.S_drew)); exact HO1079.out) hb)
    have n4_ := Aside0.mk (Kd.R_below (by (with_reducible repeat (first | apply Kd.R_alloc | apply Kd.R_drewN | apply Kd.R_drew)); exact HO1084.out) hb)
    have n5_ := Aside0.mk (Kd.S_below (by (with_reducible repeat (first | apply Kd.S_alloc | apply Kd.S_drewN | apply Kd.S_drew)); exact HO1087.out) hb)
    have n6_ := Aside0.mk (blk_below (g := gb1065) (o := .cells #[.slice A0_0 l0_0.length c0_0, .slice A0_1 l0_1.length c0_1] 64 (0, 0)) (by (with_reducible repeat (first | refine blk_drewN ?_ _ | refine blk_drew ?_ | refine blk_alloc ?_ _)); exact BK1065.out) hb)
    have n7_ := Aside0.mk (blk_below (g := gb1080) (o := .cells #[.slice Ao63 t1074.length co63, .slice Ao66 t1077.length co66] 69 (0, 0)) (by (with_reducible repeat (first | refine blk_drewN ?_ _ | refine blk_drew ?_ | refine blk_alloc ?_ _)); exact BK1080.out) hb)
    have n8_ := Aside0.mk (below_step (by repeat (first | (with_reducible first | exact HB.out | apply below_alloc | apply pw_below_drewN | apply below_drew1 | refine below_set ?_ GE1065.out | refine below_set ?_ GE1080.out) | exact HB.out)) hb)
    clear HO1069
    clear HO1072
    clear HO1076
    clear HO1079
    clear HO1084
    clear HO1087
    clear BK1065
    clear BK1080
    clear HB
    have HO1069 := n0_
    have HO1072 := n1_
    have HO1076 := n2_
    have HO1079 := n3_
    have HO1084 := n4_
    have HO1087 := n5_
    have BK1065 := n6_
    have BK1080 := n7_
    have HB := n8_
    clear n0_ n1_ n2_ n3_ n4_ n5_ n6_ n7_ n8_
    (try clear hb)
    (try clear hb2)
    (try clear hk)
    (try clear hi)
    refine hK.out _ _ ⟨(blk_cell BK1080.out 0).trans rfl, (blk_cell BK1080.out 1).trans rfl, (blk_cell BK1065.out 0).trans rfl, (blk_cell BK1065.out 1).trans rfl⟩ (fun hHeld => ?_)
    clear hK K
    refine norm_ (a' := ?_) ?_ ?_
    rotate_left
    ·show Act.put _ (some 25) _ = _
     simp only [Act.put, List.setIfInBounds_toArray, List.set_cons_zero, List.set_cons_succ, i64_w, i32_w]
     rfl
    refine pure_ (i := 4) (N := some 26) (v := ?_) (a' := ?_) #[true, true, true, true, true] rfl rfl (by kernel_rfl) (fun _ _ _ h => h) (Or.inl ⟨by rfl, ?_⟩) ?_ ?_
    rotate_left
    ·intro w'
     go_simp
     with_reducible rfl
    rotate_left
    ·simp only [Act.put, List.setIfInBounds_toArray, List.set_cons_zero, List.set_cons_succ, i64_w, i32_w]
     rfl
    refine done_ (by kernel_rfl) ?_
    try go_wp2
    go_ret
    exact ⟨by first | rfl | (simp [errW_none, errW_some] <;> rfl) | (simp [*, errW_none, errW_some] <;> rfl), by repeat (first | (with_reducible first | exact HB.out | apply below_alloc | apply pw_below_drewN | apply below_drew1 | refine below_set ?_ GE1065.out | refine below_set ?_ GE1080.out) | exact HB.out)⟩
/-! ### Base -/
def okI (x : Int) : Prop := (Lit.int .i64 x).wf = true
def okU8 (x : Int) : Prop := (Lit.int .u8 x).wf = true
def okB (_ : Bool) : Prop := True
def okS (x : ByteArray) : Prop := x.size ≤ maxLen
theorem w64 {n : Int} (h0 : -9223372036854775808 ≤ n) (h1 : n ≤ 9223372036854775807) : wrap64 n = n := by unfold wrap64; omega
theorem okI_iff {n : Int} (h : (Lit.int .i64 n).wf = true) : -9223372036854775808 ≤ n ∧ n ≤ 9223372036854775807 := by
  simp [Lit.wf, IntKind.min, IntKind.max, IntKind.signed, IntKind.bits] at h
  omega
theorem Ev.k {α : Type} {g : Nat → Option α} {r : α} (K : Nat) (h : ∀ k, K ≤ k → g k = some r) : Ev g r := ⟨K, h⟩
theorem ev_some {α : Type} (r : α) : Ev (fun _ => some r) r := ⟨0, fun _ _ => rfl⟩
theorem ev_of_eq {α : Type} {g : Nat → Option α} {r : α} (h : ∀ k, g k = some r) : Ev g r := ⟨0, fun k _ => h k⟩
theorem ev_bind {α β : Type} {g : Nat → Option α} {f : Nat → α → Option β} {a : α} {r : β} (h : Ev g a) (k : Ev (fun n => f n a) r) : Ev (fun n => (g n).bind (f n)) r := Ev.bind h k
theorem ev_if {α : Type} {c : Prop} [Decidable c] {g f : Nat → Option α} {r : α} (h : c → Ev g r) (h' : ¬ c → Ev f r) : Ev (fun n => if c then g n else f n) r := by
  by_cases hc : c
  · simp only [if_pos hc]; exact h hc
  · simp only [if_neg hc]; exact h' hc
theorem ev_pos {α : Type} {c : Prop} [Decidable c] {g f : Nat → Option α} {r : α} (hc : c) (h : Ev g r) : Ev (fun n => if c then g n else f n) r := by
  simp only [if_pos hc]; exact h
theorem ev_neg {α : Type} {c : Prop} [Decidable c] {g f : Nat → Option α} {r : α} (hc : ¬ c) (h : Ev f r) : Ev (fun n => if c then g n else f n) r := by
  simp only [if_neg hc]; exact h
theorem strOfNums_size (l : List Int) : (strOfNums l).size = l.length := by show (List.map _ l).toArray.size = _; simp
theorem ba_size_append (a b : ByteArray) : (a ++ b).size = a.size + b.size := by simp
theorem toList_inj {a b : ByteArray} : a.toList = b.toList ↔ a = b := by
  constructor
  · intro h
    have h1 : a.data.toList = b.data.toList := by simpa [ByteArray.toList_eq] using h
    have : a.data = b.data := Array.toList_inj.1 h1
    cases a; cases b; simp_all
  · rintro rfl; rfl
/-! ### In -/
def inB (n a b : Int) : Bool := decide (a ≤ n) && decide (n ≤ b)
theorem inB_iff {n a b : Int} : inB n a b = true ↔ a ≤ n ∧ n ≤ b := by simp [inB]
theorem inB_no {n a b : Int} : inB n a b = false ↔ ¬ (a ≤ n ∧ n ≤ b) := by rw [← inB_iff]; simp
theorem l01In_eq (n a b : Int) : spec_l01In.f n a b = some (inB n a b) := by
  unfold spec_l01In.f inB; by_cases h : a ≤ n <;> simp [h]
theorem within_eq (n a b : Int) : impl_within.f n a b = some (inB n a b) := by
  unfold impl_within.f inB; by_cases h : a ≤ n <;> simp [h]
theorem and_opt {b : Bool} {c : Option Bool} {c' : Bool} (h : c = some c') : (if b = true then c else some false) = some (b && c') := by
  cases b <;> simp [h]
/-! ### Mark -/
theorem ev_loop {α : Type} {g : Nat → Nat → Option α} {r : α} (n : Nat) (hend : Ev (fun k => g k n) r) (hstep : ∀ i, i < n → ∃ c, ∀ k, g (k + c) i = g k (i + 1) ∧ 1 ≤ c) : ∀ d i, i ≤ n → n - i = d → Ev (fun k => g k i) r := by
  intro d
  induction d with
  | zero =>
    intro i hi hd
    have e : i = n := by omega
    rw [e]; exact hend
  | succ d ih =>
    intro i hi hd
    obtain ⟨K, hK⟩ := ih (i + 1) (by omega) (by omega)
    obtain ⟨c, hc⟩ := hstep i (by omega)
    refine ⟨K + c, fun k hk => ?_⟩
    obtain ⟨m, rfl⟩ : ∃ m, k = m + c := ⟨k - c, by omega⟩
    show g (m + c) i = _
    rw [(hc m).1]; exact hK m (by omega)
theorem rdn (l : List Int) (i : Nat) (h : i < l.length) : rd l (i : Int) = l[i] := by simp [rd, h]
theorem wnext (i : Nat) (h : i < 1000000000000000000) : wrap64 ((i : Int) + 1) = ((i + 1 : Nat) : Int) := by rw [w64 (by omega) (by omega)]; omega
theorem eqIntS_ev (l : List Int) (hl : l.length ≤ 1000000000) : Ev (fun k => laws_eqIntS.f k l l) true := by
  unfold laws_eqIntS.f
  refine ev_pos rfl ?_
  refine ev_loop (g := fun k i => laws_eqIntS.l0 k l l (i : Int)) l.length ?_ ?_ l.length 0 (by omega) (by omega)
  · refine Ev.step (f := fun _ => some true) (fun k => ?_) (ev_some _)
    simp only [laws_eqIntS.l0]; rw [if_neg (by omega)]
  · intro i hi
    refine ⟨1, fun k => ⟨?_, by omega⟩⟩
    simp only [laws_eqIntS.l0]
    rw [if_pos (by omega), if_pos (by omega), if_pos (by omega), if_pos trivial, wnext i (by omega)]
/-- Consecutive numbers from a on, as many as a list has. -/
def countUp (a : Int) (n : Nat) : List Int := (List.range n).map (fun j : Nat => a + (j : Int))
theorem countUp_length (a : Int) (n : Nat) : (countUp a n).length = n := by simp [countUp]
theorem countUp_get (a : Int) (n i : Nat) (h : i < n) : (countUp a n)[i]'(by rw [countUp_length]; exact h) = a + (i : Int) := by simp [countUp]
theorem set_mid {α : Type} (l m : List α) (hlm : m.length = l.length) (i : Nat) (h : i < l.length) (x : α) (hx : m[i]'(by omega) = x) : (m.take i ++ l.drop i).set i x = m.take (i + 1) ++ l.drop (i + 1) := by
  subst hx
  rw [List.drop_eq_getElem_cons h, List.set_append_right _ _ (by rw [List.length_take]; omega)]
  have : i - (m.take i).length = 0 := by rw [List.length_take]; omega
  rw [this, List.set_cons_zero, List.take_succ_eq_append_getElem (by omega), List.append_assoc]
  rfl
/-! ### Ev -/
theorem Ev.succ {α : Type} {g : Nat → Option α} {r : α} (h : Ev (fun k => g (k + 1)) r) : Ev g r := Ev.step (f := fun k => g (k + 1)) (fun _ => rfl) h
theorem ev_all {α : Type} {g : Nat → Nat → Option Bool} (l : List α) (q : α → Bool) (r : Bool) (hend : Ev (fun k => g k l.length) r) (hstep : ∀ i (h : i < l.length) k, g (k + 1) i = if q l[i] = true then g k (i + 1) else some false) : Ev (fun k => g k 0) (l.all q && r) := by
  have hgo : ∀ d i, i ≤ l.length → l.length - i = d → Ev (fun k => g k i) ((l.drop i).all q && r) := by
    intro d
    induction d with
    | zero =>
      intro i hi hd
      have e : i = l.length := by omega
      subst e
      rw [List.drop_of_length_le (by omega)]; simp only [List.all_nil, Bool.true_and]; exact hend
    | succ d ih =>
      intro i hi hd
      have hlt : i < l.length := by omega
      refine Ev.step (f := fun k => if q l[i] = true then g k (i + 1) else some false) (hstep i hlt) ?_
      rw [List.drop_eq_getElem_cons hlt, List.all_cons]
      cases hq : q l[i]
      · simp only [Bool.false_and, Bool.false_eq_true, if_false]; exact ev_some _
      · simp only [Bool.true_and, if_true]; exact ih (i + 1) (by omega) (by omega)
  have := hgo l.length 0 (by omega) (by omega)
  rwa [List.drop_zero] at this
theorem ev_asks {α β : Type} {g : Nat → Nat → Option β} (l : List α) (q : α → Bool) (r bad : β) (hend : Ev (fun k => g k l.length) r) (hstep : ∀ i (h : i < l.length) k, g (k + 1) i = if q l[i] = true then g k (i + 1) else some bad) : Ev (fun k => g k 0) (if l.all q = true then r else bad) := by
  have hgo : ∀ d i, i ≤ l.length → l.length - i = d → Ev (fun k => g k i) (if (l.drop i).all q = true then r else bad) := by
    intro d
    induction d with
    | zero =>
      intro i hi hd
      have e : i = l.length := by omega
      subst e
      rw [List.drop_of_length_le (by omega)]; simp only [List.all_nil, if_true]; exact hend
    | succ d ih =>
      intro i hi hd
      have hlt : i < l.length := by omega
      refine Ev.step (f := fun k => if q l[i] = true then g k (i + 1) else some bad) (hstep i hlt) ?_
      rw [List.drop_eq_getElem_cons hlt, List.all_cons]
      cases hq : q l[i]
      · simp only [Bool.false_and, Bool.false_eq_true, if_false]; exact ev_some _
      · simp only [Bool.true_and, if_true]; exact ih (i + 1) (by omega) (by omega)
  have := hgo l.length 0 (by omega) (by omega)
  rwa [List.drop_zero] at this
macro "ev_step" : tactic => `(tactic| first
  | exact ev_some _
  | (refine ev_bind (by assumption) ?_; try dsimp only)
  | (refine ev_pos (by first | rfl | assumption | omega) ?_)
  | (refine ev_neg (by first | exact Bool.false_ne_true | assumption | omega) ?_))
macro "ev_go" : tactic => `(tactic| repeat ev_step)
/-! ### Compact -/
theorem compact_full (zs : List (List UInt8)) : (Lib.compact zs).length = zs.length ↔ ∀ j, j < zs.length → Lib.keeps zs.toArray j = true := by
  unfold Lib.compact Lib.compactUpTo
  rw [List.length_map]
  constructor
  · intro h j hj
    have h2 : ((List.range zs.length).filter (Lib.keeps zs.toArray)).length = (List.range zs.length).length := by rw [h, List.length_range]
    exact (List.length_filter_eq_length_iff.1 h2) j (List.mem_range.2 hj)
  · intro h
    have : ((List.range zs.length).filter (Lib.keeps zs.toArray)).length = (List.range zs.length).length := List.length_filter_eq_length_iff.2 (fun j hj => h j (List.mem_range.1 hj))
    rw [this, List.length_range]
theorem sorted_nodup (ss : List (List UInt8)) : (Lib.compact (ss.mergeSort fun x y => decide (x ≤ y))).length = ss.length ↔ ss.Nodup := by
  have hp := List.mergeSort_perm ss (fun x y => decide (x ≤ y))
  have hs : (ss.mergeSort fun x y => decide (x ≤ y)).Pairwise (fun x y => decide (x ≤ y) = true) := List.pairwise_mergeSort (fun a b c h1 h2 => by
    simp only [decide_eq_true_eq] at *; exact List.le_trans h1 h2) (fun a b => by
    simp only [Bool.or_eq_true, decide_eq_true_eq]; exact List.le_total a b) ss
  rw [← hp.nodup_iff, ← hp.length_eq, compact_full]
  generalize (ss.mergeSort fun x y => decide (x ≤ y)) = s at hs
  have hle : ∀ i j (hi : i < j) (hj : j < s.length), s[i] ≤ s[j] := fun i j hi hj => by
    have := List.pairwise_iff_getElem.1 hs i j (by omega) hj hi
    simpa using this
  constructor
  · intro h
    rw [List.nodup_iff_pairwise_ne, List.pairwise_iff_getElem]
    intro i j hi hj hij e
    have h1 := h (i + 1) (by omega)
    have h2 : s[i]'hi = s[i + 1]'(by omega) := by
      refine List.le_antisymm (hle i (i + 1) (by omega) (by omega)) ?_
      by_cases c : i + 1 = j
      · subst c; rw [e]; exact List.le_refl _
      · rw [e]; exact hle (i + 1) j (by omega) hj
    simp [Lib.keeps, h2, show i + 1 < s.length by omega, show i < s.length from hi] at h1
  · intro h j hj
    by_cases c : j = 0
    · subst c; simp [Lib.keeps]
    · have hne : s[j]'hj ≠ s[j - 1]'(by omega) := by
        intro e
        have := List.pairwise_iff_getElem.1 (List.nodup_iff_pairwise_ne.1 h) (j - 1) j (by omega) hj (by omega)
        exact this e.symm
      simp [Lib.keeps, hj, show j - 1 < s.length by omega, hne]
/-! ### SnapName -/
def nmOK (t : ByteArray) : Bool := (List.range t.size).all (fun i => inB (bt t (i : Int)) 97 122) && inB (t.size : Int) 1 6
theorem spec_Name_ev (t : ByteArray) (ht : t.size ≤ 1000000000) : Ev (fun k => spec_l10Name.f k t) (nmOK t) := by
  unfold spec_l10Name.f nmOK
  refine ev_all (g := fun k i => spec_l10Name.l0 k t (i : Int)) (List.range t.size) (fun i => inB (bt t (i : Int)) 97 122) _ ?_ ?_
  · refine Ev.step (f := fun _ => some (inB (t.size : Int) 1 6)) (fun k => ?_) (ev_some _)
    simp only [spec_l10Name.l0, l01In_eq, Option.bind_some, List.length_range]; rw [if_neg (by omega)]
  · intro i hi k
    rw [List.length_range] at hi
    simp only [spec_l10Name.l0, List.getElem_range]
    rw [if_pos (by omega), if_pos (by omega), wnext i (by omega)]
    unfold inB
    by_cases h1 : bt t (i : Int) < 97
    · rw [if_pos h1, if_neg (by simp; omega)]
    · rw [if_neg h1]
      by_cases h2 : bt t (i : Int) > 122
      · rw [if_pos h2, if_neg (by simp; omega)]
      · rw [if_neg h2, if_pos (by simp; omega)]
theorem impl_Name_ev (t : ByteArray) (ht : t.size ≤ 1000000000) : Ev (fun k => impl_snapNameOK.f k t) (nmOK t) := by
  unfold impl_snapNameOK.f nmOK
  refine ev_all (g := fun k i => impl_snapNameOK.l0 k t (t.size : Int) (i : Int)) (List.range t.size) (fun i => inB (bt t (i : Int)) 97 122) _ ?_ ?_
  · refine Ev.step (f := fun _ => some (inB (t.size : Int) 1 6)) (fun k => ?_) (ev_some _)
    simp only [impl_snapNameOK.l0, within_eq, Option.bind_some, List.length_range]; rw [if_neg (by omega)]
  · intro i hi k
    rw [List.length_range] at hi
    simp only [impl_snapNameOK.l0, List.getElem_range]
    rw [if_pos (by omega), if_pos (by omega), if_pos (by omega), wnext i (by omega)]
    unfold inB
    by_cases h1 : bt t (i : Int) < 97
    · rw [if_pos h1, if_neg (by simp; omega)]
    · rw [if_neg h1]
      by_cases h2 : bt t (i : Int) > 122
      · rw [if_pos h2, if_neg (by simp; omega)]
      · rw [if_neg h2, if_pos (by simp; omega)]
theorem ev_allO {α : Type} (p : Nat → α → Option Bool) (q : α → Bool) : ∀ l : List α, (∀ x ∈ l, Ev (fun k => p k x) (q x)) → Ev (fun k => allO (p k) l) (l.all q) := by
  intro l
  induction l with
  | nil => intro _; exact ev_some true
  | cons x xs ih =>
    intro h
    have hx := h x (by simp)
    have hxs := ih (fun y hy => h y (by simp [hy]))
    simp only [allO, List.all_cons]
    refine ev_bind hx ?_
    cases q x
    · exact ev_neg (by decide) (ev_some _)
    · exact ev_pos rfl (by simpa using hxs)
def namesOK (l : List ByteArray) : Bool := decide ((l.length : Int) ≤ 3) && (l.all nmOK && decide l.Nodup)
theorem areNames_ev (l : List ByteArray) (hl : l.length ≤ 1000000000) (hs : ∀ x ∈ l, x.size ≤ 1000000000) : Ev (fun k => impl_areNames.f k l) (namesOK l) := by
  unfold impl_areNames.f namesOK
  refine ev_pos (by omega) ?_
  by_cases h3 : (l.length : Int) ≤ 3
  · rw [decide_eq_true h3, Bool.true_and]
    refine ev_pos h3 (ev_bind (a := l.all nmOK) (by unfold all103_impl_snapNameOK.f; exact ev_allO _ _ l (fun x hx => impl_Name_ev x (hs x hx))) ?_)
    cases l.all nmOK
    · exact ev_neg (by decide) (ev_some _)
    · refine ev_pos rfl ?_
      have e : (((Lib.compact (impl_areNames_sorted l)).length : Int) == (l.length : Int)) = decide l.Nodup := by
        rw [Bool.eq_iff_iff, beq_iff_eq, decide_eq_true_eq]
        have hn : (l.map (·.data.toList)).Nodup ↔ l.Nodup := by
          have ht : ∀ a b : ByteArray, a.data.toList ≠ b.data.toList ↔ a ≠ b := fun a b => by
            constructor
            · intro h e; exact h (by rw [e])
            · intro h e; exact h (by cases a; cases b; simpa [Array.toList_inj] using e)
          unfold List.Nodup
          rw [List.pairwise_map]
          simp only [ht]
        rw [← hn, ← sorted_nodup (l.map (·.data.toList)), List.length_map]
        unfold impl_areNames_sorted
        exact Int.ofNat_inj
      rw [e, Bool.true_and]; exact ev_some _
  · rw [decide_eq_false h3, Bool.false_and]
    exact ev_neg h3 (ev_some _)
/-! ### laws_markText: function 102 -/
def laws_markText.l0 : Nat → Int → ByteArray → Option (ByteArray)
  | 0, _, _ => none
  | k + 1, x0, x3 => if x0 > 0 then ((some (([(wrap64 (48 + (Int.tmod x0 10))) % 256] : List Int) : List Int)).bind fun y238 => (if (strOfNums y238).size + x3.size ≤ 9223372036854775807 then (laws_markText.l0 k (wrap64 (Int.tdiv x0 10)) ((strOfNums y238) ++ x3)) else (none))) else (if 1 + x3.size ≤ 9223372036854775807 then (some ((⟨#[109]⟩ : ByteArray) ++ x3)) else (none))
def laws_markText.f (k : Nat) (a0 : Int) : Option (ByteArray) := if a0 ≤ 0 then (some (⟨#[109, 48]⟩ : ByteArray)) else (laws_markText.l0 k a0 (⟨#[]⟩ : ByteArray))
theorem laws_markText.mono_l : ∀ k, (∀ y0 y1, LeO (laws_markText.l0 k y0 y1) (laws_markText.l0 (k + 1) y0 y1))
  | 0 => fun _ _ r h => by simp [laws_markText.l0] at h
  | k + 1 => by
    have ih0 := laws_markText.mono_l k
    · intro y0 y1
      unfold laws_markText.l0
      repeat' first
      | (with_reducible exact ih0 _ _)
      | (with_reducible exact LeO.refl _)
      | (with_reducible exact LeO.none _)
      | (with_reducible refine LeO.ite ?_ ?_)
      | (with_reducible refine LeO.bind ?_ (fun _ => ?_))
      | exact ih0 _ _
      | exact LeO.none _
      | refine LeO.ite ?_ ?_
      | refine LeO.bind ?_ (fun _ => ?_)
theorem laws_markText.mono : ∀ a0 k, LeO (laws_markText.f k a0) (laws_markText.f (k + 1) a0) := by
  intro a0 k
  have ih0 := laws_markText.mono_l k
  unfold laws_markText.f
  repeat' first
      | (with_reducible exact ih0 _ _)
      | (with_reducible exact LeO.refl _)
      | (with_reducible exact LeO.none _)
      | (with_reducible refine LeO.ite ?_ ?_)
      | (with_reducible refine LeO.bind ?_ (fun _ => ?_))
      | exact ih0 _ _
      | exact LeO.none _
      | refine LeO.ite ?_ ?_
      | refine LeO.bind ?_ (fun _ => ?_)
set_option maxHeartbeats 8000000 in
set_option maxRecDepth 100000 in
theorem laws_markText.calls (k : Nat) (a0 : Int) (r : ByteArray) (w : World) (h : laws_markText.f k a0 = some r) :
    Calls Try.prog 102 #[.int .i64 a0] w fun e w' => e = .returned (.string r) ∧ Below w.heap.size w w' := by
  have HB := Aside0.mk (Below.refl w.heap.size w)
  have H : (if a0 ≤ 0 then (some (⟨#[109, 48]⟩ : ByteArray)) else (laws_markText.l0 k a0 (⟨#[]⟩ : ByteArray))) = some r := h
  clear h
  by_cases c2 : a0 ≤ 0
  · rw [if_pos c2] at H
    have c2b0 : decide (a0 ≤ 0) = true := decide_eq_true c2
    clear c2
    obtain rfl := Option.some.inj H
    go_enter Try.func102, Try.ntmps102
    go_wp2
    go_ret
    exact ⟨by first | rfl | (simp [errW_none, errW_some] <;> rfl) | (simp [*, errW_none, errW_some] <;> rfl), by repeat (first | (with_reducible first | exact HB.out | apply below_alloc | apply pw_below_drewN | apply below_drew1) | exact HB.out)⟩
  · rw [if_neg c2] at H
    have c2b0 : decide (a0 ≤ 0) = false := decide_eq_false c2
    clear c2
    have H' := Aside0.mk H
    clear H
    go_enter Try.func102, Try.ntmps102
    go_wp2
    go_loopg [0, 3] k (fun kq v0 v3 w' => ∃ (x0_1 : Int) (x3_1 : ByteArray), v0 = .int .i64 x0_1 ∧ v3 = .string x3_1 ∧ Aside0 (laws_markText.l0 kq x0_1 x3_1 = some r) ∧ Aside0 (kq ≤ k) ∧ Aside0 (Below w.heap.size w w'))
    case atStart => exact ⟨(a0), ((⟨#[]⟩ : ByteArray)), (by first | rfl | (simp; done) | (simp [*]; done)), (by first | rfl | (simp; done) | (simp [*]; done)), H', ⟨Nat.le_refl _⟩, ⟨by repeat (first | (with_reducible first | exact HB.out | apply below_alloc | apply pw_below_drewN | apply below_drew1) | exact HB.out)⟩⟩
    case round =>
      clear H'
      try clear c1
      try clear c2
      try clear c2b0
      try clear p2
      obtain ⟨x0_1, x3_1, rfl, rfl, HA, HK1, HB⟩ := hrel
      cases gk with
      | zero => exact absurd HA.out (by simp [laws_markText.l0])
      | succ k1 =>
        have H := HA.out
        clear HA
        simp only [laws_markText.l0] at H
        by_cases c3 : x0_1 > 0
        · rw [if_pos c3] at H
          have c3b0 : decide (0 < x0_1) = true := decide_eq_true c3
          clear c3
          obtain ⟨y238, hy238⟩ : ∃ y_ : List Int, y_ = (([(wrap64 (48 + (Int.tmod x0_1 10))) % 256] : List Int)) := ⟨_, rfl⟩
          replace H : (if (strOfNums y238).size + x3_1.size ≤ 9223372036854775807 then (laws_markText.l0 k1 (wrap64 (Int.tdiv x0_1 10)) ((strOfNums y238) ++ x3_1)) else (none)) = some r := by first | (rw [hy238]; with_reducible exact H) | (have H2_ := (Option.bind_some _ _).symm.trans H; rw [hy238]; with_reducible exact H2_) | (have H2_ := (Option.bind_some _ _).symm.trans H; with_reducible exact H2_) | with_reducible exact H | (rw [hy238]; exact H) | exact H
          have Ny238 := Aside0.mk hy238
          clear hy238
          by_cases c4 : (strOfNums y238).size + x3_1.size ≤ 9223372036854775807
          · rw [if_pos c4] at H
            have c4b0 := eq_true c4
            have c4b1 : decide ((strOfNums y238).size + x3_1.size ≤ 9223372036854775807) = true := decide_eq_true c4
            try have c4b2 : (9223372036854775807 < (strOfNums y238).size + x3_1.size) = False := eq_false (Nat.not_lt.2 c4)
            have H' := Aside0.mk H
            clear H
            go_wp2_with (first | ((with_reducible refine gate_dst (N := 12) rfl ?_); refine Kd.R_lit (Kd.int .u8) _ 5 ?hg (N := 12) ?hd (xs := ([(wrap64 (48 + (Int.tmod x0_1 10))) % 256] : List Int)) (inner := [.int .u8 ((wrap64 (48 + (Int.tmod x0_1 10))) % 256)]) (ok := fun _ => True) (okp := fun _ => True) ?hr ?hp (fun _ hk => hk) trivial (Below.refl _ _) (Nat.le_refl _) (by simp) ?_; (case hd => rfl); (case hg => rfl); (case hr => first | (go_simp; done) | (go_simp; rfl)); (case hp => exact (Reps.one (show Kd.M (Kd.int .u8) _ _ _ ((wrap64 (48 + (Int.tmod x0_1 10))) % 256) [.int .u8 ((wrap64 (48 + (Int.tmod x0_1 10))) % 256)] from rfl) (Reps.none _ _))); intro v239 w5 ho6 hb hg_ hnew_; clear hg_ hnew_; (first | rw [← Ny238.out] at ho6 | (simp only [Int.reduceToNat] at ho6; rw [← Ny238.out] at ho6)); have n0_ := Aside0.mk (Kd.R_lower ho6 (below_size (by repeat (first | (with_reducible first | exact HB.out | apply below_alloc | apply pw_below_drewN | apply below_drew1) | exact HB.out)))); have n1_ := Aside0.mk (below_step (by repeat (first | (with_reducible first | exact HB.out | apply below_alloc | apply pw_below_drewN | apply below_drew1) | exact HB.out)) hb); clear HB; have HO240 := n0_; have HB := n1_; clear n0_ n1_; clear hb ho6; have hcv7 := own_string (P := Try.prog) Try.underlying38 Try.underlying5 Try.underlying9 (Kd.own_of_R HO240.out)))
            go_roundg k1
            case measure => have := HK1.out; omega
            case rel => exact ⟨(wrap64 (Int.tdiv x0_1 10)), ((strOfNums y238) ++ x3_1), (by first | rfl | (simp; done) | (simp [*]; done)), (by first | rfl | (simp; done) | (simp [*]; done)), H', ⟨by have := HK1.out; omega⟩, ⟨by repeat (first | (with_reducible first | exact HB.out | apply below_alloc | apply pw_below_drewN | apply below_drew1) | exact HB.out)⟩⟩
          · rw [if_neg c4] at H
            exact absurd H (by simp)
        · rw [if_neg c3] at H
          have c3b0 : decide (0 < x0_1) = false := decide_eq_false c3
          clear c3
          by_cases c8 : 1 + x3_1.size ≤ 9223372036854775807
          · rw [if_pos c8] at H
            have c8b0 := eq_true c8
            have c8b1 : decide (1 + x3_1.size ≤ 9223372036854775807) = true := decide_eq_true c8
            try have c8b2 : (9223372036854775807 < 1 + x3_1.size) = False := eq_false (Nat.not_lt.2 c8)
            obtain rfl := Option.some.inj H
            go_wp2
            go_ret
            exact ⟨by first | rfl | (simp [errW_none, errW_some] <;> rfl) | (simp [*, errW_none, errW_some] <;> rfl), by repeat (first | (with_reducible first | exact HB.out | apply below_alloc | apply pw_below_drewN | apply below_drew1) | exact HB.out)⟩
          · rw [if_neg c8] at H
            exact absurd H (by simp)
/-! ### MarkT -/
theorem ev_down {α : Type} {g : Nat → Nat → Option α} {r : α} (n : Nat) (hend : Ev (fun k => g k n) r) (hstep : ∀ i, i < n → Ev (fun k => g k (i + 1)) r → Ev (fun k => g k i) r) : Ev (fun k => g k 0) r := by
  have : ∀ d i, i ≤ n → n - i = d → Ev (fun k => g k i) r := by
    intro d
    induction d with
    | zero => intro i hi hd; have e : i = n := by omega
              rw [e]; exact hend
    | succ d ih => intro i hi hd; exact hstep i (by omega) (ih (i + 1) (by omega) (by omega))
  exact this n 0 (by omega) (by omega)
theorem markText_from : ∀ (d : Nat) (x : Int) (t : ByteArray), 0 ≤ x → x.toNat ≤ d → (t.size : Int) + x ≤ 1000000000000000 → ∃ r, Ev (fun k => laws_markText.l0 k x t) r := by
  intro d
  induction d with
  | zero =>
    intro x t h0 hd hs
    have e : x = 0 := by omega
    subst e
    refine ⟨(⟨#[109]⟩ : ByteArray) ++ t, Ev.step (f := fun _ => some ((⟨#[109]⟩ : ByteArray) ++ t)) (fun k => ?_) (ev_some _)⟩
    simp only [laws_markText.l0]
    rw [if_neg (by omega), if_pos (by omega)]
  | succ d ih =>
    intro x t h0 hd hs
    by_cases hx : x > 0
    · have hq : Int.tdiv x 10 = x / 10 := Int.tdiv_eq_ediv_of_nonneg h0
      have h1 : 0 ≤ x / 10 := by omega
      have hz : (strOfNums [(wrap64 (48 + (Int.tmod x 10))) % 256]).size = 1 := by rw [strOfNums_size]; rfl
      have hz2 : ((strOfNums [(wrap64 (48 + (Int.tmod x 10))) % 256]) ++ t).size = 1 + t.size := by rw [ba_size_append, hz]
      obtain ⟨r, hr⟩ := ih (x / 10) ((strOfNums [(wrap64 (48 + (Int.tmod x 10))) % 256]) ++ t) h1 (by omega) (by rw [hz2]; omega)
      refine ⟨r, Ev.step (f := fun k => laws_markText.l0 k (x / 10) ((strOfNums [(wrap64 (48 + (Int.tmod x 10))) % 256]) ++ t)) (fun k => ?_) hr⟩
      simp only [laws_markText.l0, Option.bind_some]
      rw [if_pos hx, if_pos (by rw [hz]; omega), hq, w64 (n := x / 10) (by omega) (by omega)]
    · refine ⟨(⟨#[109]⟩ : ByteArray) ++ t, Ev.step (f := fun _ => some ((⟨#[109]⟩ : ByteArray) ++ t)) (fun k => ?_) (ev_some _)⟩
      simp only [laws_markText.l0]
      rw [if_neg hx, if_pos (by omega)]
theorem markText_total (n : Int) (h : n ≤ 100000000000000) : ∃ r, Ev (fun k => laws_markText.f k n) r := by
  unfold laws_markText.f
  by_cases hn : n ≤ 0
  · exact ⟨_, ev_pos hn (ev_some _)⟩
  · obtain ⟨r, hr⟩ := markText_from n.toNat n (⟨#[]⟩ : ByteArray) (by omega) (by omega) (by show ((0 : Nat) : Int) + n ≤ _; omega)
    exact ⟨r, ev_neg hn hr⟩
open Classical in
noncomputable def mText (n : Int) : ByteArray := if h : ∃ r, Ev (fun k => laws_markText.f k n) r then h.choose else ByteArray.empty
theorem mText_ev (n : Int) (h : n ≤ 100000000000000) : Ev (fun k => laws_markText.f k n) (mText n) := by
  have := markText_total n h
  unfold mText
  rw [dif_pos this]; exact this.choose_spec
/-! ### Ints -/
theorem szIntS_eq (l : List Int) (hl : l.length ≤ maxLen) (a : Int) (h0 : 0 ≤ a) (ha : a ≤ 1048576) : laws_szIntS.f l a = some (if a - (l.length : Int) < 0 then -1 else a - (l.length : Int)) := by
  have hM : maxLen = 9223372036854775807 := rfl
  unfold laws_szIntS.f
  rw [w64 (n := a - (l.length : Int)) (by omega) (by omega)]
  split <;> rfl
theorem toIntS_ev (l : List Int) (hl : l.length ≤ 1048576) : Ev (fun k => laws_toIntS.f k l) l := by
  unfold laws_toIntS.f
  refine ev_pos (by omega) (ev_pos (by omega) ?_)
  rw [Int.toNat_natCast]
  have hc : l.length = (List.replicate l.length (0 : Int)).length := by simp
  have h := ev_loop (g := fun k i => laws_toIntS.l0 k l (l.take i ++ (List.replicate l.length (0 : Int)).drop i) (i : Int)) (r := l) l.length ?_ ?_ l.length 0 (by omega) (by omega)
  · simpa using h
  · refine Ev.step (f := fun _ => some l) (fun k => ?_) (ev_some _)
    simp only [laws_toIntS.l0]
    rw [if_neg (by omega), List.drop_of_length_le (by simp), List.take_of_length_le (by simp)]; simp
  · intro i hi
    refine ⟨1, fun k => ⟨?_, by omega⟩⟩
    simp only [laws_toIntS.l0]
    have hlen : (l.take i ++ (List.replicate l.length (0 : Int)).drop i).length = l.length := by simp; omega
    rw [if_pos (by omega), if_pos (by omega), if_pos (by rw [hlen]; omega), rdn l i hi, Int.toNat_natCast, set_mid _ _ hc i (by simpa using hi) _ rfl, wnext i (by omega)]
/-! ### Shot -/
theorem rdE_Shot (l : List S117) (i : Nat) (h : i < l.length) : rd_T117 l (i : Int) = l[i] := by simp [rd_T117, h]
theorem rdP_Shot (l : List S155) (i : Nat) (h : i < l.length) : rd_T155 l (i : Int) = l[i] := by simp [rd_T155, h]
def cvShot (x : S155) : S117 := ⟨x.f0, x.f1⟩
theorem szShot_le (x : S155) (h0 : x.f0.size ≤ maxLen) (h1 : x.f1.length ≤ maxLen) (a : Int) (ha0 : 0 ≤ a) (ha : a ≤ 1048576) : ∃ s, laws_szShot.f x.f0 x.f1 a = some s ∧ (s < 0 ∨ (0 ≤ s ∧ s ≤ a ∧ (x.f0.size : Int) ≤ a ∧ (x.f1.length : Int) ≤ a)) := by
  have hM : maxLen = 9223372036854775807 := rfl
  unfold laws_szShot.f
  rw [w64 (n := a - (x.f0.size : Int)) (by omega) (by omega)]
  by_cases c : a - (x.f0.size : Int) < 0
  · rw [if_pos c]; exact ⟨-1, rfl, Or.inl (by omega)⟩
  · rw [if_neg c, szIntS_eq x.f1 h1 _ (by omega) (by omega), Option.bind_some]
    by_cases c2 : a - (x.f0.size : Int) - (x.f1.length : Int) < 0
    · rw [if_pos c2, if_pos (by omega)]; exact ⟨-1, rfl, Or.inl (by omega)⟩
    · rw [if_neg c2, if_neg c2]; exact ⟨_, rfl, Or.inr ⟨by omega, by omega, by omega, by omega⟩⟩
theorem szShotS_from (l : List S155) (hs : ∀ x ∈ l, x.f0.size ≤ maxLen ∧ x.f1.length ≤ maxLen) (hl : l.length ≤ 1048576) : ∀ d i (x : Int), 0 ≤ x → x ≤ 1048576 → i ≤ l.length → l.length - i = d → ∃ s, Ev (fun k => laws_szShotS.l0 k l x (i : Int)) s ∧ (s < 0 ∨ (s ≤ x ∧ 0 ≤ s ∧ ∀ j (h : j < l.length), i ≤ j → (l[j].f0.size : Int) ≤ x ∧ (l[j].f1.length : Int) ≤ x)) := by
  intro d
  induction d with
  | zero =>
    intro i x h0 hx hi hd
    refine ⟨x, Ev.step (f := fun _ => some x) (fun k => ?_) (ev_some _), Or.inr ⟨by omega, h0, fun j hj hij => absurd hj (by omega)⟩⟩
    simp only [laws_szShotS.l0]; rw [if_neg (by omega)]
  | succ d ih =>
    intro i x h0 hx hi hd
    have hlt : i < l.length := by omega
    have hz := hs l[i] (List.getElem_mem hlt)
    obtain ⟨s, e, hb⟩ := szShot_le l[i] hz.1 hz.2 x h0 hx
    by_cases hc : s < 0
    · refine ⟨-1, Ev.step (f := fun _ => some (-1)) (fun k => ?_) (ev_some _), Or.inl (by omega)⟩
      simp only [laws_szShotS.l0]
      rw [if_pos (by omega), if_pos (by omega), rdP_Shot l i hlt, e, Option.bind_some, if_pos hc]
    · rcases hb with hb | ⟨b0, b1, b2, b3⟩
      · exact absurd hb hc
      · obtain ⟨s', h1, h2⟩ := ih (i + 1) s b0 (by omega) (by omega) (by omega)
        refine ⟨s', Ev.step (f := fun k => laws_szShotS.l0 k l s ((i + 1 : Nat) : Int)) (fun k => ?_) h1, ?_⟩
        · simp only [laws_szShotS.l0]
          rw [if_pos (by omega), if_pos (by omega), rdP_Shot l i hlt, e, Option.bind_some, if_neg hc, wnext i (by omega)]
        · rcases h2 with h2 | ⟨h2, h3, h4⟩
          · exact Or.inl h2
          · refine Or.inr ⟨by omega, h3, fun j hj hij => ?_⟩
            rcases Nat.eq_or_lt_of_le hij with e' | e'
            · subst e'; exact ⟨b2, b3⟩
            · have := h4 j hj e'; omega
theorem szShotS_ev (l : List S155) (hs : ∀ x ∈ l, x.f0.size ≤ maxLen ∧ x.f1.length ≤ maxLen) (hm : l.length ≤ maxLen) (a : Int) (h0 : 0 ≤ a) (ha : a ≤ 1048576) : ∃ s, Ev (fun k => laws_szShotS.f k l a) s ∧ (s < 0 ∨ (s ≤ a ∧ 0 ≤ s ∧ (l.length : Int) ≤ a ∧ ∀ x ∈ l, (x.f0.size : Int) ≤ a ∧ (x.f1.length : Int) ≤ a)) := by
  have hM : maxLen = 9223372036854775807 := rfl
  unfold laws_szShotS.f
  rw [w64 (n := a - (l.length : Int)) (by omega) (by omega)]
  by_cases hc : a - (l.length : Int) < 0
  · exact ⟨-1, ev_pos hc (ev_some _), Or.inl (by omega)⟩
  · obtain ⟨s, h1, h2⟩ := szShotS_from l hs (by omega) l.length 0 (a - (l.length : Int)) (by omega) (by omega) (by omega) (by omega)
    refine ⟨s, ev_neg hc h1, ?_⟩
    rcases h2 with h2 | ⟨h2, h3, h4⟩
    · exact Or.inl h2
    · refine Or.inr ⟨by omega, h3, by omega, fun x hx => ?_⟩
      obtain ⟨j, hj, rfl⟩ := List.getElem_of_mem hx
      have := h4 j hj (by omega); omega
theorem toShotS_ev (l : List S155) (hl : l.length ≤ 1048576) (hs : ∀ x ∈ l, x.f1.length ≤ 1048576) : Ev (fun k => laws_toShotS.f k l) (l.map cvShot) := by
  unfold laws_toShotS.f
  refine ev_pos (by omega) (ev_pos (by omega) ?_)
  rw [Int.toNat_natCast]
  have hc : (l.map cvShot).length = (List.replicate l.length z117).length := by simp
  have h := ev_down (g := fun k i => laws_toShotS.l0 k l ((l.map cvShot).take i ++ (List.replicate l.length z117).drop i) (i : Int)) (r := l.map cvShot) l.length ?_ ?_
  · simpa using h
  · refine Ev.step (f := fun _ => some (l.map cvShot)) (fun k => ?_) (ev_some _)
    simp only [laws_toShotS.l0]
    rw [if_neg (by omega), List.drop_of_length_le (by simp), List.take_of_length_le (by simp)]; simp
  · intro i hi h
    have hlen : ((l.map cvShot).take i ++ (List.replicate l.length z117).drop i).length = l.length := by simp; omega
    refine Ev.succ ?_
    simp only [laws_toShotS.l0, laws_toShot.f, rdP_Shot l i hi]
    refine ev_pos (by omega) (ev_pos (by omega) (ev_bind (ev_bind (toIntS_ev l[i].f1 (hs _ (List.getElem_mem hi))) (ev_some _)) (ev_pos (by rw [hlen]; omega) ?_)))
    rw [Int.toNat_natCast, set_mid _ _ hc i (by simpa using hi) _ (by simp [cvShot]), wnext i (by omega)]
    exact h
theorem eqShotS_ev (l : List S117) (hl : l.length ≤ 1000000000) (hs : ∀ x ∈ l, x.f1.length ≤ 1000000000) : Ev (fun k => laws_eqShotS.f k l l) true := by
  unfold laws_eqShotS.f
  refine ev_pos rfl ?_
  refine ev_down (g := fun k i => laws_eqShotS.l0 k l l (i : Int)) l.length ?_ ?_
  · refine Ev.step (f := fun _ => some true) (fun k => ?_) (ev_some _)
    simp only [laws_eqShotS.l0]; rw [if_neg (by omega)]
  · intro i hi h
    refine Ev.succ ?_
    simp only [laws_eqShotS.l0, laws_eqShot.f, rdE_Shot l i hi, wnext i (show i < 1000000000000000000 by omega), if_true]
    exact ev_pos (by omega) (ev_pos (by omega) (ev_pos (by omega) (ev_bind (ev_bind (eqIntS_ev _ (hs _ (List.getElem_mem hi))) (ev_pos rfl (ev_some _))) (ev_pos rfl h))))
end Go.Proofs.Ytbojcpgfkppkbaa.Q
