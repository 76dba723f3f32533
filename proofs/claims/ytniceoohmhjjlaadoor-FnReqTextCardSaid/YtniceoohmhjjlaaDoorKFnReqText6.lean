/- What laws.FnReqText reaches, part 6: the functions as Lean functions, the proofs that the program's functions answer so, and plain laws about them. -/
import Derived.Test.YtniceoohmhjjlaaDoorKFnReqText1
import Derived.Test.YtniceoohmhjjlaaDoorKFnReqText4
import Derived.Test.YtniceoohmhjjlaaDoorKFnReqText5
namespace Go.Proofs.YtniceoohmhjjlaaDoor.Q
open Go.RowKit Go.Proofs.YtniceoohmhjjlaaDoor.Ext Go.Proofs.YtniceoohmhjjlaaDoorW.PrintWords Go.Proofs.YtniceoohmhjjlaaDoorW.PrintLast Go.Proofs.YtniceoohmhjjlaaDoorW.PrintMore
attribute [local go_sem] max2_int min2_int max_two min_two max_three min_three max_four min_four   -- for this text's walks alone
set_option linter.unusedVariables false
set_option linter.unusedSimpArgs false

set_option linter.unusedVariables false
set_option linter.unusedSimpArgs false
/-! ### spec_l00Src_byte: function 99 -/
def spec_l00Src_byte.f (s0_0 : List Int) (s0_1 : Int) (s0_2 : Int) : Option (Int × Int × Int) := if (wrap64 (s0_1 + 1)) ≤ (s0_0.length : Int) then (if 0 ≤ (wrap64 ((wrap64 (s0_1 + 1)) - 1)) then (if (wrap64 ((wrap64 (s0_1 + 1)) - 1)) < (s0_0.length : Int) then (some (wrap64 (rd s0_0 (wrap64 ((wrap64 (s0_1 + 1)) - 1))), wrap64 (s0_1 + 1), Int.tmod (wrap64 ((wrap64 ((wrap64 (s0_2 * 31)) + (wrap64 (rd s0_0 (wrap64 ((wrap64 (s0_1 + 1)) - 1)))))) + 7)) 2147483648)) else (none)) else (none)) else (if (wrap64 (s0_1 + 1)) > 3000 then (some (0, wrap64 (s0_1 + 1), s0_2)) else (some (Int.tmod (wrap64 (Int.tdiv (Int.tmod (wrap64 ((wrap64 (s0_2 * 1103515245)) + 12345)) 2147483648) 65536)) 256, wrap64 (s0_1 + 1), Int.tmod (wrap64 ((wrap64 (s0_2 * 1103515245)) + 12345)) 2147483648)))
set_option maxHeartbeats 8000000 in
set_option maxRecDepth 100000 in
theorem spec_l00Src_byte.calls (g : Nat) (s0_0 : List Int) (s0_1 : Int) (s0_2 : Int) (r1 : Int) (r2 : Int) (r3 : Int) (w0 w : World) (hI : IsS95 w0 w g s0_0 s0_1 s0_2) (hB : Below w0.heap.size w0 w) (h : spec_l00Src_byte.f s0_0 s0_1 s0_2 = some (r1, r2, r3)) :
    Calls Tryd.prog 99 #[.pointer (some ⟨g, 0, none⟩)] w fun e w' => e = .returned (.int .i64 r1) ∧ IsS95 w0 w' g s0_0 r2 r3 ∧ Below w0.heap.size w0 w' ∧ KeepBut w w' g none := by
 have hu95 := Tryd.underlying95
 obtain ⟨A, c, hb, hge, hr⟩ := hI
 have hc1 := cellS95_1 hb
 have hf1 := blk_frozen hb 1
 have hb1 : (w.setCell ⟨g, 1, none⟩ (.int .i64 (wrap64 (s0_1 + 1)))).heap[g]? = some (.cells #[.slice A s0_0.length c, .int .i64 (wrap64 (s0_1 + 1)), .int .i64 s0_2] 95 (0, 0)) := by simpa using blk_set hb 1 _
 have hk1 : KeepBut w (w.setCell ⟨g, 1, none⟩ (.int .i64 (wrap64 (s0_1 + 1)))) g none := KeepBut.set_ (KeepBut.refl w g none) 1 _
 have hB1 : Below w0.heap.size w0 (w.setCell ⟨g, 1, none⟩ (.int .i64 (wrap64 (s0_1 + 1)))) := below_set hB hge
 have HH := zm h
 clear h
 have HR := zm hr
 clear hr
 go_enter Tryd.func99, Tryd.ntmps99
 go_wp2
 generalize w.setCell ⟨g, 1, none⟩ (.int .i64 (wrap64 (s0_1 + 1))) = w1 at hb1 hk1 hB1 ⊢
 generalize hx : wrap64 (s0_1 + 1) = x at hb1 ⊢
 clear hb hc1 hf1
 have hd0 := cellS95_0 hb1
 have hd1 := cellS95_1 hb1
 have hd2 := cellS95_2 hb1
 have hf2 := blk_frozen hb1 2
 have H := HH.out
 clear HH
 unfold spec_l00Src_byte.f at H
 rw [hx] at H
 by_cases p1 : x ≤ (s0_0.length : Int)
 ·rw [if_pos p1] at H
  by_cases p2 : 0 ≤ wrap64 (x - 1)
  ·rw [if_pos p2] at H
   by_cases p3 : wrap64 (x - 1) < (s0_0.length : Int)
   ·rw [if_pos p3] at H
    obtain ⟨ad, ha, hv⟩ := Kd.at_int HR.out (wrap64 (x - 1)) p2 p3
    subst ha
    have hv1 := pw_cell_below hB1 hv
    have hd : decide (x ≤ (s0_0.length : Int)) = true := decide_eq_true p1
    go_quiet (fail)
    go_wp2
    refine wp_region_still_tail 21 (by kernel_rfl) (by kernel_rfl) ?_
    simp only [List.take_succ_cons, List.take_zero, List.drop_succ_cons, List.drop_zero]
    change wpStill _ _ (w1.drewN nq).drew (fun a' => wpList _ _ _ _ a' (w1.drewN nq).drew) _ _
    have hb3 : (w1.drewN nq).drew.heap[g]? = some (.cells #[.slice (some ad) s0_0.length c, .int .i64 x, .int .i64 s0_2] 95 (0, 0)) := hb1
    have hv3 : (w1.drewN nq).drew.cell? (ad.add (wrap64 (x - 1)).toNat) = some (.int .u8 (rd s0_0 (wrap64 (x - 1)))) := hv1
    have hB3 : Below w0.heap.size w0 (w1.drewN nq).drew := below_drew1 (pw_below_drewN hB1 _)
    have hk3 : KeepBut w (w1.drewN nq).drew g none := keep_drew (keep_drewN hk1 _)
    generalize hw3 : (w1.drewN nq).drew = w3 at hb3 hv3 hB3 hk3 ⊢
    have he0 := cellS95_0 hb3
    have he1 := cellS95_1 hb3
    have he2 := cellS95_2 hb3
    have hf3 := blk_frozen hb3 2
    have ew : IntKind.i64.wrap (x - 1) = wrap64 (x - 1) := i64_w _
    generalize wrap64 (x - 1) = y at p2 p3 H hv hv1 hv3 ew
    repeat still_step
    refine wpStill_nil ?_
    go_wp2
    injection H with H
    injection H with H1 H2
    injection H2 with H2 H3
    subst H1 H2
    rw [H3]
    clear H3
    have hb4 : (w3.setCell ⟨g, 2, none⟩ (.int .i64 r3)).heap[g]? = some (.cells #[.slice (some ad) s0_0.length c, .int .i64 x, .int .i64 r3] 95 (0, 0)) := by simpa using blk_set hb3 2 _
    have hk4 : KeepBut w (w3.setCell ⟨g, 2, none⟩ (.int .i64 r3)) g none := KeepBut.set_ hk3 2 _
    have hB4 : Below w0.heap.size w0 (w3.setCell ⟨g, 2, none⟩ (.int .i64 r3)) := below_set hB3 hge
    generalize w3.setCell ⟨g, 2, none⟩ (.int .i64 r3) = w4 at hb4 hk4 hB4 ⊢
    clear he0 he1 he2 hf3 hv3 hv1 hd0 hd1 hd2 hf2 hb3 hb1 hk1 hB1
    have hv4 := pw_cell_below hB4 hv
    have he0 := cellS95_0 hb4
    have he1 := cellS95_1 hb4
    go_quiet (fail)
    go_wp2
    go_ret
    exact ⟨(by rw [i64_w]; rfl), ⟨_, _, hb4, hge, HR.out⟩, pw_below_drewN hB4 _, keep_drewN hk4 _⟩
   ·rw [if_neg p3] at H; cases H
  ·rw [if_neg p2] at H; cases H
 ·rw [if_neg p1] at H
  have hd : decide (x ≤ (s0_0.length : Int)) = false := decide_eq_false p1
  go_quiet (fail)
  have hb3 : (w1.drewN nq).heap[g]? = some (.cells #[.slice A s0_0.length c, .int .i64 x, .int .i64 s0_2] 95 (0, 0)) := hb1
  have hB3 : Below w0.heap.size w0 (w1.drewN nq) := (pw_below_drewN hB1 _)
  have hk3 : KeepBut w (w1.drewN nq) g none := (keep_drewN hk1 _)
  generalize hw3 : (w1.drewN nq) = w3 at hb3 hB3 hk3 ⊢
  clear hd0 hd1 hd2 hf2
  have he0 := cellS95_0 hb3
  have he1 := cellS95_1 hb3
  have he2 := cellS95_2 hb3
  have hf3 := blk_frozen hb3 2
  by_cases p4 : x > 3000
  ·rw [if_pos p4] at H
   have hd' : decide (x > 3000) = true := decide_eq_true p4
   injection H with H
   injection H with H1 H2
   injection H2 with H2 H3
   subst H1 H2 H3
   go_wp2
   go_ret
   exact ⟨rfl, ⟨_, _, hb3, hge, HR.out⟩, hB3, hk3⟩
  ·rw [if_neg p4] at H
   have hd' : decide (x > 3000) = false := decide_eq_false p4
   injection H with H
   injection H with H1 H2
   injection H2 with H2 H3
   subst H1 H2 H3
   go_wp2
   go_ret
   exact ⟨by first | rfl | (simp only [i64_w]; rfl), ⟨_, _, by simpa [World.drewN, World.drew] using blk_set hb3 2 _, hge, HR.out⟩, below_set hB3 hge, KeepBut.set_ hk3 2 _⟩
/-! ### spec_l00Src_next: function 74 -/
def spec_l00Src_next.f (s0_0 : List Int) (s0_1 : Int) (s0_2 : Int) (a1 : Int) : Option (Int × Int × Int) := if a1 ≤ 1 then (some (0, s0_1, s0_2)) else (if a1 ≤ 256 then ((spec_l00Src_byte.f s0_0 s0_1 s0_2).bind fun bt245 => (if a1 = 0 then (none) else (some (Int.tmod bt245.1 a1, bt245.2.1, bt245.2.2)))) else ((spec_l00Src_byte.f s0_0 s0_1 s0_2).bind fun bt248 => ((spec_l00Src_byte.f s0_0 bt248.2.1 bt248.2.2).bind fun bt251 => ((spec_l00Src_byte.f s0_0 bt251.2.1 bt251.2.2).bind fun bt254 => (if a1 = 0 then (none) else (some (Int.tmod (wrap64 ((wrap64 ((wrap64 (bt248.1 * 65536)) + (wrap64 (bt251.1 * 256)))) + bt254.1)) a1, bt254.2.1, bt254.2.2)))))))
set_option maxHeartbeats 8000000 in
set_option maxRecDepth 100000 in
theorem spec_l00Src_next.calls (g : Nat) (s0_0 : List Int) (s0_1 : Int) (s0_2 : Int) (a1 : Int) (r1 : Int) (r2 : Int) (r3 : Int) (w0 w : World) (hI : IsS95 w0 w g s0_0 s0_1 s0_2) (hB : Below w0.heap.size w0 w) (h : spec_l00Src_next.f s0_0 s0_1 s0_2 a1 = some (r1, r2, r3)) :
    Calls Tryd.prog 74 #[.pointer (some ⟨g, 0, none⟩), .int .i64 a1] w fun e w' => e = .returned (.int .i64 r1) ∧ IsS95 w0 w' g s0_0 r2 r3 ∧ Below w0.heap.size w0 w' ∧ KeepBut w w' g none := by
 have HI0 := zm hI
 have HK := zm (KeepBut.refl w g none)
 have HL := zm hB.size
 clear hI
 have HW0 := zm hB.size
 have HB := zm hB
 clear hB
 have H : (if a1 ≤ 1 then (some (0, s0_1, s0_2)) else (if a1 ≤ 256 then ((spec_l00Src_byte.f s0_0 s0_1 s0_2).bind fun bt245 => (if a1 = 0 then (none) else (some (Int.tmod bt245.1 a1, bt245.2.1, bt245.2.2)))) else ((spec_l00Src_byte.f s0_0 s0_1 s0_2).bind fun bt248 => ((spec_l00Src_byte.f s0_0 bt248.2.1 bt248.2.2).bind fun bt251 => ((spec_l00Src_byte.f s0_0 bt251.2.1 bt251.2.2).bind fun bt254 => (if a1 = 0 then (none) else (some (Int.tmod (wrap64 ((wrap64 ((wrap64 (bt248.1 * 65536)) + (wrap64 (bt251.1 * 256)))) + bt254.1)) a1, bt254.2.1, bt254.2.2)))))))) = some (r1, r2, r3) := h
 clear h
 by_cases c3 : a1 ≤ 1
 ·rw [if_pos c3] at H
  have c3b0 : decide (a1 ≤ 1) = true := decide_eq_true c3
  clear c3
  simp only [Option.some.injEq, Prod.mk.injEq] at H
  obtain ⟨rfl, rfl, rfl⟩ := H
  go_enter Tryd.func74, Tryd.ntmps74
  go_wp2
  go_ret
  exact ⟨by first | rfl | (simp [errW_none, errW_some] <;> rfl) | (simp [*, errW_none, errW_some] <;> rfl), zg_6 HI0.out, zg_7 HB.out HI0.out, zg_5 HK.out⟩
 ·rw [if_neg c3] at H
  have c3b0 : decide (a1 ≤ 1) = false := decide_eq_false c3
  clear c3
  by_cases c4 : a1 ≤ 256
  ·rw [if_pos c4] at H
   have c4b0 : decide (a1 ≤ 256) = true := decide_eq_true c4
   clear c4
   replace H := Option.bind_eq_some_iff.mp H
   obtain ⟨⟨t245, t246, t247⟩, A50, H⟩ := H
   replace H : (if a1 = 0 then (none) else (some (Int.tmod t245 a1, t246, t247))) = some (r1, r2, r3) := H
   have A5 := zm A50
   clear A50
   by_cases c6 : a1 = 0
   ·rw [if_pos c6] at H
    exact absurd H (by simp)
   ·rw [if_neg c6] at H
    have c6b0 : (a1 == 0) = false := beq_eq_false_iff_ne.mpr c6
    have c6b1 : (a1 != 0) = true := bne_iff_ne.mpr c6
    simp only [Option.some.injEq, Prod.mk.injEq] at H
    obtain ⟨rfl, rfl, rfl⟩ := H
    go_enter Tryd.func74, Tryd.ntmps74
    go_wp2_with (first | ((with_reducible refine gate_callee (f := 99) rfl ?_); refine goesL_ (some 13) rfl rfl Tryd.func99 (by kernel_rfl) rfl #[.pointer (some ⟨g, 0, none⟩)] rfl zq ?_; (with_reducible refine (spec_l00Src_byte.calls g s0_0 s0_1 s0_2 t245 t246 t247 w0 _ ?side1 ?side2 A5.out).mono ?_); (case side1 => repeat (first | (with_reducible first | exact HI0.out | apply IsS95.alloc | apply IsS95.drewN | apply IsS95.drew | apply IsS95.set_1 | apply IsS95.set_2) | exact HI0.out)); (case side2 => repeat (first | (with_reducible first | exact HB.out | apply below_alloc | apply pw_below_drewN | apply below_drew1 | refine below_set ?_ (IsS95.ge HI0.out)) | exact HB.out)); rintro e w7 ⟨rfl, hi, hb, hk⟩; refine ⟨_, rfl, ?_⟩; have n0_ := zm (KeepBut.trans (zg_5 HK.out) hk (.inl rfl)); have n1_ := zm (hb); have n2_ := zm (hi); clear HK; clear HB; clear HI0; have HK := n0_; have HB := n1_; have HI0 := n2_; clear n0_ n1_ n2_; (try clear hb); (try clear hb2); (try clear hk); (try clear hi)))
    go_ret
    exact ⟨by first | rfl | (simp [errW_none, errW_some] <;> rfl) | (simp [*, errW_none, errW_some] <;> rfl), zg_6 HI0.out, zg_7 HB.out HI0.out, zg_5 HK.out⟩
  ·rw [if_neg c4] at H
   have c4b0 : decide (a1 ≤ 256) = false := decide_eq_false c4
   clear c4
   replace H := Option.bind_eq_some_iff.mp H
   obtain ⟨⟨t248, t249, t250⟩, A80, H⟩ := H
   replace H : ((spec_l00Src_byte.f s0_0 t249 t250).bind fun bt251 => ((spec_l00Src_byte.f s0_0 bt251.2.1 bt251.2.2).bind fun bt254 => (if a1 = 0 then (none) else (some (Int.tmod (wrap64 ((wrap64 ((wrap64 (t248 * 65536)) + (wrap64 (bt251.1 * 256)))) + bt254.1)) a1, bt254.2.1, bt254.2.2))))) = some (r1, r2, r3) := H
   have A8 := zm A80
   clear A80
   replace H := Option.bind_eq_some_iff.mp H
   obtain ⟨⟨t251, t252, t253⟩, A90, H⟩ := H
   replace H : ((spec_l00Src_byte.f s0_0 t252 t253).bind fun bt254 => (if a1 = 0 then (none) else (some (Int.tmod (wrap64 ((wrap64 ((wrap64 (t248 * 65536)) + (wrap64 (t251 * 256)))) + bt254.1)) a1, bt254.2.1, bt254.2.2)))) = some (r1, r2, r3) := H
   have A9 := zm A90
   clear A90
   replace H := Option.bind_eq_some_iff.mp H
   obtain ⟨⟨t254, t255, t256⟩, A100, H⟩ := H
   replace H : (if a1 = 0 then (none) else (some (Int.tmod (wrap64 ((wrap64 ((wrap64 (t248 * 65536)) + (wrap64 (t251 * 256)))) + t254)) a1, t255, t256))) = some (r1, r2, r3) := H
   have A10 := zm A100
   clear A100
   by_cases c11 : a1 = 0
   ·rw [if_pos c11] at H
    exact absurd H (by simp)
   ·rw [if_neg c11] at H
    have c11b0 : (a1 == 0) = false := beq_eq_false_iff_ne.mpr c11
    have c11b1 : (a1 != 0) = true := bne_iff_ne.mpr c11
    simp only [Option.some.injEq, Prod.mk.injEq] at H
    obtain ⟨rfl, rfl, rfl⟩ := H
    go_enter Tryd.func74, Tryd.ntmps74
    go_wp2_with (first | ((with_reducible refine gate_callee (f := 99) rfl ?_); refine goesL_ (some 17) rfl rfl Tryd.func99 (by kernel_rfl) rfl #[.pointer (some ⟨g, 0, none⟩)] rfl zq ?_; (with_reducible refine (spec_l00Src_byte.calls g s0_0 s0_1 s0_2 t248 t249 t250 w0 _ ?side1 ?side2 A8.out).mono ?_); (case side1 => repeat (first | (with_reducible first | exact HI0.out | apply IsS95.alloc | apply IsS95.drewN | apply IsS95.drew | apply IsS95.set_1 | apply IsS95.set_2) | exact HI0.out)); (case side2 => repeat (first | (with_reducible first | exact HB.out | apply below_alloc | apply pw_below_drewN | apply below_drew1 | refine below_set ?_ (IsS95.ge HI0.out)) | exact HB.out)); rintro e w12 ⟨rfl, hi, hb, hk⟩; refine ⟨_, rfl, ?_⟩; have n0_ := zm (KeepBut.trans (zg_5 HK.out) hk (.inl rfl)); have n1_ := zm (hb); have n2_ := zm (hi); clear HK; clear HB; clear HI0; have HK := n0_; have HB := n1_; have HI0 := n2_; clear n0_ n1_ n2_; (try clear hb); (try clear hb2); (try clear hk); (try clear hi)) | ((with_reducible refine gate_callee (f := 99) rfl ?_); refine goesL_ (some 19) rfl rfl Tryd.func99 (by kernel_rfl) rfl #[.pointer (some ⟨g, 0, none⟩)] rfl zq ?_; (with_reducible refine (spec_l00Src_byte.calls g s0_0 t249 t250 t251 t252 t253 w0 _ ?side1 ?side2 A9.out).mono ?_); (case side1 => repeat (first | (with_reducible first | exact HI0.out | apply IsS95.alloc | apply IsS95.drewN | apply IsS95.drew | apply IsS95.set_1 | apply IsS95.set_2) | exact HI0.out)); (case side2 => repeat (first | (with_reducible first | exact HB.out | apply below_alloc | apply pw_below_drewN | apply below_drew1 | refine below_set ?_ (IsS95.ge HI0.out)) | exact HB.out)); rintro e w13 ⟨rfl, hi, hb, hk⟩; refine ⟨_, rfl, ?_⟩; have n0_ := zm (KeepBut.trans (zg_5 HK.out) hk (.inl rfl)); have n1_ := zm (hb); have n2_ := zm (hi); clear HK; clear HB; clear HI0; have HK := n0_; have HB := n1_; have HI0 := n2_; clear n0_ n1_ n2_; (try clear hb); (try clear hb2); (try clear hk); (try clear hi)) | ((with_reducible refine gate_callee (f := 99) rfl ?_); refine goesL_ (some 21) rfl rfl Tryd.func99 (by kernel_rfl) rfl #[.pointer (some ⟨g, 0, none⟩)] rfl zq ?_; (with_reducible refine (spec_l00Src_byte.calls g s0_0 t252 t253 t254 t255 t256 w0 _ ?side1 ?side2 A10.out).mono ?_); (case side1 => repeat (first | (with_reducible first | exact HI0.out | apply IsS95.alloc | apply IsS95.drewN | apply IsS95.drew | apply IsS95.set_1 | apply IsS95.set_2) | exact HI0.out)); (case side2 => repeat (first | (with_reducible first | exact HB.out | apply below_alloc | apply pw_below_drewN | apply below_drew1 | refine below_set ?_ (IsS95.ge HI0.out)) | exact HB.out)); rintro e w14 ⟨rfl, hi, hb, hk⟩; refine ⟨_, rfl, ?_⟩; have n0_ := zm (KeepBut.trans (zg_5 HK.out) hk (.inl rfl)); have n1_ := zm (hb); have n2_ := zm (hi); clear HK; clear HB; clear HI0; have HK := n0_; have HB := n1_; have HI0 := n2_; clear n0_ n1_ n2_; (try clear hb); (try clear hb2); (try clear hk); (try clear hi)))
    go_ret
    exact ⟨by first | rfl | (simp [errW_none, errW_some] <;> rfl) | (simp [*, errW_none, errW_some] <;> rfl), zg_6 HI0.out, zg_7 HB.out HI0.out, zg_5 HK.out⟩
/-! ### spec_l00Src_number: function 75 -/
def spec_l00Src_number.f (s0_0 : List Int) (s0_1 : Int) (s0_2 : Int) : Option (Int × Int × Int) := (spec_l00Src_next.f s0_0 s0_1 s0_2 9).bind fun bt257 => ((spec_l00Src_next.f s0_0 bt257.2.1 bt257.2.2 70000).bind fun bt260 => ((some (([bt257.1, bt260.1, 2147483647] : List Int) : List Int)).bind fun y263 => ((spec_l00Src_next.f s0_0 bt260.2.1 bt260.2.2 9).bind fun bt266 => (if 0 ≤ (wrap64 (Int.tdiv bt266.1 4)) then (if (wrap64 (Int.tdiv bt266.1 4)) < (y263.length : Int) then (some (rd y263 (wrap64 (Int.tdiv bt266.1 4)), bt266.2.1, bt266.2.2)) else (none)) else (none)))))
set_option maxHeartbeats 8000000 in
set_option maxRecDepth 100000 in
theorem spec_l00Src_number.calls (g : Nat) (s0_0 : List Int) (s0_1 : Int) (s0_2 : Int) (r1 : Int) (r2 : Int) (r3 : Int) (w0 w : World) (hI : IsS95 w0 w g s0_0 s0_1 s0_2) (hB : Below w0.heap.size w0 w) (h : spec_l00Src_number.f s0_0 s0_1 s0_2 = some (r1, r2, r3)) :
    Calls Tryd.prog 75 #[.pointer (some ⟨g, 0, none⟩)] w fun e w' => e = .returned (.int .i64 r1) ∧ IsS95 w0 w' g s0_0 r2 r3 ∧ Below w0.heap.size w0 w' ∧ KeepBut w w' g none := by
 have HI0 := zm hI
 have HK := zm (KeepBut.refl w g none)
 have HL := zm hB.size
 clear hI
 have HW0 := zm hB.size
 have HB := zm hB
 clear hB
 have H : ((spec_l00Src_next.f s0_0 s0_1 s0_2 9).bind fun bt257 => ((spec_l00Src_next.f s0_0 bt257.2.1 bt257.2.2 70000).bind fun bt260 => ((some (([bt257.1, bt260.1, 2147483647] : List Int) : List Int)).bind fun y263 => ((spec_l00Src_next.f s0_0 bt260.2.1 bt260.2.2 9).bind fun bt266 => (if 0 ≤ (wrap64 (Int.tdiv bt266.1 4)) then (if (wrap64 (Int.tdiv bt266.1 4)) < (y263.length : Int) then (some (rd y263 (wrap64 (Int.tdiv bt266.1 4)), bt266.2.1, bt266.2.2)) else (none)) else (none)))))) = some (r1, r2, r3) := h
 clear h
 replace H := Option.bind_eq_some_iff.mp H
 obtain ⟨⟨t257, t258, t259⟩, A20, H⟩ := H
 replace H : ((spec_l00Src_next.f s0_0 t258 t259 70000).bind fun bt260 => ((some (([t257, bt260.1, 2147483647] : List Int) : List Int)).bind fun y263 => ((spec_l00Src_next.f s0_0 bt260.2.1 bt260.2.2 9).bind fun bt266 => (if 0 ≤ (wrap64 (Int.tdiv bt266.1 4)) then (if (wrap64 (Int.tdiv bt266.1 4)) < (y263.length : Int) then (some (rd y263 (wrap64 (Int.tdiv bt266.1 4)), bt266.2.1, bt266.2.2)) else (none)) else (none))))) = some (r1, r2, r3) := H
 have A2 := zm A20
 clear A20
 replace H := Option.bind_eq_some_iff.mp H
 obtain ⟨⟨t260, t261, t262⟩, A30, H⟩ := H
 replace H : ((some (([t257, t260, 2147483647] : List Int) : List Int)).bind fun y263 => ((spec_l00Src_next.f s0_0 t261 t262 9).bind fun bt266 => (if 0 ≤ (wrap64 (Int.tdiv bt266.1 4)) then (if (wrap64 (Int.tdiv bt266.1 4)) < (y263.length : Int) then (some (rd y263 (wrap64 (Int.tdiv bt266.1 4)), bt266.2.1, bt266.2.2)) else (none)) else (none)))) = some (r1, r2, r3) := H
 have A3 := zm A30
 clear A30
 obtain ⟨y263, hy263⟩ : ∃ y_ : List Int, y_ = (([t257, t260, 2147483647] : List Int)) := ⟨_, rfl⟩
 replace H : ((spec_l00Src_next.f s0_0 t261 t262 9).bind fun bt266 => (if 0 ≤ (wrap64 (Int.tdiv bt266.1 4)) then (if (wrap64 (Int.tdiv bt266.1 4)) < (y263.length : Int) then (some (rd y263 (wrap64 (Int.tdiv bt266.1 4)), bt266.2.1, bt266.2.2)) else (none)) else (none))) = some (r1, r2, r3) := by first | (rw [hy263]; with_reducible exact H) | (have H2_ := (Option.bind_some _ _).symm.trans H; rw [hy263]; with_reducible exact H2_) | (have H2_ := (Option.bind_some _ _).symm.trans H; with_reducible exact H2_) | with_reducible exact H | (rw [hy263]; exact H) | exact H
 have Ny263 := zm hy263
 clear hy263
 replace H := Option.bind_eq_some_iff.mp H
 obtain ⟨⟨t266, t267, t268⟩, A40, H⟩ := H
 replace H : (if 0 ≤ (wrap64 (Int.tdiv t266 4)) then (if (wrap64 (Int.tdiv t266 4)) < (y263.length : Int) then (some (rd y263 (wrap64 (Int.tdiv t266 4)), t267, t268)) else (none)) else (none)) = some (r1, r2, r3) := H
 have A4 := zm A40
 clear A40
 obtain ⟨ji5, hji5⟩ : ∃ j_ : Int, (wrap64 (Int.tdiv t266 4)) = j_ := ⟨_, rfl⟩
 replace H : (if 0 ≤ (ji5) then (if (ji5) < (y263.length : Int) then (some (rd y263 (ji5), t267, t268)) else (none)) else (none)) = some (r1, r2, r3) := by first | (rw [hji5] at H; exact H) | (simp only [hji5] at H ⊢; exact H)
 (try rw [hji5] at A2)
 (try rw [hji5] at A3)
 (try rw [hji5] at A4)
 have hji5w : (IntKind.i64.wrap (Int.tdiv t266 4)) = ji5 := (i64_w _).trans hji5
 by_cases c6 : 0 ≤ (ji5)
 ·rw [if_pos c6] at H
  have c6b0 : decide (0 ≤ (ji5)) = true := decide_eq_true c6
  clear c6
  by_cases c7 : (ji5) < (y263.length : Int)
  ·rw [if_pos c7] at H
   have c7b0 : decide ((ji5) < (y263.length : Int)) = true := decide_eq_true c7
   clear c7
   simp only [Option.some.injEq, Prod.mk.injEq] at H
   obtain ⟨rfl, rfl, rfl⟩ := H
   go_enter Tryd.func75, Tryd.ntmps75
   go_wp2_with (first | ((with_reducible refine gate_callee (f := 74) rfl ?_); refine goesL_ (some 4) rfl rfl Tryd.func74 (by kernel_rfl) rfl #[.pointer (some ⟨g, 0, none⟩), .int .i64 9] rfl zq ?_; (with_reducible refine (spec_l00Src_next.calls g s0_0 s0_1 s0_2 9 t257 t258 t259 w0 _ ?side1 ?side2 A2.out).mono ?_); (case side1 => repeat (first | (with_reducible first | exact HI0.out | apply IsS95.alloc | apply IsS95.drewN | apply IsS95.drew | apply IsS95.set_1 | apply IsS95.set_2) | exact HI0.out)); (case side2 => repeat (first | (with_reducible first | exact HB.out | apply below_alloc | apply pw_below_drewN | apply below_drew1 | refine below_set ?_ (IsS95.ge HI0.out)) | exact HB.out)); rintro e w8 ⟨rfl, hi, hb, hk⟩; refine ⟨_, rfl, ?_⟩; have n0_ := zm (KeepBut.trans (zg_5 HK.out) hk (.inl rfl)); have n1_ := zm (hb); have n2_ := zm (hi); clear HK; clear HB; clear HI0; have HK := n0_; have HB := n1_; have HI0 := n2_; clear n0_ n1_ n2_; (try clear hb); (try clear hb2); (try clear hk); (try clear hi)) | ((with_reducible refine gate_callee (f := 74) rfl ?_); refine goesL_ (some 6) rfl rfl Tryd.func74 (by kernel_rfl) rfl #[.pointer (some ⟨g, 0, none⟩), .int .i64 70000] rfl zq ?_; (with_reducible refine (spec_l00Src_next.calls g s0_0 t258 t259 70000 t260 t261 t262 w0 _ ?side1 ?side2 A3.out).mono ?_); (case side1 => repeat (first | (with_reducible first | exact HI0.out | apply IsS95.alloc | apply IsS95.drewN | apply IsS95.drew | apply IsS95.set_1 | apply IsS95.set_2) | exact HI0.out)); (case side2 => repeat (first | (with_reducible first | exact HB.out | apply below_alloc | apply pw_below_drewN | apply below_drew1 | refine below_set ?_ (IsS95.ge HI0.out)) | exact HB.out)); rintro e w9 ⟨rfl, hi, hb, hk⟩; refine ⟨_, rfl, ?_⟩; have n0_ := zm (KeepBut.trans (zg_5 HK.out) hk (.inl rfl)); have n1_ := zm (hb); have n2_ := zm (hi); clear HK; clear HB; clear HI0; have HK := n0_; have HB := n1_; have HI0 := n2_; clear n0_ n1_ n2_; (try clear hb); (try clear hb2); (try clear hk); (try clear hi)) | ((with_reducible refine gate_dst (N := 7) rfl ?_); refine Kd.R_lit (Kd.int .i64) _ 3 ?hg (N := 7) ?hd (xs := ([t257, t260, 2147483647] : List Int)) (inner := [.int .i64 t257, .int .i64 t260, .int .i64 2147483647]) (ok := fun _ => True) (okp := fun _ => True) ?hr ?hp (fun _ hk => hk) trivial (Below.refl _ _) (Nat.le_refl _) (by simp) ?_; (case hd => rfl); (case hg => rfl); (case hr => first | (go_simp; done) | (go_simp; rfl)); (case hp => exact (Reps.one (show Kd.M (Kd.int .i64) _ _ _ t257 [.int .i64 t257] from rfl) (Reps.one (show Kd.M (Kd.int .i64) _ _ _ t260 [.int .i64 t260] from rfl) (Reps.one (show Kd.M (Kd.int .i64) _ _ _ 2147483647 [.int .i64 2147483647] from rfl) (Reps.none _ _))))); intro v264 w10 ho11 hb hg_ hnew_; clear hg_ hnew_; (first | rw [← Ny263.out] at ho11 | (simp only [Int.reduceToNat] at ho11; rw [← Ny263.out] at ho11)); have n0_ := zm (Kd.R_lower ho11 (keep_size (w := w) (g := g) (row := none) (zg_5 HK.out))); have n1_ := zm (IsS95.below (zg_6 HI0.out) hb); have n2_ := zm (KeepBut.trans (zg_5 HK.out) (KeepBut.of_below hb g none) (.inl rfl)); have n3_ := zm (below_step (zg_7 HB.out HI0.out) hb); clear HI0; clear HK; clear HB; have Za := n0_; have HI0 := n1_; have HK := n2_; have HB := n3_; clear n0_ n1_ n2_ n3_; clear hb ho11) | ((with_reducible refine gate_callee (f := 74) rfl ?_); refine goesL_ (some 9) rfl rfl Tryd.func74 (by kernel_rfl) rfl #[.pointer (some ⟨g, 0, none⟩), .int .i64 9] rfl zq ?_; (with_reducible refine (spec_l00Src_next.calls g s0_0 t261 t262 9 t266 t267 t268 w0 _ ?side1 ?side2 A4.out).mono ?_); (case side1 => repeat (first | (with_reducible first | exact HI0.out | apply IsS95.alloc | apply IsS95.drewN | apply IsS95.drew | apply IsS95.set_1 | apply IsS95.set_2) | exact HI0.out)); (case side2 => repeat (first | (with_reducible first | exact HB.out | apply below_alloc | apply pw_below_drewN | apply below_drew1 | refine below_set ?_ (IsS95.ge HI0.out)) | exact HB.out)); rintro e w12 ⟨rfl, hi, hb, hk⟩; refine ⟨_, rfl, ?_⟩; have n0_ := zm (Kd.R_mono (Kd.R_keep (IsS95.apart (show IsS95 w0 _ g s0_0 t261 t262 from zg_6 HI0.out) (zg_4 Za.out) (by decide)) hk (fun _ h => h.2)) (fun _ h => h.1)); have n1_ := zm (KeepBut.trans (zg_5 HK.out) hk (.inl rfl)); have n2_ := zm (hb); have n3_ := zm (hi); clear Za; clear HK; clear HB; clear HI0; have Za := n0_; have HK := n1_; have HB := n2_; have HI0 := n3_; clear n0_ n1_ n2_ n3_; (try clear hb); (try clear hb2); (try clear hk); (try clear hi); obtain ⟨Ao13, co13, eo13⟩ := Kd.R_slice Za.out; subst eo13; have p269 : 0 ≤ ((ji5) : Int) := zd; have q269 : (ji5) < (y263.length : Int) := zd; obtain ⟨ad269, e269, hx269_0⟩ := Kd.at_int (Kd.R_reads' Za.out).2.2 (ji5) p269 q269; cases e269; replace p269 := eq_true p269; replace q269 := eq_true q269))
   go_ret
   exact ⟨by first | rfl | (simp [errW_none, errW_some] <;> rfl) | (simp only [← hji5]; first | rfl | (simp [errW_none, errW_some] <;> rfl)) | (simp [*, errW_none, errW_some] <;> rfl), zg_6 HI0.out, zg_7 HB.out HI0.out, zg_5 HK.out⟩
  ·rw [if_neg c7] at H
   exact absurd H (by simp)
 ·rw [if_neg c6] at H
  exact absurd H (by simp)
/-! ### spec_l00Src_pick: function 100 -/
def spec_l00Src_pick.f (s0_0 : List Int) (s0_1 : Int) (s0_2 : Int) (l1 : List ByteArray) : Option (ByteArray × Int × Int) := if (l1.length : Int) = 0 then (some ((⟨#[]⟩ : ByteArray), s0_1, s0_2)) else ((spec_l00Src_next.f s0_0 s0_1 s0_2 (l1.length : Int)).bind fun bt270 => (if 0 ≤ bt270.1 then (if bt270.1 < (l1.length : Int) then (some (rdOf ByteArray.empty l1 bt270.1, bt270.2.1, bt270.2.2)) else (none)) else (none)))
set_option maxHeartbeats 8000000 in
set_option maxRecDepth 100000 in
theorem spec_l00Src_pick.calls (g : Nat) (s0_0 : List Int) (s0_1 : Int) (s0_2 : Int) (A1 : Option Addr) (c1 : Nat) (l1 : List ByteArray) (r1 : ByteArray) (r2 : Int) (r3 : Int) (w0 w : World) (hI : IsS95 w0 w g s0_0 s0_1 s0_2) (hB : Below w0.heap.size w0 w) (hr1 : Kd.C Kd.string w A1 l1.length l1) (hc1 : l1.length ≤ c1) (hf1 : ∀ ad, A1 = some ad → 0 < l1.length → ad.block ≠ g) (h : spec_l00Src_pick.f s0_0 s0_1 s0_2 l1 = some (r1, r2, r3)) :
    Calls Tryd.prog 100 #[.pointer (some ⟨g, 0, none⟩), .slice A1 l1.length c1] w fun e w' => e = .returned (.string r1) ∧ IsS95 w0 w' g s0_0 r2 r3 ∧ Below w0.heap.size w0 w' ∧ KeepBut w w' g none := by
 have HR1 := zm hr1
 have HC1 := zm hc1
 clear hr1 hc1
 have HI0 := zm hI
 have HK := zm (KeepBut.refl w g none)
 have HL := zm hB.size
 clear hI
 have HW0 := zm hB.size
 have HB := zm hB
 clear hB
 have H : (if (l1.length : Int) = 0 then (some ((⟨#[]⟩ : ByteArray), s0_1, s0_2)) else ((spec_l00Src_next.f s0_0 s0_1 s0_2 (l1.length : Int)).bind fun bt270 => (if 0 ≤ bt270.1 then (if bt270.1 < (l1.length : Int) then (some (rdOf ByteArray.empty l1 bt270.1, bt270.2.1, bt270.2.2)) else (none)) else (none)))) = some (r1, r2, r3) := h
 clear h
 by_cases c3 : (l1.length : Int) = 0
 ·rw [if_pos c3] at H
  have c3b0 : ((l1.length : Int) == 0) = true := beq_iff_eq.mpr c3
  have c3b1 : ((l1.length : Int) != 0) = false := bne_eq_false_iff_eq.mpr c3
  clear c3
  simp only [Option.some.injEq, Prod.mk.injEq] at H
  obtain ⟨rfl, rfl, rfl⟩ := H
  go_enter Tryd.func100, Tryd.ntmps100
  go_wp2
  go_ret
  exact ⟨by first | rfl | (simp [errW_none, errW_some] <;> rfl) | (simp [*, errW_none, errW_some] <;> rfl), zg_6 HI0.out, zg_7 HB.out HI0.out, zg_5 HK.out⟩
 ·rw [if_neg c3] at H
  have c3b0 : ((l1.length : Int) == 0) = false := beq_eq_false_iff_ne.mpr c3
  have c3b1 : ((l1.length : Int) != 0) = true := bne_iff_ne.mpr c3
  have c3b2 : ¬ (l1 = []) := fun h_ => c3 (by rw [h_]; rfl)
  replace H := Option.bind_eq_some_iff.mp H
  obtain ⟨⟨t270, t271, t272⟩, A40, H⟩ := H
  replace H : (if 0 ≤ t270 then (if t270 < (l1.length : Int) then (some (rdOf ByteArray.empty l1 t270, t271, t272)) else (none)) else (none)) = some (r1, r2, r3) := H
  have A4 := zm A40
  clear A40
  by_cases c5 : 0 ≤ t270
  ·rw [if_pos c5] at H
   have c5b0 : decide (0 ≤ t270) = true := decide_eq_true c5
   clear c5
   by_cases c6 : t270 < (l1.length : Int)
   ·rw [if_pos c6] at H
    have c6b0 : decide (t270 < (l1.length : Int)) = true := decide_eq_true c6
    clear c6
    simp only [Option.some.injEq, Prod.mk.injEq] at H
    obtain ⟨rfl, rfl, rfl⟩ := H
    go_enter Tryd.func100, Tryd.ntmps100
    go_wp2_with (first | ((with_reducible refine gate_callee (f := 74) rfl ?_); refine goesL_ (some 12) rfl rfl Tryd.func74 (by kernel_rfl) rfl #[.pointer (some ⟨g, 0, none⟩), .int .i64 (l1.length : Int)] rfl zq ?_; (with_reducible refine (spec_l00Src_next.calls g s0_0 s0_1 s0_2 (l1.length : Int) t270 t271 t272 w0 _ ?side1 ?side2 A4.out).mono ?_); (case side1 => repeat (first | (with_reducible first | exact HI0.out | apply IsS95.alloc | apply IsS95.drewN | apply IsS95.drew | apply IsS95.set_1 | apply IsS95.set_2) | exact HI0.out)); (case side2 => repeat (first | (with_reducible first | exact HB.out | apply below_alloc | apply pw_below_drewN | apply below_drew1 | refine below_set ?_ (IsS95.ge HI0.out)) | exact HB.out)); rintro e w7 ⟨rfl, hi, hb, hk⟩; refine ⟨_, rfl, ?_⟩; have n0_ := zm (KeepBut.trans (zg_5 HK.out) hk (.inl rfl)); have n1_ := zm (hb); have n2_ := zm (hi); clear HK; clear HB; clear HI0; have HK := n0_; have HB := n1_; have HI0 := n2_; clear n0_ n1_ n2_; (try clear hb); (try clear hb2); (try clear hk); (try clear hi); have p273 : 0 ≤ (t270 : Int) := zd; have q273 : t270 < (l1.length : Int) := zd; obtain ⟨ad273, e273, hx273_0⟩ := Kd.at_string HR1.out t270 p273 q273; cases e273; replace hx273_0 := keep_cell HK.out hx273_0 (by first | (rw [add_block]; exact hf1 _ rfl (by omega)) | exact hf1 _ rfl (by omega) | exact hf1 ad273 rfl (by omega)); replace p273 := eq_true p273; replace q273 := eq_true q273))
    go_ret
    exact ⟨by first | rfl | (simp [errW_none, errW_some] <;> rfl) | (simp [*, errW_none, errW_some] <;> rfl), zg_6 HI0.out, zg_7 HB.out HI0.out, zg_5 HK.out⟩
   ·rw [if_neg c6] at H
    exact absurd H (by simp)
  ·rw [if_neg c5] at H
   exact absurd H (by simp)
/-! ### spec_l00Src_snapName: function 76 -/
def spec_l00Src_snapName.f (s0_0 : List Int) (s0_1 : Int) (s0_2 : Int) : Option (ByteArray × Int × Int) := (spec_l00Src_pick.f s0_0 s0_1 s0_2 (([(⟨#[97]⟩ : ByteArray), (⟨#[98]⟩ : ByteArray), (⟨#[99]⟩ : ByteArray), (⟨#[115, 110, 97, 112]⟩ : ByteArray)] : List ByteArray))).bind fun bt277 => (some (bt277.1, bt277.2.1, bt277.2.2))
set_option maxHeartbeats 8000000 in
set_option maxRecDepth 100000 in
theorem spec_l00Src_snapName.calls (g : Nat) (s0_0 : List Int) (s0_1 : Int) (s0_2 : Int) (r1 : ByteArray) (r2 : Int) (r3 : Int) (w0 w : World) (hI : IsS95 w0 w g s0_0 s0_1 s0_2) (hB : Below w0.heap.size w0 w) (h : spec_l00Src_snapName.f s0_0 s0_1 s0_2 = some (r1, r2, r3)) :
    Calls Tryd.prog 76 #[.pointer (some ⟨g, 0, none⟩)] w fun e w' => e = .returned (.string r1) ∧ IsS95 w0 w' g s0_0 r2 r3 ∧ Below w0.heap.size w0 w' ∧ KeepBut w w' g none := by
 have HI0 := zm hI
 have HK := zm (KeepBut.refl w g none)
 have HL := zm hB.size
 clear hI
 have HW0 := zm hB.size
 have HB := zm hB
 clear hB
 have H : ((spec_l00Src_pick.f s0_0 s0_1 s0_2 (([(⟨#[97]⟩ : ByteArray), (⟨#[98]⟩ : ByteArray), (⟨#[99]⟩ : ByteArray), (⟨#[115, 110, 97, 112]⟩ : ByteArray)] : List ByteArray))).bind fun bt277 => (some (bt277.1, bt277.2.1, bt277.2.2))) = some (r1, r2, r3) := h
 clear h
 obtain ⟨y274, hy274⟩ : ∃ y_ : List ByteArray, y_ = (([(⟨#[97]⟩ : ByteArray), (⟨#[98]⟩ : ByteArray), (⟨#[99]⟩ : ByteArray), (⟨#[115, 110, 97, 112]⟩ : ByteArray)] : List ByteArray)) := ⟨_, rfl⟩
 replace H : ((spec_l00Src_pick.f s0_0 s0_1 s0_2 y274).bind fun bt277 => (some (bt277.1, bt277.2.1, bt277.2.2))) = some (r1, r2, r3) := by first | (rw [hy274]; with_reducible exact H) | (have H2_ := (Option.bind_some _ _).symm.trans H; rw [hy274]; with_reducible exact H2_) | (have H2_ := (Option.bind_some _ _).symm.trans H; with_reducible exact H2_) | with_reducible exact H | (rw [hy274]; exact H) | exact H
 have Ny274 := zm hy274
 clear hy274
 replace H := Option.bind_eq_some_iff.mp H
 obtain ⟨⟨t277, t278, t279⟩, A20, H⟩ := H
 replace H : (some (t277, t278, t279)) = some (r1, r2, r3) := H
 have A2 := zm A20
 clear A20
 simp only [Option.some.injEq, Prod.mk.injEq] at H
 obtain ⟨rfl, rfl, rfl⟩ := H
 go_enter Tryd.func76, Tryd.ntmps76
 go_wp2_with (first | ((with_reducible refine gate_dst (N := 4) rfl ?_); refine Kd.R_lit Kd.string _ 9 ?hg (N := 4) ?hd (xs := ([(⟨#[97]⟩ : ByteArray), (⟨#[98]⟩ : ByteArray), (⟨#[99]⟩ : ByteArray), (⟨#[115, 110, 97, 112]⟩ : ByteArray)] : List ByteArray)) (inner := [.string (⟨#[97]⟩ : ByteArray), .string (⟨#[98]⟩ : ByteArray), .string (⟨#[99]⟩ : ByteArray), .string (⟨#[115, 110, 97, 112]⟩ : ByteArray)]) (ok := fun _ => True) (okp := fun _ => True) ?hr ?hp (fun _ hk => hk) trivial (Below.refl _ _) (Nat.le_refl _) (by simp) ?_; (case hd => rfl); (case hg => rfl); (case hr => first | (go_simp; done) | (go_simp; rfl)); (case hp => exact (Reps.one (show Kd.M Kd.string _ _ _ (⟨#[97]⟩ : ByteArray) [.string (⟨#[97]⟩ : ByteArray)] from rfl) (Reps.one (show Kd.M Kd.string _ _ _ (⟨#[98]⟩ : ByteArray) [.string (⟨#[98]⟩ : ByteArray)] from rfl) (Reps.one (show Kd.M Kd.string _ _ _ (⟨#[99]⟩ : ByteArray) [.string (⟨#[99]⟩ : ByteArray)] from rfl) (Reps.one (show Kd.M Kd.string _ _ _ (⟨#[115, 110, 97, 112]⟩ : ByteArray) [.string (⟨#[115, 110, 97, 112]⟩ : ByteArray)] from rfl) (Reps.none _ _)))))); intro v275 w3 ho4 hb hg_ hnew_; clear hg_ hnew_; (first | rw [← Ny274.out] at ho4 | (simp only [Int.reduceToNat] at ho4; rw [← Ny274.out] at ho4)); have n0_ := zm (Kd.R_lower ho4 (keep_size (w := w) (g := g) (row := none) (zg_5 HK.out))); have n1_ := zm (IsS95.below (zg_6 HI0.out) hb); have n2_ := zm (KeepBut.trans (zg_5 HK.out) (KeepBut.of_below hb g none) (.inl rfl)); have n3_ := zm (below_step (zg_7 HB.out HI0.out) hb); clear HI0; clear HK; clear HB; have HO276 := n0_; have HI0 := n1_; have HK := n2_; have HB := n3_; clear n0_ n1_ n2_ n3_; clear hb ho4; obtain ⟨Ao5, co5, eo5⟩ := Kd.R_slice HO276.out; subst eo5) | ((with_reducible refine gate_callee (f := 100) rfl ?_); refine goesL_ (some 5) rfl rfl Tryd.func100 (by kernel_rfl) rfl #[.pointer (some ⟨g, 0, none⟩), .slice Ao5 y274.length co5] rfl zq ?_; (with_reducible refine (spec_l00Src_pick.calls g s0_0 s0_1 s0_2 _ _ y274 t277 t278 t279 w0 _ ?side1 ?side2 ?side3 ?side4 ?side5 A2.out).mono ?_); (case side1 => repeat (first | (with_reducible first | exact HI0.out | apply IsS95.alloc | apply IsS95.drewN | apply IsS95.drew | apply IsS95.set_1 | apply IsS95.set_2) | exact HI0.out)); (case side2 => repeat (first | (with_reducible first | exact HB.out | apply below_alloc | apply pw_below_drewN | apply below_drew1 | refine below_set ?_ (IsS95.ge HI0.out)) | exact HB.out)); (case side3 => exact zC ((Kd.R_reads' HO276.out).2.2)); (case side4 => exact (Kd.R_reads' HO276.out).2.1); (case side5 => exact far_slice (IsS95.own_ne HI0.out HO276.out (by decide))); rintro e w6 ⟨rfl, hi, hb, hk⟩; refine ⟨_, rfl, ?_⟩; have n0_ := zm (Kd.R_mono (Kd.R_keep (IsS95.apart (show IsS95 w0 _ g s0_0 s0_1 s0_2 from zg_6 HI0.out) (zg_4 HO276.out) (by decide)) hk (fun _ h => h.2)) (fun _ h => h.1)); have n1_ := zm (KeepBut.trans (zg_5 HK.out) hk (.inl rfl)); have n2_ := zm (hb); have n3_ := zm (hi); clear HO276; clear HK; clear HB; clear HI0; have HO276 := n0_; have HK := n1_; have HB := n2_; have HI0 := n3_; clear n0_ n1_ n2_ n3_; (try clear hb); (try clear hb2); (try clear hk); (try clear hi)))
 go_ret
 exact ⟨by first | rfl | (simp [errW_none, errW_some] <;> rfl) | (simp [*, errW_none, errW_some] <;> rfl), zg_6 HI0.out, zg_7 HB.out HI0.out, zg_5 HK.out⟩
/-! ### spec_l00Src_req: function 35 -/
def spec_l00Src_req.j0 : Nat → Int → Bool → List Int → Int → Int → Int → Int → Int → ByteArray → Option (Int × Int × Int × ByteArray × Int × Int)
  | 0, _, _, _, _, _, _, _, _, _ => none
  | k + 1, x14, x18, x1000, x1001, x1002, x292000, x292001, x292002, x292003 => if x18 = true then ((spec_l00Src_next.f x1000 x1001 x1002 13).bind fun bt292 => (some (x292000, bt292.1, x292002, x292003, bt292.2.1, bt292.2.2))) else (if x14 = 2 then ((spec_l00Src_next.f x1000 x1001 x1002 10).bind fun bt295 => ((spec_l00Src_number.f x1000 bt295.2.1 bt295.2.2).bind fun bt298 => (some (x292000, bt295.1, bt298.1, x292003, bt298.2.1, bt298.2.2)))) else (if x14 = 8 then (some (x292000, x292001, x292002, x292003, x1001, x1002)) else ((spec_l00Src_snapName.f x1000 x1001 x1002).bind fun bt301 => (some (x292000, x292001, x292002, bt301.1, bt301.2.1, bt301.2.2)))))
def spec_l00Src_req.f (k : Nat) (s0_0 : List Int) (s0_1 : Int) (s0_2 : Int) : Option (Int × Int × Int × ByteArray × Int × Int) := (spec_l00Src_next.f s0_0 s0_1 s0_2 8).bind fun bt281 => ((some (([2, 2, 2, wrap64 (1 + bt281.1)] : List Int) : List Int)).bind fun y284 => ((spec_l00Src_next.f s0_0 bt281.2.1 bt281.2.2 4).bind fun bt287 => (if 0 ≤ bt287.1 then (if bt287.1 < (y284.length : Int) then (if (rd y284 bt287.1) = 1 then (spec_l00Src_req.j0 k (rd y284 bt287.1) ((rd y284 bt287.1) == 1) s0_0 bt287.2.1 bt287.2.2 (rd y284 bt287.1) 0 0 (⟨#[]⟩ : ByteArray)) else (if (rd y284 bt287.1) = 3 then (spec_l00Src_req.j0 k (rd y284 bt287.1) ((rd y284 bt287.1) == 3) s0_0 bt287.2.1 bt287.2.2 (rd y284 bt287.1) 0 0 (⟨#[]⟩ : ByteArray)) else (spec_l00Src_req.j0 k (rd y284 bt287.1) ((rd y284 bt287.1) == 4) s0_0 bt287.2.1 bt287.2.2 (rd y284 bt287.1) 0 0 (⟨#[]⟩ : ByteArray)))) else (none)) else (none))))
theorem spec_l00Src_req.mono_l : ∀ k, (∀ y0 y1 y2 y3 y4 y5 y6 y7 y8, LeO (spec_l00Src_req.j0 k y0 y1 y2 y3 y4 y5 y6 y7 y8) (spec_l00Src_req.j0 (k + 1) y0 y1 y2 y3 y4 y5 y6 y7 y8))
  | 0 => fun _ _ _ _ _ _ _ _ _ r h => by simp [spec_l00Src_req.j0] at h
  | k + 1 => by
    have ih0 := spec_l00Src_req.mono_l k
    · intro y0 y1 y2 y3 y4 y5 y6 y7 y8
      unfold spec_l00Src_req.j0
      repeat' first
      | (with_reducible exact ih0 _ _ _ _ _ _ _ _ _)
      | (with_reducible exact LeO.refl _)
      | (with_reducible exact LeO.none _)
      | (with_reducible refine LeO.ite ?_ ?_)
      | (with_reducible refine LeO.bind ?_ (fun _ => ?_))
      | exact ih0 _ _ _ _ _ _ _ _ _
      | exact LeO.none _
      | refine LeO.ite ?_ ?_
      | refine LeO.bind ?_ (fun _ => ?_)
theorem spec_l00Src_req.mono : ∀ a0 a1 a2 k, LeO (spec_l00Src_req.f k a0 a1 a2) (spec_l00Src_req.f (k + 1) a0 a1 a2) := by
  intro a0 a1 a2 k
  have ih0 := spec_l00Src_req.mono_l k
  unfold spec_l00Src_req.f
  repeat' first
      | (with_reducible exact ih0 _ _ _ _ _ _ _ _ _)
      | (with_reducible exact LeO.refl _)
      | (with_reducible exact LeO.none _)
      | (with_reducible refine LeO.ite ?_ ?_)
      | (with_reducible refine LeO.bind ?_ (fun _ => ?_))
      | exact ih0 _ _ _ _ _ _ _ _ _
      | exact LeO.none _
      | refine LeO.ite ?_ ?_
      | refine LeO.bind ?_ (fun _ => ?_)
set_option maxHeartbeats 8000000 in
set_option maxRecDepth 100000 in
theorem spec_l00Src_req.calls (k : Nat) (g : Nat) (s0_0 : List Int) (s0_1 : Int) (s0_2 : Int) (r1 : Int) (r2 : Int) (r3 : Int) (r4 : ByteArray) (r5 : Int) (r6 : Int) (w0 w : World) (hI : IsS95 w0 w g s0_0 s0_1 s0_2) (hB : Below w0.heap.size w0 w) (h : spec_l00Src_req.f k s0_0 s0_1 s0_2 = some (r1, r2, r3, r4, r5, r6)) :
    Calls Tryd.prog 35 #[.pointer (some ⟨g, 0, none⟩)] w fun e w' => e = .returned (.agg #[.int .i64 r1, .int .i64 r2, .int .i64 r3, .string r4]) ∧ IsS95 w0 w' g s0_0 r5 r6 ∧ Below w0.heap.size w0 w' ∧ KeepBut w w' g none := by
 have hu23 := Tryd.underlying23
 have HI0 := zm hI
 have HK := zm (KeepBut.refl w g none)
 have HL := zm hB.size
 clear hI
 have HW0 := zm hB.size
 have HB := zm hB
 clear hB
 have H : ((spec_l00Src_next.f s0_0 s0_1 s0_2 8).bind fun bt281 => ((some (([2, 2, 2, wrap64 (1 + bt281.1)] : List Int) : List Int)).bind fun y284 => ((spec_l00Src_next.f s0_0 bt281.2.1 bt281.2.2 4).bind fun bt287 => (if 0 ≤ bt287.1 then (if bt287.1 < (y284.length : Int) then (if (rd y284 bt287.1) = 1 then (spec_l00Src_req.j0 k (rd y284 bt287.1) ((rd y284 bt287.1) == 1) s0_0 bt287.2.1 bt287.2.2 (rd y284 bt287.1) 0 0 (⟨#[]⟩ : ByteArray)) else (if (rd y284 bt287.1) = 3 then (spec_l00Src_req.j0 k (rd y284 bt287.1) ((rd y284 bt287.1) == 3) s0_0 bt287.2.1 bt287.2.2 (rd y284 bt287.1) 0 0 (⟨#[]⟩ : ByteArray)) else (spec_l00Src_req.j0 k (rd y284 bt287.1) ((rd y284 bt287.1) == 4) s0_0 bt287.2.1 bt287.2.2 (rd y284 bt287.1) 0 0 (⟨#[]⟩ : ByteArray)))) else (none)) else (none))))) = some (r1, r2, r3, r4, r5, r6) := h
 clear h
 replace H := Option.bind_eq_some_iff.mp H
 obtain ⟨⟨t281, t282, t283⟩, A20, H⟩ := H
 replace H : ((some (([2, 2, 2, wrap64 (1 + t281)] : List Int) : List Int)).bind fun y284 => ((spec_l00Src_next.f s0_0 t282 t283 4).bind fun bt287 => (if 0 ≤ bt287.1 then (if bt287.1 < (y284.length : Int) then (if (rd y284 bt287.1) = 1 then (spec_l00Src_req.j0 k (rd y284 bt287.1) ((rd y284 bt287.1) == 1) s0_0 bt287.2.1 bt287.2.2 (rd y284 bt287.1) 0 0 (⟨#[]⟩ : ByteArray)) else (if (rd y284 bt287.1) = 3 then (spec_l00Src_req.j0 k (rd y284 bt287.1) ((rd y284 bt287.1) == 3) s0_0 bt287.2.1 bt287.2.2 (rd y284 bt287.1) 0 0 (⟨#[]⟩ : ByteArray)) else (spec_l00Src_req.j0 k (rd y284 bt287.1) ((rd y284 bt287.1) == 4) s0_0 bt287.2.1 bt287.2.2 (rd y284 bt287.1) 0 0 (⟨#[]⟩ : ByteArray)))) else (none)) else (none)))) = some (r1, r2, r3, r4, r5, r6) := H
 have A2 := zm A20
 clear A20
 obtain ⟨y284, hy284⟩ : ∃ y_ : List Int, y_ = (([2, 2, 2, wrap64 (1 + t281)] : List Int)) := ⟨_, rfl⟩
 replace H : ((spec_l00Src_next.f s0_0 t282 t283 4).bind fun bt287 => (if 0 ≤ bt287.1 then (if bt287.1 < (y284.length : Int) then (if (rd y284 bt287.1) = 1 then (spec_l00Src_req.j0 k (rd y284 bt287.1) ((rd y284 bt287.1) == 1) s0_0 bt287.2.1 bt287.2.2 (rd y284 bt287.1) 0 0 (⟨#[]⟩ : ByteArray)) else (if (rd y284 bt287.1) = 3 then (spec_l00Src_req.j0 k (rd y284 bt287.1) ((rd y284 bt287.1) == 3) s0_0 bt287.2.1 bt287.2.2 (rd y284 bt287.1) 0 0 (⟨#[]⟩ : ByteArray)) else (spec_l00Src_req.j0 k (rd y284 bt287.1) ((rd y284 bt287.1) == 4) s0_0 bt287.2.1 bt287.2.2 (rd y284 bt287.1) 0 0 (⟨#[]⟩ : ByteArray)))) else (none)) else (none))) = some (r1, r2, r3, r4, r5, r6) := by first | (rw [hy284]; with_reducible exact H) | (have H2_ := (Option.bind_some _ _).symm.trans H; rw [hy284]; with_reducible exact H2_) | (have H2_ := (Option.bind_some _ _).symm.trans H; with_reducible exact H2_) | with_reducible exact H | (rw [hy284]; exact H) | exact H
 have Ny284 := zm hy284
 clear hy284
 replace H := Option.bind_eq_some_iff.mp H
 obtain ⟨⟨t287, t288, t289⟩, A30, H⟩ := H
 replace H : (if 0 ≤ t287 then (if t287 < (y284.length : Int) then (if (rd y284 t287) = 1 then (spec_l00Src_req.j0 k (rd y284 t287) ((rd y284 t287) == 1) s0_0 t288 t289 (rd y284 t287) 0 0 (⟨#[]⟩ : ByteArray)) else (if (rd y284 t287) = 3 then (spec_l00Src_req.j0 k (rd y284 t287) ((rd y284 t287) == 3) s0_0 t288 t289 (rd y284 t287) 0 0 (⟨#[]⟩ : ByteArray)) else (spec_l00Src_req.j0 k (rd y284 t287) ((rd y284 t287) == 4) s0_0 t288 t289 (rd y284 t287) 0 0 (⟨#[]⟩ : ByteArray)))) else (none)) else (none)) = some (r1, r2, r3, r4, r5, r6) := H
 have A3 := zm A30
 clear A30
 by_cases c4 : 0 ≤ t287
 ·rw [if_pos c4] at H
  have c4b0 : decide (0 ≤ t287) = true := decide_eq_true c4
  clear c4
  by_cases c5 : t287 < (y284.length : Int)
  ·rw [if_pos c5] at H
   have c5b0 : decide (t287 < (y284.length : Int)) = true := decide_eq_true c5
   clear c5
   have HC6 := zm H
   clear H
   go_enter Tryd.func35, Tryd.ntmps35
   go_upto_if 18 with (first | ((with_reducible refine gate_dst (N := 2) rfl ?_); refine box_event ?hg (N := 2) ?hd (cs := #[.int .i64 0, .int .i64 0, .int .i64 0, .string (⟨#[]⟩ : ByteArray)]) (t := 23) ?hr ?_; (case hd => rfl); (case hg => rfl); (case hr => first | (go_simp; done) | (go_simp; rfl)); intro gb280 hg w7 hbox hb; have n0_ := zm (IsS95.below (zg_6 HI0.out) hb); have n1_ := zm (KeepBut.trans (zg_5 HK.out) (KeepBut.of_below hb g none) (.inl rfl)); have n2_ := zm (below_step (zg_7 HB.out HI0.out) hb); have n3_ := zm (hbox); have n4_ := zm ((by rw [hg]; exact (keep_size (w := w) (g := g) (row := none) (zg_5 HK.out)) : w.heap.size ≤ gb280)); have n5_ := zm ((Nat.le_trans HW0.out (by rw [hg]; exact (keep_size (w := w) (g := g) (row := none) (zg_5 HK.out)) : w.heap.size ≤ gb280) : w0.heap.size ≤ gb280)); have n6_ := zm ((by rw [hg]; exact Nat.ne_of_lt (IsS95.lt (show IsS95 w0 _ g s0_0 s0_1 s0_2 from zg_6 HI0.out)) : g ≠ gb280)); have n7_ := zm ((by rw [hg]; exact Nat.ne_of_gt (IsS95.lt (show IsS95 w0 _ g s0_0 s0_1 s0_2 from zg_6 HI0.out)) : gb280 ≠ g)); clear HI0; clear HK; clear HB; have HI0 := n0_; have HK := n1_; have HB := n2_; have Za := n3_; have Zf := n4_; have Zi := n5_; have Zd := n6_; have Zg := n7_; clear n0_ n1_ n2_ n3_ n4_ n5_ n6_ n7_; clear hb hbox hg) | ((with_reducible refine gate_callee (f := 74) rfl ?_); refine goesL_ (some 5) rfl rfl Tryd.func74 (by kernel_rfl) rfl #[.pointer (some ⟨g, 0, none⟩), .int .i64 8] rfl zq ?_; (with_reducible refine (spec_l00Src_next.calls g s0_0 s0_1 s0_2 8 t281 t282 t283 w0 _ ?side1 ?side2 A2.out).mono ?_); (case side1 => repeat (first | (with_reducible first | exact HI0.out | apply IsS95.alloc | apply IsS95.drewN | apply IsS95.drew | apply IsS95.set_1 | apply IsS95.set_2 | refine IsS95.far ?_ Zd.out _) | exact HI0.out)); (case side2 => repeat (first | (with_reducible first | exact HB.out | apply below_alloc | apply pw_below_drewN | apply below_drew1 | refine below_set ?_ (IsS95.ge HI0.out) | refine below_set ?_ Zi.out) | exact HB.out)); rintro e w8 ⟨rfl, hi, hb, hk⟩; refine ⟨_, rfl, ?_⟩; have n0_ := zm (KeepBut.blk hk (g' := gb280) (o := .cells #[.int .i64 0, .int .i64 0, .int .i64 0, .string (⟨#[]⟩ : ByteArray)] 23 (0, 0)) (zg_1 Za.out) Zg.out (by simp)); have n1_ := zm (KeepBut.trans (zg_8 HK.out Zf.out) hk (.inl rfl)); have n2_ := zm (hb); have n3_ := zm (hi); clear Za; clear HK; clear HB; clear HI0; have Za := n0_; have HK := n1_; have HB := n2_; have HI0 := n3_; clear n0_ n1_ n2_ n3_; (try clear hb); (try clear hb2); (try clear hk); (try clear hi)) | ((with_reducible refine gate_dst (N := 7) rfl ?_); refine Kd.R_lit (Kd.int .i64) _ 3 ?hg (N := 7) ?hd (xs := ([2, 2, 2, wrap64 (1 + t281)] : List Int)) (inner := [.int .i64 2, .int .i64 2, .int .i64 2, .int .i64 (wrap64 (1 + t281))]) (ok := fun _ => True) (okp := fun _ => True) ?hr ?hp (fun _ hk => hk) trivial (Below.refl _ _) (Nat.le_refl _) (by simp) ?_; (case hd => rfl); (case hg => rfl); (case hr => first | (go_simp; done) | (go_simp; rfl)); (case hp => exact (Reps.one (show Kd.M (Kd.int .i64) _ _ _ 2 [.int .i64 2] from rfl) (Reps.one (show Kd.M (Kd.int .i64) _ _ _ 2 [.int .i64 2] from rfl) (Reps.one (show Kd.M (Kd.int .i64) _ _ _ 2 [.int .i64 2] from rfl) (Reps.one (show Kd.M (Kd.int .i64) _ _ _ (wrap64 (1 + t281)) [.int .i64 (wrap64 (1 + t281))] from rfl) (Reps.none _ _)))))); intro v285 w9 ho10 hb hg_ hnew_; clear hg_ hnew_; (first | rw [← Ny284.out] at ho10 | (simp only [Int.reduceToNat] at ho10; rw [← Ny284.out] at ho10)); have n0_ := zm (Kd.R_lower ho10 (keep_size (w := w) (g := g) (row := none) (zg_8 HK.out Zf.out))); have n1_ := zm (IsS95.below (zg_9 HI0.out Zd.out) hb); have n2_ := zm (blk_below (g := gb280) (o := .cells #[.int .i64 0, .int .i64 0, .int .i64 0, .string (⟨#[]⟩ : ByteArray)] 23 (0, 0)) (zg_1 Za.out) hb); have n3_ := zm (KeepBut.trans (zg_8 HK.out Zf.out) (KeepBut.of_below hb g none) (.inl rfl)); have n4_ := zm (below_step (zg_10 HB.out HI0.out Zi.out) hb); clear HI0; clear Za; clear HK; clear HB; have Zm := n0_; have HI0 := n1_; have Za := n2_; have HK := n3_; have HB := n4_; clear n0_ n1_ n2_ n3_ n4_; clear hb ho10) | ((with_reducible refine gate_callee (f := 74) rfl ?_); refine goesL_ (some 9) rfl rfl Tryd.func74 (by kernel_rfl) rfl #[.pointer (some ⟨g, 0, none⟩), .int .i64 4] rfl zq ?_; (with_reducible refine (spec_l00Src_next.calls g s0_0 t282 t283 4 t287 t288 t289 w0 _ ?side1 ?side2 A3.out).mono ?_); (case side1 => repeat (first | (with_reducible first | exact HI0.out | apply IsS95.alloc | apply IsS95.drewN | apply IsS95.drew | apply IsS95.set_1 | apply IsS95.set_2 | refine IsS95.far ?_ Zd.out _) | exact HI0.out)); (case side2 => repeat (first | (with_reducible first | exact HB.out | apply below_alloc | apply pw_below_drewN | apply below_drew1 | refine below_set ?_ (IsS95.ge HI0.out) | refine below_set ?_ Zi.out) | exact HB.out)); rintro e w11 ⟨rfl, hi, hb, hk⟩; refine ⟨_, rfl, ?_⟩; have n0_ := zm (KeepBut.blk hk (g' := gb280) (o := .cells #[.int .i64 0, .int .i64 0, .int .i64 0, .string (⟨#[]⟩ : ByteArray)] 23 (0, 0)) (zg_1 Za.out) Zg.out (by simp)); have n1_ := zm (Kd.R_mono (Kd.R_keep (IsS95.apart (show IsS95 w0 _ g s0_0 t282 t283 from zg_9 HI0.out Zd.out) (zg_4 Zm.out) (by decide)) hk (fun _ h => h.2)) (fun _ h => h.1)); have n2_ := zm (KeepBut.trans (zg_8 HK.out Zf.out) hk (.inl rfl)); have n3_ := zm (hb); have n4_ := zm (hi); clear Za; clear Zm; clear HK; clear HB; clear HI0; have Za := n0_; have Zm := n1_; have HK := n2_; have HB := n3_; have HI0 := n4_; clear n0_ n1_ n2_ n3_ n4_; (try clear hb); (try clear hb2); (try clear hk); (try clear hi); obtain ⟨Ao12, co12, eo12⟩ := Kd.R_slice Zm.out; subst eo12; have p290 : 0 ≤ (t287 : Int) := zd; have q290 : t287 < (y284.length : Int) := zd; obtain ⟨ad290, e290, hx290_0⟩ := Kd.at_int (Kd.R_reads' Zm.out).2.2 t287 p290 q290; cases e290; replace p290 := eq_true p290; replace q290 := eq_true q290) | ((with_reducible refine gate_dst (N := 3) rfl ?_); refine box_event ?hg (N := 3) ?hd (cs := #[.int .i64 0, .int .i64 0, .int .i64 0, .string (⟨#[]⟩ : ByteArray)]) (t := 23) ?hr ?_; (case hd => rfl); (case hg => rfl); (case hr => first | (go_simp; done) | (go_simp; rfl)); intro gb291 hg w13 hbox hb; have n0_ := zm (Kd.R_below (zg_4 Zm.out) hb); have n1_ := zm (IsS95.below (zg_9 HI0.out Zd.out) hb); have n2_ := zm (blk_below (g := gb280) (o := .cells #[.int .i64 0, .int .i64 0, .int .i64 0, .string (⟨#[]⟩ : ByteArray)] 23 (0, 0)) (zg_1 Za.out) hb); have n3_ := zm (KeepBut.trans (zg_8 HK.out Zf.out) (KeepBut.of_below hb g none) (.inl rfl)); have n4_ := zm (below_step (zg_10 HB.out HI0.out Zi.out) hb); have n5_ := zm (hbox); have n6_ := zm ((by rw [hg]; exact (keep_size (w := w) (g := g) (row := none) (zg_8 HK.out Zf.out)) : w.heap.size ≤ gb291)); have n7_ := zm ((Nat.le_trans HW0.out (by rw [hg]; exact (keep_size (w := w) (g := g) (row := none) (zg_8 HK.out Zf.out)) : w.heap.size ≤ gb291) : w0.heap.size ≤ gb291)); have n8_ := zm ((by rw [hg]; exact Nat.ne_of_lt (blk_lt (g := gb280) (o := .cells #[.int .i64 0, .int .i64 0, .int .i64 0, .string (⟨#[]⟩ : ByteArray)] 23 (0, 0)) (zg_1 Za.out)) : gb280 ≠ gb291)); have n9_ := zm ((by rw [hg]; exact Nat.ne_of_gt (blk_lt (g := gb280) (o := .cells #[.int .i64 0, .int .i64 0, .int .i64 0, .string (⟨#[]⟩ : ByteArray)] 23 (0, 0)) (zg_1 Za.out)) : gb291 ≠ gb280)); have n10_ := zm ((by rw [hg]; exact Nat.ne_of_lt (IsS95.lt (show IsS95 w0 _ g s0_0 t288 t289 from zg_9 HI0.out Zd.out)) : g ≠ gb291)); have n11_ := zm ((by rw [hg]; exact Nat.ne_of_gt (IsS95.lt (show IsS95 w0 _ g s0_0 t288 t289 from zg_9 HI0.out Zd.out)) : gb291 ≠ g)); clear Zm; clear HI0; clear Za; clear HK; clear HB; have Zm := n0_; have HI0 := n1_; have Za := n2_; have HK := n3_; have HB := n4_; have Zb := n5_; have Zk := n6_; have Zl := n7_; have Zc := n8_; have Zj := n9_; have Ze := n10_; have Zh := n11_; clear n0_ n1_ n2_ n3_ n4_ n5_ n6_ n7_ n8_ n9_ n10_ n11_; clear hb hbox hg; have hnb14 := Zj.out; have hnc14 := Zc.out; have hnb15 := Zh.out; have hnc15 := Ze.out; have hcz16_0 : w13.cell? ⟨gb291, 0, none⟩ = some (.int .i64 0) := (blk_cell Zb.out 0).trans rfl; have hcz16_1 : w13.cell? ⟨gb291, 1, none⟩ = some (.int .i64 0) := (blk_cell Zb.out 1).trans rfl; have hcz16_2 : w13.cell? ⟨gb291, 2, none⟩ = some (.int .i64 0) := (blk_cell Zb.out 2).trans rfl; have hcz16_3 : w13.cell? ⟨gb291, 3, none⟩ = some (.string (⟨#[]⟩ : ByteArray)) := (blk_cell Zb.out 3).trans rfl; have hfz16_0 := blk_frozen Zb.out 0; have hfz16_1 := blk_frozen Zb.out 1; have hfz16_2 := blk_frozen Zb.out 2; have hfz16_3 := blk_frozen Zb.out 3))
   (try simp only [Act.put, zs, zz, zt])
   go_cut [18] (fun v18 wc => ∃ (kq : Nat) (x18_5 : Bool), v18 = .bool x18_5 ∧ Aside0 (spec_l00Src_req.j0 kq (rd y284 t287) x18_5 s0_0 t288 t289 (rd y284 t287) 0 0 (⟨#[]⟩ : ByteArray) = some (r1, r2, r3, r4, r5, r6)) ∧ Aside0 (kq ≤ k) ∧ Aside0 (wc.heap[gb280]? = some (.cells #[.int .i64 0, .int .i64 0, .int .i64 0, .string (⟨#[]⟩ : ByteArray)] 23 (0, 0))) ∧ Aside0 (wc.heap[gb291]? = some (.cells #[.int .i64 (rd y284 t287), .int .i64 0, .int .i64 0, .string (⟨#[]⟩ : ByteArray)] 23 (0, 0))) ∧ Aside0 (IsS95 w0 wc g s0_0 t288 t289) ∧ Aside0 (KeepBut w wc g none) ∧ Aside0 (Below w0.heap.size w0 wc))
   case first =>
    have H := HC6.out
    clear HC6
    by_cases c17 : (rd y284 t287) = 1
    ·rw [if_pos c17] at H
     have c17b0 : ((rd y284 t287) == 1) = true := beq_iff_eq.mpr c17
     have c17b1 : ((rd y284 t287) != 1) = false := bne_eq_false_iff_eq.mpr c17
     clear c17
     (first | rw [c17b0] | (simp only [i64_w, i32_w]; rw [c17b0]) | skip)
     have H' := zm H
     clear H
     go_wp2
     go_meet
     case rel => exact ⟨_, (((rd y284 t287) == 1)), zr, H', ⟨by first | omega | exact Nat.le_refl _⟩, ⟨by (with_reducible repeat (first | refine blk_drewN ?_ _ | refine blk_drew ?_ | refine blk_alloc ?_ _)); refine blk_far ?_ Zc.out _; (with_reducible repeat (first | refine blk_drewN ?_ _ | refine blk_drew ?_ | refine blk_alloc ?_ _)); refine blk_far ?_ Zc.out _; (with_reducible repeat (first | refine blk_drewN ?_ _ | refine blk_drew ?_ | refine blk_alloc ?_ _)); refine blk_far ?_ Zc.out _; (with_reducible repeat (first | refine blk_drewN ?_ _ | refine blk_drew ?_ | refine blk_alloc ?_ _)); refine blk_far ?_ Zc.out _; (with_reducible repeat (first | refine blk_drewN ?_ _ | refine blk_drew ?_ | refine blk_alloc ?_ _)); exact Za.out⟩, ⟨by (with_reducible repeat (first | refine blk_drewN ?_ _ | refine blk_drew ?_ | refine blk_alloc ?_ _)); refine blk_put (cs := #[.int .i64 (rd y284 t287), .int .i64 0, .int .i64 0, .string (⟨#[]⟩ : ByteArray)]) ?_ 3 _ rfl; (with_reducible repeat (first | refine blk_drewN ?_ _ | refine blk_drew ?_ | refine blk_alloc ?_ _)); refine blk_put (cs := #[.int .i64 (rd y284 t287), .int .i64 0, .int .i64 0, .string (⟨#[]⟩ : ByteArray)]) ?_ 2 _ rfl; (with_reducible repeat (first | refine blk_drewN ?_ _ | refine blk_drew ?_ | refine blk_alloc ?_ _)); refine blk_put (cs := #[.int .i64 (rd y284 t287), .int .i64 0, .int .i64 0, .string (⟨#[]⟩ : ByteArray)]) ?_ 1 _ rfl; (with_reducible repeat (first | refine blk_drewN ?_ _ | refine blk_drew ?_ | refine blk_alloc ?_ _)); refine blk_put (cs := #[.int .i64 0, .int .i64 0, .int .i64 0, .string (⟨#[]⟩ : ByteArray)]) ?_ 0 _ rfl; (with_reducible repeat (first | refine blk_drewN ?_ _ | refine blk_drew ?_ | refine blk_alloc ?_ _)); exact Zb.out⟩, ⟨zg_12 HI0.out Zd.out Ze.out⟩, ⟨zg_11 HK.out Zf.out Zk.out⟩, ⟨zg_13 HB.out HI0.out Zi.out Zl.out⟩⟩
    ·rw [if_neg c17] at H
     have c17b0 : ((rd y284 t287) == 1) = false := beq_eq_false_iff_ne.mpr c17
     have c17b1 : ((rd y284 t287) != 1) = true := bne_iff_ne.mpr c17
     (first | rw [c17b0] | (simp only [i64_w, i32_w]; rw [c17b0]) | skip)
     by_cases c18 : (rd y284 t287) = 3
     ·rw [if_pos c18] at H
      have c18b0 : ((rd y284 t287) == 3) = true := beq_iff_eq.mpr c18
      have c18b1 : ((rd y284 t287) != 3) = false := bne_eq_false_iff_eq.mpr c18
      clear c18
      have H' := zm H
      clear H
      go_wp2
      go_meet
      case rel => exact ⟨_, (((rd y284 t287) == 3)), zr, H', ⟨by first | omega | exact Nat.le_refl _⟩, ⟨by (with_reducible repeat (first | refine blk_drewN ?_ _ | refine blk_drew ?_ | refine blk_alloc ?_ _)); refine blk_far ?_ Zc.out _; (with_reducible repeat (first | refine blk_drewN ?_ _ | refine blk_drew ?_ | refine blk_alloc ?_ _)); refine blk_far ?_ Zc.out _; (with_reducible repeat (first | refine blk_drewN ?_ _ | refine blk_drew ?_ | refine blk_alloc ?_ _)); refine blk_far ?_ Zc.out _; (with_reducible repeat (first | refine blk_drewN ?_ _ | refine blk_drew ?_ | refine blk_alloc ?_ _)); refine blk_far ?_ Zc.out _; (with_reducible repeat (first | refine blk_drewN ?_ _ | refine blk_drew ?_ | refine blk_alloc ?_ _)); exact Za.out⟩, ⟨by (with_reducible repeat (first | refine blk_drewN ?_ _ | refine blk_drew ?_ | refine blk_alloc ?_ _)); refine blk_put (cs := #[.int .i64 (rd y284 t287), .int .i64 0, .int .i64 0, .string (⟨#[]⟩ : ByteArray)]) ?_ 3 _ rfl; (with_reducible repeat (first | refine blk_drewN ?_ _ | refine blk_drew ?_ | refine blk_alloc ?_ _)); refine blk_put (cs := #[.int .i64 (rd y284 t287), .int .i64 0, .int .i64 0, .string (⟨#[]⟩ : ByteArray)]) ?_ 2 _ rfl; (with_reducible repeat (first | refine blk_drewN ?_ _ | refine blk_drew ?_ | refine blk_alloc ?_ _)); refine blk_put (cs := #[.int .i64 (rd y284 t287), .int .i64 0, .int .i64 0, .string (⟨#[]⟩ : ByteArray)]) ?_ 1 _ rfl; (with_reducible repeat (first | refine blk_drewN ?_ _ | refine blk_drew ?_ | refine blk_alloc ?_ _)); refine blk_put (cs := #[.int .i64 0, .int .i64 0, .int .i64 0, .string (⟨#[]⟩ : ByteArray)]) ?_ 0 _ rfl; (with_reducible repeat (first | refine blk_drewN ?_ _ | refine blk_drew ?_ | refine blk_alloc ?_ _)); exact Zb.out⟩, ⟨zg_12 HI0.out Zd.out Ze.out⟩, ⟨zg_11 HK.out Zf.out Zk.out⟩, ⟨zg_13 HB.out HI0.out Zi.out Zl.out⟩⟩
     ·rw [if_neg c18] at H
      have c18b0 : ((rd y284 t287) == 3) = false := beq_eq_false_iff_ne.mpr c18
      have c18b1 : ((rd y284 t287) != 3) = true := bne_iff_ne.mpr c18
      have H' := zm H
      clear H
      go_wp2
      go_meet
      case rel => exact ⟨_, (((rd y284 t287) == 4)), zr, H', ⟨by first | omega | exact Nat.le_refl _⟩, ⟨by (with_reducible repeat (first | refine blk_drewN ?_ _ | refine blk_drew ?_ | refine blk_alloc ?_ _)); refine blk_far ?_ Zc.out _; (with_reducible repeat (first | refine blk_drewN ?_ _ | refine blk_drew ?_ | refine blk_alloc ?_ _)); refine blk_far ?_ Zc.out _; (with_reducible repeat (first | refine blk_drewN ?_ _ | refine blk_drew ?_ | refine blk_alloc ?_ _)); refine blk_far ?_ Zc.out _; (with_reducible repeat (first | refine blk_drewN ?_ _ | refine blk_drew ?_ | refine blk_alloc ?_ _)); refine blk_far ?_ Zc.out _; (with_reducible repeat (first | refine blk_drewN ?_ _ | refine blk_drew ?_ | refine blk_alloc ?_ _)); exact Za.out⟩, ⟨by (with_reducible repeat (first | refine blk_drewN ?_ _ | refine blk_drew ?_ | refine blk_alloc ?_ _)); refine blk_put (cs := #[.int .i64 (rd y284 t287), .int .i64 0, .int .i64 0, .string (⟨#[]⟩ : ByteArray)]) ?_ 3 _ rfl; (with_reducible repeat (first | refine blk_drewN ?_ _ | refine blk_drew ?_ | refine blk_alloc ?_ _)); refine blk_put (cs := #[.int .i64 (rd y284 t287), .int .i64 0, .int .i64 0, .string (⟨#[]⟩ : ByteArray)]) ?_ 2 _ rfl; (with_reducible repeat (first | refine blk_drewN ?_ _ | refine blk_drew ?_ | refine blk_alloc ?_ _)); refine blk_put (cs := #[.int .i64 (rd y284 t287), .int .i64 0, .int .i64 0, .string (⟨#[]⟩ : ByteArray)]) ?_ 1 _ rfl; (with_reducible repeat (first | refine blk_drewN ?_ _ | refine blk_drew ?_ | refine blk_alloc ?_ _)); refine blk_put (cs := #[.int .i64 0, .int .i64 0, .int .i64 0, .string (⟨#[]⟩ : ByteArray)]) ?_ 0 _ rfl; (with_reducible repeat (first | refine blk_drewN ?_ _ | refine blk_drew ?_ | refine blk_alloc ?_ _)); exact Zb.out⟩, ⟨zg_12 HI0.out Zd.out Ze.out⟩, ⟨zg_11 HK.out Zf.out Zk.out⟩, ⟨zg_13 HB.out HI0.out Zi.out Zl.out⟩⟩
   case rest =>
    clear HC6
    try clear c1
    try clear p2
    try clear q2
    try clear hx2
    try clear c3
    try clear c4
    try clear c4b0
    try clear c5
    try clear c5b0
    try clear p6
    try clear c7
    try clear c14
    try clear c15
    try clear c17
    try clear c17b0
    try clear c17b1
    try clear c18
    try clear c18b0
    try clear c18b1
    try clear hcz16_0
    try clear hcz16_1
    try clear hcz16_2
    try clear hcz16_3
    try clear hfz16_0
    try clear hfz16_1
    try clear hfz16_2
    try clear hfz16_3
    try clear hx290_0
    try clear p290
    try clear q290
    obtain ⟨kq, x18_5, rfl, HA, HJ5, Za, Zb, HI0, HK, HB⟩ := hcut
    cases kq with
    | zero => exact absurd HA.out (by simp [spec_l00Src_req.j0])
    | succ kj5 =>
     have H := HA.out
     clear HA
     simp only [spec_l00Src_req.j0] at H
     by_cases c19 : x18_5 = true
     ·subst c19
      have H1 : ((spec_l00Src_next.f s0_0 t288 t289 13).bind fun bt292 => (some ((rd y284 t287), bt292.1, 0, (⟨#[]⟩ : ByteArray), bt292.2.1, bt292.2.2))) = some (r1, r2, r3, r4, r5, r6) := by rw [if_pos rfl] at H; exact H
      clear H
      have H := H1
      clear H1
      replace H := Option.bind_eq_some_iff.mp H
      obtain ⟨⟨t292, t293, t294⟩, A200, H⟩ := H
      replace H : (some ((rd y284 t287), t292, 0, (⟨#[]⟩ : ByteArray), t293, t294)) = some (r1, r2, r3, r4, r5, r6) := H
      have A20 := zm A200
      clear A200
      simp only [Option.some.injEq, Prod.mk.injEq] at H
      obtain ⟨rfl, rfl, rfl, rfl, rfl, rfl⟩ := H
      go_wp2_with (first | ((with_reducible refine gate_callee (f := 74) rfl ?_); refine goesL_ (some 23) rfl rfl Tryd.func74 (by kernel_rfl) rfl #[.pointer (some ⟨g, 0, none⟩), .int .i64 13] rfl zq ?_; (with_reducible refine (spec_l00Src_next.calls g s0_0 t288 t289 13 t292 t293 t294 w0 _ ?side1 ?side2 A20.out).mono ?_); (case side1 => repeat (first | (with_reducible first | exact HI0.out | apply IsS95.alloc | apply IsS95.drewN | apply IsS95.drew | apply IsS95.set_1 | apply IsS95.set_2 | refine IsS95.far ?_ Zd.out _ | refine IsS95.far ?_ Ze.out _) | exact HI0.out)); (case side2 => repeat (first | (with_reducible first | exact HB.out | apply below_alloc | apply pw_below_drewN | apply below_drew1 | refine below_set ?_ (IsS95.ge HI0.out) | refine below_set ?_ Zi.out | refine below_set ?_ Zl.out) | exact HB.out)); rintro e w21 ⟨rfl, hi, hb, hk⟩; refine ⟨_, rfl, ?_⟩; have n0_ := zm (KeepBut.blk hk (g' := gb280) (o := .cells #[.int .i64 0, .int .i64 0, .int .i64 0, .string (⟨#[]⟩ : ByteArray)] 23 (0, 0)) (zg_1 Za.out) Zg.out (by simp)); have n1_ := zm (KeepBut.blk hk (g' := gb291) (o := .cells #[.int .i64 (rd y284 t287), .int .i64 0, .int .i64 0, .string (⟨#[]⟩ : ByteArray)] 23 (0, 0)) (zg_1 Zb.out) Zh.out (by simp)); have n2_ := zm (KeepBut.trans (zg_11 HK.out Zf.out Zk.out) hk (.inl rfl)); have n3_ := zm (hb); have n4_ := zm (hi); clear Za; clear Zb; clear HK; clear HB; clear HI0; have Za := n0_; have Zb := n1_; have HK := n2_; have HB := n3_; have HI0 := n4_; clear n0_ n1_ n2_ n3_ n4_; (try clear hb); (try clear hb2); (try clear hk); (try clear hi); have hnb22 := Zj.out; have hnc22 := Zc.out; have hnb23 := Zh.out; have hnc23 := Ze.out; have hcz24_0 : w21.cell? ⟨gb291, 0, none⟩ = some (.int .i64 (rd y284 t287)) := (blk_cell Zb.out 0).trans rfl; have hcz24_1 : w21.cell? ⟨gb291, 1, none⟩ = some (.int .i64 0) := (blk_cell Zb.out 1).trans rfl; have hcz24_2 : w21.cell? ⟨gb291, 2, none⟩ = some (.int .i64 0) := (blk_cell Zb.out 2).trans rfl; have hcz24_3 : w21.cell? ⟨gb291, 3, none⟩ = some (.string (⟨#[]⟩ : ByteArray)) := (blk_cell Zb.out 3).trans rfl; have hfz24_0 := blk_frozen Zb.out 0; have hfz24_1 := blk_frozen Zb.out 1; have hfz24_2 := blk_frozen Zb.out 2; have hfz24_3 := blk_frozen Zb.out 3; have hnb25 := Zg.out; have hnc25 := Zd.out; have hcz26_0 : w21.cell? ⟨gb280, 0, none⟩ = some (.int .i64 0) := (blk_cell Za.out 0).trans rfl; have hcz26_1 : w21.cell? ⟨gb280, 1, none⟩ = some (.int .i64 0) := (blk_cell Za.out 1).trans rfl; have hcz26_2 : w21.cell? ⟨gb280, 2, none⟩ = some (.int .i64 0) := (blk_cell Za.out 2).trans rfl; have hcz26_3 : w21.cell? ⟨gb280, 3, none⟩ = some (.string (⟨#[]⟩ : ByteArray)) := (blk_cell Za.out 3).trans rfl; have hfz26_0 := blk_frozen Za.out 0; have hfz26_1 := blk_frozen Za.out 1; have hfz26_2 := blk_frozen Za.out 2; have hfz26_3 := blk_frozen Za.out 3))
      refine bodyPost_ret (results_cell_row rfl _ _ gb280 23 #[.int .i64 (rd y284 t287), .int .i64 t292, .int .i64 0, .string (⟨#[]⟩ : ByteArray)] (0, 0) _ rfl (by (with_reducible repeat (first | refine blk_drewN ?_ _ | refine blk_drew ?_ | refine blk_alloc ?_ _)); refine blk_put (cs := #[.int .i64 (rd y284 t287), .int .i64 t292, .int .i64 0, .string (⟨#[]⟩ : ByteArray)]) ?_ 3 _ rfl; (with_reducible repeat (first | refine blk_drewN ?_ _ | refine blk_drew ?_ | refine blk_alloc ?_ _)); refine blk_put (cs := #[.int .i64 (rd y284 t287), .int .i64 t292, .int .i64 0, .string (⟨#[]⟩ : ByteArray)]) ?_ 2 _ rfl; (with_reducible repeat (first | refine blk_drewN ?_ _ | refine blk_drew ?_ | refine blk_alloc ?_ _)); refine blk_put (cs := #[.int .i64 (rd y284 t287), .int .i64 0, .int .i64 0, .string (⟨#[]⟩ : ByteArray)]) ?_ 1 _ rfl; (with_reducible repeat (first | refine blk_drewN ?_ _ | refine blk_drew ?_ | refine blk_alloc ?_ _)); refine blk_put (cs := #[.int .i64 0, .int .i64 0, .int .i64 0, .string (⟨#[]⟩ : ByteArray)]) ?_ 0 _ rfl; (with_reducible repeat (first | refine blk_drewN ?_ _ | refine blk_drew ?_ | refine blk_alloc ?_ _)); refine blk_far ?_ Zc.out _; (with_reducible repeat (first | refine blk_drewN ?_ _ | refine blk_drew ?_ | refine blk_alloc ?_ _)); exact Za.out) Tryd.underlying23 rfl (by kernel_rfl)) rfl ?_
      exact ⟨by first | rfl | (simp [errW_none, errW_some] <;> rfl) | (simp [*, errW_none, errW_some] <;> rfl), zg_12 HI0.out Zd.out Ze.out, zg_13 HB.out HI0.out Zi.out Zl.out, zg_11 HK.out Zf.out Zk.out⟩
     ·replace c19 := Bool.eq_false_iff.mpr c19
      subst c19
      have H1 : (if (rd y284 t287) = 2 then ((spec_l00Src_next.f s0_0 t288 t289 10).bind fun bt295 => ((spec_l00Src_number.f s0_0 bt295.2.1 bt295.2.2).bind fun bt298 => (some ((rd y284 t287), bt295.1, bt298.1, (⟨#[]⟩ : ByteArray), bt298.2.1, bt298.2.2)))) else (if (rd y284 t287) = 8 then (some ((rd y284 t287), 0, 0, (⟨#[]⟩ : ByteArray), t288, t289)) else ((spec_l00Src_snapName.f s0_0 t288 t289).bind fun bt301 => (some ((rd y284 t287), 0, 0, bt301.1, bt301.2.1, bt301.2.2))))) = some (r1, r2, r3, r4, r5, r6) := by rw [if_neg (show ¬ (false = true) by decide)] at H; exact H
      clear H
      have H := H1
      clear H1
      by_cases c27 : (rd y284 t287) = 2
      ·rw [if_pos c27] at H
       have c27b0 : ((rd y284 t287) == 2) = true := beq_iff_eq.mpr c27
       have c27b1 : ((rd y284 t287) != 2) = false := bne_eq_false_iff_eq.mpr c27
       clear c27
       replace H := Option.bind_eq_some_iff.mp H
       obtain ⟨⟨t295, t296, t297⟩, A280, H⟩ := H
       replace H : ((spec_l00Src_number.f s0_0 t296 t297).bind fun bt298 => (some ((rd y284 t287), t295, bt298.1, (⟨#[]⟩ : ByteArray), bt298.2.1, bt298.2.2))) = some (r1, r2, r3, r4, r5, r6) := H
       have A28 := zm A280
       clear A280
       replace H := Option.bind_eq_some_iff.mp H
       obtain ⟨⟨t298, t299, t300⟩, A290, H⟩ := H
       replace H : (some ((rd y284 t287), t295, t298, (⟨#[]⟩ : ByteArray), t299, t300)) = some (r1, r2, r3, r4, r5, r6) := H
       have A29 := zm A290
       clear A290
       simp only [Option.some.injEq, Prod.mk.injEq] at H
       obtain ⟨rfl, rfl, rfl, rfl, rfl, rfl⟩ := H
       go_wp2_with (first | ((with_reducible refine gate_callee (f := 74) rfl ?_); refine goesL_ (some 28) rfl rfl Tryd.func74 (by kernel_rfl) rfl #[.pointer (some ⟨g, 0, none⟩), .int .i64 10] rfl zq ?_; (with_reducible refine (spec_l00Src_next.calls g s0_0 t288 t289 10 t295 t296 t297 w0 _ ?side1 ?side2 A28.out).mono ?_); (case side1 => repeat (first | (with_reducible first | exact HI0.out | apply IsS95.alloc | apply IsS95.drewN | apply IsS95.drew | apply IsS95.set_1 | apply IsS95.set_2 | refine IsS95.far ?_ Zd.out _ | refine IsS95.far ?_ Ze.out _) | exact HI0.out)); (case side2 => repeat (first | (with_reducible first | exact HB.out | apply below_alloc | apply pw_below_drewN | apply below_drew1 | refine below_set ?_ (IsS95.ge HI0.out) | refine below_set ?_ Zi.out | refine below_set ?_ Zl.out) | exact HB.out)); rintro e w30 ⟨rfl, hi, hb, hk⟩; refine ⟨_, rfl, ?_⟩; have n0_ := zm (KeepBut.blk hk (g' := gb280) (o := .cells #[.int .i64 0, .int .i64 0, .int .i64 0, .string (⟨#[]⟩ : ByteArray)] 23 (0, 0)) (zg_1 Za.out) Zg.out (by simp)); have n1_ := zm (KeepBut.blk hk (g' := gb291) (o := .cells #[.int .i64 (rd y284 t287), .int .i64 0, .int .i64 0, .string (⟨#[]⟩ : ByteArray)] 23 (0, 0)) (zg_1 Zb.out) Zh.out (by simp)); have n2_ := zm (KeepBut.trans (zg_11 HK.out Zf.out Zk.out) hk (.inl rfl)); have n3_ := zm (hb); have n4_ := zm (hi); clear Za; clear Zb; clear HK; clear HB; clear HI0; have Za := n0_; have Zb := n1_; have HK := n2_; have HB := n3_; have HI0 := n4_; clear n0_ n1_ n2_ n3_ n4_; (try clear hb); (try clear hb2); (try clear hk); (try clear hi); have hnb31 := Zj.out; have hnc31 := Zc.out; have hnb32 := Zh.out; have hnc32 := Ze.out; have hcz33_0 : w30.cell? ⟨gb291, 0, none⟩ = some (.int .i64 (rd y284 t287)) := (blk_cell Zb.out 0).trans rfl; have hcz33_1 : w30.cell? ⟨gb291, 1, none⟩ = some (.int .i64 0) := (blk_cell Zb.out 1).trans rfl; have hcz33_2 : w30.cell? ⟨gb291, 2, none⟩ = some (.int .i64 0) := (blk_cell Zb.out 2).trans rfl; have hcz33_3 : w30.cell? ⟨gb291, 3, none⟩ = some (.string (⟨#[]⟩ : ByteArray)) := (blk_cell Zb.out 3).trans rfl; have hfz33_0 := blk_frozen Zb.out 0; have hfz33_1 := blk_frozen Zb.out 1; have hfz33_2 := blk_frozen Zb.out 2; have hfz33_3 := blk_frozen Zb.out 3) | ((with_reducible refine gate_callee (f := 75) rfl ?_); refine goesL_ (some 31) rfl rfl Tryd.func75 (by kernel_rfl) rfl #[.pointer (some ⟨g, 0, none⟩)] rfl zq ?_; (with_reducible refine (spec_l00Src_number.calls g s0_0 t296 t297 t298 t299 t300 w0 _ ?side1 ?side2 A29.out).mono ?_); (case side1 => repeat (first | (with_reducible first | exact HI0.out | apply IsS95.alloc | apply IsS95.drewN | apply IsS95.drew | apply IsS95.set_1 | apply IsS95.set_2 | refine IsS95.far ?_ Zd.out _ | refine IsS95.far ?_ Ze.out _) | exact HI0.out)); (case side2 => repeat (first | (with_reducible first | exact HB.out | apply below_alloc | apply pw_below_drewN | apply below_drew1 | refine below_set ?_ (IsS95.ge HI0.out) | refine below_set ?_ Zi.out | refine below_set ?_ Zl.out) | exact HB.out)); rintro e w34 ⟨rfl, hi, hb, hk⟩; refine ⟨_, rfl, ?_⟩; have n0_ := zm (KeepBut.blk hk (g' := gb280) (o := .cells #[.int .i64 0, .int .i64 0, .int .i64 0, .string (⟨#[]⟩ : ByteArray)] 23 (0, 0)) (by (with_reducible repeat (first | refine blk_drewN ?_ _ | refine blk_drew ?_ | refine blk_alloc ?_ _)); refine blk_far ?_ Zc.out _; (with_reducible repeat (first | refine blk_drewN ?_ _ | refine blk_drew ?_ | refine blk_alloc ?_ _)); exact Za.out) Zg.out (by simp)); have n1_ := zm (KeepBut.blk hk (g' := gb291) (o := .cells #[.int .i64 (rd y284 t287), .int .i64 t295, .int .i64 0, .string (⟨#[]⟩ : ByteArray)] 23 (0, 0)) (by (with_reducible repeat (first | refine blk_drewN ?_ _ | refine blk_drew ?_ | refine blk_alloc ?_ _)); refine blk_put (cs := #[.int .i64 (rd y284 t287), .int .i64 0, .int .i64 0, .string (⟨#[]⟩ : ByteArray)]) ?_ 1 _ rfl; (with_reducible repeat (first | refine blk_drewN ?_ _ | refine blk_drew ?_ | refine blk_alloc ?_ _)); exact Zb.out) Zh.out (by simp)); have n2_ := zm (KeepBut.trans (zg_11 HK.out Zf.out Zk.out) hk (.inl rfl)); have n3_ := zm (hb); have n4_ := zm (hi); clear Za; clear Zb; clear HK; clear HB; clear HI0; have Za := n0_; have Zb := n1_; have HK := n2_; have HB := n3_; have HI0 := n4_; clear n0_ n1_ n2_ n3_ n4_; (try clear hb); (try clear hb2); (try clear hk); (try clear hi); have hcz35_0 : w34.cell? ⟨gb291, 0, none⟩ = some (.int .i64 (rd y284 t287)) := (blk_cell Zb.out 0).trans rfl; have hcz35_1 : w34.cell? ⟨gb291, 1, none⟩ = some (.int .i64 t295) := (blk_cell Zb.out 1).trans rfl; have hcz35_2 : w34.cell? ⟨gb291, 2, none⟩ = some (.int .i64 0) := (blk_cell Zb.out 2).trans rfl; have hcz35_3 : w34.cell? ⟨gb291, 3, none⟩ = some (.string (⟨#[]⟩ : ByteArray)) := (blk_cell Zb.out 3).trans rfl; have hfz35_0 := blk_frozen Zb.out 0; have hfz35_1 := blk_frozen Zb.out 1; have hfz35_2 := blk_frozen Zb.out 2; have hfz35_3 := blk_frozen Zb.out 3; have hnb36 := Zg.out; have hnc36 := Zd.out; have hcz37_0 : w34.cell? ⟨gb280, 0, none⟩ = some (.int .i64 0) := (blk_cell Za.out 0).trans rfl; have hcz37_1 : w34.cell? ⟨gb280, 1, none⟩ = some (.int .i64 0) := (blk_cell Za.out 1).trans rfl; have hcz37_2 : w34.cell? ⟨gb280, 2, none⟩ = some (.int .i64 0) := (blk_cell Za.out 2).trans rfl; have hcz37_3 : w34.cell? ⟨gb280, 3, none⟩ = some (.string (⟨#[]⟩ : ByteArray)) := (blk_cell Za.out 3).trans rfl; have hfz37_0 := blk_frozen Za.out 0; have hfz37_1 := blk_frozen Za.out 1; have hfz37_2 := blk_frozen Za.out 2; have hfz37_3 := blk_frozen Za.out 3))
       refine bodyPost_ret (results_cell_row rfl _ _ gb280 23 #[.int .i64 (rd y284 t287), .int .i64 t295, .int .i64 t298, .string (⟨#[]⟩ : ByteArray)] (0, 0) _ rfl (by (with_reducible repeat (first | refine blk_drewN ?_ _ | refine blk_drew ?_ | refine blk_alloc ?_ _)); refine blk_put (cs := #[.int .i64 (rd y284 t287), .int .i64 t295, .int .i64 t298, .string (⟨#[]⟩ : ByteArray)]) ?_ 3 _ rfl; (with_reducible repeat (first | refine blk_drewN ?_ _ | refine blk_drew ?_ | refine blk_alloc ?_ _)); refine blk_put (cs := #[.int .i64 (rd y284 t287), .int .i64 t295, .int .i64 0, .string (⟨#[]⟩ : ByteArray)]) ?_ 2 _ rfl; (with_reducible repeat (first | refine blk_drewN ?_ _ | refine blk_drew ?_ | refine blk_alloc ?_ _)); refine blk_put (cs := #[.int .i64 (rd y284 t287), .int .i64 0, .int .i64 0, .string (⟨#[]⟩ : ByteArray)]) ?_ 1 _ rfl; (with_reducible repeat (first | refine blk_drewN ?_ _ | refine blk_drew ?_ | refine blk_alloc ?_ _)); refine blk_put (cs := #[.int .i64 0, .int .i64 0, .int .i64 0, .string (⟨#[]⟩ : ByteArray)]) ?_ 0 _ rfl; (with_reducible repeat (first | refine blk_drewN ?_ _ | refine blk_drew ?_ | refine blk_alloc ?_ _)); refine blk_far ?_ Zc.out _; (with_reducible repeat (first | refine blk_drewN ?_ _ | refine blk_drew ?_ | refine blk_alloc ?_ _)); exact Za.out) Tryd.underlying23 rfl (by kernel_rfl)) rfl ?_
       exact ⟨by first | rfl | (simp [errW_none, errW_some] <;> rfl) | (simp [*, errW_none, errW_some] <;> rfl), zg_12 HI0.out Zd.out Ze.out, zg_13 HB.out HI0.out Zi.out Zl.out, zg_11 HK.out Zf.out Zk.out⟩
      ·rw [if_neg c27] at H
       have c27b0 : ((rd y284 t287) == 2) = false := beq_eq_false_iff_ne.mpr c27
       have c27b1 : ((rd y284 t287) != 2) = true := bne_iff_ne.mpr c27
       by_cases c38 : (rd y284 t287) = 8
       ·rw [if_pos c38] at H
        have c38b0 : ((rd y284 t287) == 8) = true := beq_iff_eq.mpr c38
        have c38b1 : ((rd y284 t287) != 8) = false := bne_eq_false_iff_eq.mpr c38
        clear c38
        simp only [Option.some.injEq, Prod.mk.injEq] at H
        obtain ⟨rfl, rfl, rfl, rfl, rfl, rfl⟩ := H
        have hnb39 := Zj.out
        have hnc39 := Zc.out
        have hnb40 := Zh.out
        have hnc40 := Ze.out
        have hcz41_0 : wc.cell? ⟨gb291, 0, none⟩ = some (.int .i64 (rd y284 t287)) := (blk_cell Zb.out 0).trans rfl
        have hcz41_1 : wc.cell? ⟨gb291, 1, none⟩ = some (.int .i64 0) := (blk_cell Zb.out 1).trans rfl
        have hcz41_2 : wc.cell? ⟨gb291, 2, none⟩ = some (.int .i64 0) := (blk_cell Zb.out 2).trans rfl
        have hcz41_3 : wc.cell? ⟨gb291, 3, none⟩ = some (.string (⟨#[]⟩ : ByteArray)) := (blk_cell Zb.out 3).trans rfl
        have hfz41_0 := blk_frozen Zb.out 0
        have hfz41_1 := blk_frozen Zb.out 1
        have hfz41_2 := blk_frozen Zb.out 2
        have hfz41_3 := blk_frozen Zb.out 3
        have hnb42 := Zg.out
        have hnc42 := Zd.out
        have hcz43_0 : wc.cell? ⟨gb280, 0, none⟩ = some (.int .i64 0) := (blk_cell Za.out 0).trans rfl
        have hcz43_1 : wc.cell? ⟨gb280, 1, none⟩ = some (.int .i64 0) := (blk_cell Za.out 1).trans rfl
        have hcz43_2 : wc.cell? ⟨gb280, 2, none⟩ = some (.int .i64 0) := (blk_cell Za.out 2).trans rfl
        have hcz43_3 : wc.cell? ⟨gb280, 3, none⟩ = some (.string (⟨#[]⟩ : ByteArray)) := (blk_cell Za.out 3).trans rfl
        have hfz43_0 := blk_frozen Za.out 0
        have hfz43_1 := blk_frozen Za.out 1
        have hfz43_2 := blk_frozen Za.out 2
        have hfz43_3 := blk_frozen Za.out 3
        go_wp2
        refine bodyPost_ret (results_cell_row rfl _ _ gb280 23 #[.int .i64 (rd y284 t287), .int .i64 0, .int .i64 0, .string (⟨#[]⟩ : ByteArray)] (0, 0) _ rfl (by (with_reducible repeat (first | refine blk_drewN ?_ _ | refine blk_drew ?_ | refine blk_alloc ?_ _)); refine blk_put (cs := #[.int .i64 (rd y284 t287), .int .i64 0, .int .i64 0, .string (⟨#[]⟩ : ByteArray)]) ?_ 3 _ rfl; (with_reducible repeat (first | refine blk_drewN ?_ _ | refine blk_drew ?_ | refine blk_alloc ?_ _)); refine blk_put (cs := #[.int .i64 (rd y284 t287), .int .i64 0, .int .i64 0, .string (⟨#[]⟩ : ByteArray)]) ?_ 2 _ rfl; (with_reducible repeat (first | refine blk_drewN ?_ _ | refine blk_drew ?_ | refine blk_alloc ?_ _)); refine blk_put (cs := #[.int .i64 (rd y284 t287), .int .i64 0, .int .i64 0, .string (⟨#[]⟩ : ByteArray)]) ?_ 1 _ rfl; (with_reducible repeat (first | refine blk_drewN ?_ _ | refine blk_drew ?_ | refine blk_alloc ?_ _)); refine blk_put (cs := #[.int .i64 0, .int .i64 0, .int .i64 0, .string (⟨#[]⟩ : ByteArray)]) ?_ 0 _ rfl; (with_reducible repeat (first | refine blk_drewN ?_ _ | refine blk_drew ?_ | refine blk_alloc ?_ _)); exact Za.out) Tryd.underlying23 rfl (by kernel_rfl)) rfl ?_
        exact ⟨by first | rfl | (simp [errW_none, errW_some] <;> rfl) | (simp [*, errW_none, errW_some] <;> rfl), zg_12 HI0.out Zd.out Ze.out, zg_13 HB.out HI0.out Zi.out Zl.out, zg_11 HK.out Zf.out Zk.out⟩
       ·rw [if_neg c38] at H
        have c38b0 : ((rd y284 t287) == 8) = false := beq_eq_false_iff_ne.mpr c38
        have c38b1 : ((rd y284 t287) != 8) = true := bne_iff_ne.mpr c38
        replace H := Option.bind_eq_some_iff.mp H
        obtain ⟨⟨t301, t302, t303⟩, A440, H⟩ := H
        replace H : (some ((rd y284 t287), 0, 0, t301, t302, t303)) = some (r1, r2, r3, r4, r5, r6) := H
        have A44 := zm A440
        clear A440
        simp only [Option.some.injEq, Prod.mk.injEq] at H
        obtain ⟨rfl, rfl, rfl, rfl, rfl, rfl⟩ := H
        go_wp2_with (first | ((with_reducible refine gate_callee (f := 76) rfl ?_); refine goesL_ (some 16) rfl rfl Tryd.func76 (by kernel_rfl) rfl #[.pointer (some ⟨g, 0, none⟩)] rfl zq ?_; (with_reducible refine (spec_l00Src_snapName.calls g s0_0 t288 t289 t301 t302 t303 w0 _ ?side1 ?side2 A44.out).mono ?_); (case side1 => repeat (first | (with_reducible first | exact HI0.out | apply IsS95.alloc | apply IsS95.drewN | apply IsS95.drew | apply IsS95.set_1 | apply IsS95.set_2 | refine IsS95.far ?_ Zd.out _ | refine IsS95.far ?_ Ze.out _) | exact HI0.out)); (case side2 => repeat (first | (with_reducible first | exact HB.out | apply below_alloc | apply pw_below_drewN | apply below_drew1 | refine below_set ?_ (IsS95.ge HI0.out) | refine below_set ?_ Zi.out | refine below_set ?_ Zl.out) | exact HB.out)); rintro e w45 ⟨rfl, hi, hb, hk⟩; refine ⟨_, rfl, ?_⟩; have n0_ := zm (KeepBut.blk hk (g' := gb280) (o := .cells #[.int .i64 0, .int .i64 0, .int .i64 0, .string (⟨#[]⟩ : ByteArray)] 23 (0, 0)) (zg_1 Za.out) Zg.out (by simp)); have n1_ := zm (KeepBut.blk hk (g' := gb291) (o := .cells #[.int .i64 (rd y284 t287), .int .i64 0, .int .i64 0, .string (⟨#[]⟩ : ByteArray)] 23 (0, 0)) (zg_1 Zb.out) Zh.out (by simp)); have n2_ := zm (KeepBut.trans (zg_11 HK.out Zf.out Zk.out) hk (.inl rfl)); have n3_ := zm (hb); have n4_ := zm (hi); clear Za; clear Zb; clear HK; clear HB; clear HI0; have Za := n0_; have Zb := n1_; have HK := n2_; have HB := n3_; have HI0 := n4_; clear n0_ n1_ n2_ n3_ n4_; (try clear hb); (try clear hb2); (try clear hk); (try clear hi); have hnb46 := Zj.out; have hnc46 := Zc.out; have hnb47 := Zh.out; have hnc47 := Ze.out; have hcz48_0 : w45.cell? ⟨gb291, 0, none⟩ = some (.int .i64 (rd y284 t287)) := (blk_cell Zb.out 0).trans rfl; have hcz48_1 : w45.cell? ⟨gb291, 1, none⟩ = some (.int .i64 0) := (blk_cell Zb.out 1).trans rfl; have hcz48_2 : w45.cell? ⟨gb291, 2, none⟩ = some (.int .i64 0) := (blk_cell Zb.out 2).trans rfl; have hcz48_3 : w45.cell? ⟨gb291, 3, none⟩ = some (.string (⟨#[]⟩ : ByteArray)) := (blk_cell Zb.out 3).trans rfl; have hfz48_0 := blk_frozen Zb.out 0; have hfz48_1 := blk_frozen Zb.out 1; have hfz48_2 := blk_frozen Zb.out 2; have hfz48_3 := blk_frozen Zb.out 3; have hnb49 := Zg.out; have hnc49 := Zd.out; have hcz50_0 : w45.cell? ⟨gb280, 0, none⟩ = some (.int .i64 0) := (blk_cell Za.out 0).trans rfl; have hcz50_1 : w45.cell? ⟨gb280, 1, none⟩ = some (.int .i64 0) := (blk_cell Za.out 1).trans rfl; have hcz50_2 : w45.cell? ⟨gb280, 2, none⟩ = some (.int .i64 0) := (blk_cell Za.out 2).trans rfl; have hcz50_3 : w45.cell? ⟨gb280, 3, none⟩ = some (.string (⟨#[]⟩ : ByteArray)) := (blk_cell Za.out 3).trans rfl; have hfz50_0 := blk_frozen Za.out 0; have hfz50_1 := blk_frozen Za.out 1; have hfz50_2 := blk_frozen Za.out 2; have hfz50_3 := blk_frozen Za.out 3))
        refine bodyPost_ret (results_cell_row rfl _ _ gb280 23 #[.int .i64 (rd y284 t287), .int .i64 0, .int .i64 0, .string t301] (0, 0) _ rfl (by (with_reducible repeat (first | refine blk_drewN ?_ _ | refine blk_drew ?_ | refine blk_alloc ?_ _)); refine blk_put (cs := #[.int .i64 (rd y284 t287), .int .i64 0, .int .i64 0, .string (⟨#[]⟩ : ByteArray)]) ?_ 3 _ rfl; (with_reducible repeat (first | refine blk_drewN ?_ _ | refine blk_drew ?_ | refine blk_alloc ?_ _)); refine blk_put (cs := #[.int .i64 (rd y284 t287), .int .i64 0, .int .i64 0, .string (⟨#[]⟩ : ByteArray)]) ?_ 2 _ rfl; (with_reducible repeat (first | refine blk_drewN ?_ _ | refine blk_drew ?_ | refine blk_alloc ?_ _)); refine blk_put (cs := #[.int .i64 (rd y284 t287), .int .i64 0, .int .i64 0, .string (⟨#[]⟩ : ByteArray)]) ?_ 1 _ rfl; (with_reducible repeat (first | refine blk_drewN ?_ _ | refine blk_drew ?_ | refine blk_alloc ?_ _)); refine blk_put (cs := #[.int .i64 0, .int .i64 0, .int .i64 0, .string (⟨#[]⟩ : ByteArray)]) ?_ 0 _ rfl; (with_reducible repeat (first | refine blk_drewN ?_ _ | refine blk_drew ?_ | refine blk_alloc ?_ _)); refine blk_far ?_ Zc.out _; (with_reducible repeat (first | refine blk_drewN ?_ _ | refine blk_drew ?_ | refine blk_alloc ?_ _)); exact Za.out) Tryd.underlying23 rfl (by kernel_rfl)) rfl ?_
        exact ⟨by first | rfl | (simp [errW_none, errW_some] <;> rfl) | (simp [*, errW_none, errW_some] <;> rfl), zg_12 HI0.out Zd.out Ze.out, zg_13 HB.out HI0.out Zi.out Zl.out, zg_11 HK.out Zf.out Zk.out⟩
  ·rw [if_neg c5] at H
   exact absurd H (by simp)
 ·rw [if_neg c4] at H
  exact absurd H (by simp)
/-! ### spec_ReqOf: function 11 -/
def spec_ReqOf.f (k : Nat) (l0 : List Int) : Option (Int × Int × Int × ByteArray) := (spec_l00Source.f l0).bind fun bt305 => ((spec_l00Src_req.f k bt305.1 bt305.2.1 bt305.2.2).bind fun bt309 => (some (bt309.1, bt309.2.1, bt309.2.2.1, bt309.2.2.2.1)))
theorem spec_ReqOf.mono : ∀ a0 k, LeO (spec_ReqOf.f k a0) (spec_ReqOf.f (k + 1) a0) := by
  intro a0 k
  unfold spec_ReqOf.f
  repeat' first
      | (with_reducible exact spec_l00Src_req.mono _ _ _ _)
      | (with_reducible exact LeO.refl _)
      | (with_reducible exact LeO.none _)
      | (with_reducible refine LeO.ite ?_ ?_)
      | (with_reducible refine LeO.bind ?_ (fun _ => ?_))
      | exact spec_l00Src_req.mono _ _ _ _
      | exact LeO.none _
      | refine LeO.ite ?_ ?_
      | refine LeO.bind ?_ (fun _ => ?_)
set_option maxHeartbeats 8000000 in
set_option maxRecDepth 100000 in
theorem spec_ReqOf.calls (k : Nat) (A0 : Option Addr) (c0 : Nat) (l0 : List Int) (r1 : Int) (r2 : Int) (r3 : Int) (r4 : ByteArray) (w : World) (hr0 : Kd.C (Kd.int .u8) w A0 l0.length l0) (hc0 : l0.length ≤ c0) (h : spec_ReqOf.f k l0 = some (r1, r2, r3, r4)) :
    Calls Tryd.prog 11 #[.slice A0 l0.length c0] w fun e w' => e = .returned (.agg #[.int .i64 r1, .int .i64 r2, .int .i64 r3, .string r4]) ∧ Below w.heap.size w w' := by
 have hu23 := Tryd.underlying23
 have HR0 := zm hr0
 have HC0 := zm hc0
 clear hr0 hc0
 have HB := zm (Below.refl w.heap.size w)
 have H : ((spec_l00Source.f l0).bind fun bt305 => ((spec_l00Src_req.f k bt305.1 bt305.2.1 bt305.2.2).bind fun bt309 => (some (bt309.1, bt309.2.1, bt309.2.2.1, bt309.2.2.2.1)))) = some (r1, r2, r3, r4) := h
 clear h
 replace H := Option.bind_eq_some_iff.mp H
 obtain ⟨⟨t305, t306, t307⟩, A20, H⟩ := H
 replace H : ((spec_l00Src_req.f k t305 t306 t307).bind fun bt309 => (some (bt309.1, bt309.2.1, bt309.2.2.1, bt309.2.2.2.1))) = some (r1, r2, r3, r4) := H
 have A2 := zm A20
 clear A20
 replace H := Option.bind_eq_some_iff.mp H
 obtain ⟨⟨t309, t310, t311, t312, t313, t314⟩, A30, H⟩ := H
 replace H : (some (t309, t310, t311, t312)) = some (r1, r2, r3, r4) := H
 have A3 := zm A30
 clear A30
 simp only [Option.some.injEq, Prod.mk.injEq] at H
 obtain ⟨rfl, rfl, rfl, rfl⟩ := H
 go_enter Tryd.func11, Tryd.ntmps11
 go_wp2_with (first | ((with_reducible refine gate_dst (N := 2) rfl ?_); refine box_event ?hg (N := 2) ?hd (cs := #[.int .i64 0, .int .i64 0, .int .i64 0, .string (⟨#[]⟩ : ByteArray)]) (t := 23) ?hr ?_; (case hd => rfl); (case hg => rfl); (case hr => first | (go_simp; done) | (go_simp; rfl)); intro gb304 hg w4 hbox hb; have n0_ := zm (below_step (zg_0 HB.out) hb); have n1_ := zm (hbox); have n2_ := zm ((by rw [hg]; exact (below_size (zg_0 HB.out)) : w.heap.size ≤ gb304)); have n3_ := zm ((by rw [hg]; exact (below_size (zg_0 HB.out)) : w.heap.size ≤ gb304)); clear HB; have HB := n0_; have BK304 := n1_; have GW304 := n2_; have GE304 := n3_; clear n0_ n1_ n2_ n3_; clear hb hbox hg) | ((with_reducible refine gate_callee (f := 34) rfl ?_); refine goesL_ (some 4) rfl rfl Tryd.func34 (by kernel_rfl) rfl #[.slice A0 l0.length c0] rfl zq ?_; (with_reducible refine (spec_l00Source.calls _ _ l0 t305 t306 t307 w _ ?side1 ?side2 ?side3 A2.out).mono ?_); (case side1 => repeat (first | (with_reducible first | exact HB.out | apply below_alloc | apply pw_below_drewN | apply below_drew1 | refine below_set ?_ GE304.out) | exact HB.out)); (case side2 => exact HR0.out); (case side3 => exact HC0.out); rintro e w5 ⟨g308, rfl, hi, hb, hb2⟩; refine ⟨_, rfl, ?_⟩; have n0_ := zm (blk_below (g := gb304) (o := .cells #[.int .i64 0, .int .i64 0, .int .i64 0, .string (⟨#[]⟩ : ByteArray)] 23 (0, 0)) (zg_1 BK304.out) hb2); have n1_ := zm (hb); have n2_ := zm (hi); have n3_ := zm (IsS95.ne_blk hi (blk_below (g := gb304) (o := .cells #[.int .i64 0, .int .i64 0, .int .i64 0, .string (⟨#[]⟩ : ByteArray)] 23 (0, 0)) (zg_1 BK304.out) hb2) (by decide)); have n4_ := zm (Ne.symm (IsS95.ne_blk hi (blk_below (g := gb304) (o := .cells #[.int .i64 0, .int .i64 0, .int .i64 0, .string (⟨#[]⟩ : ByteArray)] 23 (0, 0)) (zg_1 BK304.out) hb2) (by decide))); clear BK304; clear HB; have BK304 := n0_; have HB := n1_; have HI308 := n2_; have NB308_304 := n3_; have NB304_308 := n4_; clear n0_ n1_ n2_ n3_ n4_; (try clear hb); (try clear hb2); (try clear hk); (try clear hi)) | ((with_reducible refine gate_callee (f := 35) rfl ?_); refine goesL_ (some 5) rfl rfl Tryd.func35 (by kernel_rfl) rfl #[.pointer (some ⟨g308, 0, none⟩)] rfl zq ?_; (with_reducible refine (spec_l00Src_req.calls k g308 t305 t306 t307 t309 t310 t311 t312 t313 t314 w _ ?side1 ?side2 A3.out).mono ?_); (case side1 => repeat (first | (with_reducible first | exact HI308.out | apply IsS95.alloc | apply IsS95.drewN | apply IsS95.drew | apply IsS95.set_1 | apply IsS95.set_2 | refine IsS95.far ?_ NB308_304.out _) | exact HI308.out)); (case side2 => repeat (first | (with_reducible first | exact HB.out | apply below_alloc | apply pw_below_drewN | apply below_drew1 | refine below_set ?_ (IsS95.ge HI308.out) | refine below_set ?_ GE304.out) | exact HB.out)); rintro e w6 ⟨rfl, hi, hb, hk⟩; refine ⟨_, rfl, ?_⟩; have n0_ := zm (KeepBut.blk hk (g' := gb304) (o := .cells #[.int .i64 0, .int .i64 0, .int .i64 0, .string (⟨#[]⟩ : ByteArray)] 23 (0, 0)) (zg_1 BK304.out) NB304_308.out (by simp)); have n1_ := zm (hb); have n2_ := zm (hi); clear BK304; clear HB; clear HI308; have BK304 := n0_; have HB := n1_; have HI308 := n2_; clear n0_ n1_ n2_; (try clear hb); (try clear hb2); (try clear hk); (try clear hi); have hnb7 := NB304_308.out; have hnc7 := NB308_304.out; have hcz8_0 : w6.cell? ⟨gb304, 0, none⟩ = some (.int .i64 0) := (blk_cell BK304.out 0).trans rfl; have hcz8_1 : w6.cell? ⟨gb304, 1, none⟩ = some (.int .i64 0) := (blk_cell BK304.out 1).trans rfl; have hcz8_2 : w6.cell? ⟨gb304, 2, none⟩ = some (.int .i64 0) := (blk_cell BK304.out 2).trans rfl; have hcz8_3 : w6.cell? ⟨gb304, 3, none⟩ = some (.string (⟨#[]⟩ : ByteArray)) := (blk_cell BK304.out 3).trans rfl; have hfz8_0 := blk_frozen BK304.out 0; have hfz8_1 := blk_frozen BK304.out 1; have hfz8_2 := blk_frozen BK304.out 2; have hfz8_3 := blk_frozen BK304.out 3))
 refine bodyPost_ret (results_cell_row rfl _ _ gb304 23 #[.int .i64 t309, .int .i64 t310, .int .i64 t311, .string t312] (0, 0) _ rfl (by (with_reducible repeat (first | refine blk_drewN ?_ _ | refine blk_drew ?_ | refine blk_alloc ?_ _)); refine blk_put (cs := #[.int .i64 t309, .int .i64 t310, .int .i64 t311, .string (⟨#[]⟩ : ByteArray)]) ?_ 3 _ rfl; (with_reducible repeat (first | refine blk_drewN ?_ _ | refine blk_drew ?_ | refine blk_alloc ?_ _)); refine blk_put (cs := #[.int .i64 t309, .int .i64 t310, .int .i64 0, .string (⟨#[]⟩ : ByteArray)]) ?_ 2 _ rfl; (with_reducible repeat (first | refine blk_drewN ?_ _ | refine blk_drew ?_ | refine blk_alloc ?_ _)); refine blk_put (cs := #[.int .i64 t309, .int .i64 0, .int .i64 0, .string (⟨#[]⟩ : ByteArray)]) ?_ 1 _ rfl; (with_reducible repeat (first | refine blk_drewN ?_ _ | refine blk_drew ?_ | refine blk_alloc ?_ _)); refine blk_put (cs := #[.int .i64 0, .int .i64 0, .int .i64 0, .string (⟨#[]⟩ : ByteArray)]) ?_ 0 _ rfl; (with_reducible repeat (first | refine blk_drewN ?_ _ | refine blk_drew ?_ | refine blk_alloc ?_ _)); exact BK304.out) Tryd.underlying23 rfl (by kernel_rfl)) rfl ?_
 exact ⟨by first | rfl | (simp [errW_none, errW_some] <;> rfl) | (simp [*, errW_none, errW_some] <;> rfl), zg_10 HB.out HI308.out GE304.out⟩
/-! ### spec_ReqOK: function 39 -/
mutual
def spec_ReqOK.j0 : Nat → Bool → Int → Int → Int → ByteArray → Option (Bool)
  | 0, _, _, _, _, _ => none
  | k + 1, x12, x320000, x320001, x320002, x320003 => if x12 = true then (some false) else (if x320000 = 1 then (spec_ReqOK.j1 k x320000 (x320000 == 1) x320000 x320001 x320002 x320003) else (if x320000 = 3 then (spec_ReqOK.j1 k x320000 (x320000 == 3) x320000 x320001 x320002 x320003) else (spec_ReqOK.j1 k x320000 (x320000 == 4) x320000 x320001 x320002 x320003)))
def spec_ReqOK.j1 : Nat → Int → Bool → Int → Int → Int → ByteArray → Option (Bool)
  | 0, _, _, _, _, _, _ => none
  | k + 1, x14, x15, x320000, x320001, x320002, x320003 => if x15 = true then (if x320002 = 0 then (some (x320003.toList == ([] : List UInt8))) else (some false)) else (if x14 = 2 then (some (x320003.toList == ([] : List UInt8))) else (if x14 = 8 then (if x320001 = 0 then (if x320002 = 0 then (some (x320003.toList == ([] : List UInt8))) else (some false)) else (some false)) else (if x320001 = 0 then (some (x320002 == 0)) else (some false))))
end
def spec_ReqOK.f (k : Nat) (a0_0 : Int) (a0_1 : Int) (a0_2 : Int) (a0_3 : ByteArray) : Option (Bool) := (spec_l01In.f a0_0 1 8).bind fun t320 => (if t320 = true then (spec_ReqOK.j0 k (decide ((a0_3.size : Int) > 65536)) a0_0 a0_1 a0_2 a0_3) else (spec_ReqOK.j0 k true a0_0 a0_1 a0_2 a0_3))
theorem spec_ReqOK.mono_l : ∀ k, (∀ y0 y1 y2 y3 y4, LeO (spec_ReqOK.j0 k y0 y1 y2 y3 y4) (spec_ReqOK.j0 (k + 1) y0 y1 y2 y3 y4)) ∧ (∀ y0 y1 y2 y3 y4 y5, LeO (spec_ReqOK.j1 k y0 y1 y2 y3 y4 y5) (spec_ReqOK.j1 (k + 1) y0 y1 y2 y3 y4 y5))
  | 0 => ⟨fun _ _ _ _ _ r h => by simp [spec_ReqOK.j0] at h, fun _ _ _ _ _ _ r h => by simp [spec_ReqOK.j1] at h⟩
  | k + 1 => by
    obtain ⟨ih0, ih1⟩ := spec_ReqOK.mono_l k
    refine ⟨?_, ?_⟩
    · intro y0 y1 y2 y3 y4
      unfold spec_ReqOK.j0
      repeat' first
      | (with_reducible exact ih0 _ _ _ _ _)
      | (with_reducible exact ih1 _ _ _ _ _ _)
      | (with_reducible exact LeO.refl _)
      | (with_reducible exact LeO.none _)
      | (with_reducible refine LeO.ite ?_ ?_)
      | (with_reducible refine LeO.bind ?_ (fun _ => ?_))
      | exact ih0 _ _ _ _ _
      | exact ih1 _ _ _ _ _ _
      | exact LeO.none _
      | refine LeO.ite ?_ ?_
      | refine LeO.bind ?_ (fun _ => ?_)
    · intro y0 y1 y2 y3 y4 y5
      unfold spec_ReqOK.j1
      repeat' first
      | (with_reducible exact ih0 _ _ _ _ _)
      | (with_reducible exact ih1 _ _ _ _ _ _)
      | (with_reducible exact LeO.refl _)
      | (with_reducible exact LeO.none _)
      | (with_reducible refine LeO.ite ?_ ?_)
      | (with_reducible refine LeO.bind ?_ (fun _ => ?_))
      | exact ih0 _ _ _ _ _
      | exact ih1 _ _ _ _ _ _
      | exact LeO.none _
      | refine LeO.ite ?_ ?_
      | refine LeO.bind ?_ (fun _ => ?_)
theorem spec_ReqOK.mono : ∀ a0 a1 a2 a3 k, LeO (spec_ReqOK.f k a0 a1 a2 a3) (spec_ReqOK.f (k + 1) a0 a1 a2 a3) := by
  intro a0 a1 a2 a3 k
  obtain ⟨ih0, ih1⟩ := spec_ReqOK.mono_l k
  unfold spec_ReqOK.f
  repeat' first
      | (with_reducible exact ih0 _ _ _ _ _)
      | (with_reducible exact ih1 _ _ _ _ _ _)
      | (with_reducible exact LeO.refl _)
      | (with_reducible exact LeO.none _)
      | (with_reducible refine LeO.ite ?_ ?_)
      | (with_reducible refine LeO.bind ?_ (fun _ => ?_))
      | exact ih0 _ _ _ _ _
      | exact ih1 _ _ _ _ _ _
      | exact LeO.none _
      | refine LeO.ite ?_ ?_
      | refine LeO.bind ?_ (fun _ => ?_)
set_option maxHeartbeats 8000000 in
set_option maxRecDepth 100000 in
theorem spec_ReqOK.calls (k : Nat) (a0_0 : Int) (a0_1 : Int) (a0_2 : Int) (a0_3 : ByteArray) (r : Bool) (w : World) (h : spec_ReqOK.f k a0_0 a0_1 a0_2 a0_3 = some r) :
    Calls Tryd.prog 39 #[.agg #[.int .i64 a0_0, .int .i64 a0_1, .int .i64 a0_2, .string a0_3]] w fun e w' => e = .returned (.bool r) ∧ Below w.heap.size w w' := by
 have hu23 := Tryd.underlying23
 have HB := zm (Below.refl w.heap.size w)
 have H : ((spec_l01In.f a0_0 1 8).bind fun t320 => (if t320 = true then (spec_ReqOK.j0 k (decide ((a0_3.size : Int) > 65536)) a0_0 a0_1 a0_2 a0_3) else (spec_ReqOK.j0 k true a0_0 a0_1 a0_2 a0_3))) = some r := h
 clear h
 have HC2 := zm H
 clear H
 go_enter Tryd.func39, Tryd.ntmps39
 go_upto_region 1 with (first | ((with_reducible refine gate_dst (N := 1) rfl ?_); (try (refine gate_guard (by rfl) ?_; dsimp only)); refine box_event ?hg (N := 1) ?hd (cs := #[.int .i64 a0_0, .int .i64 a0_1, .int .i64 a0_2, .string a0_3]) (t := 23) ?hr ?_; (case hd => rfl); (case hg => rfl); (case hr => first | (go_simp; done) | (go_simp; rfl)); intro gb319 hg w3 hbox hb; have n0_ := zm (below_step (zg_0 HB.out) hb); have n1_ := zm (hbox); have n2_ := zm ((by rw [hg]; exact (below_size (zg_0 HB.out)) : w.heap.size ≤ gb319)); have n3_ := zm ((by rw [hg]; exact (below_size (zg_0 HB.out)) : w.heap.size ≤ gb319)); clear HB; have HB := n0_; have Za := n1_; have Zc := n2_; have Zb := n3_; clear n0_ n1_ n2_ n3_; clear hb hbox hg))
 (try simp only [Act.put, zs, zz, zt])
 go_cut [12] (fun v12 wc => ∃ (kq : Nat) (x12_1 : Bool), v12 = .bool x12_1 ∧ Aside0 (spec_ReqOK.j0 kq x12_1 a0_0 a0_1 a0_2 a0_3 = some r) ∧ Aside0 (kq ≤ k) ∧ Aside0 (wc.heap[gb319]? = some (.cells #[.int .i64 a0_0, .int .i64 a0_1, .int .i64 a0_2, .string a0_3] 23 (0, 0))) ∧ Aside0 (Below w.heap.size w wc))
 case first =>
  have H := HC2.out
  clear HC2
  replace H := Option.bind_eq_some_iff.mp H
  obtain ⟨t320, A40, H⟩ := H
  replace H : (if t320 = true then (spec_ReqOK.j0 k (decide ((a0_3.size : Int) > 65536)) a0_0 a0_1 a0_2 a0_3) else (spec_ReqOK.j0 k true a0_0 a0_1 a0_2 a0_3)) = some r := H
  have A4 := zm A40
  clear A40
  by_cases c5 : t320 = true
  ·subst c5
   have H1 : (spec_ReqOK.j0 k (decide ((a0_3.size : Int) > 65536)) a0_0 a0_1 a0_2 a0_3) = some r := by rw [if_pos rfl] at H; exact H
   clear H
   have H := H1
   clear H1
   have H' := zm H
   clear H
   have hcz6_0 : w3.cell? ⟨gb319, 0, none⟩ = some (.int .i64 a0_0) := (blk_cell Za.out 0).trans rfl
   have hcz6_1 : w3.cell? ⟨gb319, 1, none⟩ = some (.int .i64 a0_1) := (blk_cell Za.out 1).trans rfl
   have hcz6_2 : w3.cell? ⟨gb319, 2, none⟩ = some (.int .i64 a0_2) := (blk_cell Za.out 2).trans rfl
   have hcz6_3 : w3.cell? ⟨gb319, 3, none⟩ = some (.string a0_3) := (blk_cell Za.out 3).trans rfl
   have hfz6_0 := blk_frozen Za.out 0
   have hfz6_1 := blk_frozen Za.out 1
   have hfz6_2 := blk_frozen Za.out 2
   have hfz6_3 := blk_frozen Za.out 3
   go_wp2_with (first | ((with_reducible refine gate_callee (f := 41) rfl ?_); refine goesL_ (some 5) rfl rfl Tryd.func41 (by kernel_rfl) rfl #[.int .i64 a0_0, .int .i64 1, .int .i64 8] rfl zq ?_; (with_reducible refine (spec_l01In.calls a0_0 1 8 true _ A4.out).mono ?_); rintro e w' ⟨rfl, ⟨nd, rfl⟩⟩; refine ⟨_, rfl, ?_⟩))
   go_meet
   case rel => exact ⟨_, (decide ((a0_3.size : Int) > 65536)), zr, H', ⟨by first | omega | exact Nat.le_refl _⟩, ⟨by (with_reducible repeat (first | refine blk_drewN ?_ _ | refine blk_drew ?_ | refine blk_alloc ?_ _)); exact Za.out⟩, ⟨zg_2 HB.out Zb.out⟩⟩
  ·replace c5 := Bool.eq_false_iff.mpr c5
   subst c5
   have H1 : (spec_ReqOK.j0 k true a0_0 a0_1 a0_2 a0_3) = some r := by rw [if_neg (show ¬ (false = true) by decide)] at H; exact H
   clear H
   have H := H1
   clear H1
   have H' := zm H
   clear H
   have hcz7_0 : w3.cell? ⟨gb319, 0, none⟩ = some (.int .i64 a0_0) := (blk_cell Za.out 0).trans rfl
   have hcz7_1 : w3.cell? ⟨gb319, 1, none⟩ = some (.int .i64 a0_1) := (blk_cell Za.out 1).trans rfl
   have hcz7_2 : w3.cell? ⟨gb319, 2, none⟩ = some (.int .i64 a0_2) := (blk_cell Za.out 2).trans rfl
   have hcz7_3 : w3.cell? ⟨gb319, 3, none⟩ = some (.string a0_3) := (blk_cell Za.out 3).trans rfl
   have hfz7_0 := blk_frozen Za.out 0
   have hfz7_1 := blk_frozen Za.out 1
   have hfz7_2 := blk_frozen Za.out 2
   have hfz7_3 := blk_frozen Za.out 3
   go_wp2_with (first | ((with_reducible refine gate_callee (f := 41) rfl ?_); refine goesL_ (some 5) rfl rfl Tryd.func41 (by kernel_rfl) rfl #[.int .i64 a0_0, .int .i64 1, .int .i64 8] rfl zq ?_; (with_reducible refine (spec_l01In.calls a0_0 1 8 false _ A4.out).mono ?_); rintro e w' ⟨rfl, ⟨nd, rfl⟩⟩; refine ⟨_, rfl, ?_⟩))
   go_meet
   case rel => exact ⟨_, (true), zr, H', ⟨by first | omega | exact Nat.le_refl _⟩, ⟨by (with_reducible repeat (first | refine blk_drewN ?_ _ | refine blk_drew ?_ | refine blk_alloc ?_ _)); exact Za.out⟩, ⟨zg_2 HB.out Zb.out⟩⟩
 case rest =>
  clear HC2
  try clear p2
  try clear c3
  try clear c4
  try clear c5
  try clear hcz6_0
  try clear hcz6_1
  try clear hcz6_2
  try clear hcz6_3
  try clear hcz7_0
  try clear hcz7_1
  try clear hcz7_2
  try clear hcz7_3
  try clear hfz6_0
  try clear hfz6_1
  try clear hfz6_2
  try clear hfz6_3
  try clear hfz7_0
  try clear hfz7_1
  try clear hfz7_2
  try clear hfz7_3
  obtain ⟨kq, x12_1, rfl, HA, HJ1, Za, HB⟩ := hcut
  cases kq with
  | zero => exact absurd HA.out (by simp [spec_ReqOK.j0])
  | succ kj1 =>
   have H := HA.out
   clear HA
   simp only [spec_ReqOK.j0] at H
   by_cases c8 : x12_1 = true
   ·subst c8
    have H1 : (some false) = some r := by rw [if_pos rfl] at H; exact H
    clear H
    have H := H1
    clear H1
    obtain rfl := Option.some.inj H
    go_wp2
    go_ret
    exact ⟨by first | rfl | (simp [errW_none, errW_some] <;> rfl) | (simp [*, errW_none, errW_some] <;> rfl), zg_2 HB.out Zb.out⟩
   ·replace c8 := Bool.eq_false_iff.mpr c8
    subst c8
    have H1 : (if a0_0 = 1 then (spec_ReqOK.j1 kj1 a0_0 (a0_0 == 1) a0_0 a0_1 a0_2 a0_3) else (if a0_0 = 3 then (spec_ReqOK.j1 kj1 a0_0 (a0_0 == 3) a0_0 a0_1 a0_2 a0_3) else (spec_ReqOK.j1 kj1 a0_0 (a0_0 == 4) a0_0 a0_1 a0_2 a0_3))) = some r := by rw [if_neg (show ¬ (false = true) by decide)] at H; exact H
    clear H
    have H := H1
    clear H1
    have HC9 := zm H
    clear H
    have hcz10_0 : wc.cell? ⟨gb319, 0, none⟩ = some (.int .i64 a0_0) := (blk_cell Za.out 0).trans rfl
    have hcz10_1 : wc.cell? ⟨gb319, 1, none⟩ = some (.int .i64 a0_1) := (blk_cell Za.out 1).trans rfl
    have hcz10_2 : wc.cell? ⟨gb319, 2, none⟩ = some (.int .i64 a0_2) := (blk_cell Za.out 2).trans rfl
    have hcz10_3 : wc.cell? ⟨gb319, 3, none⟩ = some (.string a0_3) := (blk_cell Za.out 3).trans rfl
    have hfz10_0 := blk_frozen Za.out 0
    have hfz10_1 := blk_frozen Za.out 1
    have hfz10_2 := blk_frozen Za.out 2
    have hfz10_3 := blk_frozen Za.out 3
    go_upto_if 15 with (fail)
    go_cut [15] (fun v15 wc => ∃ (kq : Nat) (x15_8 : Bool), v15 = .bool x15_8 ∧ Aside0 (spec_ReqOK.j1 kq a0_0 x15_8 a0_0 a0_1 a0_2 a0_3 = some r) ∧ Aside0 (kq ≤ kj1) ∧ Aside0 (wc.heap[gb319]? = some (.cells #[.int .i64 a0_0, .int .i64 a0_1, .int .i64 a0_2, .string a0_3] 23 (0, 0))) ∧ Aside0 (Below w.heap.size w wc))
    case first =>
     have H := HC9.out
     clear HC9
     by_cases c11 : a0_0 = 1
     ·rw [if_pos c11] at H
      have c11b0 : (a0_0 == 1) = true := beq_iff_eq.mpr c11
      have c11b1 : (a0_0 != 1) = false := bne_eq_false_iff_eq.mpr c11
      clear c11
      (first | rw [c11b0] | (simp only [i64_w, i32_w]; rw [c11b0]) | skip)
      have H' := zm H
      clear H
      go_wp2
      go_meet
      case rel => exact ⟨_, ((a0_0 == 1)), zr, H', ⟨by have := HJ1.out; first | omega | exact Nat.le_refl _⟩, ⟨by (with_reducible repeat (first | refine blk_drewN ?_ _ | refine blk_drew ?_ | refine blk_alloc ?_ _)); exact Za.out⟩, ⟨zg_2 HB.out Zb.out⟩⟩
     ·rw [if_neg c11] at H
      have c11b0 : (a0_0 == 1) = false := beq_eq_false_iff_ne.mpr c11
      have c11b1 : (a0_0 != 1) = true := bne_iff_ne.mpr c11
      (first | rw [c11b0] | (simp only [i64_w, i32_w]; rw [c11b0]) | skip)
      by_cases c12 : a0_0 = 3
      ·rw [if_pos c12] at H
       have c12b0 : (a0_0 == 3) = true := beq_iff_eq.mpr c12
       have c12b1 : (a0_0 != 3) = false := bne_eq_false_iff_eq.mpr c12
       clear c12
       have H' := zm H
       clear H
       go_wp2
       go_meet
       case rel => exact ⟨_, ((a0_0 == 3)), zr, H', ⟨by have := HJ1.out; first | omega | exact Nat.le_refl _⟩, ⟨by (with_reducible repeat (first | refine blk_drewN ?_ _ | refine blk_drew ?_ | refine blk_alloc ?_ _)); exact Za.out⟩, ⟨zg_2 HB.out Zb.out⟩⟩
      ·rw [if_neg c12] at H
       have c12b0 : (a0_0 == 3) = false := beq_eq_false_iff_ne.mpr c12
       have c12b1 : (a0_0 != 3) = true := bne_iff_ne.mpr c12
       have H' := zm H
       clear H
       go_wp2
       go_meet
       case rel => exact ⟨_, ((a0_0 == 4)), zr, H', ⟨by have := HJ1.out; first | omega | exact Nat.le_refl _⟩, ⟨by (with_reducible repeat (first | refine blk_drewN ?_ _ | refine blk_drew ?_ | refine blk_alloc ?_ _)); exact Za.out⟩, ⟨zg_2 HB.out Zb.out⟩⟩
    case rest =>
     clear HC9
     try clear c1
     try clear p2
     try clear c3
     try clear c4
     try clear c5
     try clear c8
     try clear c11
     try clear c11b0
     try clear c11b1
     try clear c12
     try clear c12b0
     try clear c12b1
     try clear hcz10_0
     try clear hcz10_1
     try clear hcz10_2
     try clear hcz10_3
     try clear hcz6_0
     try clear hcz6_1
     try clear hcz6_2
     try clear hcz6_3
     try clear hcz7_0
     try clear hcz7_1
     try clear hcz7_2
     try clear hcz7_3
     try clear hfz10_0
     try clear hfz10_1
     try clear hfz10_2
     try clear hfz10_3
     try clear hfz6_0
     try clear hfz6_1
     try clear hfz6_2
     try clear hfz6_3
     try clear hfz7_0
     try clear hfz7_1
     try clear hfz7_2
     try clear hfz7_3
     try clear p2
     obtain ⟨kq, x15_8, rfl, HA, HJ8, Za, HB⟩ := hcut
     cases kq with
     | zero => exact absurd HA.out (by simp [spec_ReqOK.j1])
     | succ kj8 =>
      have H := HA.out
      clear HA
      simp only [spec_ReqOK.j1] at H
      by_cases c13 : x15_8 = true
      ·subst c13
       have H1 : (if a0_2 = 0 then (some (a0_3.toList == ([] : List UInt8))) else (some false)) = some r := by rw [if_pos rfl] at H; exact H
       clear H
       have H := H1
       clear H1
       by_cases c14 : a0_2 = 0
       ·rw [if_pos c14] at H
        have c14b0 : (a0_2 == 0) = true := beq_iff_eq.mpr c14
        have c14b1 : (a0_2 != 0) = false := bne_eq_false_iff_eq.mpr c14
        clear c14
        obtain rfl := Option.some.inj H
        have hcz15_0 : wc.cell? ⟨gb319, 0, none⟩ = some (.int .i64 a0_0) := (blk_cell Za.out 0).trans rfl
        have hcz15_1 : wc.cell? ⟨gb319, 1, none⟩ = some (.int .i64 a0_1) := (blk_cell Za.out 1).trans rfl
        have hcz15_2 : wc.cell? ⟨gb319, 2, none⟩ = some (.int .i64 a0_2) := (blk_cell Za.out 2).trans rfl
        have hcz15_3 : wc.cell? ⟨gb319, 3, none⟩ = some (.string a0_3) := (blk_cell Za.out 3).trans rfl
        have hfz15_0 := blk_frozen Za.out 0
        have hfz15_1 := blk_frozen Za.out 1
        have hfz15_2 := blk_frozen Za.out 2
        have hfz15_3 := blk_frozen Za.out 3
        go_wp2
        go_ret
        exact ⟨by first | rfl | (simp [errW_none, errW_some] <;> rfl) | (simp [*, errW_none, errW_some] <;> rfl), zg_2 HB.out Zb.out⟩
       ·rw [if_neg c14] at H
        have c14b0 : (a0_2 == 0) = false := beq_eq_false_iff_ne.mpr c14
        have c14b1 : (a0_2 != 0) = true := bne_iff_ne.mpr c14
        obtain rfl := Option.some.inj H
        have hcz16_0 : wc.cell? ⟨gb319, 0, none⟩ = some (.int .i64 a0_0) := (blk_cell Za.out 0).trans rfl
        have hcz16_1 : wc.cell? ⟨gb319, 1, none⟩ = some (.int .i64 a0_1) := (blk_cell Za.out 1).trans rfl
        have hcz16_2 : wc.cell? ⟨gb319, 2, none⟩ = some (.int .i64 a0_2) := (blk_cell Za.out 2).trans rfl
        have hcz16_3 : wc.cell? ⟨gb319, 3, none⟩ = some (.string a0_3) := (blk_cell Za.out 3).trans rfl
        have hfz16_0 := blk_frozen Za.out 0
        have hfz16_1 := blk_frozen Za.out 1
        have hfz16_2 := blk_frozen Za.out 2
        have hfz16_3 := blk_frozen Za.out 3
        go_wp2
        go_ret
        exact ⟨by first | rfl | (simp [errW_none, errW_some] <;> rfl) | (simp [*, errW_none, errW_some] <;> rfl), zg_2 HB.out Zb.out⟩
      ·replace c13 := Bool.eq_false_iff.mpr c13
       subst c13
       have H1 : (if a0_0 = 2 then (some (a0_3.toList == ([] : List UInt8))) else (if a0_0 = 8 then (if a0_1 = 0 then (if a0_2 = 0 then (some (a0_3.toList == ([] : List UInt8))) else (some false)) else (some false)) else (if a0_1 = 0 then (some (a0_2 == 0)) else (some false)))) = some r := by rw [if_neg (show ¬ (false = true) by decide)] at H; exact H
       clear H
       have H := H1
       clear H1
       by_cases c17 : a0_0 = 2
       ·rw [if_pos c17] at H
        have c17b0 : (a0_0 == 2) = true := beq_iff_eq.mpr c17
        have c17b1 : (a0_0 != 2) = false := bne_eq_false_iff_eq.mpr c17
        clear c17
        obtain rfl := Option.some.inj H
        have hcz18_0 : wc.cell? ⟨gb319, 0, none⟩ = some (.int .i64 a0_0) := (blk_cell Za.out 0).trans rfl
        have hcz18_1 : wc.cell? ⟨gb319, 1, none⟩ = some (.int .i64 a0_1) := (blk_cell Za.out 1).trans rfl
        have hcz18_2 : wc.cell? ⟨gb319, 2, none⟩ = some (.int .i64 a0_2) := (blk_cell Za.out 2).trans rfl
        have hcz18_3 : wc.cell? ⟨gb319, 3, none⟩ = some (.string a0_3) := (blk_cell Za.out 3).trans rfl
        have hfz18_0 := blk_frozen Za.out 0
        have hfz18_1 := blk_frozen Za.out 1
        have hfz18_2 := blk_frozen Za.out 2
        have hfz18_3 := blk_frozen Za.out 3
        go_wp2
        go_ret
        exact ⟨by first | rfl | (simp [errW_none, errW_some] <;> rfl) | (simp [*, errW_none, errW_some] <;> rfl), zg_2 HB.out Zb.out⟩
       ·rw [if_neg c17] at H
        have c17b0 : (a0_0 == 2) = false := beq_eq_false_iff_ne.mpr c17
        have c17b1 : (a0_0 != 2) = true := bne_iff_ne.mpr c17
        by_cases c19 : a0_0 = 8
        ·rw [if_pos c19] at H
         have c19b0 : (a0_0 == 8) = true := beq_iff_eq.mpr c19
         have c19b1 : (a0_0 != 8) = false := bne_eq_false_iff_eq.mpr c19
         clear c19
         by_cases c20 : a0_1 = 0
         ·rw [if_pos c20] at H
          have c20b0 : (a0_1 == 0) = true := beq_iff_eq.mpr c20
          have c20b1 : (a0_1 != 0) = false := bne_eq_false_iff_eq.mpr c20
          clear c20
          by_cases c21 : a0_2 = 0
          ·rw [if_pos c21] at H
           have c21b0 : (a0_2 == 0) = true := beq_iff_eq.mpr c21
           have c21b1 : (a0_2 != 0) = false := bne_eq_false_iff_eq.mpr c21
           clear c21
           obtain rfl := Option.some.inj H
           have hcz22_0 : wc.cell? ⟨gb319, 0, none⟩ = some (.int .i64 a0_0) := (blk_cell Za.out 0).trans rfl
           have hcz22_1 : wc.cell? ⟨gb319, 1, none⟩ = some (.int .i64 a0_1) := (blk_cell Za.out 1).trans rfl
           have hcz22_2 : wc.cell? ⟨gb319, 2, none⟩ = some (.int .i64 a0_2) := (blk_cell Za.out 2).trans rfl
           have hcz22_3 : wc.cell? ⟨gb319, 3, none⟩ = some (.string a0_3) := (blk_cell Za.out 3).trans rfl
           have hfz22_0 := blk_frozen Za.out 0
           have hfz22_1 := blk_frozen Za.out 1
           have hfz22_2 := blk_frozen Za.out 2
           have hfz22_3 := blk_frozen Za.out 3
           go_wp2
           go_ret
           exact ⟨by first | rfl | (simp [errW_none, errW_some] <;> rfl) | (simp [*, errW_none, errW_some] <;> rfl), zg_2 HB.out Zb.out⟩
          ·rw [if_neg c21] at H
           have c21b0 : (a0_2 == 0) = false := beq_eq_false_iff_ne.mpr c21
           have c21b1 : (a0_2 != 0) = true := bne_iff_ne.mpr c21
           obtain rfl := Option.some.inj H
           have hcz23_0 : wc.cell? ⟨gb319, 0, none⟩ = some (.int .i64 a0_0) := (blk_cell Za.out 0).trans rfl
           have hcz23_1 : wc.cell? ⟨gb319, 1, none⟩ = some (.int .i64 a0_1) := (blk_cell Za.out 1).trans rfl
           have hcz23_2 : wc.cell? ⟨gb319, 2, none⟩ = some (.int .i64 a0_2) := (blk_cell Za.out 2).trans rfl
           have hcz23_3 : wc.cell? ⟨gb319, 3, none⟩ = some (.string a0_3) := (blk_cell Za.out 3).trans rfl
           have hfz23_0 := blk_frozen Za.out 0
           have hfz23_1 := blk_frozen Za.out 1
           have hfz23_2 := blk_frozen Za.out 2
           have hfz23_3 := blk_frozen Za.out 3
           go_wp2
           go_ret
           exact ⟨by first | rfl | (simp [errW_none, errW_some] <;> rfl) | (simp [*, errW_none, errW_some] <;> rfl), zg_2 HB.out Zb.out⟩
         ·rw [if_neg c20] at H
          have c20b0 : (a0_1 == 0) = false := beq_eq_false_iff_ne.mpr c20
          have c20b1 : (a0_1 != 0) = true := bne_iff_ne.mpr c20
          obtain rfl := Option.some.inj H
          have hcz24_0 : wc.cell? ⟨gb319, 0, none⟩ = some (.int .i64 a0_0) := (blk_cell Za.out 0).trans rfl
          have hcz24_1 : wc.cell? ⟨gb319, 1, none⟩ = some (.int .i64 a0_1) := (blk_cell Za.out 1).trans rfl
          have hcz24_2 : wc.cell? ⟨gb319, 2, none⟩ = some (.int .i64 a0_2) := (blk_cell Za.out 2).trans rfl
          have hcz24_3 : wc.cell? ⟨gb319, 3, none⟩ = some (.string a0_3) := (blk_cell Za.out 3).trans rfl
          have hfz24_0 := blk_frozen Za.out 0
          have hfz24_1 := blk_frozen Za.out 1
          have hfz24_2 := blk_frozen Za.out 2
          have hfz24_3 := blk_frozen Za.out 3
          go_wp2
          go_ret
          exact ⟨by first | rfl | (simp [errW_none, errW_some] <;> rfl) | (simp [*, errW_none, errW_some] <;> rfl), zg_2 HB.out Zb.out⟩
        ·rw [if_neg c19] at H
         have c19b0 : (a0_0 == 8) = false := beq_eq_false_iff_ne.mpr c19
         have c19b1 : (a0_0 != 8) = true := bne_iff_ne.mpr c19
         by_cases c25 : a0_1 = 0
         ·rw [if_pos c25] at H
          have c25b0 : (a0_1 == 0) = true := beq_iff_eq.mpr c25
          have c25b1 : (a0_1 != 0) = false := bne_eq_false_iff_eq.mpr c25
          clear c25
          obtain rfl := Option.some.inj H
          have hcz26_0 : wc.cell? ⟨gb319, 0, none⟩ = some (.int .i64 a0_0) := (blk_cell Za.out 0).trans rfl
          have hcz26_1 : wc.cell? ⟨gb319, 1, none⟩ = some (.int .i64 a0_1) := (blk_cell Za.out 1).trans rfl
          have hcz26_2 : wc.cell? ⟨gb319, 2, none⟩ = some (.int .i64 a0_2) := (blk_cell Za.out 2).trans rfl
          have hcz26_3 : wc.cell? ⟨gb319, 3, none⟩ = some (.string a0_3) := (blk_cell Za.out 3).trans rfl
          have hfz26_0 := blk_frozen Za.out 0
          have hfz26_1 := blk_frozen Za.out 1
          have hfz26_2 := blk_frozen Za.out 2
          have hfz26_3 := blk_frozen Za.out 3
          go_wp2
          go_ret
          exact ⟨by first | rfl | (simp [errW_none, errW_some] <;> rfl) | (simp [*, errW_none, errW_some] <;> rfl), zg_2 HB.out Zb.out⟩
         ·rw [if_neg c25] at H
          have c25b0 : (a0_1 == 0) = false := beq_eq_false_iff_ne.mpr c25
          have c25b1 : (a0_1 != 0) = true := bne_iff_ne.mpr c25
          obtain rfl := Option.some.inj H
          have hcz27_0 : wc.cell? ⟨gb319, 0, none⟩ = some (.int .i64 a0_0) := (blk_cell Za.out 0).trans rfl
          have hcz27_1 : wc.cell? ⟨gb319, 1, none⟩ = some (.int .i64 a0_1) := (blk_cell Za.out 1).trans rfl
          have hcz27_2 : wc.cell? ⟨gb319, 2, none⟩ = some (.int .i64 a0_2) := (blk_cell Za.out 2).trans rfl
          have hcz27_3 : wc.cell? ⟨gb319, 3, none⟩ = some (.string a0_3) := (blk_cell Za.out 3).trans rfl
          have hfz27_0 := blk_frozen Za.out 0
          have hfz27_1 := blk_frozen Za.out 1
          have hfz27_2 := blk_frozen Za.out 2
          have hfz27_3 := blk_frozen Za.out 3
          go_wp2
          go_ret
          exact ⟨by first | rfl | (simp [errW_none, errW_some] <;> rfl) | (simp [*, errW_none, errW_some] <;> rfl), zg_2 HB.out Zb.out⟩
/-! ### spec_l00Digits: function 79 -/
def spec_l00Digits.f : Nat → Int → Option (ByteArray)
  | 0, _ => none
  | k + 1, a0 => if a0 = (-9223372036854775808) then (some (⟨#[45, 57, 50, 50, 51, 51, 55, 50, 48, 51, 54, 56, 53, 52, 55, 55, 53, 56, 48, 56]⟩ : ByteArray)) else (if a0 < 0 then ((spec_l00Digits.f k (wrap64 (-a0))).bind fun t321 => (if 1 + t321.size ≤ 9223372036854775807 then (some ((⟨#[45]⟩ : ByteArray) ++ t321)) else (none))) else (if a0 < 10 then (some (strOfNums (([(wrap64 (48 + a0)) % 256] : List Int)))) else ((spec_l00Digits.f k (wrap64 (Int.tdiv a0 10))).bind fun t325 => ((some (([(wrap64 (48 + (Int.tmod a0 10))) % 256] : List Int) : List Int)).bind fun y326 => (if t325.size + (strOfNums y326).size ≤ 9223372036854775807 then (some (t325 ++ (strOfNums y326))) else (none))))))
theorem spec_l00Digits.mono_l : ∀ k, (∀ y0, LeO (spec_l00Digits.f k y0) (spec_l00Digits.f (k + 1) y0))
  | 0 => fun _ r h => by simp [spec_l00Digits.f] at h
  | k + 1 => by
    have ih0 := spec_l00Digits.mono_l k
    · intro y0
      unfold spec_l00Digits.f
      repeat' first
      | (with_reducible exact ih0 _)
      | (with_reducible exact LeO.refl _)
      | (with_reducible exact LeO.none _)
      | (with_reducible refine LeO.ite ?_ ?_)
      | (with_reducible refine LeO.bind ?_ (fun _ => ?_))
      | exact ih0 _
      | exact LeO.none _
      | refine LeO.ite ?_ ?_
      | refine LeO.bind ?_ (fun _ => ?_)
theorem spec_l00Digits.mono : ∀ a0 k, LeO (spec_l00Digits.f k a0) (spec_l00Digits.f (k + 1) a0) := by
  intro a0 k
  have ih0 := spec_l00Digits.mono_l k
  exact ih0 a0
def spec_l00Digits.T7 : Bool × List (List Nat × List Nat) := (true, [([], []), ([0], [0]), ([1], [1]), ([], []), ([3], [3]), ([4], [4]), ([5], [5]), ([6], [6]), ([7], [7]), ([2, 8], [2, 8]), ([9, 2, 0, 1, 2, 3, 4, 5, 6, 7, 8, 9], [9])])
def spec_l00Digits.B7 : List Nat := [0, 1, 3, 0, 8, 24, 56, 120, 248, 511, 1023]
theorem spec_l00Digits.tab7 : rtab .any (opsOf Tryd.f79 7) = spec_l00Digits.T7 := by kernel_rfl
theorem spec_l00Digits.bits7 : waitsOk spec_l00Digits.T7.2 spec_l00Digits.B7 = true := by kernel_rfl
set_option maxHeartbeats 8000000 in
set_option maxRecDepth 100000 in
theorem spec_l00Digits.calls (k : Nat) : ∀ (a0 : Int) (r : ByteArray) (w : World) (h : spec_l00Digits.f k a0 = some r),
    Calls Tryd.prog 79 #[.int .i64 a0] w fun e w' => e = .returned (.string r) ∧ Below w.heap.size w w' := by
 induction k using Nat.strongRecOn with
 | _ k ih =>
 intro a0 r w h
 cases k with
 | zero => exact absurd h (by simp [spec_l00Digits.f])
 | succ k =>
 simp only [spec_l00Digits.f] at h
 have HB := zm (Below.refl w.heap.size w)
 have H : (if a0 = (-9223372036854775808) then (some (⟨#[45, 57, 50, 50, 51, 51, 55, 50, 48, 51, 54, 56, 53, 52, 55, 55, 53, 56, 48, 56]⟩ : ByteArray)) else (if a0 < 0 then ((spec_l00Digits.f k (wrap64 (-a0))).bind fun t321 => (if 1 + t321.size ≤ 9223372036854775807 then (some ((⟨#[45]⟩ : ByteArray) ++ t321)) else (none))) else (if a0 < 10 then (some (strOfNums (([(wrap64 (48 + a0)) % 256] : List Int)))) else ((spec_l00Digits.f k (wrap64 (Int.tdiv a0 10))).bind fun t325 => ((some (([(wrap64 (48 + (Int.tmod a0 10))) % 256] : List Int) : List Int)).bind fun y326 => (if t325.size + (strOfNums y326).size ≤ 9223372036854775807 then (some (t325 ++ (strOfNums y326))) else (none))))))) = some r := h
 clear h
 by_cases c2 : a0 = (-9223372036854775808)
 ·rw [if_pos c2] at H
  have c2b0 : (a0 == (-9223372036854775808)) = true := beq_iff_eq.mpr c2
  have c2b1 : (a0 != (-9223372036854775808)) = false := bne_eq_false_iff_eq.mpr c2
  clear c2
  obtain rfl := Option.some.inj H
  go_enter Tryd.func79, Tryd.ntmps79
  go_wp2
  go_ret
  exact ⟨by first | rfl | (simp [errW_none, errW_some] <;> rfl) | (simp [*, errW_none, errW_some] <;> rfl), zg_0 HB.out⟩
 ·rw [if_neg c2] at H
  have c2b0 : (a0 == (-9223372036854775808)) = false := beq_eq_false_iff_ne.mpr c2
  have c2b1 : (a0 != (-9223372036854775808)) = true := bne_iff_ne.mpr c2
  by_cases c3 : a0 < 0
  ·rw [if_pos c3] at H
   have c3b0 : decide (a0 < 0) = true := decide_eq_true c3
   clear c3
   replace H := Option.bind_eq_some_iff.mp H
   obtain ⟨t321, A40, H⟩ := H
   replace H : (if 1 + t321.size ≤ 9223372036854775807 then (some ((⟨#[45]⟩ : ByteArray) ++ t321)) else (none)) = some r := H
   have A4 := zm A40
   clear A40
   by_cases c5 : 1 + t321.size ≤ 9223372036854775807
   ·rw [if_pos c5] at H
    have c5b0 := eq_true c5
    have c5b1 : decide (1 + t321.size ≤ 9223372036854775807) = true := decide_eq_true c5
    try have c5b2 : (9223372036854775807 < 1 + t321.size) = False := eq_false (Nat.not_lt.2 c5)
    obtain rfl := Option.some.inj H
    go_enter Tryd.func79, Tryd.ntmps79
    go_wp2_with (first | ((with_reducible refine gate_callee (f := 79) rfl ?_); refine goesL_ (some 9) rfl rfl Tryd.func79 (by kernel_rfl) rfl #[.int .i64 (wrap64 (-a0))] rfl zq ?_; (with_reducible refine (ih k (by omega) (wrap64 (-a0)) t321 _ A4.out).mono ?_); rintro e w6 ⟨rfl, hb⟩; refine ⟨_, rfl, ?_⟩; have n0_ := zm (below_step (zg_0 HB.out) hb); clear HB; have HB := n0_; clear n0_; (try clear hb); (try clear hb2); (try clear hk); (try clear hi)))
    go_ret
    exact ⟨by first | rfl | (simp [errW_none, errW_some] <;> rfl) | (simp [*, errW_none, errW_some] <;> rfl), zg_0 HB.out⟩
   ·rw [if_neg c5] at H
    exact absurd H (by simp)
  ·rw [if_neg c3] at H
   have c3b0 : decide (a0 < 0) = false := decide_eq_false c3
   clear c3
   by_cases c7 : a0 < 10
   ·rw [if_pos c7] at H
    have c7b0 : decide (a0 < 10) = true := decide_eq_true c7
    clear c7
    obtain ⟨y322, hy322⟩ : ∃ y_ : List Int, y_ = (([(wrap64 (48 + a0)) % 256] : List Int)) := ⟨_, rfl⟩
    replace H : (some (strOfNums y322)) = some r := by first | (rw [hy322]; with_reducible exact H) | (have H2_ := (Option.bind_some _ _).symm.trans H; rw [hy322]; with_reducible exact H2_) | (have H2_ := (Option.bind_some _ _).symm.trans H; with_reducible exact H2_) | with_reducible exact H | (rw [hy322]; exact H) | exact H
    have Ny322 := zm hy322
    clear hy322
    obtain rfl := Option.some.inj H
    go_enter Tryd.func79, Tryd.ntmps79
    go_wp2_with (first | ((with_reducible refine gate_dst (N := 16) rfl ?_); refine Kd.R_lit (Kd.int .u8) _ 5 ?hg (N := 16) ?hd (xs := ([(wrap64 (48 + a0)) % 256] : List Int)) (inner := [.int .u8 ((wrap64 (48 + a0)) % 256)]) (ok := fun _ => True) (okp := fun _ => True) ?hr ?hp (fun _ hk => hk) trivial (Below.refl _ _) (Nat.le_refl _) (by simp) ?_; (case hd => rfl); (case hg => rfl); (case hr => first | (go_simp; done) | (go_simp; rfl)); (case hp => exact (Reps.one (show Kd.M (Kd.int .u8) _ _ _ ((wrap64 (48 + a0)) % 256) [.int .u8 ((wrap64 (48 + a0)) % 256)] from rfl) (Reps.none _ _))); intro v323 w8 ho9 hb hg_ hnew_; clear hg_ hnew_; (first | rw [← Ny322.out] at ho9 | (simp only [Int.reduceToNat] at ho9; rw [← Ny322.out] at ho9)); have n0_ := zm (Kd.R_lower ho9 (below_size (zg_0 HB.out))); have n1_ := zm (below_step (zg_0 HB.out) hb); clear HB; have Zb := n0_; have HB := n1_; clear n0_ n1_; clear hb ho9; have hcv10 := own_string (P := Tryd.prog) Tryd.underlying28 Tryd.underlying5 Tryd.underlying9 (Kd.own_of_R Zb.out)))
    go_ret
    exact ⟨by first | rfl | (simp [errW_none, errW_some] <;> rfl) | (simp [*, errW_none, errW_some] <;> rfl), zg_0 HB.out⟩
   ·rw [if_neg c7] at H
    have c7b0 : decide (a0 < 10) = false := decide_eq_false c7
    clear c7
    replace H := Option.bind_eq_some_iff.mp H
    obtain ⟨t325, A110, H⟩ := H
    replace H : ((some (([(wrap64 (48 + (Int.tmod a0 10))) % 256] : List Int) : List Int)).bind fun y326 => (if t325.size + (strOfNums y326).size ≤ 9223372036854775807 then (some (t325 ++ (strOfNums y326))) else (none))) = some r := H
    have A11 := zm A110
    clear A110
    obtain ⟨y326, hy326⟩ : ∃ y_ : List Int, y_ = (([(wrap64 (48 + (Int.tmod a0 10))) % 256] : List Int)) := ⟨_, rfl⟩
    replace H : (if t325.size + (strOfNums y326).size ≤ 9223372036854775807 then (some (t325 ++ (strOfNums y326))) else (none)) = some r := by first | (rw [hy326]; with_reducible exact H) | (have H2_ := (Option.bind_some _ _).symm.trans H; rw [hy326]; with_reducible exact H2_) | (have H2_ := (Option.bind_some _ _).symm.trans H; with_reducible exact H2_) | with_reducible exact H | (rw [hy326]; exact H) | exact H
    have Ny326 := zm hy326
    clear hy326
    by_cases c12 : t325.size + (strOfNums y326).size ≤ 9223372036854775807
    ·rw [if_pos c12] at H
     have c12b0 := eq_true c12
     have c12b1 : decide (t325.size + (strOfNums y326).size ≤ 9223372036854775807) = true := decide_eq_true c12
     try have c12b2 : (9223372036854775807 < t325.size + (strOfNums y326).size) = False := eq_false (Nat.not_lt.2 c12)
     obtain rfl := Option.some.inj H
     go_enter Tryd.func79, Tryd.ntmps79
     try go_wp2
     have n0_ := zm (below_drew1 HB.out)
     clear HB
     have HB := n0_
     clear n0_
     refine start_ (n := 11) (S := fun w' => True) (ds := []) #[false, false, false, false, false, false, false, false, false, false, false] (by kernel_rfl) rfl rfl trivial (fun hHeld => ?_); refine with_tabW spec_l00Digits.tab7 spec_l00Digits.bits7 (fun HT_ HW_ => ?_)
     generalize w.drew = w13 at HB hHeld ⊢
     refine pure_ (i := 0) (N := some 18) (v := ?_) (a' := ?_) #[true, false, false, false, false, false, false, false, false, false, false] rfl rfl (any_of HT_.out (by kernel_rfl)) (fun _ _ _ h => h) (Or.inl ⟨by rfl, ?_⟩) ?_ ?_
     rotate_left
     ·intro w'
      go_simp
      with_reducible rfl
     rotate_left
     ·simp only [Act.put, zs, zz, zt, i64_w, i32_w]
      rfl
     refine pure_ (i := 1) (N := some 19) (v := ?_) (a' := ?_) #[true, true, false, false, false, false, false, false, false, false, false] rfl rfl (any_of HT_.out (by kernel_rfl)) (fun _ _ _ h => h) (Or.inl ⟨by rfl, ?_⟩) ?_ ?_
     rotate_left
     ·intro w'
      go_simp
      with_reducible rfl
     rotate_left
     ·simp only [Act.put, zs, zz, zt, i64_w, i32_w]
      rfl
     refine pure_ (i := 3) (N := some 21) (v := ?_) (a' := ?_) #[true, true, false, true, false, false, false, false, false, false, false] rfl rfl (any_of HT_.out (by kernel_rfl)) (fun _ _ _ h => h) (Or.inl ⟨by rfl, ?_⟩) ?_ ?_
     rotate_left
     ·intro w'
      go_simp
      with_reducible rfl
     rotate_left
     ·simp only [Act.put, zs, zz, zt, i64_w, i32_w]
      rfl
     refine pure_ (i := 4) (N := some 22) (v := ?_) (a' := ?_) #[true, true, false, true, true, false, false, false, false, false, false] rfl rfl (any_of HT_.out (by kernel_rfl)) (fun _ _ _ h => h) (Or.inl ⟨by rfl, ?_⟩) ?_ ?_
     rotate_left
     ·intro w'
      go_simp
      with_reducible rfl
     rotate_left
     ·simp only [Act.put, zs, zz, zt, i64_w, i32_w]
      rfl
     refine pure_ (i := 5) (N := some 23) (v := ?_) (a' := ?_) #[true, true, false, true, true, true, false, false, false, false, false] rfl rfl (any_of HT_.out (by kernel_rfl)) (fun _ _ _ h => h) (Or.inl ⟨by rfl, ?_⟩) ?_ ?_
     rotate_left
     ·intro w'
      go_simp
      with_reducible rfl
     rotate_left
     ·simp only [Act.put, zs, zz, zt, i64_w, i32_w]
      rfl
     refine pure_ (i := 6) (N := some 24) (v := ?_) (a' := ?_) #[true, true, false, true, true, true, true, false, false, false, false] rfl rfl (any_of HT_.out (by kernel_rfl)) (fun _ _ _ h => h) (Or.inl ⟨by rfl, ?_⟩) ?_ ?_
     rotate_left
     ·intro w'
      go_simp
      with_reducible rfl
     rotate_left
     ·simp only [Act.put, zs, zz, zt, i64_w, i32_w]
      rfl
     refine join_ (σ := Value) 2 #[true, true, true, true, true, true, true, true, true, false, false] (fun s_ => [(20, .string t325), (25, s_), (26, .string (strOfNums y326))]) (fun s_ w' => (Kd.R (Kd.int .u8) 5 w' w.heap.size (fun _ => True) s_ y326) ∧ (Below w.heap.size w w')) ?_ ?_
     rotate_left
     ·intro hCont
      refine two_ (i := 2) (j := 7) (Ni := some 20) (Nj := some 25) #[true, true, true, true, true, true, true, false, false, false, false] #[true, true, false, true, true, true, true, true, false, false, false] rfl rfl rfl rfl (two_of HT_.out (by kernel_rfl)) (by decide) (by decide) (fun K hK => ?_) (fun K hK => ?_)
      ·skip
       refine goes_ Tryd.func79 (by kernel_rfl) rfl #[.int .i64 (wrap64 (Int.tdiv a0 10))] (by rfl) rfl rfl zq ?_
       with_reducible refine (ih k (by omega) (wrap64 (Int.tdiv a0 10)) t325 _ A11.out).mono ?_
       rintro e w14 ⟨rfl, hb⟩
       refine ⟨_, rfl, ?_⟩
       have n0_ := zm (below_step (zg_0 HB.out) hb)
       clear HB
       have HB := n0_
       clear n0_
       (try clear hb)
       (try clear hb2)
       (try clear hk)
       (try clear hi)
       refine hK.out _ _ trivial (fun hHeld => ?_)
       clear hK K
       refine norm_ (a' := ?_) ?_ ?_
       rotate_left
       ·show Act.put _ (some 20) _ = _
        simp only [Act.put, zs, zz, zt, i64_w, i32_w]
        rfl
       refine one_ (i := 7) (N := some 25) #[true, true, true, true, true, true, true, true, false, false, false] rfl rfl (one_of HT_.out (by kernel_rfl)) (by decide) (fun K hK => ?_)
       refine Kd.R_lit_step (Kd.int .u8) _ 5 ?hg (N := 25) ?hd (xs := ([(wrap64 (48 + (Int.tmod a0 10))) % 256] : List Int)) (inner := [.int .u8 ((wrap64 (48 + (Int.tmod a0 10))) % 256)]) (ok := fun _ => True) (okp := fun _ => True) ?hr ?hp (fun _ hk => hk) trivial (Below.refl _ _) (Nat.le_refl _) (by simp) ?_; (case hd => rfl); (case hg => rfl); (case hr => first | (go_simp; done) | (go_simp; rfl)); (case hp => exact (Reps.one (show Kd.M (Kd.int .u8) _ _ _ ((wrap64 (48 + (Int.tmod a0 10))) % 256) [.int .u8 ((wrap64 (48 + (Int.tmod a0 10))) % 256)] from rfl) (Reps.none _ _)))
       intro v327 w15 ho16 hb hg_ hnew_
       clear hg_ hnew_
       (first | rw [← Ny326.out] at ho16 | (simp only [Int.reduceToNat] at ho16; rw [← Ny326.out] at ho16))
       have n0_ := zm (Kd.R_lower ho16 (below_size (zg_0 HB.out)))
       have n1_ := zm (below_step (zg_0 HB.out) hb)
       clear HB
       have Za := n0_
       have HB := n1_
       clear n0_ n1_
       clear hb ho16
       refine hK.out _ _ trivial (fun hHeld => ?_)
       clear hK K
       refine norm_ (a' := ?_) ?_ ?_
       rotate_left
       ·show Act.put _ (some 25) _ = _
        simp only [Act.put, zs, zz, zt, i64_w, i32_w]
        rfl
       refine one_ (i := 8) (N := some 26) #[true, true, true, true, true, true, true, true, true, false, false] rfl rfl (one_of HT_.out (by kernel_rfl)) (by decide) (fun K hK => ?_)
       have hcv17 := own_string (P := Tryd.prog) Tryd.underlying28 Tryd.underlying5 Tryd.underlying9 (Kd.own_of_R Za.out)
       refine value_ (w1 := ?_) (v := ?_) (by rfl) rfl ?_ ?_
       rotate_left 2
       ·go_simp
        constructor
        ·rfl
        ·rfl
       clear hcv17
       refine hK.out _ _ trivial (fun hHeld => ?_)
       clear hK K
       refine norm_ (a' := ?_) ?_ ?_
       rotate_left
       ·show Act.put _ (some 26) _ = _
        simp only [Act.put, zs, zz, zt, i64_w, i32_w]
        rfl
       exact norm_ (by simp only [putAll, Act.put, zs, zz, zt]) (hCont (v327) _ ⟨(zg_4 Za.out), (zg_0 HB.out)⟩)
      ·skip
       refine Kd.R_lit_step (Kd.int .u8) _ 5 ?hg (N := 25) ?hd (xs := ([(wrap64 (48 + (Int.tmod a0 10))) % 256] : List Int)) (inner := [.int .u8 ((wrap64 (48 + (Int.tmod a0 10))) % 256)]) (ok := fun _ => True) (okp := fun _ => True) ?hr ?hp (fun _ hk => hk) trivial (Below.refl _ _) (Nat.le_refl _) (by simp) ?_; (case hd => rfl); (case hg => rfl); (case hr => first | (go_simp; done) | (go_simp; rfl)); (case hp => exact (Reps.one (show Kd.M (Kd.int .u8) _ _ _ ((wrap64 (48 + (Int.tmod a0 10))) % 256) [.int .u8 ((wrap64 (48 + (Int.tmod a0 10))) % 256)] from rfl) (Reps.none _ _)))
       intro v327 w14 ho15 hb hg_ hnew_
       clear hg_ hnew_
       (first | rw [← Ny326.out] at ho15 | (simp only [Int.reduceToNat] at ho15; rw [← Ny326.out] at ho15))
       have n0_ := zm (Kd.R_lower ho15 (below_size (zg_0 HB.out)))
       have n1_ := zm (below_step (zg_0 HB.out) hb)
       clear HB
       have Za := n0_
       have HB := n1_
       clear n0_ n1_
       clear hb ho15
       refine hK.out _ _ trivial (fun hHeld => ?_)
       clear hK K
       refine norm_ (a' := ?_) ?_ ?_
       rotate_left
       ·show Act.put _ (some 25) _ = _
        simp only [Act.put, zs, zz, zt, i64_w, i32_w]
        rfl
       refine two_ (i := 2) (j := 8) (Ni := some 20) (Nj := some 26) #[true, true, true, true, true, true, true, true, false, false, false] #[true, true, false, true, true, true, true, true, true, false, false] rfl rfl rfl rfl (two_of HT_.out (by kernel_rfl)) (by decide) (by decide) (fun K hK => ?_) (fun K hK => ?_)
       ·skip
        refine goes_ Tryd.func79 (by kernel_rfl) rfl #[.int .i64 (wrap64 (Int.tdiv a0 10))] (by rfl) rfl rfl zq ?_
        with_reducible refine (ih k (by omega) (wrap64 (Int.tdiv a0 10)) t325 _ A11.out).mono ?_
        rintro e w16 ⟨rfl, hb⟩
        refine ⟨_, rfl, ?_⟩
        have n0_ := zm (Kd.R_below (zg_4 Za.out) hb)
        have n1_ := zm (below_step (zg_0 HB.out) hb)
        clear Za
        clear HB
        have Za := n0_
        have HB := n1_
        clear n0_ n1_
        (try clear hb)
        (try clear hb2)
        (try clear hk)
        (try clear hi)
        refine hK.out _ _ trivial (fun hHeld => ?_)
        clear hK K
        refine norm_ (a' := ?_) ?_ ?_
        rotate_left
        ·show Act.put _ (some 20) _ = _
         simp only [Act.put, zs, zz, zt, i64_w, i32_w]
         rfl
        refine one_ (i := 8) (N := some 26) #[true, true, true, true, true, true, true, true, true, false, false] rfl rfl (one_of HT_.out (by kernel_rfl)) (by decide) (fun K hK => ?_)
        have hcv17 := own_string (P := Tryd.prog) Tryd.underlying28 Tryd.underlying5 Tryd.underlying9 (Kd.own_of_R Za.out)
        refine value_ (w1 := ?_) (v := ?_) (by rfl) rfl ?_ ?_
        rotate_left 2
        ·go_simp
         constructor
         ·rfl
         ·rfl
        clear hcv17
        refine hK.out _ _ trivial (fun hHeld => ?_)
        clear hK K
        refine norm_ (a' := ?_) ?_ ?_
        rotate_left
        ·show Act.put _ (some 26) _ = _
         simp only [Act.put, zs, zz, zt, i64_w, i32_w]
         rfl
        exact norm_ (by simp only [putAll, Act.put, zs, zz, zt]) (hCont (v327) _ ⟨(zg_4 Za.out), (zg_0 HB.out)⟩)
       ·skip
        have hcv16 := own_string (P := Tryd.prog) Tryd.underlying28 Tryd.underlying5 Tryd.underlying9 (Kd.own_of_R Za.out)
        refine value_ (w1 := ?_) (v := ?_) (by rfl) rfl ?_ ?_
        rotate_left 2
        ·go_simp
         constructor
         ·rfl
         ·rfl
        clear hcv16
        refine hK.out _ _ trivial (fun hHeld => ?_)
        clear hK K
        refine norm_ (a' := ?_) ?_ ?_
        rotate_left
        ·show Act.put _ (some 26) _ = _
         simp only [Act.put, zs, zz, zt, i64_w, i32_w]
         rfl
        refine one_ (i := 2) (N := some 20) #[true, true, true, true, true, true, true, true, true, false, false] rfl rfl (one_of HT_.out (by kernel_rfl)) (by decide) (fun K hK => ?_)
        refine goes_ Tryd.func79 (by kernel_rfl) rfl #[.int .i64 (wrap64 (Int.tdiv a0 10))] (by rfl) rfl rfl zq ?_
        with_reducible refine (ih k (by omega) (wrap64 (Int.tdiv a0 10)) t325 _ A11.out).mono ?_
        rintro e w17 ⟨rfl, hb⟩
        refine ⟨_, rfl, ?_⟩
        have n0_ := zm (Kd.R_below (zg_4 Za.out) hb)
        have n1_ := zm (below_step (zg_0 HB.out) hb)
        clear Za
        clear HB
        have Za := n0_
        have HB := n1_
        clear n0_ n1_
        (try clear hb)
        (try clear hb2)
        (try clear hk)
        (try clear hi)
        refine hK.out _ _ trivial (fun hHeld => ?_)
        clear hK K
        refine norm_ (a' := ?_) ?_ ?_
        rotate_left
        ·show Act.put _ (some 20) _ = _
         simp only [Act.put, zs, zz, zt, i64_w, i32_w]
         rfl
        exact norm_ (by simp only [putAll, Act.put, zs, zz, zt]) (hCont (v327) _ ⟨(zg_4 Za.out), (zg_0 HB.out)⟩)
     rintro v327 w18 ⟨h0_, h1_⟩
     have n0_ : Aside0 (Kd.R (Kd.int .u8) 5 w18 w.heap.size (fun _ => True) v327 y326) := ⟨h0_⟩
     have n1_ : Aside0 (Below w.heap.size w w18) := ⟨h1_⟩
     clear HB
     clear h0_ h1_
     have Za := n0_
     have HB := n1_
     clear n0_ n1_
     have hHeld := trivial
     refine norm_ (a' := ?_) ?_ ?_
     rotate_left
     ·simp only [putAll, Act.put, zs, zz, zt]
      rfl
     refine pure_ (i := 9) (N := some 27) (v := ?_) (a' := ?_) #[true, true, true, true, true, true, true, true, true, true, false] rfl rfl (any_of HT_.out (by kernel_rfl)) (fun _ _ _ h => h) (Or.inl ⟨by rfl, ?_⟩) ?_ ?_
     rotate_left
     ·intro w'
      go_simp
      with_reducible rfl
     rotate_left
     ·simp only [Act.put, zs, zz, zt, i64_w, i32_w]
      rfl
     refine pure_ (i := 10) (N := some 2) (v := ?_) (a' := ?_) #[true, true, true, true, true, true, true, true, true, true, true] rfl rfl (any_of HT_.out (by kernel_rfl)) (fun _ _ _ h => h) (Or.inl ⟨by rfl, ?_⟩) ?_ ?_
     rotate_left
     ·intro w'
      go_simp
      with_reducible rfl
     rotate_left
     ·simp only [Act.put, zs, zz, zt, i64_w, i32_w]
      rfl
     refine done_ (done_of HT_.out (by kernel_rfl)) ?_
     try go_wp2
     go_ret
     exact ⟨by first | rfl | (simp [errW_none, errW_some] <;> rfl) | (simp [*, errW_none, errW_some] <;> rfl), zg_0 HB.out⟩
    ·rw [if_neg c12] at H
     exact absurd H (by simp)
end Go.Proofs.YtniceoohmhjjlaaDoor.Q
