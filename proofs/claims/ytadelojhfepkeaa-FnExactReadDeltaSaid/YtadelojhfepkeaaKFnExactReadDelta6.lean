/- What laws.FnExactReadDelta reaches, part 6: the functions as Lean functions, the proofs that the program's functions answer so, and plain laws about them. -/
import Derived.Test.YtadelojhfepkeaaKFnExactReadDelta1
import Derived.Test.YtadelojhfepkeaaKFnExactReadDelta3
import Derived.Test.YtadelojhfepkeaaKFnExactReadDelta4
import Derived.Test.YtadelojhfepkeaaKFnExactReadDelta5
namespace Go.Proofs.Ytadelojhfepkeaa.Q
open Go.RowKit Go.Proofs.Ytadelojhfepkeaa.Ext Go.Proofs.YtadelojhfepkeaaW.PrintWords Go.Proofs.YtadelojhfepkeaaW.PrintLast Go.Proofs.YtadelojhfepkeaaW.PrintMore
attribute [local go_sem] max2_int min2_int max_two min_two max_three min_three max_four min_four   -- for this text's walks alone
set_option linter.unusedVariables false
set_option linter.unusedSimpArgs false

set_option linter.unusedVariables false
set_option linter.unusedSimpArgs false
/-! ### spec_ReadDelta: function 25 -/
def spec_ReadDelta.f (k : Nat) (l0_0 : List ByteArray) (l0_1 : List (S76)) (a1 : Int) (a2 : Int) : Option (Int × Int × Int × Int) := (spec_l01Ask.f k l0_0 l0_1 a1 0).bind fun t767 => (if t767 = 0 then ((spec_l04Host.f a2).bind fun t768 => (if t768 = true then ((spec_l04Read.f k l0_0 l0_1 a1 a2).bind fun bt769 => (if bt769.2.1 = 0 then (some (0, 0, 0, 5)) else (some (bt769.1, bt769.2.1, bt769.2.2, 0)))) else (some (0, 0, 0, 4)))) else (some (0, 0, 0, t767)))
theorem spec_ReadDelta.mono : ∀ a0 a1 a2 a3 k, LeO (spec_ReadDelta.f k a0 a1 a2 a3) (spec_ReadDelta.f (k + 1) a0 a1 a2 a3) := by
  intro a0 a1 a2 a3 k
  unfold spec_ReadDelta.f
  repeat' first
      | (with_reducible exact spec_l01Ask.mono _ _ _ _ _)
      | (with_reducible exact spec_l04Read.mono _ _ _ _ _)
      | (with_reducible exact LeO.refl _)
      | (with_reducible exact LeO.none _)
      | (with_reducible refine LeO.ite ?_ ?_)
      | (with_reducible refine LeO.bind ?_ (fun _ => ?_))
      | exact spec_l01Ask.mono _ _ _ _ _
      | exact spec_l04Read.mono _ _ _ _ _
      | exact LeO.none _
      | refine LeO.ite ?_ ?_
      | refine LeO.bind ?_ (fun _ => ?_)
set_option maxHeartbeats 8000000 in
set_option maxRecDepth 100000 in
theorem spec_ReadDelta.calls (k : Nat) (A0_0 : Option Addr) (c0_0 : Nat) (l0_0 : List ByteArray) (A0_1 : Option Addr) (c0_1 : Nat) (l0_1 : List (S76)) (a1 : Int) (a2 : Int) (r1 : Int) (r2 : Int) (r3 : Int) (r4 : Int) (w : World) (hr0_0 : Kd.C Kd.string w A0_0 l0_0.length l0_0) (hc0_0 : l0_0.length ≤ c0_0) (hr0_1 : Kd.C k76 w A0_1 l0_1.length l0_1) (hc0_1 : l0_1.length ≤ c0_1) (h : spec_ReadDelta.f k l0_0 l0_1 a1 a2 = some (r1, r2, r3, r4)) :
    Calls Try.prog 25 #[.agg #[.slice A0_0 l0_0.length c0_0, .slice A0_1 l0_1.length c0_1], .int .i64 a1, .int .i64 a2] w fun e w' => e = .returned (.tuple #[.agg #[.int .i64 r1, .int .i64 r2, .int .i64 r3], .int .i64 r4]) ∧ Below w.heap.size w w' := by
 have hu29 := Try.underlying29
 have hu46 := Try.underlying46
 have Zl := zm hr0_0
 have Zm := zm hc0_0
 clear hr0_0 hc0_0
 have Zn := zm hr0_1
 have Zo := zm hc0_1
 clear hr0_1 hc0_1
 have HB := zm (Below.refl w.heap.size w)
 have H : ((spec_l01Ask.f k l0_0 l0_1 a1 0).bind fun t767 => (if t767 = 0 then ((spec_l04Host.f a2).bind fun t768 => (if t768 = true then ((spec_l04Read.f k l0_0 l0_1 a1 a2).bind fun bt769 => (if bt769.2.1 = 0 then (some (0, 0, 0, 5)) else (some (bt769.1, bt769.2.1, bt769.2.2, 0)))) else (some (0, 0, 0, 4)))) else (some (0, 0, 0, t767)))) = some (r1, r2, r3, r4) := h
 clear h
 replace H := Option.bind_eq_some_iff.mp H
 obtain ⟨t767, A40, H⟩ := H
 replace H : (if t767 = 0 then ((spec_l04Host.f a2).bind fun t768 => (if t768 = true then ((spec_l04Read.f k l0_0 l0_1 a1 a2).bind fun bt769 => (if bt769.2.1 = 0 then (some (0, 0, 0, 5)) else (some (bt769.1, bt769.2.1, bt769.2.2, 0)))) else (some (0, 0, 0, 4)))) else (some (0, 0, 0, t767))) = some (r1, r2, r3, r4) := H
 have A4 := zm A40
 clear A40
 by_cases c5 : t767 = 0
 ·rw [if_pos c5] at H
  have c5b0 : (t767 == 0) = true := beq_iff_eq.mpr c5
  have c5b1 : (t767 != 0) = false := bne_eq_false_iff_eq.mpr c5
  clear c5
  replace H := Option.bind_eq_some_iff.mp H
  obtain ⟨t768, A60, H⟩ := H
  replace H : (if t768 = true then ((spec_l04Read.f k l0_0 l0_1 a1 a2).bind fun bt769 => (if bt769.2.1 = 0 then (some (0, 0, 0, 5)) else (some (bt769.1, bt769.2.1, bt769.2.2, 0)))) else (some (0, 0, 0, 4))) = some (r1, r2, r3, r4) := H
  have A6 := zm A60
  clear A60
  by_cases c7 : t768 = true
  ·subst c7
   have H1 : ((spec_l04Read.f k l0_0 l0_1 a1 a2).bind fun bt769 => (if bt769.2.1 = 0 then (some (0, 0, 0, 5)) else (some (bt769.1, bt769.2.1, bt769.2.2, 0)))) = some (r1, r2, r3, r4) := by rw [if_pos rfl] at H; exact H
   clear H
   have H := H1
   clear H1
   replace H := Option.bind_eq_some_iff.mp H
   obtain ⟨⟨t769, t770, t771⟩, A80, H⟩ := H
   replace H : (if t770 = 0 then (some (0, 0, 0, 5)) else (some (t769, t770, t771, 0))) = some (r1, r2, r3, r4) := H
   have A8 := zm A80
   clear A80
   by_cases c9 : t770 = 0
   ·rw [if_pos c9] at H
    have c9b0 : (t770 == 0) = true := beq_iff_eq.mpr c9
    have c9b1 : (t770 != 0) = false := bne_eq_false_iff_eq.mpr c9
    clear c9
    simp only [Option.some.injEq, Prod.mk.injEq] at H
    obtain ⟨rfl, rfl, rfl, rfl⟩ := H
    go_enter Try.func25, Try.ntmps25
    go_wp2_with (first | ((with_reducible refine gate_dst (N := 3) rfl ?_); refine box_event ?hg (N := 3) ?hd (cs := #[.slice A0_0 l0_0.length c0_0, .slice A0_1 l0_1.length c0_1]) (t := 29) ?hr ?_; (case hd => rfl); (case hg => rfl); (case hr => first | (go_simp; done) | (go_simp; rfl)); intro gb765 hg w10 hbox hb; have n0_ := zm (below_step (zg_0 HB.out) hb); have n1_ := zm (hbox); have n2_ := zm ((by rw [hg]; exact (below_size (zg_0 HB.out)) : w.heap.size ≤ gb765)); have n3_ := zm ((by rw [hg]; exact (below_size (zg_0 HB.out)) : w.heap.size ≤ gb765)); clear HB; have HB := n0_; have Za := n1_; have Zp := n2_; have Zc := n3_; clear n0_ n1_ n2_ n3_; clear hb hbox hg) | ((with_reducible refine gate_dst (N := 6) rfl ?_); refine box_event ?hg (N := 6) ?hd (cs := #[.int .i64 0, .int .i64 0, .int .i64 0]) (t := 46) ?hr ?_; (case hd => rfl); (case hg => rfl); (case hr => first | (go_simp; done) | (go_simp; rfl)); intro gb766 hg w11 hbox hb; have n0_ := zm (blk_below (g := gb765) (o := .cells #[.slice A0_0 l0_0.length c0_0, .slice A0_1 l0_1.length c0_1] 29 (0, 0)) (zg_2 Za.out) hb); have n1_ := zm (below_step (zg_1 HB.out Zc.out) hb); have n2_ := zm (hbox); have n3_ := zm ((by rw [hg]; exact (below_size (zg_1 HB.out Zc.out)) : w.heap.size ≤ gb766)); have n4_ := zm ((by rw [hg]; exact (below_size (zg_1 HB.out Zc.out)) : w.heap.size ≤ gb766)); have n5_ := zm ((by rw [hg]; exact Nat.ne_of_lt (blk_lt (g := gb765) (o := .cells #[.slice A0_0 l0_0.length c0_0, .slice A0_1 l0_1.length c0_1] 29 (0, 0)) (zg_2 Za.out)) : gb765 ≠ gb766)); have n6_ := zm ((by rw [hg]; exact Nat.ne_of_gt (blk_lt (g := gb765) (o := .cells #[.slice A0_0 l0_0.length c0_0, .slice A0_1 l0_1.length c0_1] 29 (0, 0)) (zg_2 Za.out)) : gb766 ≠ gb765)); clear Za; clear HB; have Za := n0_; have HB := n1_; have Zb := n2_; have Zq := n3_; have Ze := n4_; have Zf := n5_; have Zg := n6_; clear n0_ n1_ n2_ n3_ n4_ n5_ n6_; clear hb hbox hg; have hnb12 := Zf.out; have hnc12 := Zg.out; have hcz13_0 : w11.cell? ⟨gb765, 0, none⟩ = some (.slice A0_0 l0_0.length c0_0) := (blk_cell Za.out 0).trans rfl; have hcz13_1 : w11.cell? ⟨gb765, 1, none⟩ = some (.slice A0_1 l0_1.length c0_1) := (blk_cell Za.out 1).trans rfl; have hfz13_0 := blk_frozen Za.out 0; have hfz13_1 := blk_frozen Za.out 1) | ((with_reducible refine gate_callee (f := 30) rfl ?_); refine goesL_ (some 12) rfl rfl Try.func30 (by kernel_rfl) rfl #[.agg #[.slice A0_0 l0_0.length c0_0, .slice A0_1 l0_1.length c0_1], .int .i64 a1, .int .i64 0] rfl zq ?_; (with_reducible refine (spec_l01Ask.calls k _ _ l0_0 _ _ l0_1 a1 0 t767 _ ?side1 ?side2 ?side3 ?side4 A4.out).mono ?_); (case side1 => repeat (first | exact (Kd.C_below Zl.out HB.out) | (with_reducible refine Kd.C_alloc ?_ _) | (with_reducible refine Kd.C_drewN ?_ _) | (with_reducible refine Kd.C_drew ?_))); (case side2 => exact Zm.out); (case side3 => repeat (first | exact (Kd.C_below Zn.out HB.out) | (with_reducible refine Kd.C_alloc ?_ _) | (with_reducible refine Kd.C_drewN ?_ _) | (with_reducible refine Kd.C_drew ?_))); (case side4 => exact Zo.out); rintro e w14 ⟨rfl, hb⟩; refine ⟨_, rfl, ?_⟩; have n0_ := zm (blk_below (g := gb765) (o := .cells #[.slice A0_0 l0_0.length c0_0, .slice A0_1 l0_1.length c0_1] 29 (0, 0)) (zg_2 Za.out) hb); have n1_ := zm (blk_below (g := gb766) (o := .cells #[.int .i64 0, .int .i64 0, .int .i64 0] 46 (0, 0)) (zg_2 Zb.out) hb); have n2_ := zm (below_step (zg_4 HB.out Zc.out Ze.out) hb); clear Za; clear Zb; clear HB; have Za := n0_; have Zb := n1_; have HB := n2_; clear n0_ n1_ n2_; (try clear hb); (try clear hb2); (try clear hk); (try clear hi)) | ((with_reducible refine gate_callee (f := 54) rfl ?_); refine goesL_ (some 18) rfl rfl Try.func54 (by kernel_rfl) rfl #[.int .i64 a2] rfl zq ?_; (with_reducible refine (spec_l04Host.calls a2 true _ A6.out).mono ?_); rintro e w' ⟨rfl, ⟨nd, rfl⟩⟩; refine ⟨_, rfl, ?_⟩; (try (rw [drewN_self w14]; generalize hq_ : World.drewN w14 _ = w14; have n0_ : Aside0 (w14.heap[gb765]? = some (.cells #[.slice A0_0 l0_0.length c0_0, .slice A0_1 l0_1.length c0_1] 29 (0, 0))) := ⟨by rw [← hq_]; exact (zg_2 Za.out)⟩; have n1_ : Aside0 (w14.heap[gb766]? = some (.cells #[.int .i64 0, .int .i64 0, .int .i64 0] 46 (0, 0))) := ⟨by rw [← hq_]; exact (zg_2 Zb.out)⟩; have n2_ : Aside0 (Below w.heap.size w w14) := ⟨by rw [← hq_]; exact (zg_4 HB.out Zc.out Ze.out)⟩; clear Za Zb HB hq_; have Za := n0_; have Zb := n1_; have HB := n2_; clear n0_ n1_ n2_)); have hcz15_0 : w14.cell? ⟨gb765, 0, none⟩ = some (.slice A0_0 l0_0.length c0_0) := (blk_cell Za.out 0).trans rfl; have hcz15_1 : w14.cell? ⟨gb765, 1, none⟩ = some (.slice A0_1 l0_1.length c0_1) := (blk_cell Za.out 1).trans rfl; have hfz15_0 := blk_frozen Za.out 0; have hfz15_1 := blk_frozen Za.out 1) | ((with_reducible refine gate_callee (f := 55) rfl ?_); refine goesL_ (some 24) rfl rfl Try.func55 (by kernel_rfl) rfl #[.agg #[.slice A0_0 l0_0.length c0_0, .slice A0_1 l0_1.length c0_1], .int .i64 a1, .int .i64 a2] rfl zq ?_; (with_reducible refine (spec_l04Read.calls k _ _ l0_0 _ _ l0_1 a1 a2 t769 t770 t771 _ ?side1 ?side2 ?side3 ?side4 A8.out).mono ?_); (case side1 => repeat (first | exact (Kd.C_below Zl.out HB.out) | (with_reducible refine Kd.C_alloc ?_ _) | (with_reducible refine Kd.C_drewN ?_ _) | (with_reducible refine Kd.C_drew ?_))); (case side2 => exact Zm.out); (case side3 => repeat (first | exact (Kd.C_below Zn.out HB.out) | (with_reducible refine Kd.C_alloc ?_ _) | (with_reducible refine Kd.C_drewN ?_ _) | (with_reducible refine Kd.C_drew ?_))); (case side4 => exact Zo.out); rintro e w16 ⟨rfl, hb⟩; refine ⟨_, rfl, ?_⟩; have n0_ := zm (blk_below (g := gb765) (o := .cells #[.slice A0_0 l0_0.length c0_0, .slice A0_1 l0_1.length c0_1] 29 (0, 0)) (zg_2 Za.out) hb); have n1_ := zm (blk_below (g := gb766) (o := .cells #[.int .i64 0, .int .i64 0, .int .i64 0] 46 (0, 0)) (zg_2 Zb.out) hb); have n2_ := zm (below_step (zg_4 HB.out Zc.out Ze.out) hb); clear Za; clear Zb; clear HB; have Za := n0_; have Zb := n1_; have HB := n2_; clear n0_ n1_ n2_; (try clear hb); (try clear hb2); (try clear hk); (try clear hi)) | ((with_reducible refine gate_dst (N := 9) rfl ?_); refine box_event ?hg (N := 9) ?hd (cs := #[.int .i64 0, .int .i64 0, .int .i64 0]) (t := 46) ?hr ?_; (case hd => rfl); (case hg => rfl); (case hr => first | (go_simp; done) | (go_simp; rfl)); intro gb772 hg w17 hbox hb; have n0_ := zm (blk_below (g := gb765) (o := .cells #[.slice A0_0 l0_0.length c0_0, .slice A0_1 l0_1.length c0_1] 29 (0, 0)) (zg_2 Za.out) hb); have n1_ := zm (blk_below (g := gb766) (o := .cells #[.int .i64 0, .int .i64 0, .int .i64 0] 46 (0, 0)) (zg_2 Zb.out) hb); have n2_ := zm (below_step (zg_4 HB.out Zc.out Ze.out) hb); have n3_ := zm (hbox); have n4_ := zm ((by rw [hg]; exact (below_size (zg_4 HB.out Zc.out Ze.out)) : w.heap.size ≤ gb772)); have n5_ := zm ((by rw [hg]; exact (below_size (zg_4 HB.out Zc.out Ze.out)) : w.heap.size ≤ gb772)); have n6_ := zm ((by rw [hg]; exact Nat.ne_of_lt (blk_lt (g := gb765) (o := .cells #[.slice A0_0 l0_0.length c0_0, .slice A0_1 l0_1.length c0_1] 29 (0, 0)) (zg_2 Za.out)) : gb765 ≠ gb772)); have n7_ := zm ((by rw [hg]; exact Nat.ne_of_gt (blk_lt (g := gb765) (o := .cells #[.slice A0_0 l0_0.length c0_0, .slice A0_1 l0_1.length c0_1] 29 (0, 0)) (zg_2 Za.out)) : gb772 ≠ gb765)); have n8_ := zm ((by rw [hg]; exact Nat.ne_of_lt (blk_lt (g := gb766) (o := .cells #[.int .i64 0, .int .i64 0, .int .i64 0] 46 (0, 0)) (zg_2 Zb.out)) : gb766 ≠ gb772)); have n9_ := zm ((by rw [hg]; exact Nat.ne_of_gt (blk_lt (g := gb766) (o := .cells #[.int .i64 0, .int .i64 0, .int .i64 0] 46 (0, 0)) (zg_2 Zb.out)) : gb772 ≠ gb766)); clear Za; clear Zb; clear HB; have Za := n0_; have Zb := n1_; have HB := n2_; have Zh := n3_; have Zs := n4_; have Zr := n5_; have Zi := n6_; have Zj := n7_; have Zd := n8_; have Zk := n9_; clear n0_ n1_ n2_ n3_ n4_ n5_ n6_ n7_ n8_ n9_; clear hb hbox hg; have hnb18 := Zj.out; have hnc18 := Zi.out; have hnb19 := Zk.out; have hnc19 := Zd.out; have hcz20_0 : w17.cell? ⟨gb772, 0, none⟩ = some (.int .i64 0) := (blk_cell Zh.out 0).trans rfl; have hcz20_1 : w17.cell? ⟨gb772, 1, none⟩ = some (.int .i64 0) := (blk_cell Zh.out 1).trans rfl; have hcz20_2 : w17.cell? ⟨gb772, 2, none⟩ = some (.int .i64 0) := (blk_cell Zh.out 2).trans rfl; have hfz20_0 := blk_frozen Zh.out 0; have hfz20_1 := blk_frozen Zh.out 1; have hfz20_2 := blk_frozen Zh.out 2; have hcz21_0 : w17.cell? ⟨gb766, 0, none⟩ = some (.int .i64 0) := (blk_cell Zb.out 0).trans rfl; have hcz21_1 : w17.cell? ⟨gb766, 1, none⟩ = some (.int .i64 0) := (blk_cell Zb.out 1).trans rfl; have hcz21_2 : w17.cell? ⟨gb766, 2, none⟩ = some (.int .i64 0) := (blk_cell Zb.out 2).trans rfl; have hfz21_0 := blk_frozen Zb.out 0; have hfz21_1 := blk_frozen Zb.out 1; have hfz21_2 := blk_frozen Zb.out 2))
    refine bodyPost_ret (results_ct rfl _ _ gb766 46 #[.int .i64 0, .int .i64 0, .int .i64 0] (0, 0) _ rfl (by (with_reducible repeat (first | refine blk_drewN ?_ _ | refine blk_drew ?_ | refine blk_alloc ?_ _)); refine blk_put (cs := #[.int .i64 0, .int .i64 0, .int .i64 0]) ?_ 2 _ rfl; (with_reducible repeat (first | refine blk_drewN ?_ _ | refine blk_drew ?_ | refine blk_alloc ?_ _)); refine blk_put (cs := #[.int .i64 0, .int .i64 0, .int .i64 0]) ?_ 1 _ rfl; (with_reducible repeat (first | refine blk_drewN ?_ _ | refine blk_drew ?_ | refine blk_alloc ?_ _)); refine blk_put (cs := #[.int .i64 0, .int .i64 0, .int .i64 0]) ?_ 0 _ rfl; (with_reducible repeat (first | refine blk_drewN ?_ _ | refine blk_drew ?_ | refine blk_alloc ?_ _)); refine blk_far ?_ Zd.out _; (with_reducible repeat (first | refine blk_drewN ?_ _ | refine blk_drew ?_ | refine blk_alloc ?_ _)); refine blk_far ?_ Zd.out _; (with_reducible repeat (first | refine blk_drewN ?_ _ | refine blk_drew ?_ | refine blk_alloc ?_ _)); refine blk_far ?_ Zd.out _; (with_reducible repeat (first | refine blk_drewN ?_ _ | refine blk_drew ?_ | refine blk_alloc ?_ _)); exact Zb.out) Try.underlying46 rfl (by kernel_rfl)) rfl ?_
    exact ⟨by first | rfl | (simp [errW_none, errW_some] <;> rfl) | (simp [*, errW_none, errW_some] <;> rfl), zg_5 HB.out Zc.out Ze.out Zr.out⟩
   ·rw [if_neg c9] at H
    have c9b0 : (t770 == 0) = false := beq_eq_false_iff_ne.mpr c9
    have c9b1 : (t770 != 0) = true := bne_iff_ne.mpr c9
    simp only [Option.some.injEq, Prod.mk.injEq] at H
    obtain ⟨rfl, rfl, rfl, rfl⟩ := H
    go_enter Try.func25, Try.ntmps25
    go_wp2_with (first | ((with_reducible refine gate_dst (N := 3) rfl ?_); refine box_event ?hg (N := 3) ?hd (cs := #[.slice A0_0 l0_0.length c0_0, .slice A0_1 l0_1.length c0_1]) (t := 29) ?hr ?_; (case hd => rfl); (case hg => rfl); (case hr => first | (go_simp; done) | (go_simp; rfl)); intro gb765 hg w22 hbox hb; have n0_ := zm (below_step (zg_0 HB.out) hb); have n1_ := zm (hbox); have n2_ := zm ((by rw [hg]; exact (below_size (zg_0 HB.out)) : w.heap.size ≤ gb765)); have n3_ := zm ((by rw [hg]; exact (below_size (zg_0 HB.out)) : w.heap.size ≤ gb765)); clear HB; have HB := n0_; have Za := n1_; have Zp := n2_; have Zc := n3_; clear n0_ n1_ n2_ n3_; clear hb hbox hg) | ((with_reducible refine gate_dst (N := 6) rfl ?_); refine box_event ?hg (N := 6) ?hd (cs := #[.int .i64 0, .int .i64 0, .int .i64 0]) (t := 46) ?hr ?_; (case hd => rfl); (case hg => rfl); (case hr => first | (go_simp; done) | (go_simp; rfl)); intro gb766 hg w23 hbox hb; have n0_ := zm (blk_below (g := gb765) (o := .cells #[.slice A0_0 l0_0.length c0_0, .slice A0_1 l0_1.length c0_1] 29 (0, 0)) (zg_2 Za.out) hb); have n1_ := zm (below_step (zg_1 HB.out Zc.out) hb); have n2_ := zm (hbox); have n3_ := zm ((by rw [hg]; exact (below_size (zg_1 HB.out Zc.out)) : w.heap.size ≤ gb766)); have n4_ := zm ((by rw [hg]; exact (below_size (zg_1 HB.out Zc.out)) : w.heap.size ≤ gb766)); have n5_ := zm ((by rw [hg]; exact Nat.ne_of_lt (blk_lt (g := gb765) (o := .cells #[.slice A0_0 l0_0.length c0_0, .slice A0_1 l0_1.length c0_1] 29 (0, 0)) (zg_2 Za.out)) : gb765 ≠ gb766)); have n6_ := zm ((by rw [hg]; exact Nat.ne_of_gt (blk_lt (g := gb765) (o := .cells #[.slice A0_0 l0_0.length c0_0, .slice A0_1 l0_1.length c0_1] 29 (0, 0)) (zg_2 Za.out)) : gb766 ≠ gb765)); clear Za; clear HB; have Za := n0_; have HB := n1_; have Zb := n2_; have Zq := n3_; have Ze := n4_; have Zf := n5_; have Zg := n6_; clear n0_ n1_ n2_ n3_ n4_ n5_ n6_; clear hb hbox hg; have hnb24 := Zf.out; have hnc24 := Zg.out; have hcz25_0 : w23.cell? ⟨gb765, 0, none⟩ = some (.slice A0_0 l0_0.length c0_0) := (blk_cell Za.out 0).trans rfl; have hcz25_1 : w23.cell? ⟨gb765, 1, none⟩ = some (.slice A0_1 l0_1.length c0_1) := (blk_cell Za.out 1).trans rfl; have hfz25_0 := blk_frozen Za.out 0; have hfz25_1 := blk_frozen Za.out 1) | ((with_reducible refine gate_callee (f := 30) rfl ?_); refine goesL_ (some 12) rfl rfl Try.func30 (by kernel_rfl) rfl #[.agg #[.slice A0_0 l0_0.length c0_0, .slice A0_1 l0_1.length c0_1], .int .i64 a1, .int .i64 0] rfl zq ?_; (with_reducible refine (spec_l01Ask.calls k _ _ l0_0 _ _ l0_1 a1 0 t767 _ ?side1 ?side2 ?side3 ?side4 A4.out).mono ?_); (case side1 => repeat (first | exact (Kd.C_below Zl.out HB.out) | (with_reducible refine Kd.C_alloc ?_ _) | (with_reducible refine Kd.C_drewN ?_ _) | (with_reducible refine Kd.C_drew ?_))); (case side2 => exact Zm.out); (case side3 => repeat (first | exact (Kd.C_below Zn.out HB.out) | (with_reducible refine Kd.C_alloc ?_ _) | (with_reducible refine Kd.C_drewN ?_ _) | (with_reducible refine Kd.C_drew ?_))); (case side4 => exact Zo.out); rintro e w26 ⟨rfl, hb⟩; refine ⟨_, rfl, ?_⟩; have n0_ := zm (blk_below (g := gb765) (o := .cells #[.slice A0_0 l0_0.length c0_0, .slice A0_1 l0_1.length c0_1] 29 (0, 0)) (zg_2 Za.out) hb); have n1_ := zm (blk_below (g := gb766) (o := .cells #[.int .i64 0, .int .i64 0, .int .i64 0] 46 (0, 0)) (zg_2 Zb.out) hb); have n2_ := zm (below_step (zg_4 HB.out Zc.out Ze.out) hb); clear Za; clear Zb; clear HB; have Za := n0_; have Zb := n1_; have HB := n2_; clear n0_ n1_ n2_; (try clear hb); (try clear hb2); (try clear hk); (try clear hi)) | ((with_reducible refine gate_callee (f := 54) rfl ?_); refine goesL_ (some 18) rfl rfl Try.func54 (by kernel_rfl) rfl #[.int .i64 a2] rfl zq ?_; (with_reducible refine (spec_l04Host.calls a2 true _ A6.out).mono ?_); rintro e w' ⟨rfl, ⟨nd, rfl⟩⟩; refine ⟨_, rfl, ?_⟩; (try (rw [drewN_self w26]; generalize hq_ : World.drewN w26 _ = w26; have n0_ : Aside0 (w26.heap[gb765]? = some (.cells #[.slice A0_0 l0_0.length c0_0, .slice A0_1 l0_1.length c0_1] 29 (0, 0))) := ⟨by rw [← hq_]; exact (zg_2 Za.out)⟩; have n1_ : Aside0 (w26.heap[gb766]? = some (.cells #[.int .i64 0, .int .i64 0, .int .i64 0] 46 (0, 0))) := ⟨by rw [← hq_]; exact (zg_2 Zb.out)⟩; have n2_ : Aside0 (Below w.heap.size w w26) := ⟨by rw [← hq_]; exact (zg_4 HB.out Zc.out Ze.out)⟩; clear Za Zb HB hq_; have Za := n0_; have Zb := n1_; have HB := n2_; clear n0_ n1_ n2_)); have hcz27_0 : w26.cell? ⟨gb765, 0, none⟩ = some (.slice A0_0 l0_0.length c0_0) := (blk_cell Za.out 0).trans rfl; have hcz27_1 : w26.cell? ⟨gb765, 1, none⟩ = some (.slice A0_1 l0_1.length c0_1) := (blk_cell Za.out 1).trans rfl; have hfz27_0 := blk_frozen Za.out 0; have hfz27_1 := blk_frozen Za.out 1) | ((with_reducible refine gate_callee (f := 55) rfl ?_); refine goesL_ (some 24) rfl rfl Try.func55 (by kernel_rfl) rfl #[.agg #[.slice A0_0 l0_0.length c0_0, .slice A0_1 l0_1.length c0_1], .int .i64 a1, .int .i64 a2] rfl zq ?_; (with_reducible refine (spec_l04Read.calls k _ _ l0_0 _ _ l0_1 a1 a2 t769 t770 t771 _ ?side1 ?side2 ?side3 ?side4 A8.out).mono ?_); (case side1 => repeat (first | exact (Kd.C_below Zl.out HB.out) | (with_reducible refine Kd.C_alloc ?_ _) | (with_reducible refine Kd.C_drewN ?_ _) | (with_reducible refine Kd.C_drew ?_))); (case side2 => exact Zm.out); (case side3 => repeat (first | exact (Kd.C_below Zn.out HB.out) | (with_reducible refine Kd.C_alloc ?_ _) | (with_reducible refine Kd.C_drewN ?_ _) | (with_reducible refine Kd.C_drew ?_))); (case side4 => exact Zo.out); rintro e w28 ⟨rfl, hb⟩; refine ⟨_, rfl, ?_⟩; have n0_ := zm (blk_below (g := gb765) (o := .cells #[.slice A0_0 l0_0.length c0_0, .slice A0_1 l0_1.length c0_1] 29 (0, 0)) (zg_2 Za.out) hb); have n1_ := zm (blk_below (g := gb766) (o := .cells #[.int .i64 0, .int .i64 0, .int .i64 0] 46 (0, 0)) (zg_2 Zb.out) hb); have n2_ := zm (below_step (zg_4 HB.out Zc.out Ze.out) hb); clear Za; clear Zb; clear HB; have Za := n0_; have Zb := n1_; have HB := n2_; clear n0_ n1_ n2_; (try clear hb); (try clear hb2); (try clear hk); (try clear hi)) | ((with_reducible refine gate_dst (N := 9) rfl ?_); refine box_event ?hg (N := 9) ?hd (cs := #[.int .i64 0, .int .i64 0, .int .i64 0]) (t := 46) ?hr ?_; (case hd => rfl); (case hg => rfl); (case hr => first | (go_simp; done) | (go_simp; rfl)); intro gb772 hg w29 hbox hb; have n0_ := zm (blk_below (g := gb765) (o := .cells #[.slice A0_0 l0_0.length c0_0, .slice A0_1 l0_1.length c0_1] 29 (0, 0)) (zg_2 Za.out) hb); have n1_ := zm (blk_below (g := gb766) (o := .cells #[.int .i64 0, .int .i64 0, .int .i64 0] 46 (0, 0)) (zg_2 Zb.out) hb); have n2_ := zm (below_step (zg_4 HB.out Zc.out Ze.out) hb); have n3_ := zm (hbox); have n4_ := zm ((by rw [hg]; exact (below_size (zg_4 HB.out Zc.out Ze.out)) : w.heap.size ≤ gb772)); have n5_ := zm ((by rw [hg]; exact (below_size (zg_4 HB.out Zc.out Ze.out)) : w.heap.size ≤ gb772)); have n6_ := zm ((by rw [hg]; exact Nat.ne_of_lt (blk_lt (g := gb765) (o := .cells #[.slice A0_0 l0_0.length c0_0, .slice A0_1 l0_1.length c0_1] 29 (0, 0)) (zg_2 Za.out)) : gb765 ≠ gb772)); have n7_ := zm ((by rw [hg]; exact Nat.ne_of_gt (blk_lt (g := gb765) (o := .cells #[.slice A0_0 l0_0.length c0_0, .slice A0_1 l0_1.length c0_1] 29 (0, 0)) (zg_2 Za.out)) : gb772 ≠ gb765)); have n8_ := zm ((by rw [hg]; exact Nat.ne_of_lt (blk_lt (g := gb766) (o := .cells #[.int .i64 0, .int .i64 0, .int .i64 0] 46 (0, 0)) (zg_2 Zb.out)) : gb766 ≠ gb772)); have n9_ := zm ((by rw [hg]; exact Nat.ne_of_gt (blk_lt (g := gb766) (o := .cells #[.int .i64 0, .int .i64 0, .int .i64 0] 46 (0, 0)) (zg_2 Zb.out)) : gb772 ≠ gb766)); clear Za; clear Zb; clear HB; have Za := n0_; have Zb := n1_; have HB := n2_; have Zh := n3_; have Zs := n4_; have Zr := n5_; have Zi := n6_; have Zj := n7_; have Zd := n8_; have Zk := n9_; clear n0_ n1_ n2_ n3_ n4_ n5_ n6_ n7_ n8_ n9_; clear hb hbox hg; have hnb30 := Zj.out; have hnc30 := Zi.out; have hnb31 := Zk.out; have hnc31 := Zd.out; have hcz32_0 : w29.cell? ⟨gb772, 0, none⟩ = some (.int .i64 0) := (blk_cell Zh.out 0).trans rfl; have hcz32_1 : w29.cell? ⟨gb772, 1, none⟩ = some (.int .i64 0) := (blk_cell Zh.out 1).trans rfl; have hcz32_2 : w29.cell? ⟨gb772, 2, none⟩ = some (.int .i64 0) := (blk_cell Zh.out 2).trans rfl; have hfz32_0 := blk_frozen Zh.out 0; have hfz32_1 := blk_frozen Zh.out 1; have hfz32_2 := blk_frozen Zh.out 2; have hcz33_0 : w29.cell? ⟨gb766, 0, none⟩ = some (.int .i64 0) := (blk_cell Zb.out 0).trans rfl; have hcz33_1 : w29.cell? ⟨gb766, 1, none⟩ = some (.int .i64 0) := (blk_cell Zb.out 1).trans rfl; have hcz33_2 : w29.cell? ⟨gb766, 2, none⟩ = some (.int .i64 0) := (blk_cell Zb.out 2).trans rfl; have hfz33_0 := blk_frozen Zb.out 0; have hfz33_1 := blk_frozen Zb.out 1; have hfz33_2 := blk_frozen Zb.out 2))
    refine bodyPost_ret (results_ct rfl _ _ gb766 46 #[.int .i64 t769, .int .i64 t770, .int .i64 t771] (0, 0) _ rfl (by (with_reducible repeat (first | refine blk_drewN ?_ _ | refine blk_drew ?_ | refine blk_alloc ?_ _)); refine blk_put (cs := #[.int .i64 t769, .int .i64 t770, .int .i64 0]) ?_ 2 _ rfl; (with_reducible repeat (first | refine blk_drewN ?_ _ | refine blk_drew ?_ | refine blk_alloc ?_ _)); refine blk_put (cs := #[.int .i64 t769, .int .i64 0, .int .i64 0]) ?_ 1 _ rfl; (with_reducible repeat (first | refine blk_drewN ?_ _ | refine blk_drew ?_ | refine blk_alloc ?_ _)); refine blk_put (cs := #[.int .i64 0, .int .i64 0, .int .i64 0]) ?_ 0 _ rfl; (with_reducible repeat (first | refine blk_drewN ?_ _ | refine blk_drew ?_ | refine blk_alloc ?_ _)); refine blk_far ?_ Zd.out _; (with_reducible repeat (first | refine blk_drewN ?_ _ | refine blk_drew ?_ | refine blk_alloc ?_ _)); refine blk_far ?_ Zd.out _; (with_reducible repeat (first | refine blk_drewN ?_ _ | refine blk_drew ?_ | refine blk_alloc ?_ _)); refine blk_far ?_ Zd.out _; (with_reducible repeat (first | refine blk_drewN ?_ _ | refine blk_drew ?_ | refine blk_alloc ?_ _)); exact Zb.out) Try.underlying46 rfl (by kernel_rfl)) rfl ?_
    exact ⟨by first | rfl | (simp [errW_none, errW_some] <;> rfl) | (simp [*, errW_none, errW_some] <;> rfl), zg_5 HB.out Zc.out Ze.out Zr.out⟩
  ·replace c7 := Bool.eq_false_iff.mpr c7
   subst c7
   have H1 : (some (0, 0, 0, 4)) = some (r1, r2, r3, r4) := by rw [if_neg (show ¬ (false = true) by decide)] at H; exact H
   clear H
   have H := H1
   clear H1
   simp only [Option.some.injEq, Prod.mk.injEq] at H
   obtain ⟨rfl, rfl, rfl, rfl⟩ := H
   go_enter Try.func25, Try.ntmps25
   go_wp2_with (first | ((with_reducible refine gate_dst (N := 3) rfl ?_); refine box_event ?hg (N := 3) ?hd (cs := #[.slice A0_0 l0_0.length c0_0, .slice A0_1 l0_1.length c0_1]) (t := 29) ?hr ?_; (case hd => rfl); (case hg => rfl); (case hr => first | (go_simp; done) | (go_simp; rfl)); intro gb765 hg w34 hbox hb; have n0_ := zm (below_step (zg_0 HB.out) hb); have n1_ := zm (hbox); have n2_ := zm ((by rw [hg]; exact (below_size (zg_0 HB.out)) : w.heap.size ≤ gb765)); have n3_ := zm ((by rw [hg]; exact (below_size (zg_0 HB.out)) : w.heap.size ≤ gb765)); clear HB; have HB := n0_; have Za := n1_; have Zp := n2_; have Zc := n3_; clear n0_ n1_ n2_ n3_; clear hb hbox hg) | ((with_reducible refine gate_dst (N := 6) rfl ?_); refine box_event ?hg (N := 6) ?hd (cs := #[.int .i64 0, .int .i64 0, .int .i64 0]) (t := 46) ?hr ?_; (case hd => rfl); (case hg => rfl); (case hr => first | (go_simp; done) | (go_simp; rfl)); intro gb766 hg w35 hbox hb; have n0_ := zm (blk_below (g := gb765) (o := .cells #[.slice A0_0 l0_0.length c0_0, .slice A0_1 l0_1.length c0_1] 29 (0, 0)) (zg_2 Za.out) hb); have n1_ := zm (below_step (zg_1 HB.out Zc.out) hb); have n2_ := zm (hbox); have n3_ := zm ((by rw [hg]; exact (below_size (zg_1 HB.out Zc.out)) : w.heap.size ≤ gb766)); have n4_ := zm ((by rw [hg]; exact (below_size (zg_1 HB.out Zc.out)) : w.heap.size ≤ gb766)); have n5_ := zm ((by rw [hg]; exact Nat.ne_of_lt (blk_lt (g := gb765) (o := .cells #[.slice A0_0 l0_0.length c0_0, .slice A0_1 l0_1.length c0_1] 29 (0, 0)) (zg_2 Za.out)) : gb765 ≠ gb766)); have n6_ := zm ((by rw [hg]; exact Nat.ne_of_gt (blk_lt (g := gb765) (o := .cells #[.slice A0_0 l0_0.length c0_0, .slice A0_1 l0_1.length c0_1] 29 (0, 0)) (zg_2 Za.out)) : gb766 ≠ gb765)); clear Za; clear HB; have Za := n0_; have HB := n1_; have Zb := n2_; have Zq := n3_; have Ze := n4_; have Zf := n5_; have Zg := n6_; clear n0_ n1_ n2_ n3_ n4_ n5_ n6_; clear hb hbox hg; have hnb36 := Zf.out; have hnc36 := Zg.out; have hcz37_0 : w35.cell? ⟨gb765, 0, none⟩ = some (.slice A0_0 l0_0.length c0_0) := (blk_cell Za.out 0).trans rfl; have hcz37_1 : w35.cell? ⟨gb765, 1, none⟩ = some (.slice A0_1 l0_1.length c0_1) := (blk_cell Za.out 1).trans rfl; have hfz37_0 := blk_frozen Za.out 0; have hfz37_1 := blk_frozen Za.out 1) | ((with_reducible refine gate_callee (f := 30) rfl ?_); refine goesL_ (some 12) rfl rfl Try.func30 (by kernel_rfl) rfl #[.agg #[.slice A0_0 l0_0.length c0_0, .slice A0_1 l0_1.length c0_1], .int .i64 a1, .int .i64 0] rfl zq ?_; (with_reducible refine (spec_l01Ask.calls k _ _ l0_0 _ _ l0_1 a1 0 t767 _ ?side1 ?side2 ?side3 ?side4 A4.out).mono ?_); (case side1 => repeat (first | exact (Kd.C_below Zl.out HB.out) | (with_reducible refine Kd.C_alloc ?_ _) | (with_reducible refine Kd.C_drewN ?_ _) | (with_reducible refine Kd.C_drew ?_))); (case side2 => exact Zm.out); (case side3 => repeat (first | exact (Kd.C_below Zn.out HB.out) | (with_reducible refine Kd.C_alloc ?_ _) | (with_reducible refine Kd.C_drewN ?_ _) | (with_reducible refine Kd.C_drew ?_))); (case side4 => exact Zo.out); rintro e w38 ⟨rfl, hb⟩; refine ⟨_, rfl, ?_⟩; have n0_ := zm (blk_below (g := gb765) (o := .cells #[.slice A0_0 l0_0.length c0_0, .slice A0_1 l0_1.length c0_1] 29 (0, 0)) (zg_2 Za.out) hb); have n1_ := zm (blk_below (g := gb766) (o := .cells #[.int .i64 0, .int .i64 0, .int .i64 0] 46 (0, 0)) (zg_2 Zb.out) hb); have n2_ := zm (below_step (zg_4 HB.out Zc.out Ze.out) hb); clear Za; clear Zb; clear HB; have Za := n0_; have Zb := n1_; have HB := n2_; clear n0_ n1_ n2_; (try clear hb); (try clear hb2); (try clear hk); (try clear hi)) | ((with_reducible refine gate_callee (f := 54) rfl ?_); refine goesL_ (some 18) rfl rfl Try.func54 (by kernel_rfl) rfl #[.int .i64 a2] rfl zq ?_; (with_reducible refine (spec_l04Host.calls a2 false _ A6.out).mono ?_); rintro e w' ⟨rfl, ⟨nd, rfl⟩⟩; refine ⟨_, rfl, ?_⟩; (try (rw [drewN_self w38]; generalize hq_ : World.drewN w38 _ = w38; have n0_ : Aside0 (w38.heap[gb765]? = some (.cells #[.slice A0_0 l0_0.length c0_0, .slice A0_1 l0_1.length c0_1] 29 (0, 0))) := ⟨by rw [← hq_]; exact (zg_2 Za.out)⟩; have n1_ : Aside0 (w38.heap[gb766]? = some (.cells #[.int .i64 0, .int .i64 0, .int .i64 0] 46 (0, 0))) := ⟨by rw [← hq_]; exact (zg_2 Zb.out)⟩; have n2_ : Aside0 (Below w.heap.size w w38) := ⟨by rw [← hq_]; exact (zg_4 HB.out Zc.out Ze.out)⟩; clear Za Zb HB hq_; have Za := n0_; have Zb := n1_; have HB := n2_; clear n0_ n1_ n2_)); have hcz39_0 : w38.cell? ⟨gb766, 0, none⟩ = some (.int .i64 0) := (blk_cell Zb.out 0).trans rfl; have hcz39_1 : w38.cell? ⟨gb766, 1, none⟩ = some (.int .i64 0) := (blk_cell Zb.out 1).trans rfl; have hcz39_2 : w38.cell? ⟨gb766, 2, none⟩ = some (.int .i64 0) := (blk_cell Zb.out 2).trans rfl; have hfz39_0 := blk_frozen Zb.out 0; have hfz39_1 := blk_frozen Zb.out 1; have hfz39_2 := blk_frozen Zb.out 2))
   refine bodyPost_ret (results_ct rfl _ _ gb766 46 #[.int .i64 0, .int .i64 0, .int .i64 0] (0, 0) _ rfl (by (with_reducible repeat (first | refine blk_drewN ?_ _ | refine blk_drew ?_ | refine blk_alloc ?_ _)); refine blk_put (cs := #[.int .i64 0, .int .i64 0, .int .i64 0]) ?_ 2 _ rfl; (with_reducible repeat (first | refine blk_drewN ?_ _ | refine blk_drew ?_ | refine blk_alloc ?_ _)); refine blk_put (cs := #[.int .i64 0, .int .i64 0, .int .i64 0]) ?_ 1 _ rfl; (with_reducible repeat (first | refine blk_drewN ?_ _ | refine blk_drew ?_ | refine blk_alloc ?_ _)); refine blk_put (cs := #[.int .i64 0, .int .i64 0, .int .i64 0]) ?_ 0 _ rfl; (with_reducible repeat (first | refine blk_drewN ?_ _ | refine blk_drew ?_ | refine blk_alloc ?_ _)); exact Zb.out) Try.underlying46 rfl (by kernel_rfl)) rfl ?_
   exact ⟨by first | rfl | (simp [errW_none, errW_some] <;> rfl) | (simp [*, errW_none, errW_some] <;> rfl), zg_4 HB.out Zc.out Ze.out⟩
 ·rw [if_neg c5] at H
  have c5b0 : (t767 == 0) = false := beq_eq_false_iff_ne.mpr c5
  have c5b1 : (t767 != 0) = true := bne_iff_ne.mpr c5
  simp only [Option.some.injEq, Prod.mk.injEq] at H
  obtain ⟨rfl, rfl, rfl, rfl⟩ := H
  go_enter Try.func25, Try.ntmps25
  go_wp2_with (first | ((with_reducible refine gate_dst (N := 3) rfl ?_); refine box_event ?hg (N := 3) ?hd (cs := #[.slice A0_0 l0_0.length c0_0, .slice A0_1 l0_1.length c0_1]) (t := 29) ?hr ?_; (case hd => rfl); (case hg => rfl); (case hr => first | (go_simp; done) | (go_simp; rfl)); intro gb765 hg w40 hbox hb; have n0_ := zm (below_step (zg_0 HB.out) hb); have n1_ := zm (hbox); have n2_ := zm ((by rw [hg]; exact (below_size (zg_0 HB.out)) : w.heap.size ≤ gb765)); have n3_ := zm ((by rw [hg]; exact (below_size (zg_0 HB.out)) : w.heap.size ≤ gb765)); clear HB; have HB := n0_; have Za := n1_; have Zp := n2_; have Zc := n3_; clear n0_ n1_ n2_ n3_; clear hb hbox hg) | ((with_reducible refine gate_dst (N := 6) rfl ?_); refine box_event ?hg (N := 6) ?hd (cs := #[.int .i64 0, .int .i64 0, .int .i64 0]) (t := 46) ?hr ?_; (case hd => rfl); (case hg => rfl); (case hr => first | (go_simp; done) | (go_simp; rfl)); intro gb766 hg w41 hbox hb; have n0_ := zm (blk_below (g := gb765) (o := .cells #[.slice A0_0 l0_0.length c0_0, .slice A0_1 l0_1.length c0_1] 29 (0, 0)) (zg_2 Za.out) hb); have n1_ := zm (below_step (zg_1 HB.out Zc.out) hb); have n2_ := zm (hbox); have n3_ := zm ((by rw [hg]; exact (below_size (zg_1 HB.out Zc.out)) : w.heap.size ≤ gb766)); have n4_ := zm ((by rw [hg]; exact (below_size (zg_1 HB.out Zc.out)) : w.heap.size ≤ gb766)); have n5_ := zm ((by rw [hg]; exact Nat.ne_of_lt (blk_lt (g := gb765) (o := .cells #[.slice A0_0 l0_0.length c0_0, .slice A0_1 l0_1.length c0_1] 29 (0, 0)) (zg_2 Za.out)) : gb765 ≠ gb766)); have n6_ := zm ((by rw [hg]; exact Nat.ne_of_gt (blk_lt (g := gb765) (o := .cells #[.slice A0_0 l0_0.length c0_0, .slice A0_1 l0_1.length c0_1] 29 (0, 0)) (zg_2 Za.out)) : gb766 ≠ gb765)); clear Za; clear HB; have Za := n0_; have HB := n1_; have Zb := n2_; have Zq := n3_; have Ze := n4_; have Zf := n5_; have Zg := n6_; clear n0_ n1_ n2_ n3_ n4_ n5_ n6_; clear hb hbox hg; have hnb42 := Zf.out; have hnc42 := Zg.out; have hcz43_0 : w41.cell? ⟨gb765, 0, none⟩ = some (.slice A0_0 l0_0.length c0_0) := (blk_cell Za.out 0).trans rfl; have hcz43_1 : w41.cell? ⟨gb765, 1, none⟩ = some (.slice A0_1 l0_1.length c0_1) := (blk_cell Za.out 1).trans rfl; have hfz43_0 := blk_frozen Za.out 0; have hfz43_1 := blk_frozen Za.out 1) | ((with_reducible refine gate_callee (f := 30) rfl ?_); refine goesL_ (some 12) rfl rfl Try.func30 (by kernel_rfl) rfl #[.agg #[.slice A0_0 l0_0.length c0_0, .slice A0_1 l0_1.length c0_1], .int .i64 a1, .int .i64 0] rfl zq ?_; (with_reducible refine (spec_l01Ask.calls k _ _ l0_0 _ _ l0_1 a1 0 t767 _ ?side1 ?side2 ?side3 ?side4 A4.out).mono ?_); (case side1 => repeat (first | exact (Kd.C_below Zl.out HB.out) | (with_reducible refine Kd.C_alloc ?_ _) | (with_reducible refine Kd.C_drewN ?_ _) | (with_reducible refine Kd.C_drew ?_))); (case side2 => exact Zm.out); (case side3 => repeat (first | exact (Kd.C_below Zn.out HB.out) | (with_reducible refine Kd.C_alloc ?_ _) | (with_reducible refine Kd.C_drewN ?_ _) | (with_reducible refine Kd.C_drew ?_))); (case side4 => exact Zo.out); rintro e w44 ⟨rfl, hb⟩; refine ⟨_, rfl, ?_⟩; have n0_ := zm (blk_below (g := gb765) (o := .cells #[.slice A0_0 l0_0.length c0_0, .slice A0_1 l0_1.length c0_1] 29 (0, 0)) (zg_2 Za.out) hb); have n1_ := zm (blk_below (g := gb766) (o := .cells #[.int .i64 0, .int .i64 0, .int .i64 0] 46 (0, 0)) (zg_2 Zb.out) hb); have n2_ := zm (below_step (zg_4 HB.out Zc.out Ze.out) hb); clear Za; clear Zb; clear HB; have Za := n0_; have Zb := n1_; have HB := n2_; clear n0_ n1_ n2_; (try clear hb); (try clear hb2); (try clear hk); (try clear hi); have hcz45_0 : w44.cell? ⟨gb766, 0, none⟩ = some (.int .i64 0) := (blk_cell Zb.out 0).trans rfl; have hcz45_1 : w44.cell? ⟨gb766, 1, none⟩ = some (.int .i64 0) := (blk_cell Zb.out 1).trans rfl; have hcz45_2 : w44.cell? ⟨gb766, 2, none⟩ = some (.int .i64 0) := (blk_cell Zb.out 2).trans rfl; have hfz45_0 := blk_frozen Zb.out 0; have hfz45_1 := blk_frozen Zb.out 1; have hfz45_2 := blk_frozen Zb.out 2))
  refine bodyPost_ret (results_ct rfl _ _ gb766 46 #[.int .i64 0, .int .i64 0, .int .i64 0] (0, 0) _ rfl (by (with_reducible repeat (first | refine blk_drewN ?_ _ | refine blk_drew ?_ | refine blk_alloc ?_ _)); refine blk_put (cs := #[.int .i64 0, .int .i64 0, .int .i64 0]) ?_ 2 _ rfl; (with_reducible repeat (first | refine blk_drewN ?_ _ | refine blk_drew ?_ | refine blk_alloc ?_ _)); refine blk_put (cs := #[.int .i64 0, .int .i64 0, .int .i64 0]) ?_ 1 _ rfl; (with_reducible repeat (first | refine blk_drewN ?_ _ | refine blk_drew ?_ | refine blk_alloc ?_ _)); refine blk_put (cs := #[.int .i64 0, .int .i64 0, .int .i64 0]) ?_ 0 _ rfl; (with_reducible repeat (first | refine blk_drewN ?_ _ | refine blk_drew ?_ | refine blk_alloc ?_ _)); exact Zb.out) Try.underlying46 rfl (by kernel_rfl)) rfl ?_
  exact ⟨by first | rfl | (simp [errW_none, errW_some] <;> rfl) | (simp [*, errW_none, errW_some] <;> rfl), zg_4 HB.out Zc.out Ze.out⟩
/-! ### laws_FnExactReadDelta: function 8 -/
def laws_FnExactReadDelta.j0 : Nat → Bool → List ByteArray → List (S75) → List ByteArray → List (S76) → Option (Bool)
  | 0, _, _, _, _, _ => none
  | k + 1, x43, x819000, x819001, x838000, x838001 => if x43 = true then (some false) else ((laws_toDisk.f k x819000 x819001).bind fun bt844 => ((laws_eqDisk.f k x838000 x838001 bt844.1 bt844.2).bind fun t850 => (if t850 = true then (some true) else (some false))))
def laws_FnExactReadDelta.f (k : Nat) (l0_0 : List ByteArray) (l0_1 : List (S75)) (a1 : Int) (a2 : Int) : Option (Bool) := (laws_szDisk.f k l0_0 l0_1 1048576).bind fun t819 => (if t819 < 0 then (some true) else ((laws_toDisk.f k l0_0 l0_1).bind fun bt820 => ((spec_ReadDelta.f k bt820.1 bt820.2 a1 a2).bind fun bt826 => ((laws_toDisk.f k l0_0 l0_1).bind fun bt831 => ((impl_ReadDelta.f k bt831.1 bt831.2 a1 a2).bind fun bt838 => ((laws_eqDelta.f bt838.1 bt838.2.1 bt838.2.2.1 bt826.1 bt826.2.1 bt826.2.2.1).bind fun t843 => (if t843 = true then (laws_FnExactReadDelta.j0 k (bt838.2.2.2 != bt826.2.2.2) l0_0 l0_1 bt831.1 bt831.2) else (laws_FnExactReadDelta.j0 k true l0_0 l0_1 bt831.1 bt831.2))))))))
theorem laws_FnExactReadDelta.mono_l : ∀ k, (∀ y0 y1 y2 y3 y4, LeO (laws_FnExactReadDelta.j0 k y0 y1 y2 y3 y4) (laws_FnExactReadDelta.j0 (k + 1) y0 y1 y2 y3 y4))
  | 0 => fun _ _ _ _ _ r h => by simp [laws_FnExactReadDelta.j0] at h
  | k + 1 => by
    have ih0 := laws_FnExactReadDelta.mono_l k
    · intro y0 y1 y2 y3 y4
      unfold laws_FnExactReadDelta.j0
      repeat' first
      | (with_reducible exact ih0 _ _ _ _ _)
      | (with_reducible exact impl_ReadDelta.mono _ _ _ _ _)
      | (with_reducible exact laws_eqDisk.mono _ _ _ _ _)
      | (with_reducible exact laws_szDisk.mono _ _ _ _)
      | (with_reducible exact laws_toDisk.mono _ _ _)
      | (with_reducible exact spec_ReadDelta.mono _ _ _ _ _)
      | (with_reducible exact LeO.refl _)
      | (with_reducible exact LeO.none _)
      | (with_reducible refine LeO.ite ?_ ?_)
      | (with_reducible refine LeO.bind ?_ (fun _ => ?_))
      | exact ih0 _ _ _ _ _
      | exact impl_ReadDelta.mono _ _ _ _ _
      | exact laws_eqDisk.mono _ _ _ _ _
      | exact laws_szDisk.mono _ _ _ _
      | exact laws_toDisk.mono _ _ _
      | exact spec_ReadDelta.mono _ _ _ _ _
      | exact LeO.none _
      | refine LeO.ite ?_ ?_
      | refine LeO.bind ?_ (fun _ => ?_)
theorem laws_FnExactReadDelta.mono : ∀ a0 a1 a2 a3 k, LeO (laws_FnExactReadDelta.f k a0 a1 a2 a3) (laws_FnExactReadDelta.f (k + 1) a0 a1 a2 a3) := by
  intro a0 a1 a2 a3 k
  have ih0 := laws_FnExactReadDelta.mono_l k
  unfold laws_FnExactReadDelta.f
  repeat' first
      | (with_reducible exact ih0 _ _ _ _ _)
      | (with_reducible exact impl_ReadDelta.mono _ _ _ _ _)
      | (with_reducible exact laws_eqDisk.mono _ _ _ _ _)
      | (with_reducible exact laws_szDisk.mono _ _ _ _)
      | (with_reducible exact laws_toDisk.mono _ _ _)
      | (with_reducible exact spec_ReadDelta.mono _ _ _ _ _)
      | (with_reducible exact LeO.refl _)
      | (with_reducible exact LeO.none _)
      | (with_reducible refine LeO.ite ?_ ?_)
      | (with_reducible refine LeO.bind ?_ (fun _ => ?_))
      | exact ih0 _ _ _ _ _
      | exact impl_ReadDelta.mono _ _ _ _ _
      | exact laws_eqDisk.mono _ _ _ _ _
      | exact laws_szDisk.mono _ _ _ _
      | exact laws_toDisk.mono _ _ _
      | exact spec_ReadDelta.mono _ _ _ _ _
      | exact LeO.none _
      | refine LeO.ite ?_ ?_
      | refine LeO.bind ?_ (fun _ => ?_)
set_option maxHeartbeats 8000000 in
set_option maxRecDepth 100000 in
theorem laws_FnExactReadDelta.calls (k : Nat) (A0_0 : Option Addr) (c0_0 : Nat) (l0_0 : List ByteArray) (A0_1 : Option Addr) (c0_1 : Nat) (l0_1 : List (S75)) (a1 : Int) (a2 : Int) (r : Bool) (w : World) (hr0_0 : Kd.C Kd.string w A0_0 l0_0.length l0_0) (hc0_0 : l0_0.length ≤ c0_0) (hr0_1 : Kd.C k75 w A0_1 l0_1.length l0_1) (hc0_1 : l0_1.length ≤ c0_1) (h : laws_FnExactReadDelta.f k l0_0 l0_1 a1 a2 = some r) :
    Calls Try.prog 8 #[.agg #[.slice A0_0 l0_0.length c0_0, .slice A0_1 l0_1.length c0_1], .int .i64 a1, .int .i64 a2] w fun e w' => e = .returned (.bool r) ∧ Below w.heap.size w w' := by
 have hu25 := Try.underlying25
 have hu46 := Try.underlying46
 have hu29 := Try.underlying29
 have ZB := zm hr0_0
 have ZC := zm hc0_0
 clear hr0_0 hc0_0
 have ZD := zm hr0_1
 have ZE := zm hc0_1
 clear hr0_1 hc0_1
 have HB := zm (Below.refl w.heap.size w)
 have H : ((laws_szDisk.f k l0_0 l0_1 1048576).bind fun t819 => (if t819 < 0 then (some true) else ((laws_toDisk.f k l0_0 l0_1).bind fun bt820 => ((spec_ReadDelta.f k bt820.1 bt820.2 a1 a2).bind fun bt826 => ((laws_toDisk.f k l0_0 l0_1).bind fun bt831 => ((impl_ReadDelta.f k bt831.1 bt831.2 a1 a2).bind fun bt838 => ((laws_eqDelta.f bt838.1 bt838.2.1 bt838.2.2.1 bt826.1 bt826.2.1 bt826.2.2.1).bind fun t843 => (if t843 = true then (laws_FnExactReadDelta.j0 k (bt838.2.2.2 != bt826.2.2.2) l0_0 l0_1 bt831.1 bt831.2) else (laws_FnExactReadDelta.j0 k true l0_0 l0_1 bt831.1 bt831.2))))))))) = some r := h
 clear h
 replace H := Option.bind_eq_some_iff.mp H
 obtain ⟨t819, A40, H⟩ := H
 replace H : (if t819 < 0 then (some true) else ((laws_toDisk.f k l0_0 l0_1).bind fun bt820 => ((spec_ReadDelta.f k bt820.1 bt820.2 a1 a2).bind fun bt826 => ((laws_toDisk.f k l0_0 l0_1).bind fun bt831 => ((impl_ReadDelta.f k bt831.1 bt831.2 a1 a2).bind fun bt838 => ((laws_eqDelta.f bt838.1 bt838.2.1 bt838.2.2.1 bt826.1 bt826.2.1 bt826.2.2.1).bind fun t843 => (if t843 = true then (laws_FnExactReadDelta.j0 k (bt838.2.2.2 != bt826.2.2.2) l0_0 l0_1 bt831.1 bt831.2) else (laws_FnExactReadDelta.j0 k true l0_0 l0_1 bt831.1 bt831.2)))))))) = some r := H
 have A4 := zm A40
 clear A40
 by_cases c5 : t819 < 0
 ·rw [if_pos c5] at H
  have c5b0 : decide (t819 < 0) = true := decide_eq_true c5
  clear c5
  obtain rfl := Option.some.inj H
  go_enter Try.func8, Try.ntmps8
  go_wp2_with (first | ((with_reducible refine gate_dst (N := 3) rfl ?_); refine box_event ?hg (N := 3) ?hd (cs := #[.slice A0_0 l0_0.length c0_0, .slice A0_1 l0_1.length c0_1]) (t := 25) ?hr ?_; (case hd => rfl); (case hg => rfl); (case hr => first | (go_simp; done) | (go_simp; rfl)); intro gb818 hg w6 hbox hb; have n0_ := zm (below_step (zg_0 HB.out) hb); have n1_ := zm (hbox); have n2_ := zm ((by rw [hg]; exact (below_size (zg_0 HB.out)) : w.heap.size ≤ gb818)); have n3_ := zm ((by rw [hg]; exact (below_size (zg_0 HB.out)) : w.heap.size ≤ gb818)); clear HB; have HB := n0_; have Za := n1_; have ZH := n2_; have Zg := n3_; clear n0_ n1_ n2_ n3_; clear hb hbox hg; have hcz7_0 : w6.cell? ⟨gb818, 0, none⟩ = some (.slice A0_0 l0_0.length c0_0) := (blk_cell Za.out 0).trans rfl; have hcz7_1 : w6.cell? ⟨gb818, 1, none⟩ = some (.slice A0_1 l0_1.length c0_1) := (blk_cell Za.out 1).trans rfl; have hfz7_0 := blk_frozen Za.out 0; have hfz7_1 := blk_frozen Za.out 1) | ((with_reducible refine gate_callee (f := 9) rfl ?_); refine goesL_ (some 15) rfl rfl Try.func9 (by kernel_rfl) rfl #[.agg #[.slice A0_0 l0_0.length c0_0, .slice A0_1 l0_1.length c0_1], .int .i64 1048576] rfl zq ?_; (with_reducible refine (laws_szDisk.calls k _ _ l0_0 _ _ l0_1 1048576 t819 _ ?side1 ?side2 ?side3 ?side4 A4.out).mono ?_); (case side1 => repeat (first | exact (Kd.C_below ZB.out HB.out) | (with_reducible refine Kd.C_alloc ?_ _) | (with_reducible refine Kd.C_drewN ?_ _) | (with_reducible refine Kd.C_drew ?_))); (case side2 => exact ZC.out); (case side3 => repeat (first | exact (Kd.C_below ZD.out HB.out) | (with_reducible refine Kd.C_alloc ?_ _) | (with_reducible refine Kd.C_drewN ?_ _) | (with_reducible refine Kd.C_drew ?_))); (case side4 => exact ZE.out); rintro e w8 ⟨rfl, hb⟩; refine ⟨_, rfl, ?_⟩; have n0_ := zm (blk_below (g := gb818) (o := .cells #[.slice A0_0 l0_0.length c0_0, .slice A0_1 l0_1.length c0_1] 25 (0, 0)) (zg_2 Za.out) hb); have n1_ := zm (below_step (zg_1 HB.out Zg.out) hb); clear Za; clear HB; have Za := n0_; have HB := n1_; clear n0_ n1_; (try clear hb); (try clear hb2); (try clear hk); (try clear hi)))
  go_ret
  exact ⟨by first | rfl | (simp [errW_none, errW_some] <;> rfl) | (simp [*, errW_none, errW_some] <;> rfl), zg_1 HB.out Zg.out⟩
 ·rw [if_neg c5] at H
  have c5b0 : decide (t819 < 0) = false := decide_eq_false c5
  clear c5
  replace H := Option.bind_eq_some_iff.mp H
  obtain ⟨⟨t820, t823⟩, A90, H⟩ := H
  replace H : ((spec_ReadDelta.f k t820 t823 a1 a2).bind fun bt826 => ((laws_toDisk.f k l0_0 l0_1).bind fun bt831 => ((impl_ReadDelta.f k bt831.1 bt831.2 a1 a2).bind fun bt838 => ((laws_eqDelta.f bt838.1 bt838.2.1 bt838.2.2.1 bt826.1 bt826.2.1 bt826.2.2.1).bind fun t843 => (if t843 = true then (laws_FnExactReadDelta.j0 k (bt838.2.2.2 != bt826.2.2.2) l0_0 l0_1 bt831.1 bt831.2) else (laws_FnExactReadDelta.j0 k true l0_0 l0_1 bt831.1 bt831.2)))))) = some r := H
  have A9 := zm A90
  clear A90
  replace H := Option.bind_eq_some_iff.mp H
  obtain ⟨⟨t826, t827, t828, t829⟩, A100, H⟩ := H
  replace H : ((laws_toDisk.f k l0_0 l0_1).bind fun bt831 => ((impl_ReadDelta.f k bt831.1 bt831.2 a1 a2).bind fun bt838 => ((laws_eqDelta.f bt838.1 bt838.2.1 bt838.2.2.1 t826 t827 t828).bind fun t843 => (if t843 = true then (laws_FnExactReadDelta.j0 k (bt838.2.2.2 != t829) l0_0 l0_1 bt831.1 bt831.2) else (laws_FnExactReadDelta.j0 k true l0_0 l0_1 bt831.1 bt831.2))))) = some r := H
  have A10 := zm A100
  clear A100
  replace H := Option.bind_eq_some_iff.mp H
  obtain ⟨⟨t831, t834⟩, A110, H⟩ := H
  replace H : ((impl_ReadDelta.f k t831 t834 a1 a2).bind fun bt838 => ((laws_eqDelta.f bt838.1 bt838.2.1 bt838.2.2.1 t826 t827 t828).bind fun t843 => (if t843 = true then (laws_FnExactReadDelta.j0 k (bt838.2.2.2 != t829) l0_0 l0_1 t831 t834) else (laws_FnExactReadDelta.j0 k true l0_0 l0_1 t831 t834)))) = some r := H
  have A11 := zm A110
  clear A110
  replace H := Option.bind_eq_some_iff.mp H
  obtain ⟨⟨t838, t839, t840, t841⟩, A120, H⟩ := H
  replace H : ((laws_eqDelta.f t838 t839 t840 t826 t827 t828).bind fun t843 => (if t843 = true then (laws_FnExactReadDelta.j0 k (t841 != t829) l0_0 l0_1 t831 t834) else (laws_FnExactReadDelta.j0 k true l0_0 l0_1 t831 t834))) = some r := H
  have A12 := zm A120
  clear A120
  have ZG := zm H
  clear H
  go_enter Try.func8, Try.ntmps8
  go_upto_region 8 with (first | ((with_reducible refine gate_dst (N := 3) rfl ?_); refine box_event ?hg (N := 3) ?hd (cs := #[.slice A0_0 l0_0.length c0_0, .slice A0_1 l0_1.length c0_1]) (t := 25) ?hr ?_; (case hd => rfl); (case hg => rfl); (case hr => first | (go_simp; done) | (go_simp; rfl)); intro gb818 hg w14 hbox hb; have n0_ := zm (below_step (zg_0 HB.out) hb); have n1_ := zm (hbox); have n2_ := zm ((by rw [hg]; exact (below_size (zg_0 HB.out)) : w.heap.size ≤ gb818)); have n3_ := zm ((by rw [hg]; exact (below_size (zg_0 HB.out)) : w.heap.size ≤ gb818)); clear HB; have HB := n0_; have Za := n1_; have ZH := n2_; have Zg := n3_; clear n0_ n1_ n2_ n3_; clear hb hbox hg; have hcz15_0 : w14.cell? ⟨gb818, 0, none⟩ = some (.slice A0_0 l0_0.length c0_0) := (blk_cell Za.out 0).trans rfl; have hcz15_1 : w14.cell? ⟨gb818, 1, none⟩ = some (.slice A0_1 l0_1.length c0_1) := (blk_cell Za.out 1).trans rfl; have hfz15_0 := blk_frozen Za.out 0; have hfz15_1 := blk_frozen Za.out 1) | ((with_reducible refine gate_callee (f := 9) rfl ?_); refine goesL_ (some 15) rfl rfl Try.func9 (by kernel_rfl) rfl #[.agg #[.slice A0_0 l0_0.length c0_0, .slice A0_1 l0_1.length c0_1], .int .i64 1048576] rfl zq ?_; (with_reducible refine (laws_szDisk.calls k _ _ l0_0 _ _ l0_1 1048576 t819 _ ?side1 ?side2 ?side3 ?side4 A4.out).mono ?_); (case side1 => repeat (first | exact (Kd.C_below ZB.out HB.out) | (with_reducible refine Kd.C_alloc ?_ _) | (with_reducible refine Kd.C_drewN ?_ _) | (with_reducible refine Kd.C_drew ?_))); (case side2 => exact ZC.out); (case side3 => repeat (first | exact (Kd.C_below ZD.out HB.out) | (with_reducible refine Kd.C_alloc ?_ _) | (with_reducible refine Kd.C_drewN ?_ _) | (with_reducible refine Kd.C_drew ?_))); (case side4 => exact ZE.out); rintro e w16 ⟨rfl, hb⟩; refine ⟨_, rfl, ?_⟩; have n0_ := zm (blk_below (g := gb818) (o := .cells #[.slice A0_0 l0_0.length c0_0, .slice A0_1 l0_1.length c0_1] 25 (0, 0)) (zg_2 Za.out) hb); have n1_ := zm (below_step (zg_1 HB.out Zg.out) hb); clear Za; clear HB; have Za := n0_; have HB := n1_; clear n0_ n1_; (try clear hb); (try clear hb2); (try clear hk); (try clear hi); have hcz17_0 : w16.cell? ⟨gb818, 0, none⟩ = some (.slice A0_0 l0_0.length c0_0) := (blk_cell Za.out 0).trans rfl; have hcz17_1 : w16.cell? ⟨gb818, 1, none⟩ = some (.slice A0_1 l0_1.length c0_1) := (blk_cell Za.out 1).trans rfl; have hfz17_0 := blk_frozen Za.out 0; have hfz17_1 := blk_frozen Za.out 1) | ((with_reducible refine gate_callee (f := 11) rfl ?_); refine goesL_ (some 20) rfl rfl Try.func11 (by kernel_rfl) rfl #[.agg #[.slice A0_0 l0_0.length c0_0, .slice A0_1 l0_1.length c0_1]] rfl zq ?_; (with_reducible refine (laws_toDisk.calls k _ _ l0_0 _ _ l0_1 t820 t823 _ ?side1 ?side2 ?side3 ?side4 A9.out).mono ?_); (case side1 => repeat (first | exact (Kd.C_below ZB.out HB.out) | (with_reducible refine Kd.C_alloc ?_ _) | (with_reducible refine Kd.C_drewN ?_ _) | (with_reducible refine Kd.C_drew ?_))); (case side2 => exact ZC.out); (case side3 => repeat (first | exact (Kd.C_below ZD.out HB.out) | (with_reducible refine Kd.C_alloc ?_ _) | (with_reducible refine Kd.C_drewN ?_ _) | (with_reducible refine Kd.C_drew ?_))); (case side4 => exact ZE.out); rintro e w18 ⟨v821, v824, rfl, ho0, ho1, hb⟩; refine ⟨_, rfl, ?_⟩; have n0_ := zm (Kd.R_lower ho0 (below_size (zg_1 HB.out Zg.out))); have n1_ := zm (Kd.R_lower ho1 (below_size (zg_1 HB.out Zg.out))); have n2_ := zm (blk_below (g := gb818) (o := .cells #[.slice A0_0 l0_0.length c0_0, .slice A0_1 l0_1.length c0_1] 25 (0, 0)) (zg_2 Za.out) hb); have n3_ := zm (below_step (zg_1 HB.out Zg.out) hb); clear Za; clear HB; have Zh := n0_; have Zi := n1_; have Za := n2_; have HB := n3_; clear n0_ n1_ n2_ n3_; (try clear hb); (try clear hb2); (try clear hk); (try clear hi); (try clear ho0); (try clear ho1); obtain ⟨Ao19, co19, eo19⟩ := Kd.R_slice Zh.out; subst eo19; obtain ⟨Ao20, co20, eo20⟩ := Kd.R_slice Zi.out; subst eo20) | ((with_reducible refine gate_callee (f := 25) rfl ?_); refine goesL_ (some 23) rfl rfl Try.func25 (by kernel_rfl) rfl #[.agg #[.slice Ao19 t820.length co19, .slice Ao20 t823.length co20], .int .i64 a1, .int .i64 a2] rfl zq ?_; (with_reducible refine (spec_ReadDelta.calls k _ _ t820 _ _ t823 a1 a2 t826 t827 t828 t829 _ ?side1 ?side2 ?side3 ?side4 A10.out).mono ?_); (case side1 => repeat (first | exact (Kd.R_reads' Zh.out).2.2 | (with_reducible refine Kd.C_alloc ?_ _) | (with_reducible refine Kd.C_drewN ?_ _) | (with_reducible refine Kd.C_drew ?_))); (case side2 => exact (Kd.R_reads' Zh.out).2.1); (case side3 => repeat (first | exact (Kd.R_reads' Zi.out).2.2 | (with_reducible refine Kd.C_alloc ?_ _) | (with_reducible refine Kd.C_drewN ?_ _) | (with_reducible refine Kd.C_drew ?_))); (case side4 => exact (Kd.R_reads' Zi.out).2.1); rintro e w21 ⟨rfl, hb⟩; refine ⟨_, rfl, ?_⟩; have n0_ := zm (Kd.R_below (zg_3 Zh.out) hb); have n1_ := zm (Kd.R_below (zg_3 Zi.out) hb); have n2_ := zm (blk_below (g := gb818) (o := .cells #[.slice A0_0 l0_0.length c0_0, .slice A0_1 l0_1.length c0_1] 25 (0, 0)) (zg_2 Za.out) hb); have n3_ := zm (below_step (zg_1 HB.out Zg.out) hb); clear Zh; clear Zi; clear Za; clear HB; have Zh := n0_; have Zi := n1_; have Za := n2_; have HB := n3_; clear n0_ n1_ n2_ n3_; (try clear hb); (try clear hb2); (try clear hk); (try clear hi)) | ((with_reducible refine gate_dst (N := 8) rfl ?_); refine box_event ?hg (N := 8) ?hd (cs := #[.int .i64 0, .int .i64 0, .int .i64 0]) (t := 46) ?hr ?_; (case hd => rfl); (case hg => rfl); (case hr => first | (go_simp; done) | (go_simp; rfl)); intro gb830 hg w22 hbox hb; have n0_ := zm (Kd.R_below (zg_3 Zh.out) hb); have n1_ := zm (Kd.R_below (zg_3 Zi.out) hb); have n2_ := zm (blk_below (g := gb818) (o := .cells #[.slice A0_0 l0_0.length c0_0, .slice A0_1 l0_1.length c0_1] 25 (0, 0)) (zg_2 Za.out) hb); have n3_ := zm (below_step (zg_1 HB.out Zg.out) hb); have n4_ := zm (hbox); have n5_ := zm ((by rw [hg]; exact (below_size (zg_1 HB.out Zg.out)) : w.heap.size ≤ gb830)); have n6_ := zm ((by rw [hg]; exact (below_size (zg_1 HB.out Zg.out)) : w.heap.size ≤ gb830)); have n7_ := zm ((by rw [hg]; exact Nat.ne_of_lt (blk_lt (g := gb818) (o := .cells #[.slice A0_0 l0_0.length c0_0, .slice A0_1 l0_1.length c0_1] 25 (0, 0)) (zg_2 Za.out)) : gb818 ≠ gb830)); have n8_ := zm ((by rw [hg]; exact Nat.ne_of_gt (blk_lt (g := gb818) (o := .cells #[.slice A0_0 l0_0.length c0_0, .slice A0_1 l0_1.length c0_1] 25 (0, 0)) (zg_2 Za.out)) : gb830 ≠ gb818)); clear Zh; clear Zi; clear Za; clear HB; have Zh := n0_; have Zi := n1_; have Za := n2_; have HB := n3_; have Zb := n4_; have ZI := n5_; have Zj := n6_; have Zq := n7_; have Zv := n8_; clear n0_ n1_ n2_ n3_ n4_ n5_ n6_ n7_ n8_; clear hb hbox hg; have hnb23 := Zv.out; have hnc23 := Zq.out; have hcz24_0 : w22.cell? ⟨gb830, 0, none⟩ = some (.int .i64 0) := (blk_cell Zb.out 0).trans rfl; have hcz24_1 : w22.cell? ⟨gb830, 1, none⟩ = some (.int .i64 0) := (blk_cell Zb.out 1).trans rfl; have hcz24_2 : w22.cell? ⟨gb830, 2, none⟩ = some (.int .i64 0) := (blk_cell Zb.out 2).trans rfl; have hfz24_0 := blk_frozen Zb.out 0; have hfz24_1 := blk_frozen Zb.out 1; have hfz24_2 := blk_frozen Zb.out 2; have hcz25_0 : w22.cell? ⟨gb818, 0, none⟩ = some (.slice A0_0 l0_0.length c0_0) := (blk_cell Za.out 0).trans rfl; have hcz25_1 : w22.cell? ⟨gb818, 1, none⟩ = some (.slice A0_1 l0_1.length c0_1) := (blk_cell Za.out 1).trans rfl; have hfz25_0 := blk_frozen Za.out 0; have hfz25_1 := blk_frozen Za.out 1) | ((with_reducible refine gate_callee (f := 11) rfl ?_); refine goesL_ (some 27) rfl rfl Try.func11 (by kernel_rfl) rfl #[.agg #[.slice A0_0 l0_0.length c0_0, .slice A0_1 l0_1.length c0_1]] rfl zq ?_; (with_reducible refine (laws_toDisk.calls k _ _ l0_0 _ _ l0_1 t831 t834 _ ?side1 ?side2 ?side3 ?side4 A11.out).mono ?_); (case side1 => exact Kd.C_below ZB.out (zg_4 HB.out Zg.out Zj.out)); (case side2 => exact ZC.out); (case side3 => exact Kd.C_below ZD.out (zg_4 HB.out Zg.out Zj.out)); (case side4 => exact ZE.out); rintro e w26 ⟨v832, v835, rfl, ho0, ho1, hb⟩; refine ⟨_, rfl, ?_⟩; have n0_ := zm (Kd.R_elder' (by (with_reducible repeat (first | apply Kd.R_alloc | apply Kd.R_drewN | apply Kd.R_drew)); exact (Kd.R_mono (Kd.R_far (p := ⟨gb830, 2, none⟩) (Kd.R_far (p := ⟨gb830, 1, none⟩) (Kd.R_far (p := ⟨gb830, 0, none⟩) (Kd.R_types Zh.out Zb.out (by decide)) (fun _ hk => hk.2) (.int .i64 t826)) (fun _ hk => hk.2) (.int .i64 t827)) (fun _ hk => hk.2) (.int .i64 t828)) (fun _ h_ => h_.1))) (Kd.R_base ho0) hb); have n1_ := zm (Kd.R_elder' (by (with_reducible repeat (first | apply Kd.R_alloc | apply Kd.R_drewN | apply Kd.R_drew)); exact (Kd.R_mono (Kd.R_far (p := ⟨gb830, 2, none⟩) (Kd.R_far (p := ⟨gb830, 1, none⟩) (Kd.R_far (p := ⟨gb830, 0, none⟩) (Kd.R_types Zi.out Zb.out (by decide)) (fun _ hk => hk.2) (.int .i64 t826)) (fun _ hk => hk.2) (.int .i64 t827)) (fun _ hk => hk.2) (.int .i64 t828)) (fun _ h_ => h_.1))) (Kd.R_base ho1) hb); have n2_ := zm (Kd.R_lower (Kd.R_new' ho0 (Kd.R_lt (by (with_reducible repeat (first | apply Kd.R_alloc | apply Kd.R_drewN | apply Kd.R_drew)); exact (Kd.R_mono (Kd.R_far (p := ⟨gb830, 2, none⟩) (Kd.R_far (p := ⟨gb830, 1, none⟩) (Kd.R_far (p := ⟨gb830, 0, none⟩) (Kd.R_types Zh.out Zb.out (by decide)) (fun _ hk => hk.2) (.int .i64 t826)) (fun _ hk => hk.2) (.int .i64 t827)) (fun _ hk => hk.2) (.int .i64 t828)) (fun _ h_ => h_.1))))) (below_size (zg_4 HB.out Zg.out Zj.out))); have n3_ := zm (Kd.R_lower (Kd.R_new' ho1 (Kd.R_lt (by (with_reducible repeat (first | apply Kd.R_alloc | apply Kd.R_drewN | apply Kd.R_drew)); exact (Kd.R_mono (Kd.R_far (p := ⟨gb830, 2, none⟩) (Kd.R_far (p := ⟨gb830, 1, none⟩) (Kd.R_far (p := ⟨gb830, 0, none⟩) (Kd.R_types Zi.out Zb.out (by decide)) (fun _ hk => hk.2) (.int .i64 t826)) (fun _ hk => hk.2) (.int .i64 t827)) (fun _ hk => hk.2) (.int .i64 t828)) (fun _ h_ => h_.1))))) (below_size (zg_4 HB.out Zg.out Zj.out))); have n4_ := zm (blk_below (g := gb818) (o := .cells #[.slice A0_0 l0_0.length c0_0, .slice A0_1 l0_1.length c0_1] 25 (0, 0)) (by (with_reducible repeat (first | refine blk_drewN ?_ _ | refine blk_drew ?_ | refine blk_alloc ?_ _)); refine blk_far ?_ Zq.out _; (with_reducible repeat (first | refine blk_drewN ?_ _ | refine blk_drew ?_ | refine blk_alloc ?_ _)); refine blk_far ?_ Zq.out _; (with_reducible repeat (first | refine blk_drewN ?_ _ | refine blk_drew ?_ | refine blk_alloc ?_ _)); refine blk_far ?_ Zq.out _; (with_reducible repeat (first | refine blk_drewN ?_ _ | refine blk_drew ?_ | refine blk_alloc ?_ _)); exact Za.out) hb); have n5_ := zm (blk_below (g := gb830) (o := .cells #[.int .i64 t826, .int .i64 t827, .int .i64 t828] 46 (0, 0)) (by (with_reducible repeat (first | refine blk_drewN ?_ _ | refine blk_drew ?_ | refine blk_alloc ?_ _)); refine blk_put (cs := #[.int .i64 t826, .int .i64 t827, .int .i64 0]) ?_ 2 _ rfl; (with_reducible repeat (first | refine blk_drewN ?_ _ | refine blk_drew ?_ | refine blk_alloc ?_ _)); refine blk_put (cs := #[.int .i64 t826, .int .i64 0, .int .i64 0]) ?_ 1 _ rfl; (with_reducible repeat (first | refine blk_drewN ?_ _ | refine blk_drew ?_ | refine blk_alloc ?_ _)); refine blk_put (cs := #[.int .i64 0, .int .i64 0, .int .i64 0]) ?_ 0 _ rfl; (with_reducible repeat (first | refine blk_drewN ?_ _ | refine blk_drew ?_ | refine blk_alloc ?_ _)); exact Zb.out) hb); have n6_ := zm (below_step (zg_4 HB.out Zg.out Zj.out) hb); clear Zh; clear Zi; clear Za; clear Zb; clear HB; have Zh := n0_; have Zi := n1_; have Zn := n2_; have Zo := n3_; have Za := n4_; have Zb := n5_; have HB := n6_; clear n0_ n1_ n2_ n3_ n4_ n5_ n6_; (try clear hb); (try clear hb2); (try clear hk); (try clear hi); (try clear ho0); (try clear ho1)) | ((with_reducible refine gate_dst (N := 10) rfl ?_); refine box_event ?hg (N := 10) ?hd (cs := #[.slice none 0 0, .slice none 0 0]) (t := 29) ?hr ?_; (case hd => rfl); (case hg => rfl); (case hr => first | (go_simp; done) | (go_simp; rfl)); intro gb837 hg w27 hbox hb; have n0_ := zm (Kd.R_below (zg_3 Zh.out) hb); have n1_ := zm (Kd.R_below (zg_3 Zi.out) hb); have n2_ := zm (Kd.R_below (zg_3 Zn.out) hb); have n3_ := zm (Kd.R_below (zg_3 Zo.out) hb); have n4_ := zm (blk_below (g := gb818) (o := .cells #[.slice A0_0 l0_0.length c0_0, .slice A0_1 l0_1.length c0_1] 25 (0, 0)) (zg_2 Za.out) hb); have n5_ := zm (blk_below (g := gb830) (o := .cells #[.int .i64 t826, .int .i64 t827, .int .i64 t828] 46 (0, 0)) (zg_2 Zb.out) hb); have n6_ := zm (below_step (zg_4 HB.out Zg.out Zj.out) hb); have n7_ := zm (hbox); have n8_ := zm ((by rw [hg]; exact (below_size (zg_4 HB.out Zg.out Zj.out)) : w.heap.size ≤ gb837)); have n9_ := zm ((by rw [hg]; exact (below_size (zg_4 HB.out Zg.out Zj.out)) : w.heap.size ≤ gb837)); have n10_ := zm ((by rw [hg]; exact Nat.ne_of_lt (blk_lt (g := gb818) (o := .cells #[.slice A0_0 l0_0.length c0_0, .slice A0_1 l0_1.length c0_1] 25 (0, 0)) (zg_2 Za.out)) : gb818 ≠ gb837)); have n11_ := zm ((by rw [hg]; exact Nat.ne_of_gt (blk_lt (g := gb818) (o := .cells #[.slice A0_0 l0_0.length c0_0, .slice A0_1 l0_1.length c0_1] 25 (0, 0)) (zg_2 Za.out)) : gb837 ≠ gb818)); have n12_ := zm ((by rw [hg]; exact Nat.ne_of_lt (blk_lt (g := gb830) (o := .cells #[.int .i64 t826, .int .i64 t827, .int .i64 t828] 46 (0, 0)) (zg_2 Zb.out)) : gb830 ≠ gb837)); have n13_ := zm ((by rw [hg]; exact Nat.ne_of_gt (blk_lt (g := gb830) (o := .cells #[.int .i64 t826, .int .i64 t827, .int .i64 t828] 46 (0, 0)) (zg_2 Zb.out)) : gb837 ≠ gb830)); clear Zh; clear Zi; clear Zn; clear Zo; clear Za; clear Zb; clear HB; have Zh := n0_; have Zi := n1_; have Zn := n2_; have Zo := n3_; have Za := n4_; have Zb := n5_; have HB := n6_; have Ze := n7_; have ZJ := n8_; have Zp := n9_; have Zw := n10_; have ZF := n11_; have Zs := n12_; have Zx := n13_; clear n0_ n1_ n2_ n3_ n4_ n5_ n6_ n7_ n8_ n9_ n10_ n11_ n12_ n13_; clear hb hbox hg; obtain ⟨Ao28, co28, eo28⟩ := Kd.R_slice Zn.out; subst eo28; have hnb29 := ZF.out; have hnc29 := Zw.out; have hnb30 := Zx.out; have hnc30 := Zs.out; have hcz31_0 : w27.cell? ⟨gb837, 0, none⟩ = some (.slice none 0 0) := (blk_cell Ze.out 0).trans rfl; have hcz31_1 : w27.cell? ⟨gb837, 1, none⟩ = some (.slice none 0 0) := (blk_cell Ze.out 1).trans rfl; have hfz31_0 := blk_frozen Ze.out 0; have hfz31_1 := blk_frozen Ze.out 1; obtain ⟨Ao32, co32, eo32⟩ := Kd.R_slice Zo.out; subst eo32) | ((with_reducible refine gate_callee (f := 26) rfl ?_); refine goesL_ (some 32) rfl rfl Try.func26 (by kernel_rfl) rfl #[.agg #[.slice Ao28 t831.length co28, .slice Ao32 t834.length co32], .int .i64 a1, .int .i64 a2] rfl zq ?_; (with_reducible refine (impl_ReadDelta.calls k _ _ t831 _ _ t834 a1 a2 t838 t839 t840 t841 _ ?side1 ?side2 ?side3 ?side4 A12.out).mono ?_); (case side1 => refine (Kd.R_reads' (e := 9) (base := w.heap.size) (ok := fun k_ => (True ∧ some k_ ≠ (.slice Ao19 t820.length co19 : Value).ownBlock)) (n := t831.length) (c := co28) ?_).2.2; exact (by (with_reducible repeat (first | apply Kd.R_alloc | apply Kd.R_drewN | apply Kd.R_drew)); exact (Kd.R_mono (Kd.R_far (p := ⟨gb837, 1, none⟩) (Kd.R_far (p := ⟨gb837, 0, none⟩) (Kd.R_types Zn.out Ze.out (by decide)) (fun _ hk => hk.2) (.slice Ao28 t831.length co28)) (fun _ hk => hk.2) (.slice Ao32 t834.length co32)) (fun _ h_ => h_.1)))); (case side2 => exact (Kd.R_reads' Zn.out).2.1); (case side3 => refine (Kd.R_reads' (e := 76) (base := w.heap.size) (ok := fun k_ => (True ∧ some k_ ≠ (.slice Ao20 t823.length co20 : Value).ownBlock)) (n := t834.length) (c := co32) ?_).2.2; exact (by (with_reducible repeat (first | apply Kd.R_alloc | apply Kd.R_drewN | apply Kd.R_drew)); exact (Kd.R_mono (Kd.R_far (p := ⟨gb837, 1, none⟩) (Kd.R_far (p := ⟨gb837, 0, none⟩) (Kd.R_types Zo.out Ze.out (by decide)) (fun _ hk => hk.2) (.slice Ao28 t831.length co28)) (fun _ hk => hk.2) (.slice Ao32 t834.length co32)) (fun _ h_ => h_.1)))); (case side4 => exact (Kd.R_reads' Zo.out).2.1); rintro e w33 ⟨rfl, hb⟩; refine ⟨_, rfl, ?_⟩; have n0_ := zm (Kd.R_below (by (with_reducible repeat (first | apply Kd.R_alloc | apply Kd.R_drewN | apply Kd.R_drew)); exact (Kd.R_mono (Kd.R_far (p := ⟨gb837, 1, none⟩) (Kd.R_far (p := ⟨gb837, 0, none⟩) (Kd.R_types Zh.out Ze.out (by decide)) (fun _ hk => hk.2) (.slice Ao28 t831.length co28)) (fun _ hk => hk.2) (.slice Ao32 t834.length co32)) (fun _ h_ => h_.1))) hb); have n1_ := zm (Kd.R_below (by (with_reducible repeat (first | apply Kd.R_alloc | apply Kd.R_drewN | apply Kd.R_drew)); exact (Kd.R_mono (Kd.R_far (p := ⟨gb837, 1, none⟩) (Kd.R_far (p := ⟨gb837, 0, none⟩) (Kd.R_types Zi.out Ze.out (by decide)) (fun _ hk => hk.2) (.slice Ao28 t831.length co28)) (fun _ hk => hk.2) (.slice Ao32 t834.length co32)) (fun _ h_ => h_.1))) hb); have n2_ := zm (Kd.R_below (by (with_reducible repeat (first | apply Kd.R_alloc | apply Kd.R_drewN | apply Kd.R_drew)); exact (Kd.R_mono (Kd.R_far (p := ⟨gb837, 1, none⟩) (Kd.R_far (p := ⟨gb837, 0, none⟩) (Kd.R_types Zn.out Ze.out (by decide)) (fun _ hk => hk.2) (.slice Ao28 t831.length co28)) (fun _ hk => hk.2) (.slice Ao32 t834.length co32)) (fun _ h_ => h_.1))) hb); have n3_ := zm (Kd.R_below (by (with_reducible repeat (first | apply Kd.R_alloc | apply Kd.R_drewN | apply Kd.R_drew)); exact (Kd.R_mono (Kd.R_far (p := ⟨gb837, 1, none⟩) (Kd.R_far (p := ⟨gb837, 0, none⟩) (Kd.R_types Zo.out Ze.out (by decide)) (fun _ hk => hk.2) (.slice Ao28 t831.length co28)) (fun _ hk => hk.2) (.slice Ao32 t834.length co32)) (fun _ h_ => h_.1))) hb); have n4_ := zm (blk_below (g := gb818) (o := .cells #[.slice A0_0 l0_0.length c0_0, .slice A0_1 l0_1.length c0_1] 25 (0, 0)) (by (with_reducible repeat (first | refine blk_drewN ?_ _ | refine blk_drew ?_ | refine blk_alloc ?_ _)); refine blk_far ?_ Zw.out _; (with_reducible repeat (first | refine blk_drewN ?_ _ | refine blk_drew ?_ | refine blk_alloc ?_ _)); refine blk_far ?_ Zw.out _; (with_reducible repeat (first | refine blk_drewN ?_ _ | refine blk_drew ?_ | refine blk_alloc ?_ _)); exact Za.out) hb); have n5_ := zm (blk_below (g := gb830) (o := .cells #[.int .i64 t826, .int .i64 t827, .int .i64 t828] 46 (0, 0)) (by (with_reducible repeat (first | refine blk_drewN ?_ _ | refine blk_drew ?_ | refine blk_alloc ?_ _)); refine blk_far ?_ Zs.out _; (with_reducible repeat (first | refine blk_drewN ?_ _ | refine blk_drew ?_ | refine blk_alloc ?_ _)); refine blk_far ?_ Zs.out _; (with_reducible repeat (first | refine blk_drewN ?_ _ | refine blk_drew ?_ | refine blk_alloc ?_ _)); exact Zb.out) hb); have n6_ := zm (blk_below (g := gb837) (o := .cells #[.slice Ao28 t831.length co28, .slice Ao32 t834.length co32] 29 (0, 0)) (by (with_reducible repeat (first | refine blk_drewN ?_ _ | refine blk_drew ?_ | refine blk_alloc ?_ _)); refine blk_put (cs := #[.slice Ao28 t831.length co28, .slice none 0 0]) ?_ 1 _ rfl; (with_reducible repeat (first | refine blk_drewN ?_ _ | refine blk_drew ?_ | refine blk_alloc ?_ _)); refine blk_put (cs := #[.slice none 0 0, .slice none 0 0]) ?_ 0 _ rfl; (with_reducible repeat (first | refine blk_drewN ?_ _ | refine blk_drew ?_ | refine blk_alloc ?_ _)); exact Ze.out) hb); have n7_ := zm (below_step (zg_5 HB.out Zg.out Zj.out Zp.out) hb); clear Zh; clear Zi; clear Zn; clear Zo; clear Za; clear Zb; clear Ze; clear HB; have Zh := n0_; have Zi := n1_; have Zn := n2_; have Zo := n3_; have Za := n4_; have Zb := n5_; have Ze := n6_; have HB := n7_; clear n0_ n1_ n2_ n3_ n4_ n5_ n6_ n7_; (try clear hb); (try clear hb2); (try clear hk); (try clear hi)) | ((with_reducible refine gate_dst (N := 11) rfl ?_); refine box_event ?hg (N := 11) ?hd (cs := #[.int .i64 0, .int .i64 0, .int .i64 0]) (t := 46) ?hr ?_; (case hd => rfl); (case hg => rfl); (case hr => first | (go_simp; done) | (go_simp; rfl)); intro gb842 hg w34 hbox hb; have n0_ := zm (Kd.R_below (zg_3 Zh.out) hb); have n1_ := zm (Kd.R_below (zg_3 Zi.out) hb); have n2_ := zm (Kd.R_below (zg_3 Zn.out) hb); have n3_ := zm (Kd.R_below (zg_3 Zo.out) hb); have n4_ := zm (blk_below (g := gb818) (o := .cells #[.slice A0_0 l0_0.length c0_0, .slice A0_1 l0_1.length c0_1] 25 (0, 0)) (zg_2 Za.out) hb); have n5_ := zm (blk_below (g := gb830) (o := .cells #[.int .i64 t826, .int .i64 t827, .int .i64 t828] 46 (0, 0)) (zg_2 Zb.out) hb); have n6_ := zm (blk_below (g := gb837) (o := .cells #[.slice Ao28 t831.length co28, .slice Ao32 t834.length co32] 29 (0, 0)) (zg_2 Ze.out) hb); have n7_ := zm (below_step (zg_5 HB.out Zg.out Zj.out Zp.out) hb); have n8_ := zm (hbox); have n9_ := zm ((by rw [hg]; exact (below_size (zg_5 HB.out Zg.out Zj.out Zp.out)) : w.heap.size ≤ gb842)); have n10_ := zm ((by rw [hg]; exact (below_size (zg_5 HB.out Zg.out Zj.out Zp.out)) : w.heap.size ≤ gb842)); have n11_ := zm ((by rw [hg]; exact Nat.ne_of_lt (blk_lt (g := gb818) (o := .cells #[.slice A0_0 l0_0.length c0_0, .slice A0_1 l0_1.length c0_1] 25 (0, 0)) (zg_2 Za.out)) : gb818 ≠ gb842)); have n12_ := zm ((by rw [hg]; exact Nat.ne_of_gt (blk_lt (g := gb818) (o := .cells #[.slice A0_0 l0_0.length c0_0, .slice A0_1 l0_1.length c0_1] 25 (0, 0)) (zg_2 Za.out)) : gb842 ≠ gb818)); have n13_ := zm ((by rw [hg]; exact Nat.ne_of_lt (blk_lt (g := gb830) (o := .cells #[.int .i64 t826, .int .i64 t827, .int .i64 t828] 46 (0, 0)) (zg_2 Zb.out)) : gb830 ≠ gb842)); have n14_ := zm ((by rw [hg]; exact Nat.ne_of_gt (blk_lt (g := gb830) (o := .cells #[.int .i64 t826, .int .i64 t827, .int .i64 t828] 46 (0, 0)) (zg_2 Zb.out)) : gb842 ≠ gb830)); have n15_ := zm ((by rw [hg]; exact Nat.ne_of_lt (blk_lt (g := gb837) (o := .cells #[.slice Ao28 t831.length co28, .slice Ao32 t834.length co32] 29 (0, 0)) (zg_2 Ze.out)) : gb837 ≠ gb842)); have n16_ := zm ((by rw [hg]; exact Nat.ne_of_gt (blk_lt (g := gb837) (o := .cells #[.slice Ao28 t831.length co28, .slice Ao32 t834.length co32] 29 (0, 0)) (zg_2 Ze.out)) : gb842 ≠ gb837)); clear Zh; clear Zi; clear Zn; clear Zo; clear Za; clear Zb; clear Ze; clear HB; have Zh := n0_; have Zi := n1_; have Zn := n2_; have Zo := n3_; have Za := n4_; have Zb := n5_; have Ze := n6_; have HB := n7_; have Zf := n8_; have ZK := n9_; have Zr := n10_; have Zk := n11_; have Zy := n12_; have Zl := n13_; have Zz := n14_; have Zm := n15_; have ZA := n16_; clear n0_ n1_ n2_ n3_ n4_ n5_ n6_ n7_ n8_ n9_ n10_ n11_ n12_ n13_ n14_ n15_ n16_; clear hb hbox hg; have hnb35 := Zy.out; have hnc35 := Zk.out; have hnb36 := Zz.out; have hnc36 := Zl.out; have hnb37 := ZA.out; have hnc37 := Zm.out; have hcz38_0 : w34.cell? ⟨gb842, 0, none⟩ = some (.int .i64 0) := (blk_cell Zf.out 0).trans rfl; have hcz38_1 : w34.cell? ⟨gb842, 1, none⟩ = some (.int .i64 0) := (blk_cell Zf.out 1).trans rfl; have hcz38_2 : w34.cell? ⟨gb842, 2, none⟩ = some (.int .i64 0) := (blk_cell Zf.out 2).trans rfl; have hfz38_0 := blk_frozen Zf.out 0; have hfz38_1 := blk_frozen Zf.out 1; have hfz38_2 := blk_frozen Zf.out 2))
  (try simp only [Act.put, zs, zz, zt])
  go_cut [43] (fun v43 wc => ∃ (kq : Nat) (x43_12 : Bool), v43 = .bool x43_12 ∧ Aside0 (laws_FnExactReadDelta.j0 kq x43_12 l0_0 l0_1 t831 t834 = some r) ∧ Aside0 (kq ≤ k) ∧ Aside0 (Kd.R Kd.string 9 wc w.heap.size (fun _ => True) (.slice Ao28 t831.length co28) t831) ∧ Aside0 (Kd.R k76 76 wc w.heap.size (fun _ => True) (.slice Ao32 t834.length co32) t834) ∧ Aside0 (wc.heap[gb818]? = some (.cells #[(.slice A0_0 l0_0.length c0_0), (.slice A0_1 l0_1.length c0_1)] 25 (0, 0))) ∧ Aside0 (wc.heap[gb830]? = some (.cells #[.int .i64 t826, .int .i64 t827, .int .i64 t828] 46 (0, 0))) ∧ Aside0 (wc.heap[gb837]? = some (.cells #[(.slice Ao28 t831.length co28), (.slice Ao32 t834.length co32)] 29 (0, 0))) ∧ Aside0 (wc.heap[gb842]? = some (.cells #[.int .i64 t838, .int .i64 t839, .int .i64 t840] 46 (0, 0))) ∧ Aside0 (Below w.heap.size w wc))
  case first =>
   have H := ZG.out
   clear ZG
   replace H := Option.bind_eq_some_iff.mp H
   obtain ⟨t843, A390, H⟩ := H
   replace H : (if t843 = true then (laws_FnExactReadDelta.j0 k (t841 != t829) l0_0 l0_1 t831 t834) else (laws_FnExactReadDelta.j0 k true l0_0 l0_1 t831 t834)) = some r := H
   have A39 := zm A390
   clear A390
   by_cases c40 : t843 = true
   ·subst c40
    have H1 : (laws_FnExactReadDelta.j0 k (t841 != t829) l0_0 l0_1 t831 t834) = some r := by rw [if_pos rfl] at H; exact H
    clear H
    have H := H1
    clear H1
    have H' := zm H
    clear H
    have hnb41 := Zy.out
    have hnc41 := Zk.out
    have hnb42 := Zz.out
    have hnc42 := Zl.out
    have hnb43 := ZA.out
    have hnc43 := Zm.out
    have hcz44_0 : w34.cell? ⟨gb842, 0, none⟩ = some (.int .i64 0) := (blk_cell Zf.out 0).trans rfl
    have hcz44_1 : w34.cell? ⟨gb842, 1, none⟩ = some (.int .i64 0) := (blk_cell Zf.out 1).trans rfl
    have hcz44_2 : w34.cell? ⟨gb842, 2, none⟩ = some (.int .i64 0) := (blk_cell Zf.out 2).trans rfl
    have hfz44_0 := blk_frozen Zf.out 0
    have hfz44_1 := blk_frozen Zf.out 1
    have hfz44_2 := blk_frozen Zf.out 2
    have hnb45 := Zv.out
    have hnc45 := Zq.out
    have hnb46 := Zs.out
    have hnc46 := Zx.out
    have hcz47_0 : w34.cell? ⟨gb830, 0, none⟩ = some (.int .i64 t826) := (blk_cell Zb.out 0).trans rfl
    have hcz47_1 : w34.cell? ⟨gb830, 1, none⟩ = some (.int .i64 t827) := (blk_cell Zb.out 1).trans rfl
    have hcz47_2 : w34.cell? ⟨gb830, 2, none⟩ = some (.int .i64 t828) := (blk_cell Zb.out 2).trans rfl
    have hfz47_0 := blk_frozen Zb.out 0
    have hfz47_1 := blk_frozen Zb.out 1
    have hfz47_2 := blk_frozen Zb.out 2
    go_wp2_with (first | ((with_reducible refine gate_callee (f := 27) rfl ?_); refine goesL_ (some 37) rfl rfl Try.func27 (by kernel_rfl) rfl #[.agg #[.int .i64 t838, .int .i64 t839, .int .i64 t840], .agg #[.int .i64 t826, .int .i64 t827, .int .i64 t828]] rfl zq ?_; (with_reducible refine (laws_eqDelta.calls t838 t839 t840 t826 t827 t828 true _ A39.out).mono ?_); rintro e w48 ⟨rfl, hb⟩; refine ⟨_, rfl, ?_⟩; have n0_ := zm (Kd.R_below (by (with_reducible repeat (first | apply Kd.R_alloc | apply Kd.R_drewN | apply Kd.R_drew)); exact (Kd.R_mono (Kd.R_far (p := ⟨gb842, 2, none⟩) (Kd.R_far (p := ⟨gb842, 1, none⟩) (Kd.R_far (p := ⟨gb842, 0, none⟩) (Kd.R_types Zh.out Zf.out (by decide)) (fun _ hk => hk.2) (.int .i64 t838)) (fun _ hk => hk.2) (.int .i64 t839)) (fun _ hk => hk.2) (.int .i64 t840)) (fun _ h_ => h_.1))) hb); have n1_ := zm (Kd.R_below (by (with_reducible repeat (first | apply Kd.R_alloc | apply Kd.R_drewN | apply Kd.R_drew)); exact (Kd.R_mono (Kd.R_far (p := ⟨gb842, 2, none⟩) (Kd.R_far (p := ⟨gb842, 1, none⟩) (Kd.R_far (p := ⟨gb842, 0, none⟩) (Kd.R_types Zi.out Zf.out (by decide)) (fun _ hk => hk.2) (.int .i64 t838)) (fun _ hk => hk.2) (.int .i64 t839)) (fun _ hk => hk.2) (.int .i64 t840)) (fun _ h_ => h_.1))) hb); have n2_ := zm (Kd.R_below (by (with_reducible repeat (first | apply Kd.R_alloc | apply Kd.R_drewN | apply Kd.R_drew)); exact (Kd.R_mono (Kd.R_far (p := ⟨gb842, 2, none⟩) (Kd.R_far (p := ⟨gb842, 1, none⟩) (Kd.R_far (p := ⟨gb842, 0, none⟩) (Kd.R_types Zn.out Zf.out (by decide)) (fun _ hk => hk.2) (.int .i64 t838)) (fun _ hk => hk.2) (.int .i64 t839)) (fun _ hk => hk.2) (.int .i64 t840)) (fun _ h_ => h_.1))) hb); have n3_ := zm (Kd.R_below (by (with_reducible repeat (first | apply Kd.R_alloc | apply Kd.R_drewN | apply Kd.R_drew)); exact (Kd.R_mono (Kd.R_far (p := ⟨gb842, 2, none⟩) (Kd.R_far (p := ⟨gb842, 1, none⟩) (Kd.R_far (p := ⟨gb842, 0, none⟩) (Kd.R_types Zo.out Zf.out (by decide)) (fun _ hk => hk.2) (.int .i64 t838)) (fun _ hk => hk.2) (.int .i64 t839)) (fun _ hk => hk.2) (.int .i64 t840)) (fun _ h_ => h_.1))) hb); have n4_ := zm (blk_below (g := gb818) (o := .cells #[.slice A0_0 l0_0.length c0_0, .slice A0_1 l0_1.length c0_1] 25 (0, 0)) (by (with_reducible repeat (first | refine blk_drewN ?_ _ | refine blk_drew ?_ | refine blk_alloc ?_ _)); refine blk_far ?_ Zk.out _; (with_reducible repeat (first | refine blk_drewN ?_ _ | refine blk_drew ?_ | refine blk_alloc ?_ _)); refine blk_far ?_ Zk.out _; (with_reducible repeat (first | refine blk_drewN ?_ _ | refine blk_drew ?_ | refine blk_alloc ?_ _)); refine blk_far ?_ Zk.out _; (with_reducible repeat (first | refine blk_drewN ?_ _ | refine blk_drew ?_ | refine blk_alloc ?_ _)); exact Za.out) hb); have n5_ := zm (blk_below (g := gb830) (o := .cells #[.int .i64 t826, .int .i64 t827, .int .i64 t828] 46 (0, 0)) (by (with_reducible repeat (first | refine blk_drewN ?_ _ | refine blk_drew ?_ | refine blk_alloc ?_ _)); refine blk_far ?_ Zl.out _; (with_reducible repeat (first | refine blk_drewN ?_ _ | refine blk_drew ?_ | refine blk_alloc ?_ _)); refine blk_far ?_ Zl.out _; (with_reducible repeat (first | refine blk_drewN ?_ _ | refine blk_drew ?_ | refine blk_alloc ?_ _)); refine blk_far ?_ Zl.out _; (with_reducible repeat (first | refine blk_drewN ?_ _ | refine blk_drew ?_ | refine blk_alloc ?_ _)); exact Zb.out) hb); have n6_ := zm (blk_below (g := gb837) (o := .cells #[.slice Ao28 t831.length co28, .slice Ao32 t834.length co32] 29 (0, 0)) (by (with_reducible repeat (first | refine blk_drewN ?_ _ | refine blk_drew ?_ | refine blk_alloc ?_ _)); refine blk_far ?_ Zm.out _; (with_reducible repeat (first | refine blk_drewN ?_ _ | refine blk_drew ?_ | refine blk_alloc ?_ _)); refine blk_far ?_ Zm.out _; (with_reducible repeat (first | refine blk_drewN ?_ _ | refine blk_drew ?_ | refine blk_alloc ?_ _)); refine blk_far ?_ Zm.out _; (with_reducible repeat (first | refine blk_drewN ?_ _ | refine blk_drew ?_ | refine blk_alloc ?_ _)); exact Ze.out) hb); have n7_ := zm (blk_below (g := gb842) (o := .cells #[.int .i64 t838, .int .i64 t839, .int .i64 t840] 46 (0, 0)) (by (with_reducible repeat (first | refine blk_drewN ?_ _ | refine blk_drew ?_ | refine blk_alloc ?_ _)); refine blk_put (cs := #[.int .i64 t838, .int .i64 t839, .int .i64 0]) ?_ 2 _ rfl; (with_reducible repeat (first | refine blk_drewN ?_ _ | refine blk_drew ?_ | refine blk_alloc ?_ _)); refine blk_put (cs := #[.int .i64 t838, .int .i64 0, .int .i64 0]) ?_ 1 _ rfl; (with_reducible repeat (first | refine blk_drewN ?_ _ | refine blk_drew ?_ | refine blk_alloc ?_ _)); refine blk_put (cs := #[.int .i64 0, .int .i64 0, .int .i64 0]) ?_ 0 _ rfl; (with_reducible repeat (first | refine blk_drewN ?_ _ | refine blk_drew ?_ | refine blk_alloc ?_ _)); exact Zf.out) hb); have n8_ := zm (below_step (zg_6 HB.out Zg.out Zj.out Zp.out Zr.out) hb); clear Zh; clear Zi; clear Zn; clear Zo; clear Za; clear Zb; clear Ze; clear Zf; clear HB; have Zh := n0_; have Zi := n1_; have Zn := n2_; have Zo := n3_; have Za := n4_; have Zb := n5_; have Ze := n6_; have Zf := n7_; have HB := n8_; clear n0_ n1_ n2_ n3_ n4_ n5_ n6_ n7_ n8_; (try clear hb); (try clear hb2); (try clear hk); (try clear hi)))
    go_meet
    case rel => exact ⟨_, ((t841 != t829)), zr, H', ⟨by first | omega | exact Nat.le_refl _⟩, ⟨by (with_reducible repeat (first | apply Kd.R_alloc | apply Kd.R_drewN | apply Kd.R_drew)); exact Kd.R_mono Zn.out (fun _ hk => trivial)⟩, ⟨by (with_reducible repeat (first | apply Kd.R_alloc | apply Kd.R_drewN | apply Kd.R_drew)); exact Kd.R_mono Zo.out (fun _ hk => trivial)⟩, ⟨by (with_reducible repeat (first | refine blk_drewN ?_ _ | refine blk_drew ?_ | refine blk_alloc ?_ _)); exact Za.out⟩, ⟨by (with_reducible repeat (first | refine blk_drewN ?_ _ | refine blk_drew ?_ | refine blk_alloc ?_ _)); exact Zb.out⟩, ⟨by (with_reducible repeat (first | refine blk_drewN ?_ _ | refine blk_drew ?_ | refine blk_alloc ?_ _)); exact Ze.out⟩, ⟨by (with_reducible repeat (first | refine blk_drewN ?_ _ | refine blk_drew ?_ | refine blk_alloc ?_ _)); exact Zf.out⟩, ⟨zg_6 HB.out Zg.out Zj.out Zp.out Zr.out⟩⟩
   ·replace c40 := Bool.eq_false_iff.mpr c40
    subst c40
    have H1 : (laws_FnExactReadDelta.j0 k true l0_0 l0_1 t831 t834) = some r := by rw [if_neg (show ¬ (false = true) by decide)] at H; exact H
    clear H
    have H := H1
    clear H1
    have H' := zm H
    clear H
    have hnb49 := Zy.out
    have hnc49 := Zk.out
    have hnb50 := Zz.out
    have hnc50 := Zl.out
    have hnb51 := ZA.out
    have hnc51 := Zm.out
    have hcz52_0 : w34.cell? ⟨gb842, 0, none⟩ = some (.int .i64 0) := (blk_cell Zf.out 0).trans rfl
    have hcz52_1 : w34.cell? ⟨gb842, 1, none⟩ = some (.int .i64 0) := (blk_cell Zf.out 1).trans rfl
    have hcz52_2 : w34.cell? ⟨gb842, 2, none⟩ = some (.int .i64 0) := (blk_cell Zf.out 2).trans rfl
    have hfz52_0 := blk_frozen Zf.out 0
    have hfz52_1 := blk_frozen Zf.out 1
    have hfz52_2 := blk_frozen Zf.out 2
    have hnb53 := Zv.out
    have hnc53 := Zq.out
    have hnb54 := Zs.out
    have hnc54 := Zx.out
    have hcz55_0 : w34.cell? ⟨gb830, 0, none⟩ = some (.int .i64 t826) := (blk_cell Zb.out 0).trans rfl
    have hcz55_1 : w34.cell? ⟨gb830, 1, none⟩ = some (.int .i64 t827) := (blk_cell Zb.out 1).trans rfl
    have hcz55_2 : w34.cell? ⟨gb830, 2, none⟩ = some (.int .i64 t828) := (blk_cell Zb.out 2).trans rfl
    have hfz55_0 := blk_frozen Zb.out 0
    have hfz55_1 := blk_frozen Zb.out 1
    have hfz55_2 := blk_frozen Zb.out 2
    go_wp2_with (first | ((with_reducible refine gate_callee (f := 27) rfl ?_); refine goesL_ (some 37) rfl rfl Try.func27 (by kernel_rfl) rfl #[.agg #[.int .i64 t838, .int .i64 t839, .int .i64 t840], .agg #[.int .i64 t826, .int .i64 t827, .int .i64 t828]] rfl zq ?_; (with_reducible refine (laws_eqDelta.calls t838 t839 t840 t826 t827 t828 false _ A39.out).mono ?_); rintro e w56 ⟨rfl, hb⟩; refine ⟨_, rfl, ?_⟩; have n0_ := zm (Kd.R_below (by (with_reducible repeat (first | apply Kd.R_alloc | apply Kd.R_drewN | apply Kd.R_drew)); exact (Kd.R_mono (Kd.R_far (p := ⟨gb842, 2, none⟩) (Kd.R_far (p := ⟨gb842, 1, none⟩) (Kd.R_far (p := ⟨gb842, 0, none⟩) (Kd.R_types Zh.out Zf.out (by decide)) (fun _ hk => hk.2) (.int .i64 t838)) (fun _ hk => hk.2) (.int .i64 t839)) (fun _ hk => hk.2) (.int .i64 t840)) (fun _ h_ => h_.1))) hb); have n1_ := zm (Kd.R_below (by (with_reducible repeat (first | apply Kd.R_alloc | apply Kd.R_drewN | apply Kd.R_drew)); exact (Kd.R_mono (Kd.R_far (p := ⟨gb842, 2, none⟩) (Kd.R_far (p := ⟨gb842, 1, none⟩) (Kd.R_far (p := ⟨gb842, 0, none⟩) (Kd.R_types Zi.out Zf.out (by decide)) (fun _ hk => hk.2) (.int .i64 t838)) (fun _ hk => hk.2) (.int .i64 t839)) (fun _ hk => hk.2) (.int .i64 t840)) (fun _ h_ => h_.1))) hb); have n2_ := zm (Kd.R_below (by (with_reducible repeat (first | apply Kd.R_alloc | apply Kd.R_drewN | apply Kd.R_drew)); exact (Kd.R_mono (Kd.R_far (p := ⟨gb842, 2, none⟩) (Kd.R_far (p := ⟨gb842, 1, none⟩) (Kd.R_far (p := ⟨gb842, 0, none⟩) (Kd.R_types Zn.out Zf.out (by decide)) (fun _ hk => hk.2) (.int .i64 t838)) (fun _ hk => hk.2) (.int .i64 t839)) (fun _ hk => hk.2) (.int .i64 t840)) (fun _ h_ => h_.1))) hb); have n3_ := zm (Kd.R_below (by (with_reducible repeat (first | apply Kd.R_alloc | apply Kd.R_drewN | apply Kd.R_drew)); exact (Kd.R_mono (Kd.R_far (p := ⟨gb842, 2, none⟩) (Kd.R_far (p := ⟨gb842, 1, none⟩) (Kd.R_far (p := ⟨gb842, 0, none⟩) (Kd.R_types Zo.out Zf.out (by decide)) (fun _ hk => hk.2) (.int .i64 t838)) (fun _ hk => hk.2) (.int .i64 t839)) (fun _ hk => hk.2) (.int .i64 t840)) (fun _ h_ => h_.1))) hb); have n4_ := zm (blk_below (g := gb818) (o := .cells #[.slice A0_0 l0_0.length c0_0, .slice A0_1 l0_1.length c0_1] 25 (0, 0)) (by (with_reducible repeat (first | refine blk_drewN ?_ _ | refine blk_drew ?_ | refine blk_alloc ?_ _)); refine blk_far ?_ Zk.out _; (with_reducible repeat (first | refine blk_drewN ?_ _ | refine blk_drew ?_ | refine blk_alloc ?_ _)); refine blk_far ?_ Zk.out _; (with_reducible repeat (first | refine blk_drewN ?_ _ | refine blk_drew ?_ | refine blk_alloc ?_ _)); refine blk_far ?_ Zk.out _; (with_reducible repeat (first | refine blk_drewN ?_ _ | refine blk_drew ?_ | refine blk_alloc ?_ _)); exact Za.out) hb); have n5_ := zm (blk_below (g := gb830) (o := .cells #[.int .i64 t826, .int .i64 t827, .int .i64 t828] 46 (0, 0)) (by (with_reducible repeat (first | refine blk_drewN ?_ _ | refine blk_drew ?_ | refine blk_alloc ?_ _)); refine blk_far ?_ Zl.out _; (with_reducible repeat (first | refine blk_drewN ?_ _ | refine blk_drew ?_ | refine blk_alloc ?_ _)); refine blk_far ?_ Zl.out _; (with_reducible repeat (first | refine blk_drewN ?_ _ | refine blk_drew ?_ | refine blk_alloc ?_ _)); refine blk_far ?_ Zl.out _; (with_reducible repeat (first | refine blk_drewN ?_ _ | refine blk_drew ?_ | refine blk_alloc ?_ _)); exact Zb.out) hb); have n6_ := zm (blk_below (g := gb837) (o := .cells #[.slice Ao28 t831.length co28, .slice Ao32 t834.length co32] 29 (0, 0)) (by (with_reducible repeat (first | refine blk_drewN ?_ _ | refine blk_drew ?_ | refine blk_alloc ?_ _)); refine blk_far ?_ Zm.out _; (with_reducible repeat (first | refine blk_drewN ?_ _ | refine blk_drew ?_ | refine blk_alloc ?_ _)); refine blk_far ?_ Zm.out _; (with_reducible repeat (first | refine blk_drewN ?_ _ | refine blk_drew ?_ | refine blk_alloc ?_ _)); refine blk_far ?_ Zm.out _; (with_reducible repeat (first | refine blk_drewN ?_ _ | refine blk_drew ?_ | refine blk_alloc ?_ _)); exact Ze.out) hb); have n7_ := zm (blk_below (g := gb842) (o := .cells #[.int .i64 t838, .int .i64 t839, .int .i64 t840] 46 (0, 0)) (by (with_reducible repeat (first | refine blk_drewN ?_ _ | refine blk_drew ?_ | refine blk_alloc ?_ _)); refine blk_put (cs := #[.int .i64 t838, .int .i64 t839, .int .i64 0]) ?_ 2 _ rfl; (with_reducible repeat (first | refine blk_drewN ?_ _ | refine blk_drew ?_ | refine blk_alloc ?_ _)); refine blk_put (cs := #[.int .i64 t838, .int .i64 0, .int .i64 0]) ?_ 1 _ rfl; (with_reducible repeat (first | refine blk_drewN ?_ _ | refine blk_drew ?_ | refine blk_alloc ?_ _)); refine blk_put (cs := #[.int .i64 0, .int .i64 0, .int .i64 0]) ?_ 0 _ rfl; (with_reducible repeat (first | refine blk_drewN ?_ _ | refine blk_drew ?_ | refine blk_alloc ?_ _)); exact Zf.out) hb); have n8_ := zm (below_step (zg_6 HB.out Zg.out Zj.out Zp.out Zr.out) hb); clear Zh; clear Zi; clear Zn; clear Zo; clear Za; clear Zb; clear Ze; clear Zf; clear HB; have Zh := n0_; have Zi := n1_; have Zn := n2_; have Zo := n3_; have Za := n4_; have Zb := n5_; have Ze := n6_; have Zf := n7_; have HB := n8_; clear n0_ n1_ n2_ n3_ n4_ n5_ n6_ n7_ n8_; (try clear hb); (try clear hb2); (try clear hk); (try clear hi)))
    go_meet
    case rel => exact ⟨_, (true), zr, H', ⟨by first | omega | exact Nat.le_refl _⟩, ⟨by (with_reducible repeat (first | apply Kd.R_alloc | apply Kd.R_drewN | apply Kd.R_drew)); exact Kd.R_mono Zn.out (fun _ hk => trivial)⟩, ⟨by (with_reducible repeat (first | apply Kd.R_alloc | apply Kd.R_drewN | apply Kd.R_drew)); exact Kd.R_mono Zo.out (fun _ hk => trivial)⟩, ⟨by (with_reducible repeat (first | refine blk_drewN ?_ _ | refine blk_drew ?_ | refine blk_alloc ?_ _)); exact Za.out⟩, ⟨by (with_reducible repeat (first | refine blk_drewN ?_ _ | refine blk_drew ?_ | refine blk_alloc ?_ _)); exact Zb.out⟩, ⟨by (with_reducible repeat (first | refine blk_drewN ?_ _ | refine blk_drew ?_ | refine blk_alloc ?_ _)); exact Ze.out⟩, ⟨by (with_reducible repeat (first | refine blk_drewN ?_ _ | refine blk_drew ?_ | refine blk_alloc ?_ _)); exact Zf.out⟩, ⟨zg_6 HB.out Zg.out Zj.out Zp.out Zr.out⟩⟩
  case rest =>
   clear ZG
   try clear c1
   try clear c2
   try clear p2
   try clear c3
   try clear c4
   try clear c5
   try clear c5b0
   try clear c8
   try clear c9
   try clear c11
   try clear c23
   try clear c25
   try clear c26
   try clear c27
   try clear c29
   try clear c30
   try clear c35
   try clear c36
   try clear c37
   try clear c40
   try clear c41
   try clear c42
   try clear c43
   try clear c45
   try clear c46
   try clear c49
   try clear c50
   try clear c51
   try clear c53
   try clear c54
   try clear hcz15_0
   try clear hcz15_1
   try clear hcz17_0
   try clear hcz17_1
   try clear hcz24_0
   try clear hcz24_1
   try clear hcz24_2
   try clear hcz25_0
   try clear hcz25_1
   try clear hcz31_0
   try clear hcz31_1
   try clear hcz38_0
   try clear hcz38_1
   try clear hcz38_2
   try clear hcz44_0
   try clear hcz44_1
   try clear hcz44_2
   try clear hcz47_0
   try clear hcz47_1
   try clear hcz47_2
   try clear hcz52_0
   try clear hcz52_1
   try clear hcz52_2
   try clear hcz55_0
   try clear hcz55_1
   try clear hcz55_2
   try clear hcz7_0
   try clear hcz7_1
   try clear hfz15_0
   try clear hfz15_1
   try clear hfz17_0
   try clear hfz17_1
   try clear hfz24_0
   try clear hfz24_1
   try clear hfz24_2
   try clear hfz25_0
   try clear hfz25_1
   try clear hfz31_0
   try clear hfz31_1
   try clear hfz38_0
   try clear hfz38_1
   try clear hfz38_2
   try clear hfz44_0
   try clear hfz44_1
   try clear hfz44_2
   try clear hfz47_0
   try clear hfz47_1
   try clear hfz47_2
   try clear hfz52_0
   try clear hfz52_1
   try clear hfz52_2
   try clear hfz55_0
   try clear hfz55_1
   try clear hfz55_2
   try clear hfz7_0
   try clear hfz7_1
   obtain ⟨kq, x43_12, rfl, HA, HJ12, Zc, Zd, Za, Zb, Ze, Zf, HB⟩ := hcut
   cases kq with
   | zero => exact absurd HA.out (by simp [laws_FnExactReadDelta.j0])
   | succ kj12 =>
    have H := HA.out
    clear HA
    simp only [laws_FnExactReadDelta.j0] at H
    by_cases c57 : x43_12 = true
    ·subst c57
     have H1 : (some false) = some r := by rw [if_pos rfl] at H; exact H
     clear H
     have H := H1
     clear H1
     obtain rfl := Option.some.inj H
     go_wp2
     go_ret
     exact ⟨by first | rfl | (simp [errW_none, errW_some] <;> rfl) | (simp [*, errW_none, errW_some] <;> rfl), zg_6 HB.out Zg.out Zj.out Zp.out Zr.out⟩
    ·replace c57 := Bool.eq_false_iff.mpr c57
     subst c57
     have H1 : ((laws_toDisk.f kj12 l0_0 l0_1).bind fun bt844 => ((laws_eqDisk.f kj12 t831 t834 bt844.1 bt844.2).bind fun t850 => (if t850 = true then (some true) else (some false)))) = some r := by rw [if_neg (show ¬ (false = true) by decide)] at H; exact H
     clear H
     have H := H1
     clear H1
     replace H := Option.bind_eq_some_iff.mp H
     obtain ⟨⟨t844, t847⟩, A580, H⟩ := H
     replace H : ((laws_eqDisk.f kj12 t831 t834 t844 t847).bind fun t850 => (if t850 = true then (some true) else (some false))) = some r := H
     have A58 := zm A580
     clear A580
     replace H := Option.bind_eq_some_iff.mp H
     obtain ⟨t850, A590, H⟩ := H
     replace H : (if t850 = true then (some true) else (some false)) = some r := H
     have A59 := zm A590
     clear A590
     by_cases c60 : t850 = true
     ·subst c60
      have H1 : (some true) = some r := by rw [if_pos rfl] at H; exact H
      clear H
      have H := H1
      clear H1
      obtain rfl := Option.some.inj H
      try go_wp2
      have n0_ := zm (Kd.R_drew Zc.out)
      have n1_ := zm (Kd.R_drew Zd.out)
      have n2_ := zm (blk_drew Za.out)
      have n3_ := zm (blk_drew Zb.out)
      have n4_ := zm (blk_drew Ze.out)
      have n5_ := zm (blk_drew Zf.out)
      have n6_ := zm (below_drew1 HB.out)
      clear Zc
      clear Zd
      clear Za
      clear Zb
      clear Ze
      clear Zf
      clear HB
      have Zc := n0_
      have Zd := n1_
      have Za := n2_
      have Zb := n3_
      have Ze := n4_
      have Zf := n5_
      have HB := n6_
      clear n0_ n1_ n2_ n3_ n4_ n5_ n6_
      refine start_ (n := 5) (S := fun w' => w'.cell? ⟨gb837, 0, none⟩ = some (.slice Ao28 t831.length co28) ∧ w'.cell? ⟨gb837, 1, none⟩ = some (.slice Ao32 t834.length co32) ∧ w'.cell? ⟨gb818, 0, none⟩ = some (.slice A0_0 l0_0.length c0_0) ∧ w'.cell? ⟨gb818, 1, none⟩ = some (.slice A0_1 l0_1.length c0_1)) (ds := []) #[false, false, false, false, false] (by kernel_rfl) rfl rfl ⟨(blk_cell Ze.out 0).trans rfl, (blk_cell Ze.out 1).trans rfl, (blk_cell Za.out 0).trans rfl, (blk_cell Za.out 1).trans rfl⟩ (fun hHeld => ?_)
      generalize wc.drew = w61 at Zc Zd Za Zb Ze Zf HB hHeld ⊢
      refine take_ (i := 0) (N := some 44) (v := ?_) (a' := ?_) #[true, false, false, false, false] rfl rfl (by kernel_rfl) (fun _ _ _ h => h) (Or.inl ⟨by rfl, ?_⟩) hHeld ?_ ?_
      rotate_left
      ·rintro w' ⟨s0, s1, s2, s3⟩
       go_simp
       with_reducible rfl
      rotate_left
      ·simp only [Act.put, zs, zz, zt, i64_w, i32_w]
       rfl
      refine take_ (i := 1) (N := some 45) (v := ?_) (a' := ?_) #[true, true, false, false, false] rfl rfl (by kernel_rfl) (fun _ _ _ h => h) (Or.inl ⟨by rfl, ?_⟩) hHeld ?_ ?_
      rotate_left
      ·rintro w' ⟨s0, s1, s2, s3⟩
       go_simp
       with_reducible rfl
      rotate_left
      ·simp only [Act.put, zs, zz, zt, i64_w, i32_w]
       rfl
      refine one_ (i := 2) (N := some 46) #[true, true, true, false, false] rfl rfl (by kernel_rfl) (by decide) (fun K hK => ?_)
      refine goes_ Try.func11 (by kernel_rfl) rfl #[.agg #[.slice A0_0 l0_0.length c0_0, .slice A0_1 l0_1.length c0_1]] (by rfl) rfl rfl zq ?_
      with_reducible refine (laws_toDisk.calls kj12 _ _ l0_0 _ _ l0_1 t844 t847 _ ?side1 ?side2 ?side3 ?side4 A58.out).mono ?_
      (case side1 => repeat (first | exact (Kd.C_below ZB.out HB.out) | (with_reducible refine Kd.C_alloc ?_ _) | (with_reducible refine Kd.C_drewN ?_ _) | (with_reducible refine Kd.C_drew ?_)))
      (case side2 => exact ZC.out)
      (case side3 => repeat (first | exact (Kd.C_below ZD.out HB.out) | (with_reducible refine Kd.C_alloc ?_ _) | (with_reducible refine Kd.C_drewN ?_ _) | (with_reducible refine Kd.C_drew ?_)))
      (case side4 => exact ZE.out)
      rintro e w62 ⟨v845, v848, rfl, ho0, ho1, hb⟩
      refine ⟨_, rfl, ?_⟩
      have n0_ := zm (Kd.R_elder' (zg_3 Zc.out) (Kd.R_base ho0) hb)
      have n1_ := zm (Kd.R_elder' (zg_3 Zd.out) (Kd.R_base ho1) hb)
      have n2_ := zm (Kd.R_lower (Kd.R_new' ho0 (Kd.R_lt (zg_3 Zc.out))) (below_size (zg_6 HB.out Zg.out Zj.out Zp.out Zr.out)))
      have n3_ := zm (Kd.R_lower (Kd.R_new' ho1 (Kd.R_lt (zg_3 Zd.out))) (below_size (zg_6 HB.out Zg.out Zj.out Zp.out Zr.out)))
      have n4_ := zm (blk_below (g := gb818) (o := .cells #[.slice A0_0 l0_0.length c0_0, .slice A0_1 l0_1.length c0_1] 25 (0, 0)) (zg_2 Za.out) hb)
      have n5_ := zm (blk_below (g := gb830) (o := .cells #[.int .i64 t826, .int .i64 t827, .int .i64 t828] 46 (0, 0)) (zg_2 Zb.out) hb)
      have n6_ := zm (blk_below (g := gb837) (o := .cells #[.slice Ao28 t831.length co28, .slice Ao32 t834.length co32] 29 (0, 0)) (zg_2 Ze.out) hb)
      have n7_ := zm (blk_below (g := gb842) (o := .cells #[.int .i64 t838, .int .i64 t839, .int .i64 t840] 46 (0, 0)) (zg_2 Zf.out) hb)
      have n8_ := zm (below_step (zg_6 HB.out Zg.out Zj.out Zp.out Zr.out) hb)
      clear Zc
      clear Zd
      clear Za
      clear Zb
      clear Ze
      clear Zf
      clear HB
      have Zc := n0_
      have Zd := n1_
      have Zt := n2_
      have Zu := n3_
      have Za := n4_
      have Zb := n5_
      have Ze := n6_
      have Zf := n7_
      have HB := n8_
      clear n0_ n1_ n2_ n3_ n4_ n5_ n6_ n7_ n8_
      (try clear hb)
      (try clear hb2)
      (try clear hk)
      (try clear hi)
      (try clear ho0)
      (try clear ho1)
      obtain ⟨Ao63, co63, eo63⟩ := Kd.R_slice Zt.out
      (first | subst eo63 | (injection eo63 with f1_ f2_ f3_; have f4_ := f1_.symm; have f5_ := f3_.symm; clear f1_ f2_ f3_; subst f4_; subst f5_))
      obtain ⟨Ao64, co64, eo64⟩ := Kd.R_slice Zu.out
      (first | subst eo64 | (injection eo64 with f1_ f2_ f3_; have f4_ := f1_.symm; have f5_ := f3_.symm; clear f1_ f2_ f3_; subst f4_; subst f5_))
      refine hK.out _ _ ⟨(blk_cell Ze.out 0).trans rfl, (blk_cell Ze.out 1).trans rfl, (blk_cell Za.out 0).trans rfl, (blk_cell Za.out 1).trans rfl⟩ (fun hHeld => ?_)
      clear hK K
      refine norm_ (a' := ?_) ?_ ?_
      rotate_left
      ·show Act.put _ (some 46) _ = _
       simp only [Act.put, zs, zz, zt, i64_w, i32_w]
       rfl
      refine one_ (i := 3) (N := some 47) #[true, true, true, true, false] rfl rfl (by kernel_rfl) (by decide) (fun K hK => ?_)
      refine goes_ Try.func13 (by kernel_rfl) rfl #[.agg #[.slice Ao28 t831.length co28, .slice Ao32 t834.length co32], .agg #[.slice Ao63 t844.length co63, .slice Ao64 t847.length co64]] (by rfl) rfl rfl zq ?_
      with_reducible refine (laws_eqDisk.calls kj12 _ _ t831 _ _ t834 _ _ t844 _ _ t847 true _ ?side1 ?side2 ?side3 ?side4 ?side5 ?side6 ?side7 ?side8 A59.out).mono ?_
      (case side1 => repeat (first | exact (Kd.R_reads' Zc.out).2.2 | (with_reducible refine Kd.C_alloc ?_ _) | (with_reducible refine Kd.C_drewN ?_ _) | (with_reducible refine Kd.C_drew ?_)))
      (case side2 => exact (Kd.R_reads' Zc.out).2.1)
      (case side3 => repeat (first | exact (Kd.R_reads' Zd.out).2.2 | (with_reducible refine Kd.C_alloc ?_ _) | (with_reducible refine Kd.C_drewN ?_ _) | (with_reducible refine Kd.C_drew ?_)))
      (case side4 => exact (Kd.R_reads' Zd.out).2.1)
      (case side5 => repeat (first | exact (Kd.R_reads' Zt.out).2.2 | (with_reducible refine Kd.C_alloc ?_ _) | (with_reducible refine Kd.C_drewN ?_ _) | (with_reducible refine Kd.C_drew ?_)))
      (case side6 => exact (Kd.R_reads' Zt.out).2.1)
      (case side7 => repeat (first | exact (Kd.R_reads' Zu.out).2.2 | (with_reducible refine Kd.C_alloc ?_ _) | (with_reducible refine Kd.C_drewN ?_ _) | (with_reducible refine Kd.C_drew ?_)))
      (case side8 => exact (Kd.R_reads' Zu.out).2.1)
      rintro e w65 ⟨rfl, hb⟩
      refine ⟨_, rfl, ?_⟩
      have n0_ := zm (Kd.R_below (zg_3 Zc.out) hb)
      have n1_ := zm (Kd.R_below (zg_3 Zd.out) hb)
      have n2_ := zm (Kd.R_below (zg_3 Zt.out) hb)
      have n3_ := zm (Kd.R_below (zg_3 Zu.out) hb)
      have n4_ := zm (blk_below (g := gb818) (o := .cells #[.slice A0_0 l0_0.length c0_0, .slice A0_1 l0_1.length c0_1] 25 (0, 0)) (zg_2 Za.out) hb)
      have n5_ := zm (blk_below (g := gb830) (o := .cells #[.int .i64 t826, .int .i64 t827, .int .i64 t828] 46 (0, 0)) (zg_2 Zb.out) hb)
      have n6_ := zm (blk_below (g := gb837) (o := .cells #[.slice Ao28 t831.length co28, .slice Ao32 t834.length co32] 29 (0, 0)) (zg_2 Ze.out) hb)
      have n7_ := zm (blk_below (g := gb842) (o := .cells #[.int .i64 t838, .int .i64 t839, .int .i64 t840] 46 (0, 0)) (zg_2 Zf.out) hb)
      have n8_ := zm (below_step (zg_6 HB.out Zg.out Zj.out Zp.out Zr.out) hb)
      clear Zc
      clear Zd
      clear Zt
      clear Zu
      clear Za
      clear Zb
      clear Ze
      clear Zf
      clear HB
      have Zc := n0_
      have Zd := n1_
      have Zt := n2_
      have Zu := n3_
      have Za := n4_
      have Zb := n5_
      have Ze := n6_
      have Zf := n7_
      have HB := n8_
      clear n0_ n1_ n2_ n3_ n4_ n5_ n6_ n7_ n8_
      (try clear hb)
      (try clear hb2)
      (try clear hk)
      (try clear hi)
      refine hK.out _ _ ⟨(blk_cell Ze.out 0).trans rfl, (blk_cell Ze.out 1).trans rfl, (blk_cell Za.out 0).trans rfl, (blk_cell Za.out 1).trans rfl⟩ (fun hHeld => ?_)
      clear hK K
      refine norm_ (a' := ?_) ?_ ?_
      rotate_left
      ·show Act.put _ (some 47) _ = _
       simp only [Act.put, zs, zz, zt, i64_w, i32_w]
       rfl
      refine pure_ (i := 4) (N := some 48) (v := ?_) (a' := ?_) #[true, true, true, true, true] rfl rfl (by kernel_rfl) (fun _ _ _ h => h) (Or.inl ⟨by rfl, ?_⟩) ?_ ?_
      rotate_left
      ·intro w'
       go_simp
       with_reducible rfl
      rotate_left
      ·simp only [Act.put, zs, zz, zt, i64_w, i32_w]
       rfl
      refine done_ (by kernel_rfl) ?_
      try go_wp2
      go_ret
      exact ⟨by first | rfl | (simp [errW_none, errW_some] <;> rfl) | (simp [*, errW_none, errW_some] <;> rfl), zg_6 HB.out Zg.out Zj.out Zp.out Zr.out⟩
     ·replace c60 := Bool.eq_false_iff.mpr c60
      subst c60
      have H1 : (some false) = some r := by rw [if_neg (show ¬ (false = true) by decide)] at H; exact H
      clear H
      have H := H1
      clear H1
      obtain rfl := Option.some.inj H
      try go_wp2
      have n0_ := zm (Kd.R_drew Zc.out)
      have n1_ := zm (Kd.R_drew Zd.out)
      have n2_ := zm (blk_drew Za.out)
      have n3_ := zm (blk_drew Zb.out)
      have n4_ := zm (blk_drew Ze.out)
      have n5_ := zm (blk_drew Zf.out)
      have n6_ := zm (below_drew1 HB.out)
      clear Zc
      clear Zd
      clear Za
      clear Zb
      clear Ze
      clear Zf
      clear HB
      have Zc := n0_
      have Zd := n1_
      have Za := n2_
      have Zb := n3_
      have Ze := n4_
      have Zf := n5_
      have HB := n6_
      clear n0_ n1_ n2_ n3_ n4_ n5_ n6_
      refine start_ (n := 5) (S := fun w' => w'.cell? ⟨gb837, 0, none⟩ = some (.slice Ao28 t831.length co28) ∧ w'.cell? ⟨gb837, 1, none⟩ = some (.slice Ao32 t834.length co32) ∧ w'.cell? ⟨gb818, 0, none⟩ = some (.slice A0_0 l0_0.length c0_0) ∧ w'.cell? ⟨gb818, 1, none⟩ = some (.slice A0_1 l0_1.length c0_1)) (ds := []) #[false, false, false, false, false] (by kernel_rfl) rfl rfl ⟨(blk_cell Ze.out 0).trans rfl, (blk_cell Ze.out 1).trans rfl, (blk_cell Za.out 0).trans rfl, (blk_cell Za.out 1).trans rfl⟩ (fun hHeld => ?_)
      generalize wc.drew = w66 at Zc Zd Za Zb Ze Zf HB hHeld ⊢
      refine take_ (i := 0) (N := some 44) (v := ?_) (a' := ?_) #[true, false, false, false, false] rfl rfl (by kernel_rfl) (fun _ _ _ h => h) (Or.inl ⟨by rfl, ?_⟩) hHeld ?_ ?_
      rotate_left
      ·rintro w' ⟨s0, s1, s2, s3⟩
       go_simp
       with_reducible rfl
      rotate_left
      ·simp only [Act.put, zs, zz, zt, i64_w, i32_w]
       rfl
      refine take_ (i := 1) (N := some 45) (v := ?_) (a' := ?_) #[true, true, false, false, false] rfl rfl (by kernel_rfl) (fun _ _ _ h => h) (Or.inl ⟨by rfl, ?_⟩) hHeld ?_ ?_
      rotate_left
      ·rintro w' ⟨s0, s1, s2, s3⟩
       go_simp
       with_reducible rfl
      rotate_left
      ·simp only [Act.put, zs, zz, zt, i64_w, i32_w]
       rfl
      refine one_ (i := 2) (N := some 46) #[true, true, true, false, false] rfl rfl (by kernel_rfl) (by decide) (fun K hK => ?_)
      refine goes_ Try.func11 (by kernel_rfl) rfl #[.agg #[.slice A0_0 l0_0.length c0_0, .slice A0_1 l0_1.length c0_1]] (by rfl) rfl rfl zq ?_
      with_reducible refine (laws_toDisk.calls kj12 _ _ l0_0 _ _ l0_1 t844 t847 _ ?side1 ?side2 ?side3 ?side4 A58.out).mono ?_
      (case side1 => repeat (first | exact (Kd.C_below ZB.out HB.out) | (with_reducible refine Kd.C_alloc ?_ _) | (with_reducible refine Kd.C_drewN ?_ _) | (with_reducible refine Kd.C_drew ?_)))
      (case side2 => exact ZC.out)
      (case side3 => repeat (first | exact (Kd.C_below ZD.out HB.out) | (with_reducible refine Kd.C_alloc ?_ _) | (with_reducible refine Kd.C_drewN ?_ _) | (with_reducible refine Kd.C_drew ?_)))
      (case side4 => exact ZE.out)
      rintro e w67 ⟨v845, v848, rfl, ho0, ho1, hb⟩
      refine ⟨_, rfl, ?_⟩
      have n0_ := zm (Kd.R_elder' (zg_3 Zc.out) (Kd.R_base ho0) hb)
      have n1_ := zm (Kd.R_elder' (zg_3 Zd.out) (Kd.R_base ho1) hb)
      have n2_ := zm (Kd.R_lower (Kd.R_new' ho0 (Kd.R_lt (zg_3 Zc.out))) (below_size (zg_6 HB.out Zg.out Zj.out Zp.out Zr.out)))
      have n3_ := zm (Kd.R_lower (Kd.R_new' ho1 (Kd.R_lt (zg_3 Zd.out))) (below_size (zg_6 HB.out Zg.out Zj.out Zp.out Zr.out)))
      have n4_ := zm (blk_below (g := gb818) (o := .cells #[.slice A0_0 l0_0.length c0_0, .slice A0_1 l0_1.length c0_1] 25 (0, 0)) (zg_2 Za.out) hb)
      have n5_ := zm (blk_below (g := gb830) (o := .cells #[.int .i64 t826, .int .i64 t827, .int .i64 t828] 46 (0, 0)) (zg_2 Zb.out) hb)
      have n6_ := zm (blk_below (g := gb837) (o := .cells #[.slice Ao28 t831.length co28, .slice Ao32 t834.length co32] 29 (0, 0)) (zg_2 Ze.out) hb)
      have n7_ := zm (blk_below (g := gb842) (o := .cells #[.int .i64 t838, .int .i64 t839, .int .i64 t840] 46 (0, 0)) (zg_2 Zf.out) hb)
      have n8_ := zm (below_step (zg_6 HB.out Zg.out Zj.out Zp.out Zr.out) hb)
      clear Zc
      clear Zd
      clear Za
      clear Zb
      clear Ze
      clear Zf
      clear HB
      have Zc := n0_
      have Zd := n1_
      have Zt := n2_
      have Zu := n3_
      have Za := n4_
      have Zb := n5_
      have Ze := n6_
      have Zf := n7_
      have HB := n8_
      clear n0_ n1_ n2_ n3_ n4_ n5_ n6_ n7_ n8_
      (try clear hb)
      (try clear hb2)
      (try clear hk)
      (try clear hi)
      (try clear ho0)
      (try clear ho1)
      obtain ⟨Ao68, co68, eo68⟩ := Kd.R_slice Zt.out
      (first | subst eo68 | (injection eo68 with f1_ f2_ f3_; have f4_ := f1_.symm; have f5_ := f3_.symm; clear f1_ f2_ f3_; subst f4_; subst f5_))
      obtain ⟨Ao69, co69, eo69⟩ := Kd.R_slice Zu.out
      (first | subst eo69 | (injection eo69 with f1_ f2_ f3_; have f4_ := f1_.symm; have f5_ := f3_.symm; clear f1_ f2_ f3_; subst f4_; subst f5_))
      refine hK.out _ _ ⟨(blk_cell Ze.out 0).trans rfl, (blk_cell Ze.out 1).trans rfl, (blk_cell Za.out 0).trans rfl, (blk_cell Za.out 1).trans rfl⟩ (fun hHeld => ?_)
      clear hK K
      refine norm_ (a' := ?_) ?_ ?_
      rotate_left
      ·show Act.put _ (some 46) _ = _
       simp only [Act.put, zs, zz, zt, i64_w, i32_w]
       rfl
      refine one_ (i := 3) (N := some 47) #[true, true, true, true, false] rfl rfl (by kernel_rfl) (by decide) (fun K hK => ?_)
      refine goes_ Try.func13 (by kernel_rfl) rfl #[.agg #[.slice Ao28 t831.length co28, .slice Ao32 t834.length co32], .agg #[.slice Ao68 t844.length co68, .slice Ao69 t847.length co69]] (by rfl) rfl rfl zq ?_
      with_reducible refine (laws_eqDisk.calls kj12 _ _ t831 _ _ t834 _ _ t844 _ _ t847 false _ ?side1 ?side2 ?side3 ?side4 ?side5 ?side6 ?side7 ?side8 A59.out).mono ?_
      (case side1 => repeat (first | exact (Kd.R_reads' Zc.out).2.2 | (with_reducible refine Kd.C_alloc ?_ _) | (with_reducible refine Kd.C_drewN ?_ _) | (with_reducible refine Kd.C_drew ?_)))
      (case side2 => exact (Kd.R_reads' Zc.out).2.1)
      (case side3 => repeat (first | exact (Kd.R_reads' Zd.out).2.2 | (with_reducible refine Kd.C_alloc ?_ _) | (with_reducible refine Kd.C_drewN ?_ _) | (with_reducible refine Kd.C_drew ?_)))
      (case side4 => exact (Kd.R_reads' Zd.out).2.1)
      (case side5 => repeat (first | exact (Kd.R_reads' Zt.out).2.2 | (with_reducible refine Kd.C_alloc ?_ _) | (with_reducible refine Kd.C_drewN ?_ _) | (with_reducible refine Kd.C_drew ?_)))
      (case side6 => exact (Kd.R_reads' Zt.out).2.1)
      (case side7 => repeat (first | exact (Kd.R_reads' Zu.out).2.2 | (with_reducible refine Kd.C_alloc ?_ _) | (with_reducible refine Kd.C_drewN ?_ _) | (with_reducible refine Kd.C_drew ?_)))
      (case side8 => exact (Kd.R_reads' Zu.out).2.1)
      rintro e w70 ⟨rfl, hb⟩
      refine ⟨_, rfl, ?_⟩
      have n0_ := zm (Kd.R_below (zg_3 Zc.out) hb)
      have n1_ := zm (Kd.R_below (zg_3 Zd.out) hb)
      have n2_ := zm (Kd.R_below (zg_3 Zt.out) hb)
      have n3_ := zm (Kd.R_below (zg_3 Zu.out) hb)
      have n4_ := zm (blk_below (g := gb818) (o := .cells #[.slice A0_0 l0_0.length c0_0, .slice A0_1 l0_1.length c0_1] 25 (0, 0)) (zg_2 Za.out) hb)
      have n5_ := zm (blk_below (g := gb830) (o := .cells #[.int .i64 t826, .int .i64 t827, .int .i64 t828] 46 (0, 0)) (zg_2 Zb.out) hb)
      have n6_ := zm (blk_below (g := gb837) (o := .cells #[.slice Ao28 t831.length co28, .slice Ao32 t834.length co32] 29 (0, 0)) (zg_2 Ze.out) hb)
      have n7_ := zm (blk_below (g := gb842) (o := .cells #[.int .i64 t838, .int .i64 t839, .int .i64 t840] 46 (0, 0)) (zg_2 Zf.out) hb)
      have n8_ := zm (below_step (zg_6 HB.out Zg.out Zj.out Zp.out Zr.out) hb)
      clear Zc
      clear Zd
      clear Zt
      clear Zu
      clear Za
      clear Zb
      clear Ze
      clear Zf
      clear HB
      have Zc := n0_
      have Zd := n1_
      have Zt := n2_
      have Zu := n3_
      have Za := n4_
      have Zb := n5_
      have Ze := n6_
      have Zf := n7_
      have HB := n8_
      clear n0_ n1_ n2_ n3_ n4_ n5_ n6_ n7_ n8_
      (try clear hb)
      (try clear hb2)
      (try clear hk)
      (try clear hi)
      refine hK.out _ _ ⟨(blk_cell Ze.out 0).trans rfl, (blk_cell Ze.out 1).trans rfl, (blk_cell Za.out 0).trans rfl, (blk_cell Za.out 1).trans rfl⟩ (fun hHeld => ?_)
      clear hK K
      refine norm_ (a' := ?_) ?_ ?_
      rotate_left
      ·show Act.put _ (some 47) _ = _
       simp only [Act.put, zs, zz, zt, i64_w, i32_w]
       rfl
      refine pure_ (i := 4) (N := some 48) (v := ?_) (a' := ?_) #[true, true, true, true, true] rfl rfl (by kernel_rfl) (fun _ _ _ h => h) (Or.inl ⟨by rfl, ?_⟩) ?_ ?_
      rotate_left
      ·intro w'
       go_simp
       with_reducible rfl
      rotate_left
      ·simp only [Act.put, zs, zz, zt, i64_w, i32_w]
       rfl
      refine done_ (by kernel_rfl) ?_
      try go_wp2
      go_ret
      exact ⟨by first | rfl | (simp [errW_none, errW_some] <;> rfl) | (simp [*, errW_none, errW_some] <;> rfl), zg_6 HB.out Zg.out Zj.out Zp.out Zr.out⟩
/-! ### Base -/
def okI (x : Int) : Prop := (Lit.int .i64 x).wf = true
def okU8 (x : Int) : Prop := (Lit.int .u8 x).wf = true
def okB (_ : Bool) : Prop := True
def okS (x : ByteArray) : Prop := x.size ≤ maxLen
theorem w64 {n : Int} (h0 : -9223372036854775808 ≤ n) (h1 : n ≤ 9223372036854775807) : wrap64 n = n := by unfold wrap64; omega
theorem okI_iff {n : Int} (h : (Lit.int .i64 n).wf = true) : -9223372036854775808 ≤ n ∧ n ≤ 9223372036854775807 := by
  simp [Lit.wf, IntKind.min, IntKind.max, IntKind.signed, IntKind.bits] at h
  omega
theorem Ev.k {α : Type} {g : Nat → Option α} {r : α} (K : Nat) (h : ∀ k, K ≤ k → g k = some r) : Ev g r := ⟨K, h⟩
theorem ev_some {α : Type} (r : α) : Ev (fun _ => some r) r := ⟨0, fun _ _ => rfl⟩
theorem ev_of_eq {α : Type} {g : Nat → Option α} {r : α} (h : ∀ k, g k = some r) : Ev g r := ⟨0, fun k _ => h k⟩
theorem ev_bind {α β : Type} {g : Nat → Option α} {f : Nat → α → Option β} {a : α} {r : β} (h : Ev g a) (k : Ev (fun n => f n a) r) : Ev (fun n => (g n).bind (f n)) r := Ev.bind h k
theorem ev_if {α : Type} {c : Prop} [Decidable c] {g f : Nat → Option α} {r : α} (h : c → Ev g r) (h' : ¬ c → Ev f r) : Ev (fun n => if c then g n else f n) r := by
  by_cases hc : c
  · simp only [if_pos hc]; exact h hc
  · simp only [if_neg hc]; exact h' hc
theorem ev_pos {α : Type} {c : Prop} [Decidable c] {g f : Nat → Option α} {r : α} (hc : c) (h : Ev g r) : Ev (fun n => if c then g n else f n) r := by
  simp only [if_pos hc]; exact h
theorem ev_neg {α : Type} {c : Prop} [Decidable c] {g f : Nat → Option α} {r : α} (hc : ¬ c) (h : Ev f r) : Ev (fun n => if c then g n else f n) r := by
  simp only [if_neg hc]; exact h
theorem strOfNums_size (l : List Int) : (strOfNums l).size = l.length := by show (List.map _ l).toArray.size = _; simp
theorem ba_size_append (a b : ByteArray) : (a ++ b).size = a.size + b.size := by simp
theorem toList_inj {a b : ByteArray} : a.toList = b.toList ↔ a = b := by
  constructor
  · intro h
    have h1 : a.data.toList = b.data.toList := by simpa [ByteArray.toList_eq] using h
    have : a.data = b.data := Array.toList_inj.1 h1
    cases a; cases b; simp_all
  · rintro rfl; rfl
/-! ### In -/
def inB (n a b : Int) : Bool := decide (a ≤ n) && decide (n ≤ b)
theorem inB_iff {n a b : Int} : inB n a b = true ↔ a ≤ n ∧ n ≤ b := by simp [inB]
theorem inB_no {n a b : Int} : inB n a b = false ↔ ¬ (a ≤ n ∧ n ≤ b) := by rw [← inB_iff]; simp
theorem l01In_eq (n a b : Int) : spec_l01In.f n a b = some (inB n a b) := by
  unfold spec_l01In.f inB; by_cases h : a ≤ n <;> simp [h]
theorem within_eq (n a b : Int) : impl_within.f n a b = some (inB n a b) := by
  unfold impl_within.f inB; by_cases h : a ≤ n <;> simp [h]
theorem and_opt {b : Bool} {c : Option Bool} {c' : Bool} (h : c = some c') : (if b = true then c else some false) = some (b && c') := by
  cases b <;> simp [h]
/-! ### First -/
theorem first1 (b : Bool) (c : Int) : impl_first.f [Any.b b, Any.n c] = some (if b = true then c else 0) := by
  unfold impl_first.f; cases b <;> simp [firstO]
theorem first2 (b b' : Bool) (c c' : Int) : impl_first.f [Any.b b, Any.n c, Any.b b', Any.n c'] = some (if b = true then c else if b' = true then c' else 0) := by
  unfold impl_first.f; cases b <;> cases b' <;> simp [firstO]
theorem first3 (b b' b'' : Bool) (c c' c'' : Int) : impl_first.f [Any.b b, Any.n c, Any.b b', Any.n c', Any.b b'', Any.n c''] = some (if b = true then c else if b' = true then c' else if b'' = true then c'' else 0) := by
  unfold impl_first.f; cases b <;> cases b' <;> cases b'' <;> simp [firstO]
theorem first4 (b b' b'' b3 : Bool) (c c' c'' c3 : Int) : impl_first.f [Any.b b, Any.n c, Any.b b', Any.n c', Any.b b'', Any.n c'', Any.b b3, Any.n c3] = some (if b = true then c else if b' = true then c' else if b'' = true then c'' else if b3 = true then c3 else 0) := by
  unfold impl_first.f; cases b <;> cases b' <;> cases b'' <;> cases b3 <;> simp [firstO]
/-! ### Mark -/
theorem ev_loop {α : Type} {g : Nat → Nat → Option α} {r : α} (n : Nat) (hend : Ev (fun k => g k n) r) (hstep : ∀ i, i < n → ∃ c, ∀ k, g (k + c) i = g k (i + 1) ∧ 1 ≤ c) : ∀ d i, i ≤ n → n - i = d → Ev (fun k => g k i) r := by
  intro d
  induction d with
  | zero =>
    intro i hi hd
    have e : i = n := by omega
    rw [e]; exact hend
  | succ d ih =>
    intro i hi hd
    obtain ⟨K, hK⟩ := ih (i + 1) (by omega) (by omega)
    obtain ⟨c, hc⟩ := hstep i (by omega)
    refine ⟨K + c, fun k hk => ?_⟩
    obtain ⟨m, rfl⟩ : ∃ m, k = m + c := ⟨k - c, by omega⟩
    show g (m + c) i = _
    rw [(hc m).1]; exact hK m (by omega)
theorem rdn (l : List Int) (i : Nat) (h : i < l.length) : rd l (i : Int) = l[i] := by simp [rd, h]
theorem wnext (i : Nat) (h : i < 1000000000000000000) : wrap64 ((i : Int) + 1) = ((i + 1 : Nat) : Int) := by rw [w64 (by omega) (by omega)]; omega
def countUp (a : Int) (n : Nat) : List Int := (List.range n).map (fun j : Nat => a + (j : Int))
theorem countUp_length (a : Int) (n : Nat) : (countUp a n).length = n := by simp [countUp]
theorem countUp_get (a : Int) (n i : Nat) (h : i < n) : (countUp a n)[i]'(by rw [countUp_length]; exact h) = a + (i : Int) := by simp [countUp]
theorem set_mid {α : Type} (l m : List α) (hlm : m.length = l.length) (i : Nat) (h : i < l.length) (x : α) (hx : m[i]'(by omega) = x) : (m.take i ++ l.drop i).set i x = m.take (i + 1) ++ l.drop (i + 1) := by
  subst hx
  rw [List.drop_eq_getElem_cons h, List.set_append_right _ _ (by rw [List.length_take]; omega)]
  have : i - (m.take i).length = 0 := by rw [List.length_take]; omega
  rw [this, List.set_cons_zero, List.take_succ_eq_append_getElem (by omega), List.append_assoc]
  rfl
/-! ### laws_markText: function 63 -/
def laws_markText.l0 : Nat → Int → ByteArray → Option (ByteArray)
  | 0, _, _ => none
  | k + 1, x0, x3 => if x0 > 0 then ((some (([(wrap64 (48 + (Int.tmod x0 10))) % 256] : List Int) : List Int)).bind fun y239 => (if (strOfNums y239).size + x3.size ≤ 9223372036854775807 then (laws_markText.l0 k (wrap64 (Int.tdiv x0 10)) ((strOfNums y239) ++ x3)) else (none))) else (if 1 + x3.size ≤ 9223372036854775807 then (some ((⟨#[109]⟩ : ByteArray) ++ x3)) else (none))
def laws_markText.f (k : Nat) (a0 : Int) : Option (ByteArray) := if a0 ≤ 0 then (some (⟨#[109, 48]⟩ : ByteArray)) else (laws_markText.l0 k a0 (⟨#[]⟩ : ByteArray))
theorem laws_markText.mono_l : ∀ k, (∀ y0 y1, LeO (laws_markText.l0 k y0 y1) (laws_markText.l0 (k + 1) y0 y1))
  | 0 => fun _ _ r h => by simp [laws_markText.l0] at h
  | k + 1 => by
    have ih0 := laws_markText.mono_l k
    · intro y0 y1
      unfold laws_markText.l0
      repeat' first
      | (with_reducible exact ih0 _ _)
      | (with_reducible exact LeO.refl _)
      | (with_reducible exact LeO.none _)
      | (with_reducible refine LeO.ite ?_ ?_)
      | (with_reducible refine LeO.bind ?_ (fun _ => ?_))
      | exact ih0 _ _
      | exact LeO.none _
      | refine LeO.ite ?_ ?_
      | refine LeO.bind ?_ (fun _ => ?_)
theorem laws_markText.mono : ∀ a0 k, LeO (laws_markText.f k a0) (laws_markText.f (k + 1) a0) := by
  intro a0 k
  have ih0 := laws_markText.mono_l k
  unfold laws_markText.f
  repeat' first
      | (with_reducible exact ih0 _ _)
      | (with_reducible exact LeO.refl _)
      | (with_reducible exact LeO.none _)
      | (with_reducible refine LeO.ite ?_ ?_)
      | (with_reducible refine LeO.bind ?_ (fun _ => ?_))
      | exact ih0 _ _
      | exact LeO.none _
      | refine LeO.ite ?_ ?_
      | refine LeO.bind ?_ (fun _ => ?_)
set_option maxHeartbeats 8000000 in
set_option maxRecDepth 100000 in
theorem laws_markText.calls (k : Nat) (a0 : Int) (r : ByteArray) (w : World) (h : laws_markText.f k a0 = some r) :
    Calls Try.prog 63 #[.int .i64 a0] w fun e w' => e = .returned (.string r) ∧ Below w.heap.size w w' := by
 have HB := zm (Below.refl w.heap.size w)
 have H : (if a0 ≤ 0 then (some (⟨#[109, 48]⟩ : ByteArray)) else (laws_markText.l0 k a0 (⟨#[]⟩ : ByteArray))) = some r := h
 clear h
 by_cases c2 : a0 ≤ 0
 ·rw [if_pos c2] at H
  have c2b0 : decide (a0 ≤ 0) = true := decide_eq_true c2
  clear c2
  obtain rfl := Option.some.inj H
  go_enter Try.func63, Try.ntmps63
  go_wp2
  go_ret
  exact ⟨by first | rfl | (simp [errW_none, errW_some] <;> rfl) | (simp [*, errW_none, errW_some] <;> rfl), zg_0 HB.out⟩
 ·rw [if_neg c2] at H
  have c2b0 : decide (a0 ≤ 0) = false := decide_eq_false c2
  clear c2
  have H' := zm H
  clear H
  go_enter Try.func63, Try.ntmps63
  go_wp2
  go_loopg [0, 3] k (fun kq v0 v3 w' => ∃ (x0_1 : Int) (x3_1 : ByteArray), v0 = .int .i64 x0_1 ∧ v3 = .string x3_1 ∧ Aside0 (laws_markText.l0 kq x0_1 x3_1 = some r) ∧ Aside0 (kq ≤ k) ∧ Aside0 (Below w.heap.size w w'))
  case atStart => exact ⟨(a0), ((⟨#[]⟩ : ByteArray)), zr, zr, H', ⟨Nat.le_refl _⟩, ⟨zg_0 HB.out⟩⟩
  case round =>
   clear H'
   try clear c2
   try clear c2b0
   try clear p2
   obtain ⟨x0_1, x3_1, rfl, rfl, HA, HK1, HB⟩ := hrel
   cases gk with
   | zero => exact absurd HA.out (by simp [laws_markText.l0])
   | succ k1 =>
    have H := HA.out
    clear HA
    simp only [laws_markText.l0] at H
    by_cases c3 : x0_1 > 0
    ·rw [if_pos c3] at H
     have c3b0 : decide (0 < x0_1) = true := decide_eq_true c3
     clear c3
     obtain ⟨y239, hy239⟩ : ∃ y_ : List Int, y_ = (([(wrap64 (48 + (Int.tmod x0_1 10))) % 256] : List Int)) := ⟨_, rfl⟩
     replace H : (if (strOfNums y239).size + x3_1.size ≤ 9223372036854775807 then (laws_markText.l0 k1 (wrap64 (Int.tdiv x0_1 10)) ((strOfNums y239) ++ x3_1)) else (none)) = some r := by first | (rw [hy239]; with_reducible exact H) | (have H2_ := (Option.bind_some _ _).symm.trans H; rw [hy239]; with_reducible exact H2_) | (have H2_ := (Option.bind_some _ _).symm.trans H; with_reducible exact H2_) | with_reducible exact H | (rw [hy239]; exact H) | exact H
     have Ny239 := zm hy239
     clear hy239
     by_cases c4 : (strOfNums y239).size + x3_1.size ≤ 9223372036854775807
     ·rw [if_pos c4] at H
      have c4b0 := eq_true c4
      have c4b1 : decide ((strOfNums y239).size + x3_1.size ≤ 9223372036854775807) = true := decide_eq_true c4
      try have c4b2 : (9223372036854775807 < (strOfNums y239).size + x3_1.size) = False := eq_false (Nat.not_lt.2 c4)
      have H' := zm H
      clear H
      go_wp2_with (first | ((with_reducible refine gate_dst (N := 12) rfl ?_); refine Kd.R_lit (Kd.int .u8) _ 5 ?hg (N := 12) ?hd (xs := ([(wrap64 (48 + (Int.tmod x0_1 10))) % 256] : List Int)) (inner := [.int .u8 ((wrap64 (48 + (Int.tmod x0_1 10))) % 256)]) (ok := fun _ => True) (okp := fun _ => True) ?hr ?hp (fun _ hk => hk) trivial (Below.refl _ _) (Nat.le_refl _) (by simp) ?_; (case hd => rfl); (case hg => rfl); (case hr => first | (go_simp; done) | (go_simp; rfl)); (case hp => exact (Reps.one (show Kd.M (Kd.int .u8) _ _ _ ((wrap64 (48 + (Int.tmod x0_1 10))) % 256) [.int .u8 ((wrap64 (48 + (Int.tmod x0_1 10))) % 256)] from rfl) (Reps.none _ _))); intro v240 w5 ho6 hb hg_ hnew_; clear hg_ hnew_; (first | rw [← Ny239.out] at ho6 | (simp only [Int.reduceToNat] at ho6; rw [← Ny239.out] at ho6)); have n0_ := zm (Kd.R_lower ho6 (below_size (zg_0 HB.out))); have n1_ := zm (below_step (zg_0 HB.out) hb); clear HB; have HO241 := n0_; have HB := n1_; clear n0_ n1_; clear hb ho6; have hcv7 := own_string (P := Try.prog) Try.underlying96 Try.underlying5 Try.underlying9 (Kd.own_of_R HO241.out)))
      go_roundg k1
      case measure => have := HK1.out; omega
      case rel => exact ⟨(wrap64 (Int.tdiv x0_1 10)), ((strOfNums y239) ++ x3_1), zr, zr, H', ⟨by have := HK1.out; omega⟩, ⟨zg_0 HB.out⟩⟩
     ·rw [if_neg c4] at H
      exact absurd H (by simp)
    ·rw [if_neg c3] at H
     have c3b0 : decide (0 < x0_1) = false := decide_eq_false c3
     clear c3
     by_cases c8 : 1 + x3_1.size ≤ 9223372036854775807
     ·rw [if_pos c8] at H
      have c8b0 := eq_true c8
      have c8b1 : decide (1 + x3_1.size ≤ 9223372036854775807) = true := decide_eq_true c8
      try have c8b2 : (9223372036854775807 < 1 + x3_1.size) = False := eq_false (Nat.not_lt.2 c8)
      obtain rfl := Option.some.inj H
      go_wp2
      go_ret
      exact ⟨by first | rfl | (simp [errW_none, errW_some] <;> rfl) | (simp [*, errW_none, errW_some] <;> rfl), zg_0 HB.out⟩
     ·rw [if_neg c8] at H
      exact absurd H (by simp)
/-! ### MarkT -/
theorem ev_down {α : Type} {g : Nat → Nat → Option α} {r : α} (n : Nat) (hend : Ev (fun k => g k n) r) (hstep : ∀ i, i < n → Ev (fun k => g k (i + 1)) r → Ev (fun k => g k i) r) : Ev (fun k => g k 0) r := by
  have : ∀ d i, i ≤ n → n - i = d → Ev (fun k => g k i) r := by
    intro d
    induction d with
    | zero => intro i hi hd; have e : i = n := by omega
              rw [e]; exact hend
    | succ d ih => intro i hi hd; exact hstep i (by omega) (ih (i + 1) (by omega) (by omega))
  exact this n 0 (by omega) (by omega)
theorem markText_from : ∀ (d : Nat) (x : Int) (t : ByteArray), 0 ≤ x → x.toNat ≤ d → (t.size : Int) + x ≤ 1000000000000000 → ∃ r, Ev (fun k => laws_markText.l0 k x t) r := by
  intro d
  induction d with
  | zero =>
    intro x t h0 hd hs
    have e : x = 0 := by omega
    subst e
    refine ⟨(⟨#[109]⟩ : ByteArray) ++ t, Ev.step (f := fun _ => some ((⟨#[109]⟩ : ByteArray) ++ t)) (fun k => ?_) (ev_some _)⟩
    simp only [laws_markText.l0]
    rw [if_neg (by omega), if_pos (by omega)]
  | succ d ih =>
    intro x t h0 hd hs
    by_cases hx : x > 0
    · have hq : Int.tdiv x 10 = x / 10 := Int.tdiv_eq_ediv_of_nonneg h0
      have h1 : 0 ≤ x / 10 := by omega
      have hz : (strOfNums [(wrap64 (48 + (Int.tmod x 10))) % 256]).size = 1 := by rw [strOfNums_size]; rfl
      have hz2 : ((strOfNums [(wrap64 (48 + (Int.tmod x 10))) % 256]) ++ t).size = 1 + t.size := by rw [ba_size_append, hz]
      obtain ⟨r, hr⟩ := ih (x / 10) ((strOfNums [(wrap64 (48 + (Int.tmod x 10))) % 256]) ++ t) h1 (by omega) (by rw [hz2]; omega)
      refine ⟨r, Ev.step (f := fun k => laws_markText.l0 k (x / 10) ((strOfNums [(wrap64 (48 + (Int.tmod x 10))) % 256]) ++ t)) (fun k => ?_) hr⟩
      simp only [laws_markText.l0, Option.bind_some]
      rw [if_pos hx, if_pos (by rw [hz]; omega), hq, w64 (n := x / 10) (by omega) (by omega)]
    · refine ⟨(⟨#[109]⟩ : ByteArray) ++ t, Ev.step (f := fun _ => some ((⟨#[109]⟩ : ByteArray) ++ t)) (fun k => ?_) (ev_some _)⟩
      simp only [laws_markText.l0]
      rw [if_neg hx, if_pos (by omega)]
theorem markText_total (n : Int) (h : n ≤ 100000000000000) : ∃ r, Ev (fun k => laws_markText.f k n) r := by
  unfold laws_markText.f
  by_cases hn : n ≤ 0
  · exact ⟨_, ev_pos hn (ev_some _)⟩
  · obtain ⟨r, hr⟩ := markText_from n.toNat n (⟨#[]⟩ : ByteArray) (by omega) (by omega) (by show ((0 : Nat) : Int) + n ≤ _; omega)
    exact ⟨r, ev_neg hn hr⟩
open Classical in
noncomputable def mText (n : Int) : ByteArray := if h : ∃ r, Ev (fun k => laws_markText.f k n) r then h.choose else ByteArray.empty
theorem mText_ev (n : Int) (h : n ≤ 100000000000000) : Ev (fun k => laws_markText.f k n) (mText n) := by
  have := markText_total n h
  unfold mText
  rw [dif_pos this]; exact this.choose_spec
/-! ### Ev -/
theorem Ev.succ {α : Type} {g : Nat → Option α} {r : α} (h : Ev (fun k => g (k + 1)) r) : Ev g r := Ev.step (f := fun k => g (k + 1)) (fun _ => rfl) h
theorem ev_all {α : Type} {g : Nat → Nat → Option Bool} (l : List α) (q : α → Bool) (r : Bool) (hend : Ev (fun k => g k l.length) r) (hstep : ∀ i (h : i < l.length) k, g (k + 1) i = if q l[i] = true then g k (i + 1) else some false) : Ev (fun k => g k 0) (l.all q && r) := by
  have hgo : ∀ d i, i ≤ l.length → l.length - i = d → Ev (fun k => g k i) ((l.drop i).all q && r) := by
    intro d
    induction d with
    | zero =>
      intro i hi hd
      have e : i = l.length := by omega
      subst e
      rw [List.drop_of_length_le (by omega)]; simp only [List.all_nil, Bool.true_and]; exact hend
    | succ d ih =>
      intro i hi hd
      have hlt : i < l.length := by omega
      refine Ev.step (f := fun k => if q l[i] = true then g k (i + 1) else some false) (hstep i hlt) ?_
      rw [List.drop_eq_getElem_cons hlt, List.all_cons]
      cases hq : q l[i]
      · simp only [Bool.false_and, Bool.false_eq_true, if_false]; exact ev_some _
      · simp only [Bool.true_and, if_true]; exact ih (i + 1) (by omega) (by omega)
  have := hgo l.length 0 (by omega) (by omega)
  rwa [List.drop_zero] at this
theorem ev_asks {α β : Type} {g : Nat → Nat → Option β} (l : List α) (q : α → Bool) (r bad : β) (hend : Ev (fun k => g k l.length) r) (hstep : ∀ i (h : i < l.length) k, g (k + 1) i = if q l[i] = true then g k (i + 1) else some bad) : Ev (fun k => g k 0) (if l.all q = true then r else bad) := by
  have hgo : ∀ d i, i ≤ l.length → l.length - i = d → Ev (fun k => g k i) (if (l.drop i).all q = true then r else bad) := by
    intro d
    induction d with
    | zero =>
      intro i hi hd
      have e : i = l.length := by omega
      subst e
      rw [List.drop_of_length_le (by omega)]; simp only [List.all_nil, if_true]; exact hend
    | succ d ih =>
      intro i hi hd
      have hlt : i < l.length := by omega
      refine Ev.step (f := fun k => if q l[i] = true then g k (i + 1) else some bad) (hstep i hlt) ?_
      rw [List.drop_eq_getElem_cons hlt, List.all_cons]
      cases hq : q l[i]
      · simp only [Bool.false_and, Bool.false_eq_true, if_false]; exact ev_some _
      · simp only [Bool.true_and, if_true]; exact ih (i + 1) (by omega) (by omega)
  have := hgo l.length 0 (by omega) (by omega)
  rwa [List.drop_zero] at this
/-! ### laws_heldStringS: function 40 -/
def laws_heldStringS.l0 : Nat → List ByteArray → Int → Int → Option (Int)
  | 0, _, _, _ => none
  | k + 1, x0, x1, x5 => if x5 < (x0.length : Int) then (if 0 ≤ x5 then ((laws_markText.f k x1).bind fun t254 => (if (rdOf ByteArray.empty x0 x5).toList = t254.toList then (laws_heldStringS.l0 k x0 (wrap64 (x1 + 1)) (wrap64 (x5 + 1))) else (some (-1)))) else (none)) else (some x1)
def laws_heldStringS.f (k : Nat) (l0 : List ByteArray) (a1 : Int) : Option (Int) := laws_heldStringS.l0 k l0 a1 0
theorem laws_heldStringS.mono_l : ∀ k, (∀ y0 y1 y2, LeO (laws_heldStringS.l0 k y0 y1 y2) (laws_heldStringS.l0 (k + 1) y0 y1 y2))
  | 0 => fun _ _ _ r h => by simp [laws_heldStringS.l0] at h
  | k + 1 => by
    have ih0 := laws_heldStringS.mono_l k
    · intro y0 y1 y2
      unfold laws_heldStringS.l0
      repeat' first
      | (with_reducible exact ih0 _ _ _)
      | (with_reducible exact laws_markText.mono _ _)
      | (with_reducible exact LeO.refl _)
      | (with_reducible exact LeO.none _)
      | (with_reducible refine LeO.ite ?_ ?_)
      | (with_reducible refine LeO.bind ?_ (fun _ => ?_))
      | exact ih0 _ _ _
      | exact laws_markText.mono _ _
      | exact LeO.none _
      | refine LeO.ite ?_ ?_
      | refine LeO.bind ?_ (fun _ => ?_)
theorem laws_heldStringS.mono : ∀ a0 a1 k, LeO (laws_heldStringS.f k a0 a1) (laws_heldStringS.f (k + 1) a0 a1) := by
  intro a0 a1 k
  have ih0 := laws_heldStringS.mono_l k
  unfold laws_heldStringS.f
  repeat' first
      | (with_reducible exact ih0 _ _ _)
      | (with_reducible exact laws_markText.mono _ _)
      | (with_reducible exact LeO.refl _)
      | (with_reducible exact LeO.none _)
      | (with_reducible refine LeO.ite ?_ ?_)
      | (with_reducible refine LeO.bind ?_ (fun _ => ?_))
      | exact ih0 _ _ _
      | exact laws_markText.mono _ _
      | exact LeO.none _
      | refine LeO.ite ?_ ?_
      | refine LeO.bind ?_ (fun _ => ?_)
set_option maxHeartbeats 8000000 in
set_option maxRecDepth 100000 in
theorem laws_heldStringS.calls (k : Nat) (A0 : Option Addr) (c0 : Nat) (l0 : List ByteArray) (a1 : Int) (r : Int) (w : World) (hr0 : Kd.C Kd.string w A0 l0.length l0) (hc0 : l0.length ≤ c0) (h : laws_heldStringS.f k l0 a1 = some r) :
    Calls Try.prog 40 #[.slice A0 l0.length c0, .int .i64 a1] w fun e w' => e = .returned (.int .i64 r) ∧ Below w.heap.size w w' := by
 have HR0 := zm hr0
 have HC0 := zm hc0
 clear hr0 hc0
 have HB := zm (Below.refl w.heap.size w)
 have H : (laws_heldStringS.l0 k l0 a1 0) = some r := h
 clear h
 have H' := zm H
 clear H
 go_enter Try.func40, Try.ntmps40
 go_wp2
 go_loopg [1, 5] k (fun kq v1 v5 w' => ∃ (x1_1 : Int) (x5_1 : Int), v1 = .int .i64 x1_1 ∧ v5 = .int .i64 x5_1 ∧ Aside0 (laws_heldStringS.l0 kq l0 x1_1 x5_1 = some r) ∧ Aside0 (kq ≤ k) ∧ Aside0 (Below w.heap.size w w'))
 case atStart => exact ⟨(a1), (0), zr, zr, H', ⟨Nat.le_refl _⟩, ⟨zg_0 HB.out⟩⟩
 case round =>
  clear H'
  try clear p2
  obtain ⟨x1_1, x5_1, rfl, rfl, HA, HK1, HB⟩ := hrel
  cases gk with
  | zero => exact absurd HA.out (by simp [laws_heldStringS.l0])
  | succ k1 =>
   have H := HA.out
   clear HA
   simp only [laws_heldStringS.l0] at H
   by_cases c3 : x5_1 < (l0.length : Int)
   ·rw [if_pos c3] at H
    have c3b0 : decide (x5_1 < (l0.length : Int)) = true := decide_eq_true c3
    clear c3
    by_cases c4 : 0 ≤ x5_1
    ·rw [if_pos c4] at H
     have c4b0 : decide (0 ≤ x5_1) = true := decide_eq_true c4
     clear c4
     replace H := Option.bind_eq_some_iff.mp H
     obtain ⟨t254, A50, H⟩ := H
     replace H : (if (rdOf ByteArray.empty l0 x5_1).toList = t254.toList then (laws_heldStringS.l0 k1 l0 (wrap64 (x1_1 + 1)) (wrap64 (x5_1 + 1))) else (some (-1))) = some r := H
     have A5 := zm A50
     clear A50
     by_cases c6 : (rdOf ByteArray.empty l0 x5_1).toList = t254.toList
     ·rw [if_pos c6] at H
      have c6b0 : ((rdOf ByteArray.empty l0 x5_1).toList == t254.toList) = true := beq_iff_eq.mpr c6
      have c6b1 : ((rdOf ByteArray.empty l0 x5_1).toList != t254.toList) = false := bne_eq_false_iff_eq.mpr c6
      clear c6
      have H' := zm H
      clear H
      try go_wp2
      have n0_ := zm (below_drew1 HB.out)
      clear HB
      have HB := n0_
      clear n0_
      have p253 : 0 ≤ (x5_1 : Int) := of_decide_eq_true (by first | (with_reducible assumption) | assumption)
      have q253 : x5_1 < (l0.length : Int) := of_decide_eq_true (by first | (with_reducible assumption) | assumption)
      obtain ⟨ad253, e253, hx253_0⟩ := Kd.at_string HR0.out x5_1 p253 q253
      have hw253_0 := hx253_0
      cases e253
      replace hx253_0 := (HB.out.cell (World.block_lt_of_cell? w _ hx253_0)).trans hx253_0
      replace p253 := eq_true p253
      replace q253 := eq_true q253
      refine start_ (n := 7) (S := fun w' => w'.cell? (ad253.add (x5_1).toNat) = some (.string (rdOf ByteArray.empty l0 x5_1))) (ds := []) #[false, false, false, false, false, false, false] (by kernel_rfl) rfl rfl (((HB.out.cell (World.block_lt_of_cell? w _ hw253_0)).trans hw253_0)) (fun hHeld => ?_)
      generalize wr.drew = w7 at HB hx253_0 hHeld ⊢
      refine pure_ (i := 0) (N := some 12) (v := ?_) (a' := ?_) #[true, false, false, false, false, false, false] rfl rfl (by kernel_rfl) (fun _ _ _ h => h) (Or.inl ⟨by rfl, ?_⟩) ?_ ?_
      rotate_left
      ·intro w'
       go_simp
       with_reducible rfl
      rotate_left
      ·simp only [Act.put, zs, zz, zt, i64_w, i32_w]
       rfl
      refine pure_ (i := 1) (N := some 13) (v := ?_) (a' := ?_) #[true, true, false, false, false, false, false] rfl rfl (by kernel_rfl) (fun _ _ _ h => h) (Or.inl ⟨by rfl, ?_⟩) ?_ ?_
      rotate_left
      ·intro w'
       go_simp
       with_reducible rfl
      rotate_left
      ·simp only [Act.put, zs, zz, zt, i64_w, i32_w]
       rfl
      refine pure_ (i := 2) (N := some 14) (v := ?_) (a' := ?_) #[true, true, true, false, false, false, false] rfl rfl (by kernel_rfl) (fun _ _ _ h => h) (Or.inl ⟨by rfl, ?_⟩) ?_ ?_
      rotate_left
      ·intro w'
       go_simp
       with_reducible rfl
      rotate_left
      ·simp only [Act.put, zs, zz, zt, i64_w, i32_w]
       rfl
      refine pure_ (i := 4) (N := some 16) (v := ?_) (a' := ?_) #[true, true, true, false, true, false, false] rfl rfl (by kernel_rfl) (fun _ _ _ h => h) (Or.inl ⟨by rfl, ?_⟩) ?_ ?_
      rotate_left
      ·intro w'
       go_simp
       with_reducible rfl
      rotate_left
      ·simp only [Act.put, zs, zz, zt, i64_w, i32_w]
       rfl
      refine take_ (i := 3) (N := some 15) (v := ?_) (a' := ?_) #[true, true, true, true, true, false, false] rfl rfl (by kernel_rfl) (fun _ _ _ h => h) (Or.inl ⟨by rfl, ?_⟩) hHeld ?_ ?_
      rotate_left
      ·intro w' s0
       go_simp
       with_reducible rfl
      rotate_left
      ·simp only [Act.put, zs, zz, zt, i64_w, i32_w]
       rfl
      refine one_ (i := 5) (N := some 17) #[true, true, true, true, true, true, false] rfl rfl (by kernel_rfl) (by decide) (fun K hK => ?_)
      refine goes_ Try.func63 (by kernel_rfl) rfl #[.int .i64 x1_1] (by rfl) rfl rfl zq ?_
      with_reducible refine (laws_markText.calls k1 x1_1 t254 _ A5.out).mono ?_
      rintro e w8 ⟨rfl, hb⟩
      refine ⟨_, rfl, ?_⟩
      have n0_ := zm (below_step (zg_0 HB.out) hb)
      clear HB
      have HB := n0_
      clear n0_
      (try clear hb)
      (try clear hb2)
      (try clear hk)
      (try clear hi)
      refine hK.out _ _ (((HB.out.cell (World.block_lt_of_cell? w _ hw253_0)).trans hw253_0)) (fun hHeld => ?_)
      clear hK K
      refine norm_ (a' := ?_) ?_ ?_
      rotate_left
      ·show Act.put _ (some 17) _ = _
       simp only [Act.put, zs, zz, zt, i64_w, i32_w]
       rfl
      refine pure_ (i := 6) (N := some 18) (v := ?_) (a' := ?_) #[true, true, true, true, true, true, true] rfl rfl (by kernel_rfl) (fun _ _ _ h => h) (Or.inl ⟨by rfl, ?_⟩) ?_ ?_
      rotate_left
      ·intro w'
       go_simp
       with_reducible rfl
      rotate_left
      ·simp only [Act.put, zs, zz, zt, i64_w, i32_w]
       rfl
      refine done_ (by kernel_rfl) ?_
      try go_wp2
      go_roundg k1
      case measure => have := HK1.out; omega
      case rel => exact ⟨(wrap64 (x1_1 + 1)), (wrap64 (x5_1 + 1)), zr, zr, H', ⟨by have := HK1.out; omega⟩, ⟨zg_0 HB.out⟩⟩
     ·rw [if_neg c6] at H
      have c6b0 : ((rdOf ByteArray.empty l0 x5_1).toList == t254.toList) = false := beq_eq_false_iff_ne.mpr c6
      have c6b1 : ((rdOf ByteArray.empty l0 x5_1).toList != t254.toList) = true := bne_iff_ne.mpr c6
      obtain rfl := Option.some.inj H
      try go_wp2
      have n0_ := zm (below_drew1 HB.out)
      clear HB
      have HB := n0_
      clear n0_
      have p253 : 0 ≤ (x5_1 : Int) := of_decide_eq_true (by first | (with_reducible assumption) | assumption)
      have q253 : x5_1 < (l0.length : Int) := of_decide_eq_true (by first | (with_reducible assumption) | assumption)
      obtain ⟨ad253, e253, hx253_0⟩ := Kd.at_string HR0.out x5_1 p253 q253
      have hw253_0 := hx253_0
      cases e253
      replace hx253_0 := (HB.out.cell (World.block_lt_of_cell? w _ hx253_0)).trans hx253_0
      replace p253 := eq_true p253
      replace q253 := eq_true q253
      refine start_ (n := 7) (S := fun w' => w'.cell? (ad253.add (x5_1).toNat) = some (.string (rdOf ByteArray.empty l0 x5_1))) (ds := []) #[false, false, false, false, false, false, false] (by kernel_rfl) rfl rfl (((HB.out.cell (World.block_lt_of_cell? w _ hw253_0)).trans hw253_0)) (fun hHeld => ?_)
      generalize wr.drew = w9 at HB hx253_0 hHeld ⊢
      refine pure_ (i := 0) (N := some 12) (v := ?_) (a' := ?_) #[true, false, false, false, false, false, false] rfl rfl (by kernel_rfl) (fun _ _ _ h => h) (Or.inl ⟨by rfl, ?_⟩) ?_ ?_
      rotate_left
      ·intro w'
       go_simp
       with_reducible rfl
      rotate_left
      ·simp only [Act.put, zs, zz, zt, i64_w, i32_w]
       rfl
      refine pure_ (i := 1) (N := some 13) (v := ?_) (a' := ?_) #[true, true, false, false, false, false, false] rfl rfl (by kernel_rfl) (fun _ _ _ h => h) (Or.inl ⟨by rfl, ?_⟩) ?_ ?_
      rotate_left
      ·intro w'
       go_simp
       with_reducible rfl
      rotate_left
      ·simp only [Act.put, zs, zz, zt, i64_w, i32_w]
       rfl
      refine pure_ (i := 2) (N := some 14) (v := ?_) (a' := ?_) #[true, true, true, false, false, false, false] rfl rfl (by kernel_rfl) (fun _ _ _ h => h) (Or.inl ⟨by rfl, ?_⟩) ?_ ?_
      rotate_left
      ·intro w'
       go_simp
       with_reducible rfl
      rotate_left
      ·simp only [Act.put, zs, zz, zt, i64_w, i32_w]
       rfl
      refine pure_ (i := 4) (N := some 16) (v := ?_) (a' := ?_) #[true, true, true, false, true, false, false] rfl rfl (by kernel_rfl) (fun _ _ _ h => h) (Or.inl ⟨by rfl, ?_⟩) ?_ ?_
      rotate_left
      ·intro w'
       go_simp
       with_reducible rfl
      rotate_left
      ·simp only [Act.put, zs, zz, zt, i64_w, i32_w]
       rfl
      refine take_ (i := 3) (N := some 15) (v := ?_) (a' := ?_) #[true, true, true, true, true, false, false] rfl rfl (by kernel_rfl) (fun _ _ _ h => h) (Or.inl ⟨by rfl, ?_⟩) hHeld ?_ ?_
      rotate_left
      ·intro w' s0
       go_simp
       with_reducible rfl
      rotate_left
      ·simp only [Act.put, zs, zz, zt, i64_w, i32_w]
       rfl
      refine one_ (i := 5) (N := some 17) #[true, true, true, true, true, true, false] rfl rfl (by kernel_rfl) (by decide) (fun K hK => ?_)
      refine goes_ Try.func63 (by kernel_rfl) rfl #[.int .i64 x1_1] (by rfl) rfl rfl zq ?_
      with_reducible refine (laws_markText.calls k1 x1_1 t254 _ A5.out).mono ?_
      rintro e w10 ⟨rfl, hb⟩
      refine ⟨_, rfl, ?_⟩
      have n0_ := zm (below_step (zg_0 HB.out) hb)
      clear HB
      have HB := n0_
      clear n0_
      (try clear hb)
      (try clear hb2)
      (try clear hk)
      (try clear hi)
      refine hK.out _ _ (((HB.out.cell (World.block_lt_of_cell? w _ hw253_0)).trans hw253_0)) (fun hHeld => ?_)
      clear hK K
      refine norm_ (a' := ?_) ?_ ?_
      rotate_left
      ·show Act.put _ (some 17) _ = _
       simp only [Act.put, zs, zz, zt, i64_w, i32_w]
       rfl
      refine pure_ (i := 6) (N := some 18) (v := ?_) (a' := ?_) #[true, true, true, true, true, true, true] rfl rfl (by kernel_rfl) (fun _ _ _ h => h) (Or.inl ⟨by rfl, ?_⟩) ?_ ?_
      rotate_left
      ·intro w'
       go_simp
       with_reducible rfl
      rotate_left
      ·simp only [Act.put, zs, zz, zt, i64_w, i32_w]
       rfl
      refine done_ (by kernel_rfl) ?_
      try go_wp2
      go_ret
      exact ⟨by first | rfl | (simp [errW_none, errW_some] <;> rfl) | (simp [*, errW_none, errW_some] <;> rfl), zg_0 HB.out⟩
    ·rw [if_neg c4] at H
     exact absurd H (by simp)
   ·rw [if_neg c3] at H
    have c3b0 : decide (x5_1 < (l0.length : Int)) = false := decide_eq_false c3
    clear c3
    obtain rfl := Option.some.inj H
    go_wp2
    go_ret
    exact ⟨by first | rfl | (simp [errW_none, errW_some] <;> rfl) | (simp [*, errW_none, errW_some] <;> rfl), zg_0 HB.out⟩
/-! ### laws_markStringS: function 38 -/
def laws_markStringS.l0 : Nat → List ByteArray → Int → Int → Option (Int × List ByteArray)
  | 0, _, _, _ => none
  | k + 1, x0, x1, x5 => if x5 < (x0.length : Int) then ((laws_markText.f k x1).bind fun t242 => (if 0 ≤ x5 then (laws_markStringS.l0 k (x0.set (x5 : Int).toNat t242) (wrap64 (x1 + 1)) (wrap64 (x5 + 1))) else (none))) else (some (x1, x0))
def laws_markStringS.f (k : Nat) (l0 : List ByteArray) (a1 : Int) : Option (Int × List ByteArray) := laws_markStringS.l0 k l0 a1 0
theorem laws_markStringS.mono_l : ∀ k, (∀ y0 y1 y2, LeO (laws_markStringS.l0 k y0 y1 y2) (laws_markStringS.l0 (k + 1) y0 y1 y2))
  | 0 => fun _ _ _ r h => by simp [laws_markStringS.l0] at h
  | k + 1 => by
    have ih0 := laws_markStringS.mono_l k
    · intro y0 y1 y2
      unfold laws_markStringS.l0
      repeat' first
      | (with_reducible exact ih0 _ _ _)
      | (with_reducible exact laws_markText.mono _ _)
      | (with_reducible exact LeO.refl _)
      | (with_reducible exact LeO.none _)
      | (with_reducible refine LeO.ite ?_ ?_)
      | (with_reducible refine LeO.bind ?_ (fun _ => ?_))
      | exact ih0 _ _ _
      | exact laws_markText.mono _ _
      | exact LeO.none _
      | refine LeO.ite ?_ ?_
      | refine LeO.bind ?_ (fun _ => ?_)
theorem laws_markStringS.mono : ∀ a0 a1 k, LeO (laws_markStringS.f k a0 a1) (laws_markStringS.f (k + 1) a0 a1) := by
  intro a0 a1 k
  have ih0 := laws_markStringS.mono_l k
  unfold laws_markStringS.f
  repeat' first
      | (with_reducible exact ih0 _ _ _)
      | (with_reducible exact laws_markText.mono _ _)
      | (with_reducible exact LeO.refl _)
      | (with_reducible exact LeO.none _)
      | (with_reducible refine LeO.ite ?_ ?_)
      | (with_reducible refine LeO.bind ?_ (fun _ => ?_))
      | exact ih0 _ _ _
      | exact laws_markText.mono _ _
      | exact LeO.none _
      | refine LeO.ite ?_ ?_
      | refine LeO.bind ?_ (fun _ => ?_)
set_option maxHeartbeats 8000000 in
set_option maxRecDepth 100000 in
theorem laws_markStringS.calls (k : Nat) (P0_ : Nat → Prop) (u9000_ : Value) (l0 : List ByteArray) (a1 : Int) (r1 : Int) (r2 : List ByteArray) (w0 w : World) (hB : Below w0.heap.size w0 w) (ho0 : Kd.R Kd.string 9 w w0.heap.size P0_ u9000_ l0) (h : laws_markStringS.f k l0 a1 = some (r1, r2)) :
    Calls Try.prog 38 #[u9000_, .int .i64 a1] w fun e w' => e = .returned (.int .i64 r1) ∧ Kd.R Kd.string 9 w' w0.heap.size (fun k_ => (P0_ k_ ∨ w.heap.size ≤ k_)) u9000_ r2 ∧ Below w0.heap.size w0 w' ∧ Kept w w' (fun k_ => P0_ k_) := by
 have HO0 := zm (show Kd.R Kd.string 9 w w0.heap.size (fun k_ => (P0_ k_ ∨ w.heap.size ≤ k_)) u9000_ l0 from Kd.R_mono ho0 (fun k_ hk => (.inl hk)))
 have HK := zm (Kept.refl w (fun k_ => P0_ k_))
 have HW0 := zm hB.size
 have HB := zm hB
 clear hB
 have H : (laws_markStringS.l0 k l0 a1 0) = some (r1, r2) := h
 clear h
 have H' := zm H
 clear H
 go_enter Try.func38, Try.ntmps38
 go_wp2
 go_loopg [1, 5] k (fun kq v1 v5 w' => ∃ (x0_1 : List ByteArray) (x1_1 : Int) (x5_1 : Int), v1 = .int .i64 x1_1 ∧ v5 = .int .i64 x5_1 ∧ Aside0 (laws_markStringS.l0 kq x0_1 x1_1 x5_1 = some (r1, r2)) ∧ Aside0 (kq ≤ k) ∧ Aside0 (Kd.R Kd.string 9 w' w0.heap.size (fun k_ => (P0_ k_ ∨ w.heap.size ≤ k_)) u9000_ x0_1) ∧ Aside0 (Kept w w' (fun k_ => P0_ k_)) ∧ Aside0 (Below w0.heap.size w0 w'))
 case atStart => exact ⟨(l0), (a1), (0), zr, zr, H', ⟨Nat.le_refl _⟩, ⟨by (with_reducible repeat (first | apply Kd.R_alloc | apply Kd.R_drewN | apply Kd.R_drew)); exact HO0.out⟩, ⟨zg_7 HK.out⟩, ⟨zg_0 HB.out⟩⟩
 case round =>
  clear H'
  try clear p2
  obtain ⟨x0_1, x1_1, x5_1, rfl, rfl, HA, HK1, Za, HK, HB⟩ := hrel
  cases gk with
  | zero => exact absurd HA.out (by simp [laws_markStringS.l0])
  | succ k1 =>
   have H := HA.out
   clear HA
   simp only [laws_markStringS.l0] at H
   by_cases c3 : x5_1 < (x0_1.length : Int)
   ·rw [if_pos c3] at H
    have c3b0 : decide (x5_1 < (x0_1.length : Int)) = true := decide_eq_true c3
    clear c3
    replace H := Option.bind_eq_some_iff.mp H
    obtain ⟨t242, A40, H⟩ := H
    replace H : (if 0 ≤ x5_1 then (laws_markStringS.l0 k1 (x0_1.set (x5_1 : Int).toNat t242) (wrap64 (x1_1 + 1)) (wrap64 (x5_1 + 1))) else (none)) = some (r1, r2) := H
    have A4 := zm A40
    clear A40
    by_cases c5 : 0 ≤ x5_1
    ·rw [if_pos c5] at H
     have c5b0 : decide (0 ≤ x5_1) = true := decide_eq_true c5
     clear c5
     obtain ⟨y243, hy243⟩ : ∃ y_ : List ByteArray, y_ = (x0_1.set (x5_1 : Int).toNat t242) := ⟨_, rfl⟩
     replace H : (laws_markStringS.l0 k1 y243 (wrap64 (x1_1 + 1)) (wrap64 (x5_1 + 1))) = some (r1, r2) := by first | (rw [hy243]; with_reducible exact H) | (have H2_ := (Option.bind_some _ _).symm.trans H; rw [hy243]; with_reducible exact H2_) | (have H2_ := (Option.bind_some _ _).symm.trans H; with_reducible exact H2_) | with_reducible exact H | (rw [hy243]; exact H) | exact H
     have Ny243 := zm hy243
     clear hy243
     have H' := zm H
     clear H
     obtain ⟨Ao7, co7, eo7⟩ := Kd.R_slice Za.out
     subst eo7
     go_wp2_with (first | ((with_reducible refine gate_callee (f := 63) rfl ?_); refine goesL_ (some 15) rfl rfl Try.func63 (by kernel_rfl) rfl #[.int .i64 x1_1] rfl zq ?_; (with_reducible refine (laws_markText.calls k1 x1_1 t242 _ A4.out).mono ?_); rintro e w8 ⟨rfl, hb⟩; refine ⟨_, rfl, ?_⟩; have n0_ := zm (Kd.R_below (zg_3 Za.out) hb); have n1_ := zm (Kept.below (S := (fun k_ => P0_ k_)) (zg_7 HK.out) hb); have n2_ := zm (below_step (zg_0 HB.out) hb); clear Za; clear HK; clear HB; have Za := n0_; have HK := n1_; have HB := n2_; clear n0_ n1_ n2_; (try clear hb); (try clear hb2); (try clear hk); (try clear hi); have p6 : 0 ≤ (x5_1 : Int) := of_decide_eq_true (by first | (with_reducible assumption) | assumption); have q6 : (x5_1 : Int) < ((x0_1.length : Int) : Int) := of_decide_eq_true (by first | (with_reducible assumption) | assumption); obtain ⟨go6, co6, eo6, gb6, gl6, cl6, HG6⟩ := Kd.R_form Za.out (by omega); (first | cases eo6 | (injection eo6 with ea_ en_ ec_; (first | subst ea_ | (injection ea_ with ea_; subst ea_)); subst ec_; clear en_)); have GB6 := zm gb6; have GG6 := zm HG6; clear gb6 gl6 HG6; have HMgo6 := zm (show (P0_ go6 ∨ w.heap.size ≤ go6) from (Za.out.1 _ rfl)); obtain ⟨hx6_0, hf6_0⟩ := Kd.R_celln (⟨#[]⟩ : ByteArray) Za.out (x5_1 : Int) p6 q6; replace p6 := eq_true p6; replace q6 := eq_true q6; obtain ⟨hy9_, hz9_⟩ := Kd.R_celln (⟨#[]⟩ : ByteArray) Za.out (x5_1 : Int) (of_decide_eq_true (by first | (with_reducible assumption) | assumption)) (of_decide_eq_true (by first | (with_reducible assumption) | assumption)); have HP9 := Kd.R_putg Za.out (x5_1 : Int) t242) | ((with_reducible refine gate_store (t := 9) (p := 16) rfl ?_); refine store_event (t := 9) (p := 16) (v := ?vo_w10) (w1 := (w8.setCell ⟨go6, (x5_1 : Int).toNat, none⟩ (.string t242))) ?hg ?ho ?hn ?hr ?_; (case ho => rfl); (case hg => rfl); (case hn => rfl); (case hr => first | (go_simp; done) | (go_simp; rfl)); intro w10 hw; have hg : w8.grownBy w10 (some go6) := (by rw [hw]; exact HP9.2); have hp_ : Kd.R Kd.string 9 w10 w0.heap.size (fun k_ => (P0_ k_ ∨ w.heap.size ≤ k_)) (.slice (some ⟨go6, 0, none⟩) x0_1.length co7) y243 := (by rw [hw, Ny243.out]; exact HP9.1); clear HP9; have n0_ := zm (hp_); have n1_ := zm ((by rw [hw]; exact below_set (HB.out) GB6.out : Below w0.heap.size w0 w10)); have n2_ := zm (Kept.of_grown (S := (fun k_ => P0_ k_)) hg (zg_7 HK.out) (fun k_ e_ => (Za.out.1 k_ e_))); clear Za; clear HB; clear HK; have Za := n0_; have HB := n1_; have HK := n2_; clear n0_ n1_ n2_; clear hg hw hp_))
     go_roundg k1
     case measure => have := HK1.out; omega
     case rel => exact ⟨(y243), (wrap64 (x1_1 + 1)), (wrap64 (x5_1 + 1)), zr, zr, H', ⟨by have := HK1.out; omega⟩, ⟨by (with_reducible repeat (first | apply Kd.R_alloc | apply Kd.R_drewN | apply Kd.R_drew)); exact Za.out⟩, ⟨zg_7 HK.out⟩, ⟨zg_0 HB.out⟩⟩
    ·rw [if_neg c5] at H
     exact absurd H (by simp)
   ·rw [if_neg c3] at H
    have c3b0 : decide (x5_1 < (x0_1.length : Int)) = false := decide_eq_false c3
    clear c3
    simp only [Option.some.injEq, Prod.mk.injEq] at H
    obtain ⟨rfl, rfl⟩ := H
    obtain ⟨Ao11, co11, eo11⟩ := Kd.R_slice Za.out
    subst eo11
    go_wp2
    go_ret
    exact ⟨by first | rfl | (simp [errW_none, errW_some] <;> rfl) | (simp [*, errW_none, errW_some] <;> rfl), by (with_reducible repeat (first | apply Kd.R_alloc | apply Kd.R_drewN | apply Kd.R_drew)); exact Za.out, zg_0 HB.out, zg_7 HK.out⟩
end Go.Proofs.Ytadelojhfepkeaa.Q
