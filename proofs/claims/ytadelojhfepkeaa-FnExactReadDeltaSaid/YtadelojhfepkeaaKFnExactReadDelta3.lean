/- What laws.FnExactReadDelta reaches, part 3: the functions as Lean functions, the proofs that the program's functions answer so, and plain laws about them. -/
import Derived.Test.YtadelojhfepkeaaKFnExactReadDelta1
import Derived.Test.YtadelojhfepkeaaKFnExactReadDelta2
namespace Go.Proofs.Ytadelojhfepkeaa.Q
open Go.RowKit Go.Proofs.Ytadelojhfepkeaa.Ext Go.Proofs.YtadelojhfepkeaaW.PrintWords Go.Proofs.YtadelojhfepkeaaW.PrintLast Go.Proofs.YtadelojhfepkeaaW.PrintMore
attribute [local go_sem] max2_int min2_int max_two min_two max_three min_three max_four min_four   -- for this text's walks alone
set_option linter.unusedVariables false
set_option linter.unusedSimpArgs false

set_option linter.unusedVariables false
set_option linter.unusedSimpArgs false
/-! ### impl_Disk_delta: function 56 -/
def impl_Disk_delta.f (k : Nat) (l0_0 : List ByteArray) (l0_1 : List (S76)) (a1 : Int) (a2 : Int) : Option (Int × Int × Int × Bool) := (impl_Disk_read.f l0_0 l0_1 a1 (wrap64 (5 + a2))).bind fun t792 => ((impl_deltaOf.f k t792).bind fun bt793 => (if bt793.2.2.2 = true then (if bt793.1 = a2 then (some (bt793.1, bt793.2.1, bt793.2.2.1, true)) else (some (0, 0, 0, false))) else (some (0, 0, 0, false))))
theorem impl_Disk_delta.mono : ∀ a0 a1 a2 a3 k, LeO (impl_Disk_delta.f k a0 a1 a2 a3) (impl_Disk_delta.f (k + 1) a0 a1 a2 a3) := by
  intro a0 a1 a2 a3 k
  unfold impl_Disk_delta.f
  repeat' first
      | (with_reducible exact impl_deltaOf.mono _ _)
      | (with_reducible exact LeO.refl _)
      | (with_reducible exact LeO.none _)
      | (with_reducible refine LeO.ite ?_ ?_)
      | (with_reducible refine LeO.bind ?_ (fun _ => ?_))
      | exact impl_deltaOf.mono _ _
      | exact LeO.none _
      | refine LeO.ite ?_ ?_
      | refine LeO.bind ?_ (fun _ => ?_)
set_option maxHeartbeats 8000000 in
set_option maxRecDepth 100000 in
theorem impl_Disk_delta.calls (k : Nat) (A0_0 : Option Addr) (c0_0 : Nat) (l0_0 : List ByteArray) (A0_1 : Option Addr) (c0_1 : Nat) (l0_1 : List (S76)) (a1 : Int) (a2 : Int) (r1 : Int) (r2 : Int) (r3 : Int) (r4 : Bool) (w : World) (hr0_0 : Kd.C Kd.string w A0_0 l0_0.length l0_0) (hc0_0 : l0_0.length ≤ c0_0) (hr0_1 : Kd.C k76 w A0_1 l0_1.length l0_1) (hc0_1 : l0_1.length ≤ c0_1) (h : impl_Disk_delta.f k l0_0 l0_1 a1 a2 = some (r1, r2, r3, r4)) :
    Calls Try.prog 56 #[.agg #[.slice A0_0 l0_0.length c0_0, .slice A0_1 l0_1.length c0_1], .int .i64 a1, .int .i64 a2] w fun e w' => e = .returned (.tuple #[.agg #[.int .i64 r1, .int .i64 r2, .int .i64 r3], .bool r4]) ∧ Below w.heap.size w w' := by
 have hu29 := Try.underlying29
 have hu46 := Try.underlying46
 have Zm := zm hr0_0
 have Zn := zm hc0_0
 clear hr0_0 hc0_0
 have Zo := zm hr0_1
 have Zp := zm hc0_1
 clear hr0_1 hc0_1
 have HB := zm (Below.refl w.heap.size w)
 have H : ((impl_Disk_read.f l0_0 l0_1 a1 (wrap64 (5 + a2))).bind fun t792 => ((impl_deltaOf.f k t792).bind fun bt793 => (if bt793.2.2.2 = true then (if bt793.1 = a2 then (some (bt793.1, bt793.2.1, bt793.2.2.1, true)) else (some (0, 0, 0, false))) else (some (0, 0, 0, false))))) = some (r1, r2, r3, r4) := h
 clear h
 replace H := Option.bind_eq_some_iff.mp H
 obtain ⟨t792, A40, H⟩ := H
 replace H : ((impl_deltaOf.f k t792).bind fun bt793 => (if bt793.2.2.2 = true then (if bt793.1 = a2 then (some (bt793.1, bt793.2.1, bt793.2.2.1, true)) else (some (0, 0, 0, false))) else (some (0, 0, 0, false)))) = some (r1, r2, r3, r4) := H
 have A4 := zm A40
 clear A40
 replace H := Option.bind_eq_some_iff.mp H
 obtain ⟨⟨t793, t794, t795, t796⟩, A50, H⟩ := H
 replace H : (if t796 = true then (if t793 = a2 then (some (t793, t794, t795, true)) else (some (0, 0, 0, false))) else (some (0, 0, 0, false))) = some (r1, r2, r3, r4) := H
 have A5 := zm A50
 clear A50
 by_cases c6 : t796 = true
 ·subst c6
  have H1 : (if t793 = a2 then (some (t793, t794, t795, true)) else (some (0, 0, 0, false))) = some (r1, r2, r3, r4) := by rw [if_pos rfl] at H; exact H
  clear H
  have H := H1
  clear H1
  by_cases c7 : t793 = a2
  ·rw [if_pos c7] at H
   have c7b0 : (t793 == a2) = true := beq_iff_eq.mpr c7
   have c7b1 : (t793 != a2) = false := bne_eq_false_iff_eq.mpr c7
   clear c7
   simp only [Option.some.injEq, Prod.mk.injEq] at H
   obtain ⟨rfl, rfl, rfl, rfl⟩ := H
   go_enter Try.func56, Try.ntmps56
   go_wp2_with (first | ((with_reducible refine gate_dst (N := 3) rfl ?_); refine box_event ?hg (N := 3) ?hd (cs := #[.slice A0_0 l0_0.length c0_0, .slice A0_1 l0_1.length c0_1]) (t := 29) ?hr ?_; (case hd => rfl); (case hg => rfl); (case hr => first | (go_simp; done) | (go_simp; rfl)); intro gb790 hg w8 hbox hb; have n0_ := zm (below_step (zg_0 HB.out) hb); have n1_ := zm (hbox); have n2_ := zm ((by rw [hg]; exact (below_size (zg_0 HB.out)) : w.heap.size ≤ gb790)); have n3_ := zm ((by rw [hg]; exact (below_size (zg_0 HB.out)) : w.heap.size ≤ gb790)); clear HB; have HB := n0_; have Za := n1_; have Zq := n2_; have Zd := n3_; clear n0_ n1_ n2_ n3_; clear hb hbox hg) | ((with_reducible refine gate_dst (N := 6) rfl ?_); refine box_event ?hg (N := 6) ?hd (cs := #[.int .i64 0, .int .i64 0, .int .i64 0]) (t := 46) ?hr ?_; (case hd => rfl); (case hg => rfl); (case hr => first | (go_simp; done) | (go_simp; rfl)); intro gb791 hg w9 hbox hb; have n0_ := zm (blk_below (g := gb790) (o := .cells #[.slice A0_0 l0_0.length c0_0, .slice A0_1 l0_1.length c0_1] 29 (0, 0)) (zg_2 Za.out) hb); have n1_ := zm (below_step (zg_1 HB.out Zd.out) hb); have n2_ := zm (hbox); have n3_ := zm ((by rw [hg]; exact (below_size (zg_1 HB.out Zd.out)) : w.heap.size ≤ gb791)); have n4_ := zm ((by rw [hg]; exact (below_size (zg_1 HB.out Zd.out)) : w.heap.size ≤ gb791)); have n5_ := zm ((by rw [hg]; exact Nat.ne_of_lt (blk_lt (g := gb790) (o := .cells #[.slice A0_0 l0_0.length c0_0, .slice A0_1 l0_1.length c0_1] 29 (0, 0)) (zg_2 Za.out)) : gb790 ≠ gb791)); have n6_ := zm ((by rw [hg]; exact Nat.ne_of_gt (blk_lt (g := gb790) (o := .cells #[.slice A0_0 l0_0.length c0_0, .slice A0_1 l0_1.length c0_1] 29 (0, 0)) (zg_2 Za.out)) : gb791 ≠ gb790)); clear Za; clear HB; have Za := n0_; have HB := n1_; have Zb := n2_; have Zr := n3_; have Ze := n4_; have Zg := n5_; have Zh := n6_; clear n0_ n1_ n2_ n3_ n4_ n5_ n6_; clear hb hbox hg; have hnb10 := Zg.out; have hnc10 := Zh.out; have hcz11_0 : w9.cell? ⟨gb790, 0, none⟩ = some (.slice A0_0 l0_0.length c0_0) := (blk_cell Za.out 0).trans rfl; have hcz11_1 : w9.cell? ⟨gb790, 1, none⟩ = some (.slice A0_1 l0_1.length c0_1) := (blk_cell Za.out 1).trans rfl; have hfz11_0 := blk_frozen Za.out 0; have hfz11_1 := blk_frozen Za.out 1) | ((with_reducible refine gate_callee (f := 75) rfl ?_); refine goesL_ (some 15) rfl rfl Try.func75 (by kernel_rfl) rfl #[.agg #[.slice A0_0 l0_0.length c0_0, .slice A0_1 l0_1.length c0_1], .int .i64 a1, .int .i64 (wrap64 (5 + a2))] rfl zq ?_; (with_reducible refine (impl_Disk_read.calls _ _ l0_0 _ _ l0_1 a1 (wrap64 (5 + a2)) t792 _ ?side1 ?side2 ?side3 ?side4 A4.out).mono ?_); (case side1 => repeat (first | exact (Kd.C_below Zm.out HB.out) | (with_reducible refine Kd.C_alloc ?_ _) | (with_reducible refine Kd.C_drewN ?_ _) | (with_reducible refine Kd.C_drew ?_))); (case side2 => exact Zn.out); (case side3 => repeat (first | exact (Kd.C_below Zo.out HB.out) | (with_reducible refine Kd.C_alloc ?_ _) | (with_reducible refine Kd.C_drewN ?_ _) | (with_reducible refine Kd.C_drew ?_))); (case side4 => exact Zp.out); rintro e w12 ⟨rfl, hb⟩; refine ⟨_, rfl, ?_⟩; have n0_ := zm (blk_below (g := gb790) (o := .cells #[.slice A0_0 l0_0.length c0_0, .slice A0_1 l0_1.length c0_1] 29 (0, 0)) (zg_2 Za.out) hb); have n1_ := zm (blk_below (g := gb791) (o := .cells #[.int .i64 0, .int .i64 0, .int .i64 0] 46 (0, 0)) (zg_2 Zb.out) hb); have n2_ := zm (below_step (zg_4 HB.out Zd.out Ze.out) hb); clear Za; clear Zb; clear HB; have Za := n0_; have Zb := n1_; have HB := n2_; clear n0_ n1_ n2_; (try clear hb); (try clear hb2); (try clear hk); (try clear hi)) | ((with_reducible refine gate_callee (f := 78) rfl ?_); refine goesL_ (some 16) rfl rfl Try.func78 (by kernel_rfl) rfl #[.string t792] rfl zq ?_; (with_reducible refine (impl_deltaOf.calls k t792 t793 t794 t795 true _ A5.out).mono ?_); rintro e w13 ⟨rfl, hb⟩; refine ⟨_, rfl, ?_⟩; have n0_ := zm (blk_below (g := gb790) (o := .cells #[.slice A0_0 l0_0.length c0_0, .slice A0_1 l0_1.length c0_1] 29 (0, 0)) (zg_2 Za.out) hb); have n1_ := zm (blk_below (g := gb791) (o := .cells #[.int .i64 0, .int .i64 0, .int .i64 0] 46 (0, 0)) (zg_2 Zb.out) hb); have n2_ := zm (below_step (zg_4 HB.out Zd.out Ze.out) hb); clear Za; clear Zb; clear HB; have Za := n0_; have Zb := n1_; have HB := n2_; clear n0_ n1_ n2_; (try clear hb); (try clear hb2); (try clear hk); (try clear hi)) | ((with_reducible refine gate_dst (N := 8) rfl ?_); refine box_event ?hg (N := 8) ?hd (cs := #[.int .i64 0, .int .i64 0, .int .i64 0]) (t := 46) ?hr ?_; (case hd => rfl); (case hg => rfl); (case hr => first | (go_simp; done) | (go_simp; rfl)); intro gb797 hg w14 hbox hb; have n0_ := zm (blk_below (g := gb790) (o := .cells #[.slice A0_0 l0_0.length c0_0, .slice A0_1 l0_1.length c0_1] 29 (0, 0)) (zg_2 Za.out) hb); have n1_ := zm (blk_below (g := gb791) (o := .cells #[.int .i64 0, .int .i64 0, .int .i64 0] 46 (0, 0)) (zg_2 Zb.out) hb); have n2_ := zm (below_step (zg_4 HB.out Zd.out Ze.out) hb); have n3_ := zm (hbox); have n4_ := zm ((by rw [hg]; exact (below_size (zg_4 HB.out Zd.out Ze.out)) : w.heap.size ≤ gb797)); have n5_ := zm ((by rw [hg]; exact (below_size (zg_4 HB.out Zd.out Ze.out)) : w.heap.size ≤ gb797)); have n6_ := zm ((by rw [hg]; exact Nat.ne_of_lt (blk_lt (g := gb790) (o := .cells #[.slice A0_0 l0_0.length c0_0, .slice A0_1 l0_1.length c0_1] 29 (0, 0)) (zg_2 Za.out)) : gb790 ≠ gb797)); have n7_ := zm ((by rw [hg]; exact Nat.ne_of_gt (blk_lt (g := gb790) (o := .cells #[.slice A0_0 l0_0.length c0_0, .slice A0_1 l0_1.length c0_1] 29 (0, 0)) (zg_2 Za.out)) : gb797 ≠ gb790)); have n8_ := zm ((by rw [hg]; exact Nat.ne_of_lt (blk_lt (g := gb791) (o := .cells #[.int .i64 0, .int .i64 0, .int .i64 0] 46 (0, 0)) (zg_2 Zb.out)) : gb791 ≠ gb797)); have n9_ := zm ((by rw [hg]; exact Nat.ne_of_gt (blk_lt (g := gb791) (o := .cells #[.int .i64 0, .int .i64 0, .int .i64 0] 46 (0, 0)) (zg_2 Zb.out)) : gb797 ≠ gb791)); clear Za; clear Zb; clear HB; have Za := n0_; have Zb := n1_; have HB := n2_; have Zf := n3_; have Zs := n4_; have Zl := n5_; have Zi := n6_; have Zj := n7_; have Zc := n8_; have Zk := n9_; clear n0_ n1_ n2_ n3_ n4_ n5_ n6_ n7_ n8_ n9_; clear hb hbox hg; have hnb15 := Zj.out; have hnc15 := Zi.out; have hnb16 := Zk.out; have hnc16 := Zc.out; have hcz17_0 : w14.cell? ⟨gb797, 0, none⟩ = some (.int .i64 0) := (blk_cell Zf.out 0).trans rfl; have hcz17_1 : w14.cell? ⟨gb797, 1, none⟩ = some (.int .i64 0) := (blk_cell Zf.out 1).trans rfl; have hcz17_2 : w14.cell? ⟨gb797, 2, none⟩ = some (.int .i64 0) := (blk_cell Zf.out 2).trans rfl; have hfz17_0 := blk_frozen Zf.out 0; have hfz17_1 := blk_frozen Zf.out 1; have hfz17_2 := blk_frozen Zf.out 2; have hcz18_0 : w14.cell? ⟨gb791, 0, none⟩ = some (.int .i64 0) := (blk_cell Zb.out 0).trans rfl; have hcz18_1 : w14.cell? ⟨gb791, 1, none⟩ = some (.int .i64 0) := (blk_cell Zb.out 1).trans rfl; have hcz18_2 : w14.cell? ⟨gb791, 2, none⟩ = some (.int .i64 0) := (blk_cell Zb.out 2).trans rfl; have hfz18_0 := blk_frozen Zb.out 0; have hfz18_1 := blk_frozen Zb.out 1; have hfz18_2 := blk_frozen Zb.out 2))
   refine bodyPost_ret (results_ct rfl _ _ gb791 46 #[.int .i64 t793, .int .i64 t794, .int .i64 t795] (0, 0) _ rfl (by (with_reducible repeat (first | refine blk_drewN ?_ _ | refine blk_drew ?_ | refine blk_alloc ?_ _)); refine blk_put (cs := #[.int .i64 t793, .int .i64 t794, .int .i64 0]) ?_ 2 _ rfl; (with_reducible repeat (first | refine blk_drewN ?_ _ | refine blk_drew ?_ | refine blk_alloc ?_ _)); refine blk_put (cs := #[.int .i64 t793, .int .i64 0, .int .i64 0]) ?_ 1 _ rfl; (with_reducible repeat (first | refine blk_drewN ?_ _ | refine blk_drew ?_ | refine blk_alloc ?_ _)); refine blk_put (cs := #[.int .i64 0, .int .i64 0, .int .i64 0]) ?_ 0 _ rfl; (with_reducible repeat (first | refine blk_drewN ?_ _ | refine blk_drew ?_ | refine blk_alloc ?_ _)); refine blk_far ?_ Zc.out _; (with_reducible repeat (first | refine blk_drewN ?_ _ | refine blk_drew ?_ | refine blk_alloc ?_ _)); refine blk_far ?_ Zc.out _; (with_reducible repeat (first | refine blk_drewN ?_ _ | refine blk_drew ?_ | refine blk_alloc ?_ _)); refine blk_far ?_ Zc.out _; (with_reducible repeat (first | refine blk_drewN ?_ _ | refine blk_drew ?_ | refine blk_alloc ?_ _)); exact Zb.out) Try.underlying46 rfl (by kernel_rfl)) rfl ?_
   exact ⟨by first | rfl | (simp [errW_none, errW_some] <;> rfl) | (simp [*, errW_none, errW_some] <;> rfl), zg_5 HB.out Zd.out Ze.out Zl.out⟩
  ·rw [if_neg c7] at H
   have c7b0 : (t793 == a2) = false := beq_eq_false_iff_ne.mpr c7
   have c7b1 : (t793 != a2) = true := bne_iff_ne.mpr c7
   simp only [Option.some.injEq, Prod.mk.injEq] at H
   obtain ⟨rfl, rfl, rfl, rfl⟩ := H
   go_enter Try.func56, Try.ntmps56
   go_wp2_with (first | ((with_reducible refine gate_dst (N := 3) rfl ?_); refine box_event ?hg (N := 3) ?hd (cs := #[.slice A0_0 l0_0.length c0_0, .slice A0_1 l0_1.length c0_1]) (t := 29) ?hr ?_; (case hd => rfl); (case hg => rfl); (case hr => first | (go_simp; done) | (go_simp; rfl)); intro gb790 hg w19 hbox hb; have n0_ := zm (below_step (zg_0 HB.out) hb); have n1_ := zm (hbox); have n2_ := zm ((by rw [hg]; exact (below_size (zg_0 HB.out)) : w.heap.size ≤ gb790)); have n3_ := zm ((by rw [hg]; exact (below_size (zg_0 HB.out)) : w.heap.size ≤ gb790)); clear HB; have HB := n0_; have Za := n1_; have Zq := n2_; have Zd := n3_; clear n0_ n1_ n2_ n3_; clear hb hbox hg) | ((with_reducible refine gate_dst (N := 6) rfl ?_); refine box_event ?hg (N := 6) ?hd (cs := #[.int .i64 0, .int .i64 0, .int .i64 0]) (t := 46) ?hr ?_; (case hd => rfl); (case hg => rfl); (case hr => first | (go_simp; done) | (go_simp; rfl)); intro gb791 hg w20 hbox hb; have n0_ := zm (blk_below (g := gb790) (o := .cells #[.slice A0_0 l0_0.length c0_0, .slice A0_1 l0_1.length c0_1] 29 (0, 0)) (zg_2 Za.out) hb); have n1_ := zm (below_step (zg_1 HB.out Zd.out) hb); have n2_ := zm (hbox); have n3_ := zm ((by rw [hg]; exact (below_size (zg_1 HB.out Zd.out)) : w.heap.size ≤ gb791)); have n4_ := zm ((by rw [hg]; exact (below_size (zg_1 HB.out Zd.out)) : w.heap.size ≤ gb791)); have n5_ := zm ((by rw [hg]; exact Nat.ne_of_lt (blk_lt (g := gb790) (o := .cells #[.slice A0_0 l0_0.length c0_0, .slice A0_1 l0_1.length c0_1] 29 (0, 0)) (zg_2 Za.out)) : gb790 ≠ gb791)); have n6_ := zm ((by rw [hg]; exact Nat.ne_of_gt (blk_lt (g := gb790) (o := .cells #[.slice A0_0 l0_0.length c0_0, .slice A0_1 l0_1.length c0_1] 29 (0, 0)) (zg_2 Za.out)) : gb791 ≠ gb790)); clear Za; clear HB; have Za := n0_; have HB := n1_; have Zb := n2_; have Zr := n3_; have Ze := n4_; have Zg := n5_; have Zh := n6_; clear n0_ n1_ n2_ n3_ n4_ n5_ n6_; clear hb hbox hg; have hnb21 := Zg.out; have hnc21 := Zh.out; have hcz22_0 : w20.cell? ⟨gb790, 0, none⟩ = some (.slice A0_0 l0_0.length c0_0) := (blk_cell Za.out 0).trans rfl; have hcz22_1 : w20.cell? ⟨gb790, 1, none⟩ = some (.slice A0_1 l0_1.length c0_1) := (blk_cell Za.out 1).trans rfl; have hfz22_0 := blk_frozen Za.out 0; have hfz22_1 := blk_frozen Za.out 1) | ((with_reducible refine gate_callee (f := 75) rfl ?_); refine goesL_ (some 15) rfl rfl Try.func75 (by kernel_rfl) rfl #[.agg #[.slice A0_0 l0_0.length c0_0, .slice A0_1 l0_1.length c0_1], .int .i64 a1, .int .i64 (wrap64 (5 + a2))] rfl zq ?_; (with_reducible refine (impl_Disk_read.calls _ _ l0_0 _ _ l0_1 a1 (wrap64 (5 + a2)) t792 _ ?side1 ?side2 ?side3 ?side4 A4.out).mono ?_); (case side1 => repeat (first | exact (Kd.C_below Zm.out HB.out) | (with_reducible refine Kd.C_alloc ?_ _) | (with_reducible refine Kd.C_drewN ?_ _) | (with_reducible refine Kd.C_drew ?_))); (case side2 => exact Zn.out); (case side3 => repeat (first | exact (Kd.C_below Zo.out HB.out) | (with_reducible refine Kd.C_alloc ?_ _) | (with_reducible refine Kd.C_drewN ?_ _) | (with_reducible refine Kd.C_drew ?_))); (case side4 => exact Zp.out); rintro e w23 ⟨rfl, hb⟩; refine ⟨_, rfl, ?_⟩; have n0_ := zm (blk_below (g := gb790) (o := .cells #[.slice A0_0 l0_0.length c0_0, .slice A0_1 l0_1.length c0_1] 29 (0, 0)) (zg_2 Za.out) hb); have n1_ := zm (blk_below (g := gb791) (o := .cells #[.int .i64 0, .int .i64 0, .int .i64 0] 46 (0, 0)) (zg_2 Zb.out) hb); have n2_ := zm (below_step (zg_4 HB.out Zd.out Ze.out) hb); clear Za; clear Zb; clear HB; have Za := n0_; have Zb := n1_; have HB := n2_; clear n0_ n1_ n2_; (try clear hb); (try clear hb2); (try clear hk); (try clear hi)) | ((with_reducible refine gate_callee (f := 78) rfl ?_); refine goesL_ (some 16) rfl rfl Try.func78 (by kernel_rfl) rfl #[.string t792] rfl zq ?_; (with_reducible refine (impl_deltaOf.calls k t792 t793 t794 t795 true _ A5.out).mono ?_); rintro e w24 ⟨rfl, hb⟩; refine ⟨_, rfl, ?_⟩; have n0_ := zm (blk_below (g := gb790) (o := .cells #[.slice A0_0 l0_0.length c0_0, .slice A0_1 l0_1.length c0_1] 29 (0, 0)) (zg_2 Za.out) hb); have n1_ := zm (blk_below (g := gb791) (o := .cells #[.int .i64 0, .int .i64 0, .int .i64 0] 46 (0, 0)) (zg_2 Zb.out) hb); have n2_ := zm (below_step (zg_4 HB.out Zd.out Ze.out) hb); clear Za; clear Zb; clear HB; have Za := n0_; have Zb := n1_; have HB := n2_; clear n0_ n1_ n2_; (try clear hb); (try clear hb2); (try clear hk); (try clear hi)) | ((with_reducible refine gate_dst (N := 8) rfl ?_); refine box_event ?hg (N := 8) ?hd (cs := #[.int .i64 0, .int .i64 0, .int .i64 0]) (t := 46) ?hr ?_; (case hd => rfl); (case hg => rfl); (case hr => first | (go_simp; done) | (go_simp; rfl)); intro gb797 hg w25 hbox hb; have n0_ := zm (blk_below (g := gb790) (o := .cells #[.slice A0_0 l0_0.length c0_0, .slice A0_1 l0_1.length c0_1] 29 (0, 0)) (zg_2 Za.out) hb); have n1_ := zm (blk_below (g := gb791) (o := .cells #[.int .i64 0, .int .i64 0, .int .i64 0] 46 (0, 0)) (zg_2 Zb.out) hb); have n2_ := zm (below_step (zg_4 HB.out Zd.out Ze.out) hb); have n3_ := zm (hbox); have n4_ := zm ((by rw [hg]; exact (below_size (zg_4 HB.out Zd.out Ze.out)) : w.heap.size ≤ gb797)); have n5_ := zm ((by rw [hg]; exact (below_size (zg_4 HB.out Zd.out Ze.out)) : w.heap.size ≤ gb797)); have n6_ := zm ((by rw [hg]; exact Nat.ne_of_lt (blk_lt (g := gb790) (o := .cells #[.slice A0_0 l0_0.length c0_0, .slice A0_1 l0_1.length c0_1] 29 (0, 0)) (zg_2 Za.out)) : gb790 ≠ gb797)); have n7_ := zm ((by rw [hg]; exact Nat.ne_of_gt (blk_lt (g := gb790) (o := .cells #[.slice A0_0 l0_0.length c0_0, .slice A0_1 l0_1.length c0_1] 29 (0, 0)) (zg_2 Za.out)) : gb797 ≠ gb790)); have n8_ := zm ((by rw [hg]; exact Nat.ne_of_lt (blk_lt (g := gb791) (o := .cells #[.int .i64 0, .int .i64 0, .int .i64 0] 46 (0, 0)) (zg_2 Zb.out)) : gb791 ≠ gb797)); have n9_ := zm ((by rw [hg]; exact Nat.ne_of_gt (blk_lt (g := gb791) (o := .cells #[.int .i64 0, .int .i64 0, .int .i64 0] 46 (0, 0)) (zg_2 Zb.out)) : gb797 ≠ gb791)); clear Za; clear Zb; clear HB; have Za := n0_; have Zb := n1_; have HB := n2_; have Zf := n3_; have Zs := n4_; have Zl := n5_; have Zi := n6_; have Zj := n7_; have Zc := n8_; have Zk := n9_; clear n0_ n1_ n2_ n3_ n4_ n5_ n6_ n7_ n8_ n9_; clear hb hbox hg; have hnb26 := Zj.out; have hnc26 := Zi.out; have hnb27 := Zk.out; have hnc27 := Zc.out; have hcz28_0 : w25.cell? ⟨gb797, 0, none⟩ = some (.int .i64 0) := (blk_cell Zf.out 0).trans rfl; have hcz28_1 : w25.cell? ⟨gb797, 1, none⟩ = some (.int .i64 0) := (blk_cell Zf.out 1).trans rfl; have hcz28_2 : w25.cell? ⟨gb797, 2, none⟩ = some (.int .i64 0) := (blk_cell Zf.out 2).trans rfl; have hfz28_0 := blk_frozen Zf.out 0; have hfz28_1 := blk_frozen Zf.out 1; have hfz28_2 := blk_frozen Zf.out 2; have hcz29_0 : w25.cell? ⟨gb791, 0, none⟩ = some (.int .i64 0) := (blk_cell Zb.out 0).trans rfl; have hcz29_1 : w25.cell? ⟨gb791, 1, none⟩ = some (.int .i64 0) := (blk_cell Zb.out 1).trans rfl; have hcz29_2 : w25.cell? ⟨gb791, 2, none⟩ = some (.int .i64 0) := (blk_cell Zb.out 2).trans rfl; have hfz29_0 := blk_frozen Zb.out 0; have hfz29_1 := blk_frozen Zb.out 1; have hfz29_2 := blk_frozen Zb.out 2))
   refine bodyPost_ret (results_ct rfl _ _ gb791 46 #[.int .i64 0, .int .i64 0, .int .i64 0] (0, 0) _ rfl (by (with_reducible repeat (first | refine blk_drewN ?_ _ | refine blk_drew ?_ | refine blk_alloc ?_ _)); refine blk_put (cs := #[.int .i64 0, .int .i64 0, .int .i64 0]) ?_ 2 _ rfl; (with_reducible repeat (first | refine blk_drewN ?_ _ | refine blk_drew ?_ | refine blk_alloc ?_ _)); refine blk_put (cs := #[.int .i64 0, .int .i64 0, .int .i64 0]) ?_ 1 _ rfl; (with_reducible repeat (first | refine blk_drewN ?_ _ | refine blk_drew ?_ | refine blk_alloc ?_ _)); refine blk_put (cs := #[.int .i64 0, .int .i64 0, .int .i64 0]) ?_ 0 _ rfl; (with_reducible repeat (first | refine blk_drewN ?_ _ | refine blk_drew ?_ | refine blk_alloc ?_ _)); refine blk_far ?_ Zc.out _; (with_reducible repeat (first | refine blk_drewN ?_ _ | refine blk_drew ?_ | refine blk_alloc ?_ _)); refine blk_far ?_ Zc.out _; (with_reducible repeat (first | refine blk_drewN ?_ _ | refine blk_drew ?_ | refine blk_alloc ?_ _)); refine blk_far ?_ Zc.out _; (with_reducible repeat (first | refine blk_drewN ?_ _ | refine blk_drew ?_ | refine blk_alloc ?_ _)); exact Zb.out) Try.underlying46 rfl (by kernel_rfl)) rfl ?_
   exact ⟨by first | rfl | (simp [errW_none, errW_some] <;> rfl) | (simp [*, errW_none, errW_some] <;> rfl), zg_5 HB.out Zd.out Ze.out Zl.out⟩
 ·replace c6 := Bool.eq_false_iff.mpr c6
  subst c6
  have H1 : (some (0, 0, 0, false)) = some (r1, r2, r3, r4) := by rw [if_neg (show ¬ (false = true) by decide)] at H; exact H
  clear H
  have H := H1
  clear H1
  simp only [Option.some.injEq, Prod.mk.injEq] at H
  obtain ⟨rfl, rfl, rfl, rfl⟩ := H
  go_enter Try.func56, Try.ntmps56
  go_wp2_with (first | ((with_reducible refine gate_dst (N := 3) rfl ?_); refine box_event ?hg (N := 3) ?hd (cs := #[.slice A0_0 l0_0.length c0_0, .slice A0_1 l0_1.length c0_1]) (t := 29) ?hr ?_; (case hd => rfl); (case hg => rfl); (case hr => first | (go_simp; done) | (go_simp; rfl)); intro gb790 hg w30 hbox hb; have n0_ := zm (below_step (zg_0 HB.out) hb); have n1_ := zm (hbox); have n2_ := zm ((by rw [hg]; exact (below_size (zg_0 HB.out)) : w.heap.size ≤ gb790)); have n3_ := zm ((by rw [hg]; exact (below_size (zg_0 HB.out)) : w.heap.size ≤ gb790)); clear HB; have HB := n0_; have Za := n1_; have Zq := n2_; have Zd := n3_; clear n0_ n1_ n2_ n3_; clear hb hbox hg) | ((with_reducible refine gate_dst (N := 6) rfl ?_); refine box_event ?hg (N := 6) ?hd (cs := #[.int .i64 0, .int .i64 0, .int .i64 0]) (t := 46) ?hr ?_; (case hd => rfl); (case hg => rfl); (case hr => first | (go_simp; done) | (go_simp; rfl)); intro gb791 hg w31 hbox hb; have n0_ := zm (blk_below (g := gb790) (o := .cells #[.slice A0_0 l0_0.length c0_0, .slice A0_1 l0_1.length c0_1] 29 (0, 0)) (zg_2 Za.out) hb); have n1_ := zm (below_step (zg_1 HB.out Zd.out) hb); have n2_ := zm (hbox); have n3_ := zm ((by rw [hg]; exact (below_size (zg_1 HB.out Zd.out)) : w.heap.size ≤ gb791)); have n4_ := zm ((by rw [hg]; exact (below_size (zg_1 HB.out Zd.out)) : w.heap.size ≤ gb791)); have n5_ := zm ((by rw [hg]; exact Nat.ne_of_lt (blk_lt (g := gb790) (o := .cells #[.slice A0_0 l0_0.length c0_0, .slice A0_1 l0_1.length c0_1] 29 (0, 0)) (zg_2 Za.out)) : gb790 ≠ gb791)); have n6_ := zm ((by rw [hg]; exact Nat.ne_of_gt (blk_lt (g := gb790) (o := .cells #[.slice A0_0 l0_0.length c0_0, .slice A0_1 l0_1.length c0_1] 29 (0, 0)) (zg_2 Za.out)) : gb791 ≠ gb790)); clear Za; clear HB; have Za := n0_; have HB := n1_; have Zb := n2_; have Zr := n3_; have Ze := n4_; have Zg := n5_; have Zh := n6_; clear n0_ n1_ n2_ n3_ n4_ n5_ n6_; clear hb hbox hg; have hnb32 := Zg.out; have hnc32 := Zh.out; have hcz33_0 : w31.cell? ⟨gb790, 0, none⟩ = some (.slice A0_0 l0_0.length c0_0) := (blk_cell Za.out 0).trans rfl; have hcz33_1 : w31.cell? ⟨gb790, 1, none⟩ = some (.slice A0_1 l0_1.length c0_1) := (blk_cell Za.out 1).trans rfl; have hfz33_0 := blk_frozen Za.out 0; have hfz33_1 := blk_frozen Za.out 1) | ((with_reducible refine gate_callee (f := 75) rfl ?_); refine goesL_ (some 15) rfl rfl Try.func75 (by kernel_rfl) rfl #[.agg #[.slice A0_0 l0_0.length c0_0, .slice A0_1 l0_1.length c0_1], .int .i64 a1, .int .i64 (wrap64 (5 + a2))] rfl zq ?_; (with_reducible refine (impl_Disk_read.calls _ _ l0_0 _ _ l0_1 a1 (wrap64 (5 + a2)) t792 _ ?side1 ?side2 ?side3 ?side4 A4.out).mono ?_); (case side1 => repeat (first | exact (Kd.C_below Zm.out HB.out) | (with_reducible refine Kd.C_alloc ?_ _) | (with_reducible refine Kd.C_drewN ?_ _) | (with_reducible refine Kd.C_drew ?_))); (case side2 => exact Zn.out); (case side3 => repeat (first | exact (Kd.C_below Zo.out HB.out) | (with_reducible refine Kd.C_alloc ?_ _) | (with_reducible refine Kd.C_drewN ?_ _) | (with_reducible refine Kd.C_drew ?_))); (case side4 => exact Zp.out); rintro e w34 ⟨rfl, hb⟩; refine ⟨_, rfl, ?_⟩; have n0_ := zm (blk_below (g := gb790) (o := .cells #[.slice A0_0 l0_0.length c0_0, .slice A0_1 l0_1.length c0_1] 29 (0, 0)) (zg_2 Za.out) hb); have n1_ := zm (blk_below (g := gb791) (o := .cells #[.int .i64 0, .int .i64 0, .int .i64 0] 46 (0, 0)) (zg_2 Zb.out) hb); have n2_ := zm (below_step (zg_4 HB.out Zd.out Ze.out) hb); clear Za; clear Zb; clear HB; have Za := n0_; have Zb := n1_; have HB := n2_; clear n0_ n1_ n2_; (try clear hb); (try clear hb2); (try clear hk); (try clear hi)) | ((with_reducible refine gate_callee (f := 78) rfl ?_); refine goesL_ (some 16) rfl rfl Try.func78 (by kernel_rfl) rfl #[.string t792] rfl zq ?_; (with_reducible refine (impl_deltaOf.calls k t792 t793 t794 t795 false _ A5.out).mono ?_); rintro e w35 ⟨rfl, hb⟩; refine ⟨_, rfl, ?_⟩; have n0_ := zm (blk_below (g := gb790) (o := .cells #[.slice A0_0 l0_0.length c0_0, .slice A0_1 l0_1.length c0_1] 29 (0, 0)) (zg_2 Za.out) hb); have n1_ := zm (blk_below (g := gb791) (o := .cells #[.int .i64 0, .int .i64 0, .int .i64 0] 46 (0, 0)) (zg_2 Zb.out) hb); have n2_ := zm (below_step (zg_4 HB.out Zd.out Ze.out) hb); clear Za; clear Zb; clear HB; have Za := n0_; have Zb := n1_; have HB := n2_; clear n0_ n1_ n2_; (try clear hb); (try clear hb2); (try clear hk); (try clear hi)) | ((with_reducible refine gate_dst (N := 8) rfl ?_); refine box_event ?hg (N := 8) ?hd (cs := #[.int .i64 0, .int .i64 0, .int .i64 0]) (t := 46) ?hr ?_; (case hd => rfl); (case hg => rfl); (case hr => first | (go_simp; done) | (go_simp; rfl)); intro gb797 hg w36 hbox hb; have n0_ := zm (blk_below (g := gb790) (o := .cells #[.slice A0_0 l0_0.length c0_0, .slice A0_1 l0_1.length c0_1] 29 (0, 0)) (zg_2 Za.out) hb); have n1_ := zm (blk_below (g := gb791) (o := .cells #[.int .i64 0, .int .i64 0, .int .i64 0] 46 (0, 0)) (zg_2 Zb.out) hb); have n2_ := zm (below_step (zg_4 HB.out Zd.out Ze.out) hb); have n3_ := zm (hbox); have n4_ := zm ((by rw [hg]; exact (below_size (zg_4 HB.out Zd.out Ze.out)) : w.heap.size ≤ gb797)); have n5_ := zm ((by rw [hg]; exact (below_size (zg_4 HB.out Zd.out Ze.out)) : w.heap.size ≤ gb797)); have n6_ := zm ((by rw [hg]; exact Nat.ne_of_lt (blk_lt (g := gb790) (o := .cells #[.slice A0_0 l0_0.length c0_0, .slice A0_1 l0_1.length c0_1] 29 (0, 0)) (zg_2 Za.out)) : gb790 ≠ gb797)); have n7_ := zm ((by rw [hg]; exact Nat.ne_of_gt (blk_lt (g := gb790) (o := .cells #[.slice A0_0 l0_0.length c0_0, .slice A0_1 l0_1.length c0_1] 29 (0, 0)) (zg_2 Za.out)) : gb797 ≠ gb790)); have n8_ := zm ((by rw [hg]; exact Nat.ne_of_lt (blk_lt (g := gb791) (o := .cells #[.int .i64 0, .int .i64 0, .int .i64 0] 46 (0, 0)) (zg_2 Zb.out)) : gb791 ≠ gb797)); have n9_ := zm ((by rw [hg]; exact Nat.ne_of_gt (blk_lt (g := gb791) (o := .cells #[.int .i64 0, .int .i64 0, .int .i64 0] 46 (0, 0)) (zg_2 Zb.out)) : gb797 ≠ gb791)); clear Za; clear Zb; clear HB; have Za := n0_; have Zb := n1_; have HB := n2_; have Zf := n3_; have Zs := n4_; have Zl := n5_; have Zi := n6_; have Zj := n7_; have Zc := n8_; have Zk := n9_; clear n0_ n1_ n2_ n3_ n4_ n5_ n6_ n7_ n8_ n9_; clear hb hbox hg; have hnb37 := Zj.out; have hnc37 := Zi.out; have hnb38 := Zk.out; have hnc38 := Zc.out; have hcz39_0 : w36.cell? ⟨gb797, 0, none⟩ = some (.int .i64 0) := (blk_cell Zf.out 0).trans rfl; have hcz39_1 : w36.cell? ⟨gb797, 1, none⟩ = some (.int .i64 0) := (blk_cell Zf.out 1).trans rfl; have hcz39_2 : w36.cell? ⟨gb797, 2, none⟩ = some (.int .i64 0) := (blk_cell Zf.out 2).trans rfl; have hfz39_0 := blk_frozen Zf.out 0; have hfz39_1 := blk_frozen Zf.out 1; have hfz39_2 := blk_frozen Zf.out 2; have hcz40_0 : w36.cell? ⟨gb791, 0, none⟩ = some (.int .i64 0) := (blk_cell Zb.out 0).trans rfl; have hcz40_1 : w36.cell? ⟨gb791, 1, none⟩ = some (.int .i64 0) := (blk_cell Zb.out 1).trans rfl; have hcz40_2 : w36.cell? ⟨gb791, 2, none⟩ = some (.int .i64 0) := (blk_cell Zb.out 2).trans rfl; have hfz40_0 := blk_frozen Zb.out 0; have hfz40_1 := blk_frozen Zb.out 1; have hfz40_2 := blk_frozen Zb.out 2))
  refine bodyPost_ret (results_ct rfl _ _ gb791 46 #[.int .i64 0, .int .i64 0, .int .i64 0] (0, 0) _ rfl (by (with_reducible repeat (first | refine blk_drewN ?_ _ | refine blk_drew ?_ | refine blk_alloc ?_ _)); refine blk_put (cs := #[.int .i64 0, .int .i64 0, .int .i64 0]) ?_ 2 _ rfl; (with_reducible repeat (first | refine blk_drewN ?_ _ | refine blk_drew ?_ | refine blk_alloc ?_ _)); refine blk_put (cs := #[.int .i64 0, .int .i64 0, .int .i64 0]) ?_ 1 _ rfl; (with_reducible repeat (first | refine blk_drewN ?_ _ | refine blk_drew ?_ | refine blk_alloc ?_ _)); refine blk_put (cs := #[.int .i64 0, .int .i64 0, .int .i64 0]) ?_ 0 _ rfl; (with_reducible repeat (first | refine blk_drewN ?_ _ | refine blk_drew ?_ | refine blk_alloc ?_ _)); refine blk_far ?_ Zc.out _; (with_reducible repeat (first | refine blk_drewN ?_ _ | refine blk_drew ?_ | refine blk_alloc ?_ _)); refine blk_far ?_ Zc.out _; (with_reducible repeat (first | refine blk_drewN ?_ _ | refine blk_drew ?_ | refine blk_alloc ?_ _)); refine blk_far ?_ Zc.out _; (with_reducible repeat (first | refine blk_drewN ?_ _ | refine blk_drew ?_ | refine blk_alloc ?_ _)); exact Zb.out) Try.underlying46 rfl (by kernel_rfl)) rfl ?_
  exact ⟨by first | rfl | (simp [errW_none, errW_some] <;> rfl) | (simp [*, errW_none, errW_some] <;> rfl), zg_5 HB.out Zd.out Ze.out Zl.out⟩
/-! ### impl_first: function 44 -/
def impl_first.f (l0 : List Any) : Option Int := if l0.length ≤ 1000 then firstO l0 else none
theorem firstO_at : ∀ (l : List Any) (r : Int), firstO l = some r → l = [] ∧ r = 0 ∨ ∃ x c t, l = .b x :: .n c :: t ∧ (if x = true then some c else firstO t) = some r
  | [], r, h => .inl ⟨rfl, by simpa [firstO] using h.symm⟩
  | .b x :: .n c :: t, r, h => .inr ⟨x, c, t, rfl, by simpa [firstO] using h⟩
  | [.b _], _, h => by simp [firstO] at h
  | .b _ :: .b _ :: _, _, h => by simp [firstO] at h
  | .b _ :: .s _ :: _, _, h => by simp [firstO] at h
  | .n _ :: _, _, h => by simp [firstO] at h
  | .s _ :: _, _, h => by simp [firstO] at h
set_option maxHeartbeats 1000000 in
set_option maxRecDepth 100000 in
theorem impl_first.calls (A0 : Option Addr) (c0 : Nat) (l0 : List Any) (r : Int) (w : World) (hr0 : Kd.C kAny w A0 l0.length l0) (hc0 : l0.length ≤ c0) (h : impl_first.f l0 = some r) :
    Calls Try.prog 44 #[.slice A0 l0.length c0] w fun e w' => e = .returned (.int .i64 r) ∧ Drawn0 w w' := by
 have HR0 := zm hr0
 have hlen : l0.length ≤ 1000 := by
  unfold impl_first.f at h; split at h
  ·assumption
  ·cases h
 have H' := zm (show firstO (l0.drop 0) = some r by unfold impl_first.f at h; rw [if_pos hlen] at h; exact h)
 clear hr0 h
 have hta : ∀ (v : Bool) (W : World), (Instr.typeAssert (.iface 4 (.bool v)) 20 4 true).run Try.prog W = .ok (.tuple #[.bool v, .bool true]) W := fun v W => by rfl
 have htb : ∀ (v : Int) (W : World), (Instr.typeAssert (.iface 3 (.int .i64 v)) 20 3 true).run Try.prog W = .ok (.tuple #[.int .i64 v, .bool true]) W := fun v W => by rfl
 go_enter Try.func44, Try.ntmps44
 go_wp2
 go_loopg [3] (l0.length + 1) (fun kq v3 w' => ∃ k : Nat, v3 = .int .i64 (k : Int) ∧ Aside0 (kq + k ≥ l0.length + 1 ∧ k ≤ l0.length) ∧ Aside0 (firstO (l0.drop k) = some r) ∧ w = w')
 case atStart => exact ⟨0, rfl, ⟨by omega, by omega⟩, H', rfl⟩
 case round =>
  clear H'
  obtain ⟨k, rfl, HK, HA, rfl⟩ := hrel
  cases gk with
  | zero =>
   have hk := HK.out
   omega
  | succ k1 =>
   have hlen2 := HK.out.2
   rcases firstO_at _ _ HA.out with ⟨h1, h2⟩ | ⟨x, c, t, ht, h2⟩
   ·have hk : l0.length ≤ k := by simpa using h1
    clear h1
    have H2 := zm h2
    clear h2
    go_wp2
    go_ret
    exact ⟨by rw [H2.out] <;> rfl, Drawn0.refl _⟩
   ·have hl : k + 2 ≤ l0.length := by
     have := congrArg List.length ht
     simp at this; omega
    have e0 : l0[k]? = some (.b x) := by
     have := congrArg (fun l : List Any => l[0]?) ht
     simpa using this
    have e1 : l0[k + 1]? = some (.n c) := by
     have := congrArg (fun l : List Any => l[1]?) ht
     simpa using this
    have e2 : l0.drop (k + 2) = t := by
     have := congrArg (fun l : List Any => l.drop 2) ht
     simpa using this
    obtain ⟨ad, ea, hx0⟩ := any_at HR0.out k (by omega) _ e0
    obtain ⟨ad', ea', hx1⟩ := any_at HR0.out (k + 1) (by omega) _ e1
    have had : ad = ad' := Option.some.inj (ea.symm.trans ea')
    clear ea'
    subst had
    cases ea
    have hx0' : w.cell? (ad.add k) = some (.iface 4 (.bool x)) := hx0
    have hx1' : w.cell? ⟨ad.block, ad.off + (k + 1), none⟩ = some (.iface 3 (.int .i64 c)) := by simpa [Addr.add, encAny] using hx1
    have HT := zm ht
    have E2 := zm e2
    have H2 := zm h2
    clear hx0 hx1 ht e0 e1 e2 h2 HA
    cases x with
    | true =>
     go_wp2
     go_ret
     exact ⟨by have := H2.out; simp at this; rw [this] <;> rfl, Drawn0.refl _⟩
    | false =>
     go_wp2
     go_roundg k1
     case measure => omega
     case rel => exact ⟨k + 2, by simp, ⟨by have := HK.out; omega, by omega⟩, ⟨by rw [E2.out]; simpa using H2.out⟩, rfl⟩
/-! ### impl_ReadDelta: function 26 -/
def impl_ReadDelta.j0 : Nat → Int → Int → Int → List ByteArray → List (S76) → Option (Int × Int × Int × Int)
  | 0, _, _, _, _, _ => none
  | k + 1, x1, x2, x8, x799000, x799001 => if x8 = 0 then ((impl_Disk_delta.f k x799000 x799001 x1 x2).bind fun bt811 => (if bt811.2.2.2 = true then (some (bt811.1, bt811.2.1, bt811.2.2.1, 0)) else (some (0, 0, 0, 5)))) else (some (0, 0, 0, x8))
def impl_ReadDelta.f (k : Nat) (l0_0 : List ByteArray) (l0_1 : List (S76)) (a1 : Int) (a2 : Int) : Option (Int × Int × Int × Int) := (impl_DiskOK.f l0_0 l0_1).bind fun t800 => ((impl_isHost.f a1).bind fun t801 => (if t801 = true then ((impl_isHost.f a2).bind fun t802 => ((impl_first.f (([Any.b (!t800), Any.n 1, Any.b (!t802), Any.n 4] : List Any))).bind fun t806 => (impl_ReadDelta.j0 k a1 a2 t806 l0_0 l0_1))) else ((impl_first.f (([Any.b (!t800), Any.n 1, Any.b true, Any.n 4] : List Any))).bind fun t810 => (impl_ReadDelta.j0 k a1 a2 t810 l0_0 l0_1))))
theorem impl_ReadDelta.mono_l : ∀ k, (∀ y0 y1 y2 y3 y4, LeO (impl_ReadDelta.j0 k y0 y1 y2 y3 y4) (impl_ReadDelta.j0 (k + 1) y0 y1 y2 y3 y4))
  | 0 => fun _ _ _ _ _ r h => by simp [impl_ReadDelta.j0] at h
  | k + 1 => by
    have ih0 := impl_ReadDelta.mono_l k
    · intro y0 y1 y2 y3 y4
      unfold impl_ReadDelta.j0
      repeat' first
      | (with_reducible exact ih0 _ _ _ _ _)
      | (with_reducible exact impl_Disk_delta.mono _ _ _ _ _)
      | (with_reducible exact LeO.refl _)
      | (with_reducible exact LeO.none _)
      | (with_reducible refine LeO.ite ?_ ?_)
      | (with_reducible refine LeO.bind ?_ (fun _ => ?_))
      | exact ih0 _ _ _ _ _
      | exact impl_Disk_delta.mono _ _ _ _ _
      | exact LeO.none _
      | refine LeO.ite ?_ ?_
      | refine LeO.bind ?_ (fun _ => ?_)
theorem impl_ReadDelta.mono : ∀ a0 a1 a2 a3 k, LeO (impl_ReadDelta.f k a0 a1 a2 a3) (impl_ReadDelta.f (k + 1) a0 a1 a2 a3) := by
  intro a0 a1 a2 a3 k
  have ih0 := impl_ReadDelta.mono_l k
  unfold impl_ReadDelta.f
  repeat' first
      | (with_reducible exact ih0 _ _ _ _ _)
      | (with_reducible exact impl_Disk_delta.mono _ _ _ _ _)
      | (with_reducible exact LeO.refl _)
      | (with_reducible exact LeO.none _)
      | (with_reducible refine LeO.ite ?_ ?_)
      | (with_reducible refine LeO.bind ?_ (fun _ => ?_))
      | exact ih0 _ _ _ _ _
      | exact impl_Disk_delta.mono _ _ _ _ _
      | exact LeO.none _
      | refine LeO.ite ?_ ?_
      | refine LeO.bind ?_ (fun _ => ?_)
set_option maxHeartbeats 8000000 in
set_option maxRecDepth 100000 in
theorem impl_ReadDelta.calls (k : Nat) (A0_0 : Option Addr) (c0_0 : Nat) (l0_0 : List ByteArray) (A0_1 : Option Addr) (c0_1 : Nat) (l0_1 : List (S76)) (a1 : Int) (a2 : Int) (r1 : Int) (r2 : Int) (r3 : Int) (r4 : Int) (w : World) (hr0_0 : Kd.C Kd.string w A0_0 l0_0.length l0_0) (hc0_0 : l0_0.length ≤ c0_0) (hr0_1 : Kd.C k76 w A0_1 l0_1.length l0_1) (hc0_1 : l0_1.length ≤ c0_1) (h : impl_ReadDelta.f k l0_0 l0_1 a1 a2 = some (r1, r2, r3, r4)) :
    Calls Try.prog 26 #[.agg #[.slice A0_0 l0_0.length c0_0, .slice A0_1 l0_1.length c0_1], .int .i64 a1, .int .i64 a2] w fun e w' => e = .returned (.tuple #[.agg #[.int .i64 r1, .int .i64 r2, .int .i64 r3], .int .i64 r4]) ∧ Below w.heap.size w w' := by
 have hu29 := Try.underlying29
 have hu46 := Try.underlying46
 have Zl := zm hr0_0
 have Zm := zm hc0_0
 clear hr0_0 hc0_0
 have Zn := zm hr0_1
 have Zo := zm hc0_1
 clear hr0_1 hc0_1
 have HB := zm (Below.refl w.heap.size w)
 have H : ((impl_DiskOK.f l0_0 l0_1).bind fun t800 => ((impl_isHost.f a1).bind fun t801 => (if t801 = true then ((impl_isHost.f a2).bind fun t802 => ((impl_first.f (([Any.b (!t800), Any.n 1, Any.b (!t802), Any.n 4] : List Any))).bind fun t806 => (impl_ReadDelta.j0 k a1 a2 t806 l0_0 l0_1))) else ((impl_first.f (([Any.b (!t800), Any.n 1, Any.b true, Any.n 4] : List Any))).bind fun t810 => (impl_ReadDelta.j0 k a1 a2 t810 l0_0 l0_1))))) = some (r1, r2, r3, r4) := h
 clear h
 have HC4 := zm H
 clear H
 go_enter Try.func26, Try.ntmps26
 go_upto_region 1 with (first | ((with_reducible refine gate_dst (N := 3) rfl ?_); refine box_event ?hg (N := 3) ?hd (cs := #[.slice A0_0 l0_0.length c0_0, .slice A0_1 l0_1.length c0_1]) (t := 29) ?hr ?_; (case hd => rfl); (case hg => rfl); (case hr => first | (go_simp; done) | (go_simp; rfl)); intro gb798 hg w5 hbox hb; have n0_ := zm (below_step (zg_0 HB.out) hb); have n1_ := zm (hbox); have n2_ := zm ((by rw [hg]; exact (below_size (zg_0 HB.out)) : w.heap.size ≤ gb798)); have n3_ := zm ((by rw [hg]; exact (below_size (zg_0 HB.out)) : w.heap.size ≤ gb798)); clear HB; have HB := n0_; have Za := n1_; have Zt := n2_; have Zd := n3_; clear n0_ n1_ n2_ n3_; clear hb hbox hg) | ((with_reducible refine gate_dst (N := 6) rfl ?_); refine box_event ?hg (N := 6) ?hd (cs := #[.int .i64 0, .int .i64 0, .int .i64 0]) (t := 46) ?hr ?_; (case hd => rfl); (case hg => rfl); (case hr => first | (go_simp; done) | (go_simp; rfl)); intro gb799 hg w6 hbox hb; have n0_ := zm (blk_below (g := gb798) (o := .cells #[.slice A0_0 l0_0.length c0_0, .slice A0_1 l0_1.length c0_1] 29 (0, 0)) (zg_2 Za.out) hb); have n1_ := zm (below_step (zg_1 HB.out Zd.out) hb); have n2_ := zm (hbox); have n3_ := zm ((by rw [hg]; exact (below_size (zg_1 HB.out Zd.out)) : w.heap.size ≤ gb799)); have n4_ := zm ((by rw [hg]; exact (below_size (zg_1 HB.out Zd.out)) : w.heap.size ≤ gb799)); have n5_ := zm ((by rw [hg]; exact Nat.ne_of_lt (blk_lt (g := gb798) (o := .cells #[.slice A0_0 l0_0.length c0_0, .slice A0_1 l0_1.length c0_1] 29 (0, 0)) (zg_2 Za.out)) : gb798 ≠ gb799)); have n6_ := zm ((by rw [hg]; exact Nat.ne_of_gt (blk_lt (g := gb798) (o := .cells #[.slice A0_0 l0_0.length c0_0, .slice A0_1 l0_1.length c0_1] 29 (0, 0)) (zg_2 Za.out)) : gb799 ≠ gb798)); clear Za; clear HB; have Za := n0_; have HB := n1_; have Zb := n2_; have Zu := n3_; have Ze := n4_; have Zf := n5_; have Zg := n6_; clear n0_ n1_ n2_ n3_ n4_ n5_ n6_; clear hb hbox hg))
 (try simp only [Act.put, zs, zz, zt])
 go_cut [8] (fun v8 wc => ∃ (kq : Nat) (x8_3 : Int), v8 = .int .i64 x8_3 ∧ Aside0 (impl_ReadDelta.j0 kq a1 a2 x8_3 l0_0 l0_1 = some (r1, r2, r3, r4)) ∧ Aside0 (kq ≤ k) ∧ Aside0 (wc.heap[gb798]? = some (.cells #[(.slice A0_0 l0_0.length c0_0), (.slice A0_1 l0_1.length c0_1)] 29 (0, 0))) ∧ Aside0 (wc.heap[gb799]? = some (.cells #[.int .i64 0, .int .i64 0, .int .i64 0] 46 (0, 0))) ∧ Aside0 (Below w.heap.size w wc))
 case first =>
  have H := HC4.out
  clear HC4
  replace H := Option.bind_eq_some_iff.mp H
  obtain ⟨t800, A70, H⟩ := H
  replace H : ((impl_isHost.f a1).bind fun t801 => (if t801 = true then ((impl_isHost.f a2).bind fun t802 => ((impl_first.f (([Any.b (!t800), Any.n 1, Any.b (!t802), Any.n 4] : List Any))).bind fun t806 => (impl_ReadDelta.j0 k a1 a2 t806 l0_0 l0_1))) else ((impl_first.f (([Any.b (!t800), Any.n 1, Any.b true, Any.n 4] : List Any))).bind fun t810 => (impl_ReadDelta.j0 k a1 a2 t810 l0_0 l0_1)))) = some (r1, r2, r3, r4) := H
  have A7 := zm A70
  clear A70
  replace H := Option.bind_eq_some_iff.mp H
  obtain ⟨t801, A80, H⟩ := H
  replace H : (if t801 = true then ((impl_isHost.f a2).bind fun t802 => ((impl_first.f (([Any.b (!t800), Any.n 1, Any.b (!t802), Any.n 4] : List Any))).bind fun t806 => (impl_ReadDelta.j0 k a1 a2 t806 l0_0 l0_1))) else ((impl_first.f (([Any.b (!t800), Any.n 1, Any.b true, Any.n 4] : List Any))).bind fun t810 => (impl_ReadDelta.j0 k a1 a2 t810 l0_0 l0_1))) = some (r1, r2, r3, r4) := H
  have A8 := zm A80
  clear A80
  by_cases c9 : t801 = true
  ·subst c9
   have H1 : ((impl_isHost.f a2).bind fun t802 => ((impl_first.f (([Any.b (!t800), Any.n 1, Any.b (!t802), Any.n 4] : List Any))).bind fun t806 => (impl_ReadDelta.j0 k a1 a2 t806 l0_0 l0_1))) = some (r1, r2, r3, r4) := by rw [if_pos rfl] at H; exact H
   clear H
   have H := H1
   clear H1
   replace H := Option.bind_eq_some_iff.mp H
   obtain ⟨t802, A100, H⟩ := H
   replace H : ((impl_first.f (([Any.b (!t800), Any.n 1, Any.b (!t802), Any.n 4] : List Any))).bind fun t806 => (impl_ReadDelta.j0 k a1 a2 t806 l0_0 l0_1)) = some (r1, r2, r3, r4) := H
   have A10 := zm A100
   clear A100
   obtain ⟨y803, hy803⟩ : ∃ y_ : List Any, y_ = (([Any.b (!t800), Any.n 1, Any.b (!t802), Any.n 4] : List Any)) := ⟨_, rfl⟩
   replace H : ((impl_first.f y803).bind fun t806 => (impl_ReadDelta.j0 k a1 a2 t806 l0_0 l0_1)) = some (r1, r2, r3, r4) := by first | (rw [hy803]; with_reducible exact H) | (have H2_ := (Option.bind_some _ _).symm.trans H; rw [hy803]; with_reducible exact H2_) | (have H2_ := (Option.bind_some _ _).symm.trans H; with_reducible exact H2_) | with_reducible exact H | (rw [hy803]; exact H) | exact H
   have Ny803 := zm hy803
   clear hy803
   replace H := Option.bind_eq_some_iff.mp H
   obtain ⟨t806, A110, H⟩ := H
   replace H : (impl_ReadDelta.j0 k a1 a2 t806 l0_0 l0_1) = some (r1, r2, r3, r4) := H
   have A11 := zm A110
   clear A110
   have H' := zm H
   clear H
   have hnb12 := Zf.out
   have hnc12 := Zg.out
   have hcz13_0 : w6.cell? ⟨gb798, 0, none⟩ = some (.slice A0_0 l0_0.length c0_0) := (blk_cell Za.out 0).trans rfl
   have hcz13_1 : w6.cell? ⟨gb798, 1, none⟩ = some (.slice A0_1 l0_1.length c0_1) := (blk_cell Za.out 1).trans rfl
   have hfz13_0 := blk_frozen Za.out 0
   have hfz13_1 := blk_frozen Za.out 1
   go_wp2_with (first | ((with_reducible refine gate_callee (f := 45) rfl ?_); refine goesL_ (some 12) rfl rfl Try.func45 (by kernel_rfl) rfl #[.agg #[.slice A0_0 l0_0.length c0_0, .slice A0_1 l0_1.length c0_1]] rfl zq ?_; (with_reducible refine (impl_DiskOK.calls _ _ l0_0 _ _ l0_1 t800 _ ?side1 ?side2 ?side3 ?side4 A7.out).mono ?_); (case side1 => repeat (first | exact (Kd.C_below Zl.out HB.out) | (with_reducible refine Kd.C_alloc ?_ _) | (with_reducible refine Kd.C_drewN ?_ _) | (with_reducible refine Kd.C_drew ?_))); (case side2 => exact Zm.out); (case side3 => repeat (first | exact (Kd.C_below Zn.out HB.out) | (with_reducible refine Kd.C_alloc ?_ _) | (with_reducible refine Kd.C_drewN ?_ _) | (with_reducible refine Kd.C_drew ?_))); (case side4 => exact Zo.out); rintro e w14 ⟨rfl, hb⟩; refine ⟨_, rfl, ?_⟩; have n0_ := zm (blk_below (g := gb798) (o := .cells #[.slice A0_0 l0_0.length c0_0, .slice A0_1 l0_1.length c0_1] 29 (0, 0)) (zg_2 Za.out) hb); have n1_ := zm (blk_below (g := gb799) (o := .cells #[.int .i64 0, .int .i64 0, .int .i64 0] 46 (0, 0)) (zg_2 Zb.out) hb); have n2_ := zm (below_step (zg_4 HB.out Zd.out Ze.out) hb); clear Za; clear Zb; clear HB; have Za := n0_; have Zb := n1_; have HB := n2_; clear n0_ n1_ n2_; (try clear hb); (try clear hb2); (try clear hk); (try clear hi)) | ((with_reducible refine gate_callee (f := 46) rfl ?_); refine goesL_ (some 17) rfl rfl Try.func46 (by kernel_rfl) rfl #[.int .i64 a1] rfl zq ?_; (with_reducible refine (impl_isHost.calls a1 true _ A8.out).mono ?_); rintro e w' ⟨rfl, ⟨nd, rfl⟩⟩; refine ⟨_, rfl, ?_⟩) | (go_at_call 46; (with_reducible refine (impl_isHost.calls a2 t802 _ A10.out).mono ?_); rintro e w' ⟨rfl, ⟨nd, rfl⟩⟩) | ((with_reducible refine gate_dst (N := 26) rfl ?_); refine Kd.R_lit kAny _ 20 ?hg (N := 26) ?hd (xs := ([Any.b (!t800), Any.n 1, Any.b (!t802), Any.n 4] : List Any)) (inner := [.iface 4 (.bool (!t800)), .iface 3 (.int .i64 1), .iface 4 (.bool (!t802)), .iface 3 (.int .i64 4)]) (ok := fun _ => True) (okp := fun _ => True) ?hr ?hp (fun _ hk => hk) trivial (Below.refl _ _) (Nat.le_refl _) (by simp) ?_; (case hd => rfl); (case hg => rfl); (case hr => first | (go_simp; done) | (go_simp; rfl)); (case hp => exact (Reps.one (show Kd.M kAny _ _ _ (Any.b (!t800)) [.iface 4 (.bool (!t800))] from rfl) (Reps.one (show Kd.M kAny _ _ _ (Any.n 1) [.iface 3 (.int .i64 1)] from rfl) (Reps.one (show Kd.M kAny _ _ _ (Any.b (!t802)) [.iface 4 (.bool (!t802))] from rfl) (Reps.one (show Kd.M kAny _ _ _ (Any.n 4) [.iface 3 (.int .i64 4)] from rfl) (Reps.none _ _)))))); intro v804 w15 ho16 hb hg_ hnew_; clear hg_ hnew_; (first | rw [← Ny803.out] at ho16 | (simp only [Int.reduceToNat] at ho16; rw [← Ny803.out] at ho16)); have n0_ := zm (Kd.R_lower ho16 (below_size (zg_4 HB.out Zd.out Ze.out))); have n1_ := zm (blk_below (g := gb798) (o := .cells #[.slice A0_0 l0_0.length c0_0, .slice A0_1 l0_1.length c0_1] 29 (0, 0)) (zg_2 Za.out) hb); have n2_ := zm (blk_below (g := gb799) (o := .cells #[.int .i64 0, .int .i64 0, .int .i64 0] 46 (0, 0)) (zg_2 Zb.out) hb); have n3_ := zm (below_step (zg_4 HB.out Zd.out Ze.out) hb); clear Za; clear Zb; clear HB; have Zp := n0_; have Za := n1_; have Zb := n2_; have HB := n3_; clear n0_ n1_ n2_ n3_; clear hb ho16; obtain ⟨Ao17, co17, eo17⟩ := Kd.R_slice Zp.out; subst eo17) | ((with_reducible refine gate_callee (f := 44) rfl ?_); refine goesL_ (some 27) rfl rfl Try.func44 (by kernel_rfl) rfl #[.slice Ao17 y803.length co17] rfl zq ?_; (with_reducible refine (impl_first.calls _ _ y803 t806 _ ?side1 ?side2 A11.out).mono ?_); (case side1 => repeat (first | exact (Kd.R_reads' Zp.out).2.2 | (with_reducible refine Kd.C_alloc ?_ _) | (with_reducible refine Kd.C_drewN ?_ _) | (with_reducible refine Kd.C_drew ?_))); (case side2 => exact (Kd.R_reads' Zp.out).2.1); rintro e w' ⟨rfl, ⟨nd, rfl⟩⟩; refine ⟨_, rfl, ?_⟩))
   go_meet
   case rel => exact ⟨_, (t806), zr, H', ⟨by first | omega | exact Nat.le_refl _⟩, ⟨by (with_reducible repeat (first | refine blk_drewN ?_ _ | refine blk_drew ?_ | refine blk_alloc ?_ _)); exact Za.out⟩, ⟨by (with_reducible repeat (first | refine blk_drewN ?_ _ | refine blk_drew ?_ | refine blk_alloc ?_ _)); exact Zb.out⟩, ⟨zg_4 HB.out Zd.out Ze.out⟩⟩
  ·replace c9 := Bool.eq_false_iff.mpr c9
   subst c9
   have H1 : ((impl_first.f (([Any.b (!t800), Any.n 1, Any.b true, Any.n 4] : List Any))).bind fun t810 => (impl_ReadDelta.j0 k a1 a2 t810 l0_0 l0_1)) = some (r1, r2, r3, r4) := by rw [if_neg (show ¬ (false = true) by decide)] at H; exact H
   clear H
   have H := H1
   clear H1
   obtain ⟨y807, hy807⟩ : ∃ y_ : List Any, y_ = (([Any.b (!t800), Any.n 1, Any.b true, Any.n 4] : List Any)) := ⟨_, rfl⟩
   replace H : ((impl_first.f y807).bind fun t810 => (impl_ReadDelta.j0 k a1 a2 t810 l0_0 l0_1)) = some (r1, r2, r3, r4) := by first | (rw [hy807]; with_reducible exact H) | (have H2_ := (Option.bind_some _ _).symm.trans H; rw [hy807]; with_reducible exact H2_) | (have H2_ := (Option.bind_some _ _).symm.trans H; with_reducible exact H2_) | with_reducible exact H | (rw [hy807]; exact H) | exact H
   have Ny807 := zm hy807
   clear hy807
   replace H := Option.bind_eq_some_iff.mp H
   obtain ⟨t810, A180, H⟩ := H
   replace H : (impl_ReadDelta.j0 k a1 a2 t810 l0_0 l0_1) = some (r1, r2, r3, r4) := H
   have A18 := zm A180
   clear A180
   have H' := zm H
   clear H
   have hnb19 := Zf.out
   have hnc19 := Zg.out
   have hcz20_0 : w6.cell? ⟨gb798, 0, none⟩ = some (.slice A0_0 l0_0.length c0_0) := (blk_cell Za.out 0).trans rfl
   have hcz20_1 : w6.cell? ⟨gb798, 1, none⟩ = some (.slice A0_1 l0_1.length c0_1) := (blk_cell Za.out 1).trans rfl
   have hfz20_0 := blk_frozen Za.out 0
   have hfz20_1 := blk_frozen Za.out 1
   go_wp2_with (first | ((with_reducible refine gate_callee (f := 45) rfl ?_); refine goesL_ (some 12) rfl rfl Try.func45 (by kernel_rfl) rfl #[.agg #[.slice A0_0 l0_0.length c0_0, .slice A0_1 l0_1.length c0_1]] rfl zq ?_; (with_reducible refine (impl_DiskOK.calls _ _ l0_0 _ _ l0_1 t800 _ ?side1 ?side2 ?side3 ?side4 A7.out).mono ?_); (case side1 => repeat (first | exact (Kd.C_below Zl.out HB.out) | (with_reducible refine Kd.C_alloc ?_ _) | (with_reducible refine Kd.C_drewN ?_ _) | (with_reducible refine Kd.C_drew ?_))); (case side2 => exact Zm.out); (case side3 => repeat (first | exact (Kd.C_below Zn.out HB.out) | (with_reducible refine Kd.C_alloc ?_ _) | (with_reducible refine Kd.C_drewN ?_ _) | (with_reducible refine Kd.C_drew ?_))); (case side4 => exact Zo.out); rintro e w21 ⟨rfl, hb⟩; refine ⟨_, rfl, ?_⟩; have n0_ := zm (blk_below (g := gb798) (o := .cells #[.slice A0_0 l0_0.length c0_0, .slice A0_1 l0_1.length c0_1] 29 (0, 0)) (zg_2 Za.out) hb); have n1_ := zm (blk_below (g := gb799) (o := .cells #[.int .i64 0, .int .i64 0, .int .i64 0] 46 (0, 0)) (zg_2 Zb.out) hb); have n2_ := zm (below_step (zg_4 HB.out Zd.out Ze.out) hb); clear Za; clear Zb; clear HB; have Za := n0_; have Zb := n1_; have HB := n2_; clear n0_ n1_ n2_; (try clear hb); (try clear hb2); (try clear hk); (try clear hi)) | ((with_reducible refine gate_callee (f := 46) rfl ?_); refine goesL_ (some 17) rfl rfl Try.func46 (by kernel_rfl) rfl #[.int .i64 a1] rfl zq ?_; (with_reducible refine (impl_isHost.calls a1 false _ A8.out).mono ?_); rintro e w' ⟨rfl, ⟨nd, rfl⟩⟩; refine ⟨_, rfl, ?_⟩) | ((with_reducible refine gate_dst (N := 26) rfl ?_); refine Kd.R_lit kAny _ 20 ?hg (N := 26) ?hd (xs := ([Any.b (!t800), Any.n 1, Any.b true, Any.n 4] : List Any)) (inner := [.iface 4 (.bool (!t800)), .iface 3 (.int .i64 1), .iface 4 (.bool true), .iface 3 (.int .i64 4)]) (ok := fun _ => True) (okp := fun _ => True) ?hr ?hp (fun _ hk => hk) trivial (Below.refl _ _) (Nat.le_refl _) (by simp) ?_; (case hd => rfl); (case hg => rfl); (case hr => first | (go_simp; done) | (go_simp; rfl)); (case hp => exact (Reps.one (show Kd.M kAny _ _ _ (Any.b (!t800)) [.iface 4 (.bool (!t800))] from rfl) (Reps.one (show Kd.M kAny _ _ _ (Any.n 1) [.iface 3 (.int .i64 1)] from rfl) (Reps.one (show Kd.M kAny _ _ _ (Any.b true) [.iface 4 (.bool true)] from rfl) (Reps.one (show Kd.M kAny _ _ _ (Any.n 4) [.iface 3 (.int .i64 4)] from rfl) (Reps.none _ _)))))); intro v808 w22 ho23 hb hg_ hnew_; clear hg_ hnew_; (first | rw [← Ny807.out] at ho23 | (simp only [Int.reduceToNat] at ho23; rw [← Ny807.out] at ho23)); have n0_ := zm (Kd.R_lower ho23 (below_size (zg_4 HB.out Zd.out Ze.out))); have n1_ := zm (blk_below (g := gb798) (o := .cells #[.slice A0_0 l0_0.length c0_0, .slice A0_1 l0_1.length c0_1] 29 (0, 0)) (zg_2 Za.out) hb); have n2_ := zm (blk_below (g := gb799) (o := .cells #[.int .i64 0, .int .i64 0, .int .i64 0] 46 (0, 0)) (zg_2 Zb.out) hb); have n3_ := zm (below_step (zg_4 HB.out Zd.out Ze.out) hb); clear Za; clear Zb; clear HB; have Zq := n0_; have Za := n1_; have Zb := n2_; have HB := n3_; clear n0_ n1_ n2_ n3_; clear hb ho23; obtain ⟨Ao24, co24, eo24⟩ := Kd.R_slice Zq.out; subst eo24) | ((with_reducible refine gate_callee (f := 44) rfl ?_); refine goesL_ (some 27) rfl rfl Try.func44 (by kernel_rfl) rfl #[.slice Ao24 y807.length co24] rfl zq ?_; (with_reducible refine (impl_first.calls _ _ y807 t810 _ ?side1 ?side2 A18.out).mono ?_); (case side1 => repeat (first | exact (Kd.R_reads' Zq.out).2.2 | (with_reducible refine Kd.C_alloc ?_ _) | (with_reducible refine Kd.C_drewN ?_ _) | (with_reducible refine Kd.C_drew ?_))); (case side2 => exact (Kd.R_reads' Zq.out).2.1); rintro e w' ⟨rfl, ⟨nd, rfl⟩⟩; refine ⟨_, rfl, ?_⟩))
   go_meet
   case rel => exact ⟨_, (t810), zr, H', ⟨by first | omega | exact Nat.le_refl _⟩, ⟨by (with_reducible repeat (first | refine blk_drewN ?_ _ | refine blk_drew ?_ | refine blk_alloc ?_ _)); exact Za.out⟩, ⟨by (with_reducible repeat (first | refine blk_drewN ?_ _ | refine blk_drew ?_ | refine blk_alloc ?_ _)); exact Zb.out⟩, ⟨zg_4 HB.out Zd.out Ze.out⟩⟩
 case rest =>
  clear HC4
  try clear c1
  try clear c2
  try clear p2
  try clear c4
  try clear c9
  try clear c12
  try clear c19
  try clear hcz13_0
  try clear hcz13_1
  try clear hcz20_0
  try clear hcz20_1
  try clear hfz13_0
  try clear hfz13_1
  try clear hfz20_0
  try clear hfz20_1
  obtain ⟨kq, x8_3, rfl, HA, HJ3, Za, Zb, HB⟩ := hcut
  cases kq with
  | zero => exact absurd HA.out (by simp [impl_ReadDelta.j0])
  | succ kj3 =>
   have H := HA.out
   clear HA
   simp only [impl_ReadDelta.j0] at H
   by_cases c25 : x8_3 = 0
   ·rw [if_pos c25] at H
    have c25b0 : (x8_3 == 0) = true := beq_iff_eq.mpr c25
    have c25b1 : (x8_3 != 0) = false := bne_eq_false_iff_eq.mpr c25
    clear c25
    replace H := Option.bind_eq_some_iff.mp H
    obtain ⟨⟨t811, t812, t813, t814⟩, A260, H⟩ := H
    replace H : (if t814 = true then (some (t811, t812, t813, 0)) else (some (0, 0, 0, 5))) = some (r1, r2, r3, r4) := H
    have A26 := zm A260
    clear A260
    by_cases c27 : t814 = true
    ·subst c27
     have H1 : (some (t811, t812, t813, 0)) = some (r1, r2, r3, r4) := by rw [if_pos rfl] at H; exact H
     clear H
     have H := H1
     clear H1
     simp only [Option.some.injEq, Prod.mk.injEq] at H
     obtain ⟨rfl, rfl, rfl, rfl⟩ := H
     have hnb28 := Zf.out
     have hnc28 := Zg.out
     have hcz29_0 : wc.cell? ⟨gb798, 0, none⟩ = some (.slice A0_0 l0_0.length c0_0) := (blk_cell Za.out 0).trans rfl
     have hcz29_1 : wc.cell? ⟨gb798, 1, none⟩ = some (.slice A0_1 l0_1.length c0_1) := (blk_cell Za.out 1).trans rfl
     have hfz29_0 := blk_frozen Za.out 0
     have hfz29_1 := blk_frozen Za.out 1
     go_wp2_with (first | ((with_reducible refine gate_callee (f := 56) rfl ?_); refine goesL_ (some 36) rfl rfl Try.func56 (by kernel_rfl) rfl #[.agg #[.slice A0_0 l0_0.length c0_0, .slice A0_1 l0_1.length c0_1], .int .i64 a1, .int .i64 a2] rfl zq ?_; (with_reducible refine (impl_Disk_delta.calls kj3 _ _ l0_0 _ _ l0_1 a1 a2 t811 t812 t813 true _ ?side1 ?side2 ?side3 ?side4 A26.out).mono ?_); (case side1 => repeat (first | exact (Kd.C_below Zl.out HB.out) | (with_reducible refine Kd.C_alloc ?_ _) | (with_reducible refine Kd.C_drewN ?_ _) | (with_reducible refine Kd.C_drew ?_))); (case side2 => exact Zm.out); (case side3 => repeat (first | exact (Kd.C_below Zn.out HB.out) | (with_reducible refine Kd.C_alloc ?_ _) | (with_reducible refine Kd.C_drewN ?_ _) | (with_reducible refine Kd.C_drew ?_))); (case side4 => exact Zo.out); rintro e w30 ⟨rfl, hb⟩; refine ⟨_, rfl, ?_⟩; have n0_ := zm (blk_below (g := gb798) (o := .cells #[.slice A0_0 l0_0.length c0_0, .slice A0_1 l0_1.length c0_1] 29 (0, 0)) (zg_2 Za.out) hb); have n1_ := zm (blk_below (g := gb799) (o := .cells #[.int .i64 0, .int .i64 0, .int .i64 0] 46 (0, 0)) (zg_2 Zb.out) hb); have n2_ := zm (below_step (zg_4 HB.out Zd.out Ze.out) hb); clear Za; clear Zb; clear HB; have Za := n0_; have Zb := n1_; have HB := n2_; clear n0_ n1_ n2_; (try clear hb); (try clear hb2); (try clear hk); (try clear hi)) | ((with_reducible refine gate_dst (N := 9) rfl ?_); refine box_event ?hg (N := 9) ?hd (cs := #[.int .i64 0, .int .i64 0, .int .i64 0]) (t := 46) ?hr ?_; (case hd => rfl); (case hg => rfl); (case hr => first | (go_simp; done) | (go_simp; rfl)); intro gb815 hg w31 hbox hb; have n0_ := zm (blk_below (g := gb798) (o := .cells #[.slice A0_0 l0_0.length c0_0, .slice A0_1 l0_1.length c0_1] 29 (0, 0)) (zg_2 Za.out) hb); have n1_ := zm (blk_below (g := gb799) (o := .cells #[.int .i64 0, .int .i64 0, .int .i64 0] 46 (0, 0)) (zg_2 Zb.out) hb); have n2_ := zm (below_step (zg_4 HB.out Zd.out Ze.out) hb); have n3_ := zm (hbox); have n4_ := zm ((by rw [hg]; exact (below_size (zg_4 HB.out Zd.out Ze.out)) : w.heap.size ≤ gb815)); have n5_ := zm ((by rw [hg]; exact (below_size (zg_4 HB.out Zd.out Ze.out)) : w.heap.size ≤ gb815)); have n6_ := zm ((by rw [hg]; exact Nat.ne_of_lt (blk_lt (g := gb798) (o := .cells #[.slice A0_0 l0_0.length c0_0, .slice A0_1 l0_1.length c0_1] 29 (0, 0)) (zg_2 Za.out)) : gb798 ≠ gb815)); have n7_ := zm ((by rw [hg]; exact Nat.ne_of_gt (blk_lt (g := gb798) (o := .cells #[.slice A0_0 l0_0.length c0_0, .slice A0_1 l0_1.length c0_1] 29 (0, 0)) (zg_2 Za.out)) : gb815 ≠ gb798)); have n8_ := zm ((by rw [hg]; exact Nat.ne_of_lt (blk_lt (g := gb799) (o := .cells #[.int .i64 0, .int .i64 0, .int .i64 0] 46 (0, 0)) (zg_2 Zb.out)) : gb799 ≠ gb815)); have n9_ := zm ((by rw [hg]; exact Nat.ne_of_gt (blk_lt (g := gb799) (o := .cells #[.int .i64 0, .int .i64 0, .int .i64 0] 46 (0, 0)) (zg_2 Zb.out)) : gb815 ≠ gb799)); clear Za; clear Zb; clear HB; have Za := n0_; have Zb := n1_; have HB := n2_; have Zh := n3_; have Zs := n4_; have Zr := n5_; have Zi := n6_; have Zj := n7_; have Zc := n8_; have Zk := n9_; clear n0_ n1_ n2_ n3_ n4_ n5_ n6_ n7_ n8_ n9_; clear hb hbox hg; have hnb32 := Zj.out; have hnc32 := Zi.out; have hnb33 := Zk.out; have hnc33 := Zc.out; have hcz34_0 : w31.cell? ⟨gb815, 0, none⟩ = some (.int .i64 0) := (blk_cell Zh.out 0).trans rfl; have hcz34_1 : w31.cell? ⟨gb815, 1, none⟩ = some (.int .i64 0) := (blk_cell Zh.out 1).trans rfl; have hcz34_2 : w31.cell? ⟨gb815, 2, none⟩ = some (.int .i64 0) := (blk_cell Zh.out 2).trans rfl; have hfz34_0 := blk_frozen Zh.out 0; have hfz34_1 := blk_frozen Zh.out 1; have hfz34_2 := blk_frozen Zh.out 2; have hcz35_0 : w31.cell? ⟨gb799, 0, none⟩ = some (.int .i64 0) := (blk_cell Zb.out 0).trans rfl; have hcz35_1 : w31.cell? ⟨gb799, 1, none⟩ = some (.int .i64 0) := (blk_cell Zb.out 1).trans rfl; have hcz35_2 : w31.cell? ⟨gb799, 2, none⟩ = some (.int .i64 0) := (blk_cell Zb.out 2).trans rfl; have hfz35_0 := blk_frozen Zb.out 0; have hfz35_1 := blk_frozen Zb.out 1; have hfz35_2 := blk_frozen Zb.out 2))
     refine bodyPost_ret (results_ct rfl _ _ gb799 46 #[.int .i64 t811, .int .i64 t812, .int .i64 t813] (0, 0) _ rfl (by (with_reducible repeat (first | refine blk_drewN ?_ _ | refine blk_drew ?_ | refine blk_alloc ?_ _)); refine blk_put (cs := #[.int .i64 t811, .int .i64 t812, .int .i64 0]) ?_ 2 _ rfl; (with_reducible repeat (first | refine blk_drewN ?_ _ | refine blk_drew ?_ | refine blk_alloc ?_ _)); refine blk_put (cs := #[.int .i64 t811, .int .i64 0, .int .i64 0]) ?_ 1 _ rfl; (with_reducible repeat (first | refine blk_drewN ?_ _ | refine blk_drew ?_ | refine blk_alloc ?_ _)); refine blk_put (cs := #[.int .i64 0, .int .i64 0, .int .i64 0]) ?_ 0 _ rfl; (with_reducible repeat (first | refine blk_drewN ?_ _ | refine blk_drew ?_ | refine blk_alloc ?_ _)); refine blk_far ?_ Zc.out _; (with_reducible repeat (first | refine blk_drewN ?_ _ | refine blk_drew ?_ | refine blk_alloc ?_ _)); refine blk_far ?_ Zc.out _; (with_reducible repeat (first | refine blk_drewN ?_ _ | refine blk_drew ?_ | refine blk_alloc ?_ _)); refine blk_far ?_ Zc.out _; (with_reducible repeat (first | refine blk_drewN ?_ _ | refine blk_drew ?_ | refine blk_alloc ?_ _)); exact Zb.out) Try.underlying46 rfl (by kernel_rfl)) rfl ?_
     exact ⟨by first | rfl | (simp [errW_none, errW_some] <;> rfl) | (simp [*, errW_none, errW_some] <;> rfl), zg_5 HB.out Zd.out Ze.out Zr.out⟩
    ·replace c27 := Bool.eq_false_iff.mpr c27
     subst c27
     have H1 : (some (0, 0, 0, 5)) = some (r1, r2, r3, r4) := by rw [if_neg (show ¬ (false = true) by decide)] at H; exact H
     clear H
     have H := H1
     clear H1
     simp only [Option.some.injEq, Prod.mk.injEq] at H
     obtain ⟨rfl, rfl, rfl, rfl⟩ := H
     have hnb36 := Zf.out
     have hnc36 := Zg.out
     have hcz37_0 : wc.cell? ⟨gb798, 0, none⟩ = some (.slice A0_0 l0_0.length c0_0) := (blk_cell Za.out 0).trans rfl
     have hcz37_1 : wc.cell? ⟨gb798, 1, none⟩ = some (.slice A0_1 l0_1.length c0_1) := (blk_cell Za.out 1).trans rfl
     have hfz37_0 := blk_frozen Za.out 0
     have hfz37_1 := blk_frozen Za.out 1
     go_wp2_with (first | ((with_reducible refine gate_callee (f := 56) rfl ?_); refine goesL_ (some 36) rfl rfl Try.func56 (by kernel_rfl) rfl #[.agg #[.slice A0_0 l0_0.length c0_0, .slice A0_1 l0_1.length c0_1], .int .i64 a1, .int .i64 a2] rfl zq ?_; (with_reducible refine (impl_Disk_delta.calls kj3 _ _ l0_0 _ _ l0_1 a1 a2 t811 t812 t813 false _ ?side1 ?side2 ?side3 ?side4 A26.out).mono ?_); (case side1 => repeat (first | exact (Kd.C_below Zl.out HB.out) | (with_reducible refine Kd.C_alloc ?_ _) | (with_reducible refine Kd.C_drewN ?_ _) | (with_reducible refine Kd.C_drew ?_))); (case side2 => exact Zm.out); (case side3 => repeat (first | exact (Kd.C_below Zn.out HB.out) | (with_reducible refine Kd.C_alloc ?_ _) | (with_reducible refine Kd.C_drewN ?_ _) | (with_reducible refine Kd.C_drew ?_))); (case side4 => exact Zo.out); rintro e w38 ⟨rfl, hb⟩; refine ⟨_, rfl, ?_⟩; have n0_ := zm (blk_below (g := gb798) (o := .cells #[.slice A0_0 l0_0.length c0_0, .slice A0_1 l0_1.length c0_1] 29 (0, 0)) (zg_2 Za.out) hb); have n1_ := zm (blk_below (g := gb799) (o := .cells #[.int .i64 0, .int .i64 0, .int .i64 0] 46 (0, 0)) (zg_2 Zb.out) hb); have n2_ := zm (below_step (zg_4 HB.out Zd.out Ze.out) hb); clear Za; clear Zb; clear HB; have Za := n0_; have Zb := n1_; have HB := n2_; clear n0_ n1_ n2_; (try clear hb); (try clear hb2); (try clear hk); (try clear hi)) | ((with_reducible refine gate_dst (N := 9) rfl ?_); refine box_event ?hg (N := 9) ?hd (cs := #[.int .i64 0, .int .i64 0, .int .i64 0]) (t := 46) ?hr ?_; (case hd => rfl); (case hg => rfl); (case hr => first | (go_simp; done) | (go_simp; rfl)); intro gb815 hg w39 hbox hb; have n0_ := zm (blk_below (g := gb798) (o := .cells #[.slice A0_0 l0_0.length c0_0, .slice A0_1 l0_1.length c0_1] 29 (0, 0)) (zg_2 Za.out) hb); have n1_ := zm (blk_below (g := gb799) (o := .cells #[.int .i64 0, .int .i64 0, .int .i64 0] 46 (0, 0)) (zg_2 Zb.out) hb); have n2_ := zm (below_step (zg_4 HB.out Zd.out Ze.out) hb); have n3_ := zm (hbox); have n4_ := zm ((by rw [hg]; exact (below_size (zg_4 HB.out Zd.out Ze.out)) : w.heap.size ≤ gb815)); have n5_ := zm ((by rw [hg]; exact (below_size (zg_4 HB.out Zd.out Ze.out)) : w.heap.size ≤ gb815)); have n6_ := zm ((by rw [hg]; exact Nat.ne_of_lt (blk_lt (g := gb798) (o := .cells #[.slice A0_0 l0_0.length c0_0, .slice A0_1 l0_1.length c0_1] 29 (0, 0)) (zg_2 Za.out)) : gb798 ≠ gb815)); have n7_ := zm ((by rw [hg]; exact Nat.ne_of_gt (blk_lt (g := gb798) (o := .cells #[.slice A0_0 l0_0.length c0_0, .slice A0_1 l0_1.length c0_1] 29 (0, 0)) (zg_2 Za.out)) : gb815 ≠ gb798)); have n8_ := zm ((by rw [hg]; exact Nat.ne_of_lt (blk_lt (g := gb799) (o := .cells #[.int .i64 0, .int .i64 0, .int .i64 0] 46 (0, 0)) (zg_2 Zb.out)) : gb799 ≠ gb815)); have n9_ := zm ((by rw [hg]; exact Nat.ne_of_gt (blk_lt (g := gb799) (o := .cells #[.int .i64 0, .int .i64 0, .int .i64 0] 46 (0, 0)) (zg_2 Zb.out)) : gb815 ≠ gb799)); clear Za; clear Zb; clear HB; have Za := n0_; have Zb := n1_; have HB := n2_; have Zh := n3_; have Zs := n4_; have Zr := n5_; have Zi := n6_; have Zj := n7_; have Zc := n8_; have Zk := n9_; clear n0_ n1_ n2_ n3_ n4_ n5_ n6_ n7_ n8_ n9_; clear hb hbox hg; have hnb40 := Zj.out; have hnc40 := Zi.out; have hnb41 := Zk.out; have hnc41 := Zc.out; have hcz42_0 : w39.cell? ⟨gb815, 0, none⟩ = some (.int .i64 0) := (blk_cell Zh.out 0).trans rfl; have hcz42_1 : w39.cell? ⟨gb815, 1, none⟩ = some (.int .i64 0) := (blk_cell Zh.out 1).trans rfl; have hcz42_2 : w39.cell? ⟨gb815, 2, none⟩ = some (.int .i64 0) := (blk_cell Zh.out 2).trans rfl; have hfz42_0 := blk_frozen Zh.out 0; have hfz42_1 := blk_frozen Zh.out 1; have hfz42_2 := blk_frozen Zh.out 2; have hcz43_0 : w39.cell? ⟨gb799, 0, none⟩ = some (.int .i64 0) := (blk_cell Zb.out 0).trans rfl; have hcz43_1 : w39.cell? ⟨gb799, 1, none⟩ = some (.int .i64 0) := (blk_cell Zb.out 1).trans rfl; have hcz43_2 : w39.cell? ⟨gb799, 2, none⟩ = some (.int .i64 0) := (blk_cell Zb.out 2).trans rfl; have hfz43_0 := blk_frozen Zb.out 0; have hfz43_1 := blk_frozen Zb.out 1; have hfz43_2 := blk_frozen Zb.out 2))
     refine bodyPost_ret (results_ct rfl _ _ gb799 46 #[.int .i64 0, .int .i64 0, .int .i64 0] (0, 0) _ rfl (by (with_reducible repeat (first | refine blk_drewN ?_ _ | refine blk_drew ?_ | refine blk_alloc ?_ _)); refine blk_put (cs := #[.int .i64 0, .int .i64 0, .int .i64 0]) ?_ 2 _ rfl; (with_reducible repeat (first | refine blk_drewN ?_ _ | refine blk_drew ?_ | refine blk_alloc ?_ _)); refine blk_put (cs := #[.int .i64 0, .int .i64 0, .int .i64 0]) ?_ 1 _ rfl; (with_reducible repeat (first | refine blk_drewN ?_ _ | refine blk_drew ?_ | refine blk_alloc ?_ _)); refine blk_put (cs := #[.int .i64 0, .int .i64 0, .int .i64 0]) ?_ 0 _ rfl; (with_reducible repeat (first | refine blk_drewN ?_ _ | refine blk_drew ?_ | refine blk_alloc ?_ _)); refine blk_far ?_ Zc.out _; (with_reducible repeat (first | refine blk_drewN ?_ _ | refine blk_drew ?_ | refine blk_alloc ?_ _)); refine blk_far ?_ Zc.out _; (with_reducible repeat (first | refine blk_drewN ?_ _ | refine blk_drew ?_ | refine blk_alloc ?_ _)); refine blk_far ?_ Zc.out _; (with_reducible repeat (first | refine blk_drewN ?_ _ | refine blk_drew ?_ | refine blk_alloc ?_ _)); exact Zb.out) Try.underlying46 rfl (by kernel_rfl)) rfl ?_
     exact ⟨by first | rfl | (simp [errW_none, errW_some] <;> rfl) | (simp [*, errW_none, errW_some] <;> rfl), zg_5 HB.out Zd.out Ze.out Zr.out⟩
   ·rw [if_neg c25] at H
    have c25b0 : (x8_3 == 0) = false := beq_eq_false_iff_ne.mpr c25
    have c25b1 : (x8_3 != 0) = true := bne_iff_ne.mpr c25
    simp only [Option.some.injEq, Prod.mk.injEq] at H
    obtain ⟨rfl, rfl, rfl, rfl⟩ := H
    have hnb44 := Zg.out
    have hnc44 := Zf.out
    have hcz45_0 : wc.cell? ⟨gb799, 0, none⟩ = some (.int .i64 0) := (blk_cell Zb.out 0).trans rfl
    have hcz45_1 : wc.cell? ⟨gb799, 1, none⟩ = some (.int .i64 0) := (blk_cell Zb.out 1).trans rfl
    have hcz45_2 : wc.cell? ⟨gb799, 2, none⟩ = some (.int .i64 0) := (blk_cell Zb.out 2).trans rfl
    have hfz45_0 := blk_frozen Zb.out 0
    have hfz45_1 := blk_frozen Zb.out 1
    have hfz45_2 := blk_frozen Zb.out 2
    go_wp2
    refine bodyPost_ret (results_ct rfl _ _ gb799 46 #[.int .i64 0, .int .i64 0, .int .i64 0] (0, 0) _ rfl (by (with_reducible repeat (first | refine blk_drewN ?_ _ | refine blk_drew ?_ | refine blk_alloc ?_ _)); refine blk_put (cs := #[.int .i64 0, .int .i64 0, .int .i64 0]) ?_ 2 _ rfl; (with_reducible repeat (first | refine blk_drewN ?_ _ | refine blk_drew ?_ | refine blk_alloc ?_ _)); refine blk_put (cs := #[.int .i64 0, .int .i64 0, .int .i64 0]) ?_ 1 _ rfl; (with_reducible repeat (first | refine blk_drewN ?_ _ | refine blk_drew ?_ | refine blk_alloc ?_ _)); refine blk_put (cs := #[.int .i64 0, .int .i64 0, .int .i64 0]) ?_ 0 _ rfl; (with_reducible repeat (first | refine blk_drewN ?_ _ | refine blk_drew ?_ | refine blk_alloc ?_ _)); exact Zb.out) Try.underlying46 rfl (by kernel_rfl)) rfl ?_
    exact ⟨by first | rfl | (simp [errW_none, errW_some] <;> rfl) | (simp [*, errW_none, errW_some] <;> rfl), zg_4 HB.out Zd.out Ze.out⟩
/-! ### laws_eqDelta: function 27 -/
def laws_eqDelta.f (a0_0 : Int) (a0_1 : Int) (a0_2 : Int) (a1_0 : Int) (a1_1 : Int) (a1_2 : Int) : Option (Bool) := if a0_0 = a1_0 then (if a0_1 = a1_1 then (if a0_2 = a1_2 then (some true) else (some false)) else (some false)) else (some false)
set_option maxHeartbeats 8000000 in
set_option maxRecDepth 100000 in
theorem laws_eqDelta.calls (a0_0 : Int) (a0_1 : Int) (a0_2 : Int) (a1_0 : Int) (a1_1 : Int) (a1_2 : Int) (r : Bool) (w : World) (h : laws_eqDelta.f a0_0 a0_1 a0_2 a1_0 a1_1 a1_2 = some r) :
    Calls Try.prog 27 #[.agg #[.int .i64 a0_0, .int .i64 a0_1, .int .i64 a0_2], .agg #[.int .i64 a1_0, .int .i64 a1_1, .int .i64 a1_2]] w fun e w' => e = .returned (.bool r) ∧ Below w.heap.size w w' := by
 have hu46 := Try.underlying46
 have HB := zm (Below.refl w.heap.size w)
 have H : (if a0_0 = a1_0 then (if a0_1 = a1_1 then (if a0_2 = a1_2 then (some true) else (some false)) else (some false)) else (some false)) = some r := h
 clear h
 by_cases c3 : a0_0 = a1_0
 ·rw [if_pos c3] at H
  have c3b0 : (a0_0 == a1_0) = true := beq_iff_eq.mpr c3
  have c3b1 : (a0_0 != a1_0) = false := bne_eq_false_iff_eq.mpr c3
  clear c3
  by_cases c4 : a0_1 = a1_1
  ·rw [if_pos c4] at H
   have c4b0 : (a0_1 == a1_1) = true := beq_iff_eq.mpr c4
   have c4b1 : (a0_1 != a1_1) = false := bne_eq_false_iff_eq.mpr c4
   clear c4
   by_cases c5 : a0_2 = a1_2
   ·rw [if_pos c5] at H
    have c5b0 : (a0_2 == a1_2) = true := beq_iff_eq.mpr c5
    have c5b1 : (a0_2 != a1_2) = false := bne_eq_false_iff_eq.mpr c5
    clear c5
    obtain rfl := Option.some.inj H
    go_enter Try.func27, Try.ntmps27
    go_wp2_with (first | ((with_reducible refine gate_dst (N := 2) rfl ?_); refine box_event ?hg (N := 2) ?hd (cs := #[.int .i64 a0_0, .int .i64 a0_1, .int .i64 a0_2]) (t := 46) ?hr ?_; (case hd => rfl); (case hg => rfl); (case hr => first | (go_simp; done) | (go_simp; rfl)); intro gb816 hg w6 hbox hb; have n0_ := zm (below_step (zg_0 HB.out) hb); have n1_ := zm (hbox); have n2_ := zm ((by rw [hg]; exact (below_size (zg_0 HB.out)) : w.heap.size ≤ gb816)); have n3_ := zm ((by rw [hg]; exact (below_size (zg_0 HB.out)) : w.heap.size ≤ gb816)); clear HB; have HB := n0_; have Za := n1_; have Zg := n2_; have Zc := n3_; clear n0_ n1_ n2_ n3_; clear hb hbox hg) | ((with_reducible refine gate_dst (N := 3) rfl ?_); refine box_event ?hg (N := 3) ?hd (cs := #[.int .i64 a1_0, .int .i64 a1_1, .int .i64 a1_2]) (t := 46) ?hr ?_; (case hd => rfl); (case hg => rfl); (case hr => first | (go_simp; done) | (go_simp; rfl)); intro gb817 hg w7 hbox hb; have n0_ := zm (blk_below (g := gb816) (o := .cells #[.int .i64 a0_0, .int .i64 a0_1, .int .i64 a0_2] 46 (0, 0)) (zg_2 Za.out) hb); have n1_ := zm (below_step (zg_1 HB.out Zc.out) hb); have n2_ := zm (hbox); have n3_ := zm ((by rw [hg]; exact (below_size (zg_1 HB.out Zc.out)) : w.heap.size ≤ gb817)); have n4_ := zm ((by rw [hg]; exact (below_size (zg_1 HB.out Zc.out)) : w.heap.size ≤ gb817)); have n5_ := zm ((by rw [hg]; exact Nat.ne_of_lt (blk_lt (g := gb816) (o := .cells #[.int .i64 a0_0, .int .i64 a0_1, .int .i64 a0_2] 46 (0, 0)) (zg_2 Za.out)) : gb816 ≠ gb817)); have n6_ := zm ((by rw [hg]; exact Nat.ne_of_gt (blk_lt (g := gb816) (o := .cells #[.int .i64 a0_0, .int .i64 a0_1, .int .i64 a0_2] 46 (0, 0)) (zg_2 Za.out)) : gb817 ≠ gb816)); clear Za; clear HB; have Za := n0_; have HB := n1_; have Zb := n2_; have Zh := n3_; have Zf := n4_; have Zd := n5_; have Ze := n6_; clear n0_ n1_ n2_ n3_ n4_ n5_ n6_; clear hb hbox hg; have hnb8 := Zd.out; have hnc8 := Ze.out; have hcz9_0 : w7.cell? ⟨gb816, 0, none⟩ = some (.int .i64 a0_0) := (blk_cell Za.out 0).trans rfl; have hcz9_1 : w7.cell? ⟨gb816, 1, none⟩ = some (.int .i64 a0_1) := (blk_cell Za.out 1).trans rfl; have hcz9_2 : w7.cell? ⟨gb816, 2, none⟩ = some (.int .i64 a0_2) := (blk_cell Za.out 2).trans rfl; have hfz9_0 := blk_frozen Za.out 0; have hfz9_1 := blk_frozen Za.out 1; have hfz9_2 := blk_frozen Za.out 2; have hcz10_0 : w7.cell? ⟨gb817, 0, none⟩ = some (.int .i64 a1_0) := (blk_cell Zb.out 0).trans rfl; have hcz10_1 : w7.cell? ⟨gb817, 1, none⟩ = some (.int .i64 a1_1) := (blk_cell Zb.out 1).trans rfl; have hcz10_2 : w7.cell? ⟨gb817, 2, none⟩ = some (.int .i64 a1_2) := (blk_cell Zb.out 2).trans rfl; have hfz10_0 := blk_frozen Zb.out 0; have hfz10_1 := blk_frozen Zb.out 1; have hfz10_2 := blk_frozen Zb.out 2))
    go_ret
    exact ⟨by first | rfl | (simp [errW_none, errW_some] <;> rfl) | (simp [*, errW_none, errW_some] <;> rfl), zg_4 HB.out Zc.out Zf.out⟩
   ·rw [if_neg c5] at H
    have c5b0 : (a0_2 == a1_2) = false := beq_eq_false_iff_ne.mpr c5
    have c5b1 : (a0_2 != a1_2) = true := bne_iff_ne.mpr c5
    obtain rfl := Option.some.inj H
    go_enter Try.func27, Try.ntmps27
    go_wp2_with (first | ((with_reducible refine gate_dst (N := 2) rfl ?_); refine box_event ?hg (N := 2) ?hd (cs := #[.int .i64 a0_0, .int .i64 a0_1, .int .i64 a0_2]) (t := 46) ?hr ?_; (case hd => rfl); (case hg => rfl); (case hr => first | (go_simp; done) | (go_simp; rfl)); intro gb816 hg w11 hbox hb; have n0_ := zm (below_step (zg_0 HB.out) hb); have n1_ := zm (hbox); have n2_ := zm ((by rw [hg]; exact (below_size (zg_0 HB.out)) : w.heap.size ≤ gb816)); have n3_ := zm ((by rw [hg]; exact (below_size (zg_0 HB.out)) : w.heap.size ≤ gb816)); clear HB; have HB := n0_; have Za := n1_; have Zg := n2_; have Zc := n3_; clear n0_ n1_ n2_ n3_; clear hb hbox hg) | ((with_reducible refine gate_dst (N := 3) rfl ?_); refine box_event ?hg (N := 3) ?hd (cs := #[.int .i64 a1_0, .int .i64 a1_1, .int .i64 a1_2]) (t := 46) ?hr ?_; (case hd => rfl); (case hg => rfl); (case hr => first | (go_simp; done) | (go_simp; rfl)); intro gb817 hg w12 hbox hb; have n0_ := zm (blk_below (g := gb816) (o := .cells #[.int .i64 a0_0, .int .i64 a0_1, .int .i64 a0_2] 46 (0, 0)) (zg_2 Za.out) hb); have n1_ := zm (below_step (zg_1 HB.out Zc.out) hb); have n2_ := zm (hbox); have n3_ := zm ((by rw [hg]; exact (below_size (zg_1 HB.out Zc.out)) : w.heap.size ≤ gb817)); have n4_ := zm ((by rw [hg]; exact (below_size (zg_1 HB.out Zc.out)) : w.heap.size ≤ gb817)); have n5_ := zm ((by rw [hg]; exact Nat.ne_of_lt (blk_lt (g := gb816) (o := .cells #[.int .i64 a0_0, .int .i64 a0_1, .int .i64 a0_2] 46 (0, 0)) (zg_2 Za.out)) : gb816 ≠ gb817)); have n6_ := zm ((by rw [hg]; exact Nat.ne_of_gt (blk_lt (g := gb816) (o := .cells #[.int .i64 a0_0, .int .i64 a0_1, .int .i64 a0_2] 46 (0, 0)) (zg_2 Za.out)) : gb817 ≠ gb816)); clear Za; clear HB; have Za := n0_; have HB := n1_; have Zb := n2_; have Zh := n3_; have Zf := n4_; have Zd := n5_; have Ze := n6_; clear n0_ n1_ n2_ n3_ n4_ n5_ n6_; clear hb hbox hg; have hnb13 := Zd.out; have hnc13 := Ze.out; have hcz14_0 : w12.cell? ⟨gb816, 0, none⟩ = some (.int .i64 a0_0) := (blk_cell Za.out 0).trans rfl; have hcz14_1 : w12.cell? ⟨gb816, 1, none⟩ = some (.int .i64 a0_1) := (blk_cell Za.out 1).trans rfl; have hcz14_2 : w12.cell? ⟨gb816, 2, none⟩ = some (.int .i64 a0_2) := (blk_cell Za.out 2).trans rfl; have hfz14_0 := blk_frozen Za.out 0; have hfz14_1 := blk_frozen Za.out 1; have hfz14_2 := blk_frozen Za.out 2; have hcz15_0 : w12.cell? ⟨gb817, 0, none⟩ = some (.int .i64 a1_0) := (blk_cell Zb.out 0).trans rfl; have hcz15_1 : w12.cell? ⟨gb817, 1, none⟩ = some (.int .i64 a1_1) := (blk_cell Zb.out 1).trans rfl; have hcz15_2 : w12.cell? ⟨gb817, 2, none⟩ = some (.int .i64 a1_2) := (blk_cell Zb.out 2).trans rfl; have hfz15_0 := blk_frozen Zb.out 0; have hfz15_1 := blk_frozen Zb.out 1; have hfz15_2 := blk_frozen Zb.out 2))
    go_ret
    exact ⟨by first | rfl | (simp [errW_none, errW_some] <;> rfl) | (simp [*, errW_none, errW_some] <;> rfl), zg_4 HB.out Zc.out Zf.out⟩
  ·rw [if_neg c4] at H
   have c4b0 : (a0_1 == a1_1) = false := beq_eq_false_iff_ne.mpr c4
   have c4b1 : (a0_1 != a1_1) = true := bne_iff_ne.mpr c4
   obtain rfl := Option.some.inj H
   go_enter Try.func27, Try.ntmps27
   go_wp2_with (first | ((with_reducible refine gate_dst (N := 2) rfl ?_); refine box_event ?hg (N := 2) ?hd (cs := #[.int .i64 a0_0, .int .i64 a0_1, .int .i64 a0_2]) (t := 46) ?hr ?_; (case hd => rfl); (case hg => rfl); (case hr => first | (go_simp; done) | (go_simp; rfl)); intro gb816 hg w16 hbox hb; have n0_ := zm (below_step (zg_0 HB.out) hb); have n1_ := zm (hbox); have n2_ := zm ((by rw [hg]; exact (below_size (zg_0 HB.out)) : w.heap.size ≤ gb816)); have n3_ := zm ((by rw [hg]; exact (below_size (zg_0 HB.out)) : w.heap.size ≤ gb816)); clear HB; have HB := n0_; have Za := n1_; have Zg := n2_; have Zc := n3_; clear n0_ n1_ n2_ n3_; clear hb hbox hg) | ((with_reducible refine gate_dst (N := 3) rfl ?_); refine box_event ?hg (N := 3) ?hd (cs := #[.int .i64 a1_0, .int .i64 a1_1, .int .i64 a1_2]) (t := 46) ?hr ?_; (case hd => rfl); (case hg => rfl); (case hr => first | (go_simp; done) | (go_simp; rfl)); intro gb817 hg w17 hbox hb; have n0_ := zm (blk_below (g := gb816) (o := .cells #[.int .i64 a0_0, .int .i64 a0_1, .int .i64 a0_2] 46 (0, 0)) (zg_2 Za.out) hb); have n1_ := zm (below_step (zg_1 HB.out Zc.out) hb); have n2_ := zm (hbox); have n3_ := zm ((by rw [hg]; exact (below_size (zg_1 HB.out Zc.out)) : w.heap.size ≤ gb817)); have n4_ := zm ((by rw [hg]; exact (below_size (zg_1 HB.out Zc.out)) : w.heap.size ≤ gb817)); have n5_ := zm ((by rw [hg]; exact Nat.ne_of_lt (blk_lt (g := gb816) (o := .cells #[.int .i64 a0_0, .int .i64 a0_1, .int .i64 a0_2] 46 (0, 0)) (zg_2 Za.out)) : gb816 ≠ gb817)); have n6_ := zm ((by rw [hg]; exact Nat.ne_of_gt (blk_lt (g := gb816) (o := .cells #[.int .i64 a0_0, .int .i64 a0_1, .int .i64 a0_2] 46 (0, 0)) (zg_2 Za.out)) : gb817 ≠ gb816)); clear Za; clear HB; have Za := n0_; have HB := n1_; have Zb := n2_; have Zh := n3_; have Zf := n4_; have Zd := n5_; have Ze := n6_; clear n0_ n1_ n2_ n3_ n4_ n5_ n6_; clear hb hbox hg; have hnb18 := Zd.out; have hnc18 := Ze.out; have hcz19_0 : w17.cell? ⟨gb816, 0, none⟩ = some (.int .i64 a0_0) := (blk_cell Za.out 0).trans rfl; have hcz19_1 : w17.cell? ⟨gb816, 1, none⟩ = some (.int .i64 a0_1) := (blk_cell Za.out 1).trans rfl; have hcz19_2 : w17.cell? ⟨gb816, 2, none⟩ = some (.int .i64 a0_2) := (blk_cell Za.out 2).trans rfl; have hfz19_0 := blk_frozen Za.out 0; have hfz19_1 := blk_frozen Za.out 1; have hfz19_2 := blk_frozen Za.out 2; have hcz20_0 : w17.cell? ⟨gb817, 0, none⟩ = some (.int .i64 a1_0) := (blk_cell Zb.out 0).trans rfl; have hcz20_1 : w17.cell? ⟨gb817, 1, none⟩ = some (.int .i64 a1_1) := (blk_cell Zb.out 1).trans rfl; have hcz20_2 : w17.cell? ⟨gb817, 2, none⟩ = some (.int .i64 a1_2) := (blk_cell Zb.out 2).trans rfl; have hfz20_0 := blk_frozen Zb.out 0; have hfz20_1 := blk_frozen Zb.out 1; have hfz20_2 := blk_frozen Zb.out 2))
   go_ret
   exact ⟨by first | rfl | (simp [errW_none, errW_some] <;> rfl) | (simp [*, errW_none, errW_some] <;> rfl), zg_4 HB.out Zc.out Zf.out⟩
 ·rw [if_neg c3] at H
  have c3b0 : (a0_0 == a1_0) = false := beq_eq_false_iff_ne.mpr c3
  have c3b1 : (a0_0 != a1_0) = true := bne_iff_ne.mpr c3
  obtain rfl := Option.some.inj H
  go_enter Try.func27, Try.ntmps27
  go_wp2_with (first | ((with_reducible refine gate_dst (N := 2) rfl ?_); refine box_event ?hg (N := 2) ?hd (cs := #[.int .i64 a0_0, .int .i64 a0_1, .int .i64 a0_2]) (t := 46) ?hr ?_; (case hd => rfl); (case hg => rfl); (case hr => first | (go_simp; done) | (go_simp; rfl)); intro gb816 hg w21 hbox hb; have n0_ := zm (below_step (zg_0 HB.out) hb); have n1_ := zm (hbox); have n2_ := zm ((by rw [hg]; exact (below_size (zg_0 HB.out)) : w.heap.size ≤ gb816)); have n3_ := zm ((by rw [hg]; exact (below_size (zg_0 HB.out)) : w.heap.size ≤ gb816)); clear HB; have HB := n0_; have Za := n1_; have Zg := n2_; have Zc := n3_; clear n0_ n1_ n2_ n3_; clear hb hbox hg) | ((with_reducible refine gate_dst (N := 3) rfl ?_); refine box_event ?hg (N := 3) ?hd (cs := #[.int .i64 a1_0, .int .i64 a1_1, .int .i64 a1_2]) (t := 46) ?hr ?_; (case hd => rfl); (case hg => rfl); (case hr => first | (go_simp; done) | (go_simp; rfl)); intro gb817 hg w22 hbox hb; have n0_ := zm (blk_below (g := gb816) (o := .cells #[.int .i64 a0_0, .int .i64 a0_1, .int .i64 a0_2] 46 (0, 0)) (zg_2 Za.out) hb); have n1_ := zm (below_step (zg_1 HB.out Zc.out) hb); have n2_ := zm (hbox); have n3_ := zm ((by rw [hg]; exact (below_size (zg_1 HB.out Zc.out)) : w.heap.size ≤ gb817)); have n4_ := zm ((by rw [hg]; exact (below_size (zg_1 HB.out Zc.out)) : w.heap.size ≤ gb817)); have n5_ := zm ((by rw [hg]; exact Nat.ne_of_lt (blk_lt (g := gb816) (o := .cells #[.int .i64 a0_0, .int .i64 a0_1, .int .i64 a0_2] 46 (0, 0)) (zg_2 Za.out)) : gb816 ≠ gb817)); have n6_ := zm ((by rw [hg]; exact Nat.ne_of_gt (blk_lt (g := gb816) (o := .cells #[.int .i64 a0_0, .int .i64 a0_1, .int .i64 a0_2] 46 (0, 0)) (zg_2 Za.out)) : gb817 ≠ gb816)); clear Za; clear HB; have Za := n0_; have HB := n1_; have Zb := n2_; have Zh := n3_; have Zf := n4_; have Zd := n5_; have Ze := n6_; clear n0_ n1_ n2_ n3_ n4_ n5_ n6_; clear hb hbox hg; have hnb23 := Zd.out; have hnc23 := Ze.out; have hcz24_0 : w22.cell? ⟨gb816, 0, none⟩ = some (.int .i64 a0_0) := (blk_cell Za.out 0).trans rfl; have hcz24_1 : w22.cell? ⟨gb816, 1, none⟩ = some (.int .i64 a0_1) := (blk_cell Za.out 1).trans rfl; have hcz24_2 : w22.cell? ⟨gb816, 2, none⟩ = some (.int .i64 a0_2) := (blk_cell Za.out 2).trans rfl; have hfz24_0 := blk_frozen Za.out 0; have hfz24_1 := blk_frozen Za.out 1; have hfz24_2 := blk_frozen Za.out 2; have hcz25_0 : w22.cell? ⟨gb817, 0, none⟩ = some (.int .i64 a1_0) := (blk_cell Zb.out 0).trans rfl; have hcz25_1 : w22.cell? ⟨gb817, 1, none⟩ = some (.int .i64 a1_1) := (blk_cell Zb.out 1).trans rfl; have hcz25_2 : w22.cell? ⟨gb817, 2, none⟩ = some (.int .i64 a1_2) := (blk_cell Zb.out 2).trans rfl; have hfz25_0 := blk_frozen Zb.out 0; have hfz25_1 := blk_frozen Zb.out 1; have hfz25_2 := blk_frozen Zb.out 2))
  go_ret
  exact ⟨by first | rfl | (simp [errW_none, errW_some] <;> rfl) | (simp [*, errW_none, errW_some] <;> rfl), zg_4 HB.out Zc.out Zf.out⟩
/-! ### laws_eqIo: function 62 -/
def laws_eqIo.f (a0_0 : Int) (a0_1 : Int) (a0_2 : ByteArray) (a1_0 : Int) (a1_1 : Int) (a1_2 : ByteArray) : Option (Bool) := if a0_0 = a1_0 then (if a0_1 = a1_1 then (if a0_2.toList = a1_2.toList then (some true) else (some false)) else (some false)) else (some false)
set_option maxHeartbeats 8000000 in
set_option maxRecDepth 100000 in
theorem laws_eqIo.calls (a0_0 : Int) (a0_1 : Int) (a0_2 : ByteArray) (a1_0 : Int) (a1_1 : Int) (a1_2 : ByteArray) (r : Bool) (w : World) (h : laws_eqIo.f a0_0 a0_1 a0_2 a1_0 a1_1 a1_2 = some r) :
    Calls Try.prog 62 #[.agg #[.int .i64 a0_0, .int .i64 a0_1, .string a0_2], .agg #[.int .i64 a1_0, .int .i64 a1_1, .string a1_2]] w fun e w' => e = .returned (.bool r) ∧ Below w.heap.size w w' := by
 have hu76 := Try.underlying76
 have HB := zm (Below.refl w.heap.size w)
 have H : (if a0_0 = a1_0 then (if a0_1 = a1_1 then (if a0_2.toList = a1_2.toList then (some true) else (some false)) else (some false)) else (some false)) = some r := h
 clear h
 by_cases c3 : a0_0 = a1_0
 ·rw [if_pos c3] at H
  have c3b0 : (a0_0 == a1_0) = true := beq_iff_eq.mpr c3
  have c3b1 : (a0_0 != a1_0) = false := bne_eq_false_iff_eq.mpr c3
  clear c3
  by_cases c4 : a0_1 = a1_1
  ·rw [if_pos c4] at H
   have c4b0 : (a0_1 == a1_1) = true := beq_iff_eq.mpr c4
   have c4b1 : (a0_1 != a1_1) = false := bne_eq_false_iff_eq.mpr c4
   clear c4
   by_cases c5 : a0_2.toList = a1_2.toList
   ·rw [if_pos c5] at H
    have c5b0 : (a0_2.toList == a1_2.toList) = true := beq_iff_eq.mpr c5
    have c5b1 : (a0_2.toList != a1_2.toList) = false := bne_eq_false_iff_eq.mpr c5
    clear c5
    obtain rfl := Option.some.inj H
    go_enter Try.func62, Try.ntmps62
    go_wp2_with (first | ((with_reducible refine gate_dst (N := 2) rfl ?_); refine box_event ?hg (N := 2) ?hd (cs := #[.int .i64 a0_0, .int .i64 a0_1, .string a0_2]) (t := 76) ?hr ?_; (case hd => rfl); (case hg => rfl); (case hr => first | (go_simp; done) | (go_simp; rfl)); intro gb230 hg w6 hbox hb; have n0_ := zm (below_step (zg_0 HB.out) hb); have n1_ := zm (hbox); have n2_ := zm ((by rw [hg]; exact (below_size (zg_0 HB.out)) : w.heap.size ≤ gb230)); have n3_ := zm ((by rw [hg]; exact (below_size (zg_0 HB.out)) : w.heap.size ≤ gb230)); clear HB; have HB := n0_; have Za := n1_; have Zg := n2_; have Zc := n3_; clear n0_ n1_ n2_ n3_; clear hb hbox hg) | ((with_reducible refine gate_dst (N := 3) rfl ?_); refine box_event ?hg (N := 3) ?hd (cs := #[.int .i64 a1_0, .int .i64 a1_1, .string a1_2]) (t := 76) ?hr ?_; (case hd => rfl); (case hg => rfl); (case hr => first | (go_simp; done) | (go_simp; rfl)); intro gb231 hg w7 hbox hb; have n0_ := zm (blk_below (g := gb230) (o := .cells #[.int .i64 a0_0, .int .i64 a0_1, .string a0_2] 76 (0, 0)) (zg_2 Za.out) hb); have n1_ := zm (below_step (zg_1 HB.out Zc.out) hb); have n2_ := zm (hbox); have n3_ := zm ((by rw [hg]; exact (below_size (zg_1 HB.out Zc.out)) : w.heap.size ≤ gb231)); have n4_ := zm ((by rw [hg]; exact (below_size (zg_1 HB.out Zc.out)) : w.heap.size ≤ gb231)); have n5_ := zm ((by rw [hg]; exact Nat.ne_of_lt (blk_lt (g := gb230) (o := .cells #[.int .i64 a0_0, .int .i64 a0_1, .string a0_2] 76 (0, 0)) (zg_2 Za.out)) : gb230 ≠ gb231)); have n6_ := zm ((by rw [hg]; exact Nat.ne_of_gt (blk_lt (g := gb230) (o := .cells #[.int .i64 a0_0, .int .i64 a0_1, .string a0_2] 76 (0, 0)) (zg_2 Za.out)) : gb231 ≠ gb230)); clear Za; clear HB; have Za := n0_; have HB := n1_; have Zb := n2_; have Zh := n3_; have Zf := n4_; have Zd := n5_; have Ze := n6_; clear n0_ n1_ n2_ n3_ n4_ n5_ n6_; clear hb hbox hg; have hnb8 := Zd.out; have hnc8 := Ze.out; have hcz9_0 : w7.cell? ⟨gb230, 0, none⟩ = some (.int .i64 a0_0) := (blk_cell Za.out 0).trans rfl; have hcz9_1 : w7.cell? ⟨gb230, 1, none⟩ = some (.int .i64 a0_1) := (blk_cell Za.out 1).trans rfl; have hcz9_2 : w7.cell? ⟨gb230, 2, none⟩ = some (.string a0_2) := (blk_cell Za.out 2).trans rfl; have hfz9_0 := blk_frozen Za.out 0; have hfz9_1 := blk_frozen Za.out 1; have hfz9_2 := blk_frozen Za.out 2; have hcz10_0 : w7.cell? ⟨gb231, 0, none⟩ = some (.int .i64 a1_0) := (blk_cell Zb.out 0).trans rfl; have hcz10_1 : w7.cell? ⟨gb231, 1, none⟩ = some (.int .i64 a1_1) := (blk_cell Zb.out 1).trans rfl; have hcz10_2 : w7.cell? ⟨gb231, 2, none⟩ = some (.string a1_2) := (blk_cell Zb.out 2).trans rfl; have hfz10_0 := blk_frozen Zb.out 0; have hfz10_1 := blk_frozen Zb.out 1; have hfz10_2 := blk_frozen Zb.out 2))
    go_ret
    exact ⟨by first | rfl | (simp [errW_none, errW_some] <;> rfl) | (simp [*, errW_none, errW_some] <;> rfl), zg_4 HB.out Zc.out Zf.out⟩
   ·rw [if_neg c5] at H
    have c5b0 : (a0_2.toList == a1_2.toList) = false := beq_eq_false_iff_ne.mpr c5
    have c5b1 : (a0_2.toList != a1_2.toList) = true := bne_iff_ne.mpr c5
    obtain rfl := Option.some.inj H
    go_enter Try.func62, Try.ntmps62
    go_wp2_with (first | ((with_reducible refine gate_dst (N := 2) rfl ?_); refine box_event ?hg (N := 2) ?hd (cs := #[.int .i64 a0_0, .int .i64 a0_1, .string a0_2]) (t := 76) ?hr ?_; (case hd => rfl); (case hg => rfl); (case hr => first | (go_simp; done) | (go_simp; rfl)); intro gb230 hg w11 hbox hb; have n0_ := zm (below_step (zg_0 HB.out) hb); have n1_ := zm (hbox); have n2_ := zm ((by rw [hg]; exact (below_size (zg_0 HB.out)) : w.heap.size ≤ gb230)); have n3_ := zm ((by rw [hg]; exact (below_size (zg_0 HB.out)) : w.heap.size ≤ gb230)); clear HB; have HB := n0_; have Za := n1_; have Zg := n2_; have Zc := n3_; clear n0_ n1_ n2_ n3_; clear hb hbox hg) | ((with_reducible refine gate_dst (N := 3) rfl ?_); refine box_event ?hg (N := 3) ?hd (cs := #[.int .i64 a1_0, .int .i64 a1_1, .string a1_2]) (t := 76) ?hr ?_; (case hd => rfl); (case hg => rfl); (case hr => first | (go_simp; done) | (go_simp; rfl)); intro gb231 hg w12 hbox hb; have n0_ := zm (blk_below (g := gb230) (o := .cells #[.int .i64 a0_0, .int .i64 a0_1, .string a0_2] 76 (0, 0)) (zg_2 Za.out) hb); have n1_ := zm (below_step (zg_1 HB.out Zc.out) hb); have n2_ := zm (hbox); have n3_ := zm ((by rw [hg]; exact (below_size (zg_1 HB.out Zc.out)) : w.heap.size ≤ gb231)); have n4_ := zm ((by rw [hg]; exact (below_size (zg_1 HB.out Zc.out)) : w.heap.size ≤ gb231)); have n5_ := zm ((by rw [hg]; exact Nat.ne_of_lt (blk_lt (g := gb230) (o := .cells #[.int .i64 a0_0, .int .i64 a0_1, .string a0_2] 76 (0, 0)) (zg_2 Za.out)) : gb230 ≠ gb231)); have n6_ := zm ((by rw [hg]; exact Nat.ne_of_gt (blk_lt (g := gb230) (o := .cells #[.int .i64 a0_0, .int .i64 a0_1, .string a0_2] 76 (0, 0)) (zg_2 Za.out)) : gb231 ≠ gb230)); clear Za; clear HB; have Za := n0_; have HB := n1_; have Zb := n2_; have Zh := n3_; have Zf := n4_; have Zd := n5_; have Ze := n6_; clear n0_ n1_ n2_ n3_ n4_ n5_ n6_; clear hb hbox hg; have hnb13 := Zd.out; have hnc13 := Ze.out; have hcz14_0 : w12.cell? ⟨gb230, 0, none⟩ = some (.int .i64 a0_0) := (blk_cell Za.out 0).trans rfl; have hcz14_1 : w12.cell? ⟨gb230, 1, none⟩ = some (.int .i64 a0_1) := (blk_cell Za.out 1).trans rfl; have hcz14_2 : w12.cell? ⟨gb230, 2, none⟩ = some (.string a0_2) := (blk_cell Za.out 2).trans rfl; have hfz14_0 := blk_frozen Za.out 0; have hfz14_1 := blk_frozen Za.out 1; have hfz14_2 := blk_frozen Za.out 2; have hcz15_0 : w12.cell? ⟨gb231, 0, none⟩ = some (.int .i64 a1_0) := (blk_cell Zb.out 0).trans rfl; have hcz15_1 : w12.cell? ⟨gb231, 1, none⟩ = some (.int .i64 a1_1) := (blk_cell Zb.out 1).trans rfl; have hcz15_2 : w12.cell? ⟨gb231, 2, none⟩ = some (.string a1_2) := (blk_cell Zb.out 2).trans rfl; have hfz15_0 := blk_frozen Zb.out 0; have hfz15_1 := blk_frozen Zb.out 1; have hfz15_2 := blk_frozen Zb.out 2))
    go_ret
    exact ⟨by first | rfl | (simp [errW_none, errW_some] <;> rfl) | (simp [*, errW_none, errW_some] <;> rfl), zg_4 HB.out Zc.out Zf.out⟩
  ·rw [if_neg c4] at H
   have c4b0 : (a0_1 == a1_1) = false := beq_eq_false_iff_ne.mpr c4
   have c4b1 : (a0_1 != a1_1) = true := bne_iff_ne.mpr c4
   obtain rfl := Option.some.inj H
   go_enter Try.func62, Try.ntmps62
   go_wp2_with (first | ((with_reducible refine gate_dst (N := 2) rfl ?_); refine box_event ?hg (N := 2) ?hd (cs := #[.int .i64 a0_0, .int .i64 a0_1, .string a0_2]) (t := 76) ?hr ?_; (case hd => rfl); (case hg => rfl); (case hr => first | (go_simp; done) | (go_simp; rfl)); intro gb230 hg w16 hbox hb; have n0_ := zm (below_step (zg_0 HB.out) hb); have n1_ := zm (hbox); have n2_ := zm ((by rw [hg]; exact (below_size (zg_0 HB.out)) : w.heap.size ≤ gb230)); have n3_ := zm ((by rw [hg]; exact (below_size (zg_0 HB.out)) : w.heap.size ≤ gb230)); clear HB; have HB := n0_; have Za := n1_; have Zg := n2_; have Zc := n3_; clear n0_ n1_ n2_ n3_; clear hb hbox hg) | ((with_reducible refine gate_dst (N := 3) rfl ?_); refine box_event ?hg (N := 3) ?hd (cs := #[.int .i64 a1_0, .int .i64 a1_1, .string a1_2]) (t := 76) ?hr ?_; (case hd => rfl); (case hg => rfl); (case hr => first | (go_simp; done) | (go_simp; rfl)); intro gb231 hg w17 hbox hb; have n0_ := zm (blk_below (g := gb230) (o := .cells #[.int .i64 a0_0, .int .i64 a0_1, .string a0_2] 76 (0, 0)) (zg_2 Za.out) hb); have n1_ := zm (below_step (zg_1 HB.out Zc.out) hb); have n2_ := zm (hbox); have n3_ := zm ((by rw [hg]; exact (below_size (zg_1 HB.out Zc.out)) : w.heap.size ≤ gb231)); have n4_ := zm ((by rw [hg]; exact (below_size (zg_1 HB.out Zc.out)) : w.heap.size ≤ gb231)); have n5_ := zm ((by rw [hg]; exact Nat.ne_of_lt (blk_lt (g := gb230) (o := .cells #[.int .i64 a0_0, .int .i64 a0_1, .string a0_2] 76 (0, 0)) (zg_2 Za.out)) : gb230 ≠ gb231)); have n6_ := zm ((by rw [hg]; exact Nat.ne_of_gt (blk_lt (g := gb230) (o := .cells #[.int .i64 a0_0, .int .i64 a0_1, .string a0_2] 76 (0, 0)) (zg_2 Za.out)) : gb231 ≠ gb230)); clear Za; clear HB; have Za := n0_; have HB := n1_; have Zb := n2_; have Zh := n3_; have Zf := n4_; have Zd := n5_; have Ze := n6_; clear n0_ n1_ n2_ n3_ n4_ n5_ n6_; clear hb hbox hg; have hnb18 := Zd.out; have hnc18 := Ze.out; have hcz19_0 : w17.cell? ⟨gb230, 0, none⟩ = some (.int .i64 a0_0) := (blk_cell Za.out 0).trans rfl; have hcz19_1 : w17.cell? ⟨gb230, 1, none⟩ = some (.int .i64 a0_1) := (blk_cell Za.out 1).trans rfl; have hcz19_2 : w17.cell? ⟨gb230, 2, none⟩ = some (.string a0_2) := (blk_cell Za.out 2).trans rfl; have hfz19_0 := blk_frozen Za.out 0; have hfz19_1 := blk_frozen Za.out 1; have hfz19_2 := blk_frozen Za.out 2; have hcz20_0 : w17.cell? ⟨gb231, 0, none⟩ = some (.int .i64 a1_0) := (blk_cell Zb.out 0).trans rfl; have hcz20_1 : w17.cell? ⟨gb231, 1, none⟩ = some (.int .i64 a1_1) := (blk_cell Zb.out 1).trans rfl; have hcz20_2 : w17.cell? ⟨gb231, 2, none⟩ = some (.string a1_2) := (blk_cell Zb.out 2).trans rfl; have hfz20_0 := blk_frozen Zb.out 0; have hfz20_1 := blk_frozen Zb.out 1; have hfz20_2 := blk_frozen Zb.out 2))
   go_ret
   exact ⟨by first | rfl | (simp [errW_none, errW_some] <;> rfl) | (simp [*, errW_none, errW_some] <;> rfl), zg_4 HB.out Zc.out Zf.out⟩
 ·rw [if_neg c3] at H
  have c3b0 : (a0_0 == a1_0) = false := beq_eq_false_iff_ne.mpr c3
  have c3b1 : (a0_0 != a1_0) = true := bne_iff_ne.mpr c3
  obtain rfl := Option.some.inj H
  go_enter Try.func62, Try.ntmps62
  go_wp2_with (first | ((with_reducible refine gate_dst (N := 2) rfl ?_); refine box_event ?hg (N := 2) ?hd (cs := #[.int .i64 a0_0, .int .i64 a0_1, .string a0_2]) (t := 76) ?hr ?_; (case hd => rfl); (case hg => rfl); (case hr => first | (go_simp; done) | (go_simp; rfl)); intro gb230 hg w21 hbox hb; have n0_ := zm (below_step (zg_0 HB.out) hb); have n1_ := zm (hbox); have n2_ := zm ((by rw [hg]; exact (below_size (zg_0 HB.out)) : w.heap.size ≤ gb230)); have n3_ := zm ((by rw [hg]; exact (below_size (zg_0 HB.out)) : w.heap.size ≤ gb230)); clear HB; have HB := n0_; have Za := n1_; have Zg := n2_; have Zc := n3_; clear n0_ n1_ n2_ n3_; clear hb hbox hg) | ((with_reducible refine gate_dst (N := 3) rfl ?_); refine box_event ?hg (N := 3) ?hd (cs := #[.int .i64 a1_0, .int .i64 a1_1, .string a1_2]) (t := 76) ?hr ?_; (case hd => rfl); (case hg => rfl); (case hr => first | (go_simp; done) | (go_simp; rfl)); intro gb231 hg w22 hbox hb; have n0_ := zm (blk_below (g := gb230) (o := .cells #[.int .i64 a0_0, .int .i64 a0_1, .string a0_2] 76 (0, 0)) (zg_2 Za.out) hb); have n1_ := zm (below_step (zg_1 HB.out Zc.out) hb); have n2_ := zm (hbox); have n3_ := zm ((by rw [hg]; exact (below_size (zg_1 HB.out Zc.out)) : w.heap.size ≤ gb231)); have n4_ := zm ((by rw [hg]; exact (below_size (zg_1 HB.out Zc.out)) : w.heap.size ≤ gb231)); have n5_ := zm ((by rw [hg]; exact Nat.ne_of_lt (blk_lt (g := gb230) (o := .cells #[.int .i64 a0_0, .int .i64 a0_1, .string a0_2] 76 (0, 0)) (zg_2 Za.out)) : gb230 ≠ gb231)); have n6_ := zm ((by rw [hg]; exact Nat.ne_of_gt (blk_lt (g := gb230) (o := .cells #[.int .i64 a0_0, .int .i64 a0_1, .string a0_2] 76 (0, 0)) (zg_2 Za.out)) : gb231 ≠ gb230)); clear Za; clear HB; have Za := n0_; have HB := n1_; have Zb := n2_; have Zh := n3_; have Zf := n4_; have Zd := n5_; have Ze := n6_; clear n0_ n1_ n2_ n3_ n4_ n5_ n6_; clear hb hbox hg; have hnb23 := Zd.out; have hnc23 := Ze.out; have hcz24_0 : w22.cell? ⟨gb230, 0, none⟩ = some (.int .i64 a0_0) := (blk_cell Za.out 0).trans rfl; have hcz24_1 : w22.cell? ⟨gb230, 1, none⟩ = some (.int .i64 a0_1) := (blk_cell Za.out 1).trans rfl; have hcz24_2 : w22.cell? ⟨gb230, 2, none⟩ = some (.string a0_2) := (blk_cell Za.out 2).trans rfl; have hfz24_0 := blk_frozen Za.out 0; have hfz24_1 := blk_frozen Za.out 1; have hfz24_2 := blk_frozen Za.out 2; have hcz25_0 : w22.cell? ⟨gb231, 0, none⟩ = some (.int .i64 a1_0) := (blk_cell Zb.out 0).trans rfl; have hcz25_1 : w22.cell? ⟨gb231, 1, none⟩ = some (.int .i64 a1_1) := (blk_cell Zb.out 1).trans rfl; have hcz25_2 : w22.cell? ⟨gb231, 2, none⟩ = some (.string a1_2) := (blk_cell Zb.out 2).trans rfl; have hfz25_0 := blk_frozen Zb.out 0; have hfz25_1 := blk_frozen Zb.out 1; have hfz25_2 := blk_frozen Zb.out 2))
  go_ret
  exact ⟨by first | rfl | (simp [errW_none, errW_some] <;> rfl) | (simp [*, errW_none, errW_some] <;> rfl), zg_4 HB.out Zc.out Zf.out⟩
/-! ### laws_eqIoS: function 37 -/
def laws_eqIoS.l0 : Nat → List (S76) → List (S76) → Int → Option (Bool)
  | 0, _, _, _ => none
  | k + 1, x0, x1, x5 => if x5 < (x0.length : Int) then (if 0 ≤ x5 then (if x5 < (x1.length : Int) then ((laws_eqIo.f ((rd_T76 x0 x5).f0) ((rd_T76 x0 x5).f1) ((rd_T76 x0 x5).f2) ((rd_T76 x1 x5).f0) ((rd_T76 x1 x5).f1) ((rd_T76 x1 x5).f2)).bind fun t234 => (if t234 = true then (laws_eqIoS.l0 k x0 x1 (wrap64 (x5 + 1))) else (some false))) else (none)) else (none)) else (some true)
def laws_eqIoS.f (k : Nat) (l0 : List (S76)) (l1 : List (S76)) : Option (Bool) := if (l0.length : Int) = (l1.length : Int) then (laws_eqIoS.l0 k l0 l1 0) else (some false)
theorem laws_eqIoS.mono_l : ∀ k, (∀ y0 y1 y2, LeO (laws_eqIoS.l0 k y0 y1 y2) (laws_eqIoS.l0 (k + 1) y0 y1 y2))
  | 0 => fun _ _ _ r h => by simp [laws_eqIoS.l0] at h
  | k + 1 => by
    have ih0 := laws_eqIoS.mono_l k
    · intro y0 y1 y2
      unfold laws_eqIoS.l0
      repeat' first
      | (with_reducible exact ih0 _ _ _)
      | (with_reducible exact LeO.refl _)
      | (with_reducible exact LeO.none _)
      | (with_reducible refine LeO.ite ?_ ?_)
      | (with_reducible refine LeO.bind ?_ (fun _ => ?_))
      | exact ih0 _ _ _
      | exact LeO.none _
      | refine LeO.ite ?_ ?_
      | refine LeO.bind ?_ (fun _ => ?_)
theorem laws_eqIoS.mono : ∀ a0 a1 k, LeO (laws_eqIoS.f k a0 a1) (laws_eqIoS.f (k + 1) a0 a1) := by
  intro a0 a1 k
  have ih0 := laws_eqIoS.mono_l k
  unfold laws_eqIoS.f
  repeat' first
      | (with_reducible exact ih0 _ _ _)
      | (with_reducible exact LeO.refl _)
      | (with_reducible exact LeO.none _)
      | (with_reducible refine LeO.ite ?_ ?_)
      | (with_reducible refine LeO.bind ?_ (fun _ => ?_))
      | exact ih0 _ _ _
      | exact LeO.none _
      | refine LeO.ite ?_ ?_
      | refine LeO.bind ?_ (fun _ => ?_)
def laws_eqIoS.T6 : Bool × List (List Nat × List Nat) := (true, [([], []), ([], []), ([0, 1], [0, 1]), ([2], [2]), ([], []), ([], []), ([4, 5], [4, 5]), ([6], [6]), ([3, 7], [3, 7]), ([8], [8])])
def laws_eqIoS.B6 : List Nat := [0, 0, 3, 7, 0, 0, 48, 112, 255, 511]
theorem laws_eqIoS.tab6 : rtab .any (opsOf Try.f37 6) = laws_eqIoS.T6 := by kernel_rfl
theorem laws_eqIoS.bits6 : waitsOk laws_eqIoS.T6.2 laws_eqIoS.B6 = true := by kernel_rfl
set_option maxHeartbeats 8000000 in
set_option maxRecDepth 100000 in
theorem laws_eqIoS.calls (k : Nat) (A0 : Option Addr) (c0 : Nat) (l0 : List (S76)) (A1 : Option Addr) (c1 : Nat) (l1 : List (S76)) (r : Bool) (w : World) (hr0 : Kd.C k76 w A0 l0.length l0) (hc0 : l0.length ≤ c0) (hr1 : Kd.C k76 w A1 l1.length l1) (hc1 : l1.length ≤ c1) (h : laws_eqIoS.f k l0 l1 = some r) :
    Calls Try.prog 37 #[.slice A0 l0.length c0, .slice A1 l1.length c1] w fun e w' => e = .returned (.bool r) ∧ Below w.heap.size w w' := by
 have hu76 := Try.underlying76
 have HR0 := zm hr0
 have HC0 := zm hc0
 clear hr0 hc0
 have HR1 := zm hr1
 have HC1 := zm hc1
 clear hr1 hc1
 have HB := zm (Below.refl w.heap.size w)
 have H : (if (l0.length : Int) = (l1.length : Int) then (laws_eqIoS.l0 k l0 l1 0) else (some false)) = some r := h
 clear h
 by_cases c3 : (l0.length : Int) = (l1.length : Int)
 ·rw [if_pos c3] at H
  have c3b0 : ((l0.length : Int) == (l1.length : Int)) = true := beq_iff_eq.mpr c3
  have c3b1 : ((l0.length : Int) != (l1.length : Int)) = false := bne_eq_false_iff_eq.mpr c3
  have c3b2 : (l0.length == l1.length) = true := by first | simpa using c3 | (simp at c3 ⊢; omega)
  clear c3
  have H' := zm H
  clear H
  go_enter Try.func37, Try.ntmps37
  go_wp2
  go_loopg [5] k (fun kq v5 w' => ∃ (x5_1 : Int), v5 = .int .i64 x5_1 ∧ Aside0 (laws_eqIoS.l0 kq l0 l1 x5_1 = some r) ∧ Aside0 (kq ≤ k) ∧ Aside0 (Below w.heap.size w w'))
  case atStart => exact ⟨(0), zr, H', ⟨Nat.le_refl _⟩, ⟨zg_0 HB.out⟩⟩
  case round =>
   clear H'
   try clear c1
   try clear p2
   try clear c3
   try clear c3b0
   try clear c3b1
   try clear c3b2
   obtain ⟨x5_1, rfl, HA, HK1, HB⟩ := hrel
   cases gk with
   | zero => exact absurd HA.out (by simp [laws_eqIoS.l0])
   | succ k1 =>
    have H := HA.out
    clear HA
    simp only [laws_eqIoS.l0] at H
    by_cases c4 : x5_1 < (l0.length : Int)
    ·rw [if_pos c4] at H
     have c4b0 : decide (x5_1 < (l0.length : Int)) = true := decide_eq_true c4
     clear c4
     by_cases c5 : 0 ≤ x5_1
     ·rw [if_pos c5] at H
      have c5b0 : decide (0 ≤ x5_1) = true := decide_eq_true c5
      clear c5
      by_cases c6 : x5_1 < (l1.length : Int)
      ·rw [if_pos c6] at H
       have c6b0 : decide (x5_1 < (l1.length : Int)) = true := decide_eq_true c6
       clear c6
       replace H := Option.bind_eq_some_iff.mp H
       obtain ⟨t234, A70, H⟩ := H
       replace H : (if t234 = true then (laws_eqIoS.l0 k1 l0 l1 (wrap64 (x5_1 + 1))) else (some false)) = some r := H
       have A7 := zm A70
       clear A70
       by_cases c8 : t234 = true
       ·subst c8
        have H1 : (laws_eqIoS.l0 k1 l0 l1 (wrap64 (x5_1 + 1))) = some r := by rw [if_pos rfl] at H; exact H
        clear H
        have H := H1
        clear H1
        have H' := zm H
        clear H
        try go_wp2
        have n0_ := zm (below_drew1 HB.out)
        clear HB
        have HB := n0_
        clear n0_
        have p232 : 0 ≤ (x5_1 : Int) := of_decide_eq_true (by first | (with_reducible assumption) | assumption)
        have q232 : x5_1 < (l0.length : Int) := of_decide_eq_true (by first | (with_reducible assumption) | assumption)
        obtain ⟨ad232, e232, hx232_0, hx232_1, hx232_2⟩ := at_T76 HR0.out x5_1 p232 q232
        have hw232_2 := hx232_2
        have hw232_1 := hx232_1
        have hw232_0 := hx232_0
        cases e232
        replace hx232_0 := (HB.out.cell (World.block_lt_of_cell? w _ hx232_0)).trans hx232_0
        replace hx232_1 := (HB.out.cell (World.block_lt_of_cell? w _ hx232_1)).trans hx232_1
        replace hx232_2 := (HB.out.cell (World.block_lt_of_cell? w _ hx232_2)).trans hx232_2
        replace p232 := eq_true p232
        replace q232 := eq_true q232
        have p233 : 0 ≤ (x5_1 : Int) := of_decide_eq_true (by first | (with_reducible assumption) | assumption)
        have q233 : x5_1 < (l1.length : Int) := of_decide_eq_true (by first | (with_reducible assumption) | assumption)
        obtain ⟨ad233, e233, hx233_0, hx233_1, hx233_2⟩ := at_T76 HR1.out x5_1 p233 q233
        have hw233_2 := hx233_2
        have hw233_1 := hx233_1
        have hw233_0 := hx233_0
        cases e233
        replace hx233_0 := (HB.out.cell (World.block_lt_of_cell? w _ hx233_0)).trans hx233_0
        replace hx233_1 := (HB.out.cell (World.block_lt_of_cell? w _ hx233_1)).trans hx233_1
        replace hx233_2 := (HB.out.cell (World.block_lt_of_cell? w _ hx233_2)).trans hx233_2
        replace p233 := eq_true p233
        replace q233 := eq_true q233
        refine start_ (n := 10) (S := fun w' => w'.cell? (ad232.add ((x5_1).toNat * 3)) = some (.int .i64 ((rd_T76 l0 x5_1).f0)) ∧ w'.cell? ⟨(ad232.add ((x5_1).toNat * 3)).block, (ad232.add ((x5_1).toNat * 3)).off + 1, none⟩ = some (.int .i64 ((rd_T76 l0 x5_1).f1)) ∧ w'.cell? ⟨(ad232.add ((x5_1).toNat * 3)).block, (ad232.add ((x5_1).toNat * 3)).off + 2, none⟩ = some (.string ((rd_T76 l0 x5_1).f2)) ∧ w'.cell? (ad233.add ((x5_1).toNat * 3)) = some (.int .i64 ((rd_T76 l1 x5_1).f0)) ∧ w'.cell? ⟨(ad233.add ((x5_1).toNat * 3)).block, (ad233.add ((x5_1).toNat * 3)).off + 1, none⟩ = some (.int .i64 ((rd_T76 l1 x5_1).f1)) ∧ w'.cell? ⟨(ad233.add ((x5_1).toNat * 3)).block, (ad233.add ((x5_1).toNat * 3)).off + 2, none⟩ = some (.string ((rd_T76 l1 x5_1).f2))) (ds := []) #[false, false, false, false, false, false, false, false, false, false] (by kernel_rfl) rfl rfl ⟨((HB.out.cell (World.block_lt_of_cell? w _ hw232_0)).trans hw232_0), ((HB.out.cell (World.block_lt_of_cell? w _ hw232_1)).trans hw232_1), ((HB.out.cell (World.block_lt_of_cell? w _ hw232_2)).trans hw232_2), ((HB.out.cell (World.block_lt_of_cell? w _ hw233_0)).trans hw233_0), ((HB.out.cell (World.block_lt_of_cell? w _ hw233_1)).trans hw233_1), ((HB.out.cell (World.block_lt_of_cell? w _ hw233_2)).trans hw233_2)⟩ (fun hHeld => ?_); refine with_tabW laws_eqIoS.tab6 laws_eqIoS.bits6 (fun HT_ HW_ => ?_)
        generalize wr.drew = w9 at HB hx232_0 hx232_1 hx232_2 hx233_0 hx233_1 hx233_2 hHeld ⊢
        refine pure_ (i := 0) (N := some 17) (v := ?_) (a' := ?_) #[true, false, false, false, false, false, false, false, false, false] rfl rfl (any_of HT_.out (by kernel_rfl)) (fun _ _ _ h => h) (Or.inl ⟨by rfl, ?_⟩) ?_ ?_
        rotate_left
        ·intro w'
         go_simp
         with_reducible rfl
        rotate_left
        ·simp only [Act.put, zs, zz, zt, i64_w, i32_w]
         rfl
        refine pure_ (i := 1) (N := some 18) (v := ?_) (a' := ?_) #[true, true, false, false, false, false, false, false, false, false] rfl rfl (any_of HT_.out (by kernel_rfl)) (fun _ _ _ h => h) (Or.inl ⟨by rfl, ?_⟩) ?_ ?_
        rotate_left
        ·intro w'
         go_simp
         with_reducible rfl
        rotate_left
        ·simp only [Act.put, zs, zz, zt, i64_w, i32_w]
         rfl
        refine pure_ (i := 2) (N := some 19) (v := ?_) (a' := ?_) #[true, true, true, false, false, false, false, false, false, false] rfl rfl (any_of HT_.out (by kernel_rfl)) (fun _ _ _ h => h) (Or.inl ⟨by rfl, ?_⟩) ?_ ?_
        rotate_left
        ·intro w'
         go_simp
         with_reducible rfl
        rotate_left
        ·simp only [Act.put, zs, zz, zt, i64_w, i32_w]
         rfl
        refine pure_ (i := 4) (N := some 21) (v := ?_) (a' := ?_) #[true, true, true, false, true, false, false, false, false, false] rfl rfl (any_of HT_.out (by kernel_rfl)) (fun _ _ _ h => h) (Or.inl ⟨by rfl, ?_⟩) ?_ ?_
        rotate_left
        ·intro w'
         go_simp
         with_reducible rfl
        rotate_left
        ·simp only [Act.put, zs, zz, zt, i64_w, i32_w]
         rfl
        refine pure_ (i := 5) (N := some 22) (v := ?_) (a' := ?_) #[true, true, true, false, true, true, false, false, false, false] rfl rfl (any_of HT_.out (by kernel_rfl)) (fun _ _ _ h => h) (Or.inl ⟨by rfl, ?_⟩) ?_ ?_
        rotate_left
        ·intro w'
         go_simp
         with_reducible rfl
        rotate_left
        ·simp only [Act.put, zs, zz, zt, i64_w, i32_w]
         rfl
        refine pure_ (i := 6) (N := some 23) (v := ?_) (a' := ?_) #[true, true, true, false, true, true, true, false, false, false] rfl rfl (any_of HT_.out (by kernel_rfl)) (fun _ _ _ h => h) (Or.inl ⟨by rfl, ?_⟩) ?_ ?_
        rotate_left
        ·intro w'
         go_simp
         with_reducible rfl
        rotate_left
        ·simp only [Act.put, zs, zz, zt, i64_w, i32_w]
         rfl
        refine take_ (i := 3) (N := some 20) (v := ?_) (a' := ?_) #[true, true, true, true, true, true, true, false, false, false] rfl rfl (take_ofW HT_.out HW_.out (by kernel_rfl)) (fun _ _ _ h => h) (Or.inl ⟨by rfl, ?_⟩) hHeld ?_ ?_
        rotate_left
        ·rintro w' ⟨s0, s1, s2, s3, s4, s5⟩
         go_simp
         with_reducible rfl
        rotate_left
        ·simp only [Act.put, zs, zz, zt, i64_w, i32_w]
         rfl
        refine take_ (i := 7) (N := some 24) (v := ?_) (a' := ?_) #[true, true, true, true, true, true, true, true, false, false] rfl rfl (take_ofW HT_.out HW_.out (by kernel_rfl)) (fun _ _ _ h => h) (Or.inl ⟨by rfl, ?_⟩) hHeld ?_ ?_
        rotate_left
        ·rintro w' ⟨s0, s1, s2, s3, s4, s5⟩
         go_simp
         with_reducible rfl
        rotate_left
        ·simp only [Act.put, zs, zz, zt, i64_w, i32_w]
         rfl
        refine one_ (i := 8) (N := some 25) #[true, true, true, true, true, true, true, true, true, false] rfl rfl (one_of HT_.out (by kernel_rfl)) (by decide) (fun K hK => ?_)
        refine goes_ Try.func62 (by kernel_rfl) rfl #[.agg #[.int .i64 ((rd_T76 l0 x5_1).f0), .int .i64 ((rd_T76 l0 x5_1).f1), .string ((rd_T76 l0 x5_1).f2)], .agg #[.int .i64 ((rd_T76 l1 x5_1).f0), .int .i64 ((rd_T76 l1 x5_1).f1), .string ((rd_T76 l1 x5_1).f2)]] (by rfl) rfl rfl zq ?_
        with_reducible refine (laws_eqIo.calls ((rd_T76 l0 x5_1).f0) ((rd_T76 l0 x5_1).f1) ((rd_T76 l0 x5_1).f2) ((rd_T76 l1 x5_1).f0) ((rd_T76 l1 x5_1).f1) ((rd_T76 l1 x5_1).f2) true _ A7.out).mono ?_
        rintro e w10 ⟨rfl, hb⟩
        refine ⟨_, rfl, ?_⟩
        have n0_ := zm (below_step (zg_0 HB.out) hb)
        clear HB
        have HB := n0_
        clear n0_
        (try clear hb)
        (try clear hb2)
        (try clear hk)
        (try clear hi)
        refine hK.out _ _ ⟨((HB.out.cell (World.block_lt_of_cell? w _ hw232_0)).trans hw232_0), ((HB.out.cell (World.block_lt_of_cell? w _ hw232_1)).trans hw232_1), ((HB.out.cell (World.block_lt_of_cell? w _ hw232_2)).trans hw232_2), ((HB.out.cell (World.block_lt_of_cell? w _ hw233_0)).trans hw233_0), ((HB.out.cell (World.block_lt_of_cell? w _ hw233_1)).trans hw233_1), ((HB.out.cell (World.block_lt_of_cell? w _ hw233_2)).trans hw233_2)⟩ (fun hHeld => ?_)
        clear hK K
        refine norm_ (a' := ?_) ?_ ?_
        rotate_left
        ·show Act.put _ (some 25) _ = _
         simp only [Act.put, zs, zz, zt, i64_w, i32_w]
         rfl
        refine pure_ (i := 9) (N := some 26) (v := ?_) (a' := ?_) #[true, true, true, true, true, true, true, true, true, true] rfl rfl (any_of HT_.out (by kernel_rfl)) (fun _ _ _ h => h) (Or.inl ⟨by rfl, ?_⟩) ?_ ?_
        rotate_left
        ·intro w'
         go_simp
         with_reducible rfl
        rotate_left
        ·simp only [Act.put, zs, zz, zt, i64_w, i32_w]
         rfl
        refine done_ (done_of HT_.out (by kernel_rfl)) ?_
        try go_wp2
        go_roundg k1
        case measure => have := HK1.out; omega
        case rel => exact ⟨(wrap64 (x5_1 + 1)), zr, H', ⟨by have := HK1.out; omega⟩, ⟨zg_0 HB.out⟩⟩
       ·replace c8 := Bool.eq_false_iff.mpr c8
        subst c8
        have H1 : (some false) = some r := by rw [if_neg (show ¬ (false = true) by decide)] at H; exact H
        clear H
        have H := H1
        clear H1
        obtain rfl := Option.some.inj H
        try go_wp2
        have n0_ := zm (below_drew1 HB.out)
        clear HB
        have HB := n0_
        clear n0_
        have p232 : 0 ≤ (x5_1 : Int) := of_decide_eq_true (by first | (with_reducible assumption) | assumption)
        have q232 : x5_1 < (l0.length : Int) := of_decide_eq_true (by first | (with_reducible assumption) | assumption)
        obtain ⟨ad232, e232, hx232_0, hx232_1, hx232_2⟩ := at_T76 HR0.out x5_1 p232 q232
        have hw232_2 := hx232_2
        have hw232_1 := hx232_1
        have hw232_0 := hx232_0
        cases e232
        replace hx232_0 := (HB.out.cell (World.block_lt_of_cell? w _ hx232_0)).trans hx232_0
        replace hx232_1 := (HB.out.cell (World.block_lt_of_cell? w _ hx232_1)).trans hx232_1
        replace hx232_2 := (HB.out.cell (World.block_lt_of_cell? w _ hx232_2)).trans hx232_2
        replace p232 := eq_true p232
        replace q232 := eq_true q232
        have p233 : 0 ≤ (x5_1 : Int) := of_decide_eq_true (by first | (with_reducible assumption) | assumption)
        have q233 : x5_1 < (l1.length : Int) := of_decide_eq_true (by first | (with_reducible assumption) | assumption)
        obtain ⟨ad233, e233, hx233_0, hx233_1, hx233_2⟩ := at_T76 HR1.out x5_1 p233 q233
        have hw233_2 := hx233_2
        have hw233_1 := hx233_1
        have hw233_0 := hx233_0
        cases e233
        replace hx233_0 := (HB.out.cell (World.block_lt_of_cell? w _ hx233_0)).trans hx233_0
        replace hx233_1 := (HB.out.cell (World.block_lt_of_cell? w _ hx233_1)).trans hx233_1
        replace hx233_2 := (HB.out.cell (World.block_lt_of_cell? w _ hx233_2)).trans hx233_2
        replace p233 := eq_true p233
        replace q233 := eq_true q233
        refine start_ (n := 10) (S := fun w' => w'.cell? (ad232.add ((x5_1).toNat * 3)) = some (.int .i64 ((rd_T76 l0 x5_1).f0)) ∧ w'.cell? ⟨(ad232.add ((x5_1).toNat * 3)).block, (ad232.add ((x5_1).toNat * 3)).off + 1, none⟩ = some (.int .i64 ((rd_T76 l0 x5_1).f1)) ∧ w'.cell? ⟨(ad232.add ((x5_1).toNat * 3)).block, (ad232.add ((x5_1).toNat * 3)).off + 2, none⟩ = some (.string ((rd_T76 l0 x5_1).f2)) ∧ w'.cell? (ad233.add ((x5_1).toNat * 3)) = some (.int .i64 ((rd_T76 l1 x5_1).f0)) ∧ w'.cell? ⟨(ad233.add ((x5_1).toNat * 3)).block, (ad233.add ((x5_1).toNat * 3)).off + 1, none⟩ = some (.int .i64 ((rd_T76 l1 x5_1).f1)) ∧ w'.cell? ⟨(ad233.add ((x5_1).toNat * 3)).block, (ad233.add ((x5_1).toNat * 3)).off + 2, none⟩ = some (.string ((rd_T76 l1 x5_1).f2))) (ds := []) #[false, false, false, false, false, false, false, false, false, false] (by kernel_rfl) rfl rfl ⟨((HB.out.cell (World.block_lt_of_cell? w _ hw232_0)).trans hw232_0), ((HB.out.cell (World.block_lt_of_cell? w _ hw232_1)).trans hw232_1), ((HB.out.cell (World.block_lt_of_cell? w _ hw232_2)).trans hw232_2), ((HB.out.cell (World.block_lt_of_cell? w _ hw233_0)).trans hw233_0), ((HB.out.cell (World.block_lt_of_cell? w _ hw233_1)).trans hw233_1), ((HB.out.cell (World.block_lt_of_cell? w _ hw233_2)).trans hw233_2)⟩ (fun hHeld => ?_); refine with_tabW laws_eqIoS.tab6 laws_eqIoS.bits6 (fun HT_ HW_ => ?_)
        generalize wr.drew = w11 at HB hx232_0 hx232_1 hx232_2 hx233_0 hx233_1 hx233_2 hHeld ⊢
        refine pure_ (i := 0) (N := some 17) (v := ?_) (a' := ?_) #[true, false, false, false, false, false, false, false, false, false] rfl rfl (any_of HT_.out (by kernel_rfl)) (fun _ _ _ h => h) (Or.inl ⟨by rfl, ?_⟩) ?_ ?_
        rotate_left
        ·intro w'
         go_simp
         with_reducible rfl
        rotate_left
        ·simp only [Act.put, zs, zz, zt, i64_w, i32_w]
         rfl
        refine pure_ (i := 1) (N := some 18) (v := ?_) (a' := ?_) #[true, true, false, false, false, false, false, false, false, false] rfl rfl (any_of HT_.out (by kernel_rfl)) (fun _ _ _ h => h) (Or.inl ⟨by rfl, ?_⟩) ?_ ?_
        rotate_left
        ·intro w'
         go_simp
         with_reducible rfl
        rotate_left
        ·simp only [Act.put, zs, zz, zt, i64_w, i32_w]
         rfl
        refine pure_ (i := 2) (N := some 19) (v := ?_) (a' := ?_) #[true, true, true, false, false, false, false, false, false, false] rfl rfl (any_of HT_.out (by kernel_rfl)) (fun _ _ _ h => h) (Or.inl ⟨by rfl, ?_⟩) ?_ ?_
        rotate_left
        ·intro w'
         go_simp
         with_reducible rfl
        rotate_left
        ·simp only [Act.put, zs, zz, zt, i64_w, i32_w]
         rfl
        refine pure_ (i := 4) (N := some 21) (v := ?_) (a' := ?_) #[true, true, true, false, true, false, false, false, false, false] rfl rfl (any_of HT_.out (by kernel_rfl)) (fun _ _ _ h => h) (Or.inl ⟨by rfl, ?_⟩) ?_ ?_
        rotate_left
        ·intro w'
         go_simp
         with_reducible rfl
        rotate_left
        ·simp only [Act.put, zs, zz, zt, i64_w, i32_w]
         rfl
        refine pure_ (i := 5) (N := some 22) (v := ?_) (a' := ?_) #[true, true, true, false, true, true, false, false, false, false] rfl rfl (any_of HT_.out (by kernel_rfl)) (fun _ _ _ h => h) (Or.inl ⟨by rfl, ?_⟩) ?_ ?_
        rotate_left
        ·intro w'
         go_simp
         with_reducible rfl
        rotate_left
        ·simp only [Act.put, zs, zz, zt, i64_w, i32_w]
         rfl
        refine pure_ (i := 6) (N := some 23) (v := ?_) (a' := ?_) #[true, true, true, false, true, true, true, false, false, false] rfl rfl (any_of HT_.out (by kernel_rfl)) (fun _ _ _ h => h) (Or.inl ⟨by rfl, ?_⟩) ?_ ?_
        rotate_left
        ·intro w'
         go_simp
         with_reducible rfl
        rotate_left
        ·simp only [Act.put, zs, zz, zt, i64_w, i32_w]
         rfl
        refine take_ (i := 3) (N := some 20) (v := ?_) (a' := ?_) #[true, true, true, true, true, true, true, false, false, false] rfl rfl (take_ofW HT_.out HW_.out (by kernel_rfl)) (fun _ _ _ h => h) (Or.inl ⟨by rfl, ?_⟩) hHeld ?_ ?_
        rotate_left
        ·rintro w' ⟨s0, s1, s2, s3, s4, s5⟩
         go_simp
         with_reducible rfl
        rotate_left
        ·simp only [Act.put, zs, zz, zt, i64_w, i32_w]
         rfl
        refine take_ (i := 7) (N := some 24) (v := ?_) (a' := ?_) #[true, true, true, true, true, true, true, true, false, false] rfl rfl (take_ofW HT_.out HW_.out (by kernel_rfl)) (fun _ _ _ h => h) (Or.inl ⟨by rfl, ?_⟩) hHeld ?_ ?_
        rotate_left
        ·rintro w' ⟨s0, s1, s2, s3, s4, s5⟩
         go_simp
         with_reducible rfl
        rotate_left
        ·simp only [Act.put, zs, zz, zt, i64_w, i32_w]
         rfl
        refine one_ (i := 8) (N := some 25) #[true, true, true, true, true, true, true, true, true, false] rfl rfl (one_of HT_.out (by kernel_rfl)) (by decide) (fun K hK => ?_)
        refine goes_ Try.func62 (by kernel_rfl) rfl #[.agg #[.int .i64 ((rd_T76 l0 x5_1).f0), .int .i64 ((rd_T76 l0 x5_1).f1), .string ((rd_T76 l0 x5_1).f2)], .agg #[.int .i64 ((rd_T76 l1 x5_1).f0), .int .i64 ((rd_T76 l1 x5_1).f1), .string ((rd_T76 l1 x5_1).f2)]] (by rfl) rfl rfl zq ?_
        with_reducible refine (laws_eqIo.calls ((rd_T76 l0 x5_1).f0) ((rd_T76 l0 x5_1).f1) ((rd_T76 l0 x5_1).f2) ((rd_T76 l1 x5_1).f0) ((rd_T76 l1 x5_1).f1) ((rd_T76 l1 x5_1).f2) false _ A7.out).mono ?_
        rintro e w12 ⟨rfl, hb⟩
        refine ⟨_, rfl, ?_⟩
        have n0_ := zm (below_step (zg_0 HB.out) hb)
        clear HB
        have HB := n0_
        clear n0_
        (try clear hb)
        (try clear hb2)
        (try clear hk)
        (try clear hi)
        refine hK.out _ _ ⟨((HB.out.cell (World.block_lt_of_cell? w _ hw232_0)).trans hw232_0), ((HB.out.cell (World.block_lt_of_cell? w _ hw232_1)).trans hw232_1), ((HB.out.cell (World.block_lt_of_cell? w _ hw232_2)).trans hw232_2), ((HB.out.cell (World.block_lt_of_cell? w _ hw233_0)).trans hw233_0), ((HB.out.cell (World.block_lt_of_cell? w _ hw233_1)).trans hw233_1), ((HB.out.cell (World.block_lt_of_cell? w _ hw233_2)).trans hw233_2)⟩ (fun hHeld => ?_)
        clear hK K
        refine norm_ (a' := ?_) ?_ ?_
        rotate_left
        ·show Act.put _ (some 25) _ = _
         simp only [Act.put, zs, zz, zt, i64_w, i32_w]
         rfl
        refine pure_ (i := 9) (N := some 26) (v := ?_) (a' := ?_) #[true, true, true, true, true, true, true, true, true, true] rfl rfl (any_of HT_.out (by kernel_rfl)) (fun _ _ _ h => h) (Or.inl ⟨by rfl, ?_⟩) ?_ ?_
        rotate_left
        ·intro w'
         go_simp
         with_reducible rfl
        rotate_left
        ·simp only [Act.put, zs, zz, zt, i64_w, i32_w]
         rfl
        refine done_ (done_of HT_.out (by kernel_rfl)) ?_
        try go_wp2
        go_ret
        exact ⟨by first | rfl | (simp [errW_none, errW_some] <;> rfl) | (simp [*, errW_none, errW_some] <;> rfl), zg_0 HB.out⟩
      ·rw [if_neg c6] at H
       exact absurd H (by simp)
     ·rw [if_neg c5] at H
      exact absurd H (by simp)
    ·rw [if_neg c4] at H
     have c4b0 : decide (x5_1 < (l0.length : Int)) = false := decide_eq_false c4
     clear c4
     obtain rfl := Option.some.inj H
     go_wp2
     go_ret
     exact ⟨by first | rfl | (simp [errW_none, errW_some] <;> rfl) | (simp [*, errW_none, errW_some] <;> rfl), zg_0 HB.out⟩
 ·rw [if_neg c3] at H
  have c3b0 : ((l0.length : Int) == (l1.length : Int)) = false := beq_eq_false_iff_ne.mpr c3
  have c3b1 : ((l0.length : Int) != (l1.length : Int)) = true := bne_iff_ne.mpr c3
  have c3b2 : (l0.length == l1.length) = false := by first | simpa using c3 | (simp at c3 ⊢; omega)
  obtain rfl := Option.some.inj H
  go_enter Try.func37, Try.ntmps37
  go_wp2
  go_ret
  exact ⟨by first | rfl | (simp [errW_none, errW_some] <;> rfl) | (simp [*, errW_none, errW_some] <;> rfl), zg_0 HB.out⟩
/-! ### laws_eqStringS: function 36 -/
def laws_eqStringS.l0 : Nat → List ByteArray → List ByteArray → Int → Option (Bool)
  | 0, _, _, _ => none
  | k + 1, x0, x1, x5 => if x5 < (x0.length : Int) then (if 0 ≤ x5 then (if x5 < (x1.length : Int) then (if (rdOf ByteArray.empty x0 x5).toList = (rdOf ByteArray.empty x1 x5).toList then (laws_eqStringS.l0 k x0 x1 (wrap64 (x5 + 1))) else (some false)) else (none)) else (none)) else (some true)
def laws_eqStringS.f (k : Nat) (l0 : List ByteArray) (l1 : List ByteArray) : Option (Bool) := if (l0.length : Int) = (l1.length : Int) then (laws_eqStringS.l0 k l0 l1 0) else (some false)
theorem laws_eqStringS.mono_l : ∀ k, (∀ y0 y1 y2, LeO (laws_eqStringS.l0 k y0 y1 y2) (laws_eqStringS.l0 (k + 1) y0 y1 y2))
  | 0 => fun _ _ _ r h => by simp [laws_eqStringS.l0] at h
  | k + 1 => by
    have ih0 := laws_eqStringS.mono_l k
    · intro y0 y1 y2
      unfold laws_eqStringS.l0
      repeat' first
      | (with_reducible exact ih0 _ _ _)
      | (with_reducible exact LeO.refl _)
      | (with_reducible exact LeO.none _)
      | (with_reducible refine LeO.ite ?_ ?_)
      | (with_reducible refine LeO.bind ?_ (fun _ => ?_))
      | exact ih0 _ _ _
      | exact LeO.none _
      | refine LeO.ite ?_ ?_
      | refine LeO.bind ?_ (fun _ => ?_)
theorem laws_eqStringS.mono : ∀ a0 a1 k, LeO (laws_eqStringS.f k a0 a1) (laws_eqStringS.f (k + 1) a0 a1) := by
  intro a0 a1 k
  have ih0 := laws_eqStringS.mono_l k
  unfold laws_eqStringS.f
  repeat' first
      | (with_reducible exact ih0 _ _ _)
      | (with_reducible exact LeO.refl _)
      | (with_reducible exact LeO.none _)
      | (with_reducible refine LeO.ite ?_ ?_)
      | (with_reducible refine LeO.bind ?_ (fun _ => ?_))
      | exact ih0 _ _ _
      | exact LeO.none _
      | refine LeO.ite ?_ ?_
      | refine LeO.bind ?_ (fun _ => ?_)
set_option maxHeartbeats 8000000 in
set_option maxRecDepth 100000 in
theorem laws_eqStringS.calls (k : Nat) (A0 : Option Addr) (c0 : Nat) (l0 : List ByteArray) (A1 : Option Addr) (c1 : Nat) (l1 : List ByteArray) (r : Bool) (w : World) (hr0 : Kd.C Kd.string w A0 l0.length l0) (hc0 : l0.length ≤ c0) (hr1 : Kd.C Kd.string w A1 l1.length l1) (hc1 : l1.length ≤ c1) (h : laws_eqStringS.f k l0 l1 = some r) :
    Calls Try.prog 36 #[.slice A0 l0.length c0, .slice A1 l1.length c1] w fun e w' => e = .returned (.bool r) ∧ Drawn0 w w' := by
 have HR0 := zm hr0
 have HC0 := zm hc0
 clear hr0 hc0
 have HR1 := zm hr1
 have HC1 := zm hc1
 clear hr1 hc1
 have H : (if (l0.length : Int) = (l1.length : Int) then (laws_eqStringS.l0 k l0 l1 0) else (some false)) = some r := h
 clear h
 by_cases c3 : (l0.length : Int) = (l1.length : Int)
 ·rw [if_pos c3] at H
  have c3b0 : ((l0.length : Int) == (l1.length : Int)) = true := beq_iff_eq.mpr c3
  have c3b1 : ((l0.length : Int) != (l1.length : Int)) = false := bne_eq_false_iff_eq.mpr c3
  have c3b2 : (l0.length == l1.length) = true := by first | simpa using c3 | (simp at c3 ⊢; omega)
  clear c3
  have H' := zm H
  clear H
  go_enter Try.func36, Try.ntmps36
  go_wp2
  repeat (go_quiet (fail); try go_wp2)
  go_loopg [5] k (fun kq v5 w' => ∃ (x5_1 : Int), v5 = .int .i64 x5_1 ∧ Aside0 (laws_eqStringS.l0 kq l0 l1 x5_1 = some r) ∧ Aside0 (kq ≤ k) ∧ Drawn0 w w')
  case atStart => exact ⟨(0), zr, H', ⟨Nat.le_refl _⟩, by repeat (first | exact Drawn0.refl _ | apply Drawn0.step)⟩
  case round =>
   clear H'
   try clear c1
   try clear p2
   try clear c3
   try clear c3b0
   try clear c3b1
   try clear c3b2
   obtain ⟨x5_1, rfl, HA, HK1, ⟨m1, rfl⟩⟩ := hrel
   cases gk with
   | zero => exact absurd HA.out (by simp [laws_eqStringS.l0])
   | succ k1 =>
    have H := HA.out
    clear HA
    simp only [laws_eqStringS.l0] at H
    by_cases c4 : x5_1 < (l0.length : Int)
    ·rw [if_pos c4] at H
     have c4b0 : decide (x5_1 < (l0.length : Int)) = true := decide_eq_true c4
     clear c4
     by_cases c5 : 0 ≤ x5_1
     ·rw [if_pos c5] at H
      have c5b0 : decide (0 ≤ x5_1) = true := decide_eq_true c5
      clear c5
      by_cases c6 : x5_1 < (l1.length : Int)
      ·rw [if_pos c6] at H
       have c6b0 : decide (x5_1 < (l1.length : Int)) = true := decide_eq_true c6
       clear c6
       by_cases c7 : (rdOf ByteArray.empty l0 x5_1).toList = (rdOf ByteArray.empty l1 x5_1).toList
       ·rw [if_pos c7] at H
        have c7b0 : ((rdOf ByteArray.empty l0 x5_1).toList == (rdOf ByteArray.empty l1 x5_1).toList) = true := beq_iff_eq.mpr c7
        have c7b1 : ((rdOf ByteArray.empty l0 x5_1).toList != (rdOf ByteArray.empty l1 x5_1).toList) = false := bne_eq_false_iff_eq.mpr c7
        clear c7
        have H' := zm H
        clear H
        have p228 : 0 ≤ (x5_1 : Int) := of_decide_eq_true (by first | (with_reducible assumption) | assumption)
        have q228 : x5_1 < (l0.length : Int) := of_decide_eq_true (by first | (with_reducible assumption) | assumption)
        obtain ⟨ad228, e228, hx228_0⟩ := Kd.at_string HR0.out x5_1 p228 q228
        cases e228
        replace p228 := eq_true p228
        replace q228 := eq_true q228
        have p229 : 0 ≤ (x5_1 : Int) := of_decide_eq_true (by first | (with_reducible assumption) | assumption)
        have q229 : x5_1 < (l1.length : Int) := of_decide_eq_true (by first | (with_reducible assumption) | assumption)
        obtain ⟨ad229, e229, hx229_0⟩ := Kd.at_string HR1.out x5_1 p229 q229
        cases e229
        replace p229 := eq_true p229
        replace q229 := eq_true q229
        go_wp2
        repeat (go_quiet (fail); try go_wp2)
        go_roundg k1
        case measure => have := HK1.out; omega
        case rel => exact ⟨(wrap64 (x5_1 + 1)), zr, H', ⟨by have := HK1.out; omega⟩, by repeat (first | exact Drawn0.refl _ | apply Drawn0.step)⟩
       ·rw [if_neg c7] at H
        have c7b0 : ((rdOf ByteArray.empty l0 x5_1).toList == (rdOf ByteArray.empty l1 x5_1).toList) = false := beq_eq_false_iff_ne.mpr c7
        have c7b1 : ((rdOf ByteArray.empty l0 x5_1).toList != (rdOf ByteArray.empty l1 x5_1).toList) = true := bne_iff_ne.mpr c7
        obtain rfl := Option.some.inj H
        have p228 : 0 ≤ (x5_1 : Int) := of_decide_eq_true (by first | (with_reducible assumption) | assumption)
        have q228 : x5_1 < (l0.length : Int) := of_decide_eq_true (by first | (with_reducible assumption) | assumption)
        obtain ⟨ad228, e228, hx228_0⟩ := Kd.at_string HR0.out x5_1 p228 q228
        cases e228
        replace p228 := eq_true p228
        replace q228 := eq_true q228
        have p229 : 0 ≤ (x5_1 : Int) := of_decide_eq_true (by first | (with_reducible assumption) | assumption)
        have q229 : x5_1 < (l1.length : Int) := of_decide_eq_true (by first | (with_reducible assumption) | assumption)
        obtain ⟨ad229, e229, hx229_0⟩ := Kd.at_string HR1.out x5_1 p229 q229
        cases e229
        replace p229 := eq_true p229
        replace q229 := eq_true q229
        go_wp2
        repeat (go_quiet (fail); try go_wp2)
        go_ret
        exact ⟨zr, by repeat (first | exact Drawn0.refl _ | apply Drawn0.step)⟩
      ·rw [if_neg c6] at H
       exact absurd H (by simp)
     ·rw [if_neg c5] at H
      exact absurd H (by simp)
    ·rw [if_neg c4] at H
     have c4b0 : decide (x5_1 < (l0.length : Int)) = false := decide_eq_false c4
     clear c4
     obtain rfl := Option.some.inj H
     go_wp2
     repeat (go_quiet (fail); try go_wp2)
     go_ret
     exact ⟨zr, by repeat (first | exact Drawn0.refl _ | apply Drawn0.step)⟩
 ·rw [if_neg c3] at H
  have c3b0 : ((l0.length : Int) == (l1.length : Int)) = false := beq_eq_false_iff_ne.mpr c3
  have c3b1 : ((l0.length : Int) != (l1.length : Int)) = true := bne_iff_ne.mpr c3
  have c3b2 : (l0.length == l1.length) = false := by first | simpa using c3 | (simp at c3 ⊢; omega)
  obtain rfl := Option.some.inj H
  go_enter Try.func36, Try.ntmps36
  go_wp2
  repeat (go_quiet (fail); try go_wp2)
  go_ret
  exact ⟨zr, by repeat (first | exact Drawn0.refl _ | apply Drawn0.step)⟩
/-! ### laws_eqDisk: function 13 -/
def laws_eqDisk.f (k : Nat) (l0_0 : List ByteArray) (l0_1 : List (S76)) (l1_0 : List ByteArray) (l1_1 : List (S76)) : Option (Bool) := (laws_eqStringS.f k l0_0 l1_0).bind fun t237 => (if t237 = true then ((laws_eqIoS.f k l0_1 l1_1).bind fun t238 => (if t238 = true then (some true) else (some false))) else (some false))
theorem laws_eqDisk.mono : ∀ a0 a1 a2 a3 k, LeO (laws_eqDisk.f k a0 a1 a2 a3) (laws_eqDisk.f (k + 1) a0 a1 a2 a3) := by
  intro a0 a1 a2 a3 k
  unfold laws_eqDisk.f
  repeat' first
      | (with_reducible exact laws_eqIoS.mono _ _ _)
      | (with_reducible exact laws_eqStringS.mono _ _ _)
      | (with_reducible exact LeO.refl _)
      | (with_reducible exact LeO.none _)
      | (with_reducible refine LeO.ite ?_ ?_)
      | (with_reducible refine LeO.bind ?_ (fun _ => ?_))
      | exact laws_eqIoS.mono _ _ _
      | exact laws_eqStringS.mono _ _ _
      | exact LeO.none _
      | refine LeO.ite ?_ ?_
      | refine LeO.bind ?_ (fun _ => ?_)
set_option maxHeartbeats 8000000 in
set_option maxRecDepth 100000 in
theorem laws_eqDisk.calls (k : Nat) (A0_0 : Option Addr) (c0_0 : Nat) (l0_0 : List ByteArray) (A0_1 : Option Addr) (c0_1 : Nat) (l0_1 : List (S76)) (A1_0 : Option Addr) (c1_0 : Nat) (l1_0 : List ByteArray) (A1_1 : Option Addr) (c1_1 : Nat) (l1_1 : List (S76)) (r : Bool) (w : World) (hr0_0 : Kd.C Kd.string w A0_0 l0_0.length l0_0) (hc0_0 : l0_0.length ≤ c0_0) (hr0_1 : Kd.C k76 w A0_1 l0_1.length l0_1) (hc0_1 : l0_1.length ≤ c0_1) (hr1_0 : Kd.C Kd.string w A1_0 l1_0.length l1_0) (hc1_0 : l1_0.length ≤ c1_0) (hr1_1 : Kd.C k76 w A1_1 l1_1.length l1_1) (hc1_1 : l1_1.length ≤ c1_1) (h : laws_eqDisk.f k l0_0 l0_1 l1_0 l1_1 = some r) :
    Calls Try.prog 13 #[.agg #[.slice A0_0 l0_0.length c0_0, .slice A0_1 l0_1.length c0_1], .agg #[.slice A1_0 l1_0.length c1_0, .slice A1_1 l1_1.length c1_1]] w fun e w' => e = .returned (.bool r) ∧ Below w.heap.size w w' := by
 have hu29 := Try.underlying29
 have Zg := zm hr0_0
 have Zh := zm hc0_0
 clear hr0_0 hc0_0
 have Zk := zm hr0_1
 have Zl := zm hc0_1
 clear hr0_1 hc0_1
 have Zi := zm hr1_0
 have Zj := zm hc1_0
 clear hr1_0 hc1_0
 have Zm := zm hr1_1
 have Zn := zm hc1_1
 clear hr1_1 hc1_1
 have HB := zm (Below.refl w.heap.size w)
 have H : ((laws_eqStringS.f k l0_0 l1_0).bind fun t237 => (if t237 = true then ((laws_eqIoS.f k l0_1 l1_1).bind fun t238 => (if t238 = true then (some true) else (some false))) else (some false))) = some r := h
 clear h
 replace H := Option.bind_eq_some_iff.mp H
 obtain ⟨t237, A30, H⟩ := H
 replace H : (if t237 = true then ((laws_eqIoS.f k l0_1 l1_1).bind fun t238 => (if t238 = true then (some true) else (some false))) else (some false)) = some r := H
 have A3 := zm A30
 clear A30
 by_cases c4 : t237 = true
 ·subst c4
  have H1 : ((laws_eqIoS.f k l0_1 l1_1).bind fun t238 => (if t238 = true then (some true) else (some false))) = some r := by rw [if_pos rfl] at H; exact H
  clear H
  have H := H1
  clear H1
  replace H := Option.bind_eq_some_iff.mp H
  obtain ⟨t238, A50, H⟩ := H
  replace H : (if t238 = true then (some true) else (some false)) = some r := H
  have A5 := zm A50
  clear A50
  by_cases c6 : t238 = true
  ·subst c6
   have H1 : (some true) = some r := by rw [if_pos rfl] at H; exact H
   clear H
   have H := H1
   clear H1
   obtain rfl := Option.some.inj H
   go_enter Try.func13, Try.ntmps13
   go_wp2_with (first | ((with_reducible refine gate_dst (N := 2) rfl ?_); refine box_event ?hg (N := 2) ?hd (cs := #[.slice A0_0 l0_0.length c0_0, .slice A0_1 l0_1.length c0_1]) (t := 29) ?hr ?_; (case hd => rfl); (case hg => rfl); (case hr => first | (go_simp; done) | (go_simp; rfl)); intro gb235 hg w7 hbox hb; have n0_ := zm (below_step (zg_0 HB.out) hb); have n1_ := zm (hbox); have n2_ := zm ((by rw [hg]; exact (below_size (zg_0 HB.out)) : w.heap.size ≤ gb235)); have n3_ := zm ((by rw [hg]; exact (below_size (zg_0 HB.out)) : w.heap.size ≤ gb235)); clear HB; have HB := n0_; have Za := n1_; have Zo := n2_; have Zb := n3_; clear n0_ n1_ n2_ n3_; clear hb hbox hg) | ((with_reducible refine gate_dst (N := 3) rfl ?_); refine box_event ?hg (N := 3) ?hd (cs := #[.slice A1_0 l1_0.length c1_0, .slice A1_1 l1_1.length c1_1]) (t := 29) ?hr ?_; (case hd => rfl); (case hg => rfl); (case hr => first | (go_simp; done) | (go_simp; rfl)); intro gb236 hg w8 hbox hb; have n0_ := zm (blk_below (g := gb235) (o := .cells #[.slice A0_0 l0_0.length c0_0, .slice A0_1 l0_1.length c0_1] 29 (0, 0)) (zg_2 Za.out) hb); have n1_ := zm (below_step (zg_1 HB.out Zb.out) hb); have n2_ := zm (hbox); have n3_ := zm ((by rw [hg]; exact (below_size (zg_1 HB.out Zb.out)) : w.heap.size ≤ gb236)); have n4_ := zm ((by rw [hg]; exact (below_size (zg_1 HB.out Zb.out)) : w.heap.size ≤ gb236)); have n5_ := zm ((by rw [hg]; exact Nat.ne_of_lt (blk_lt (g := gb235) (o := .cells #[.slice A0_0 l0_0.length c0_0, .slice A0_1 l0_1.length c0_1] 29 (0, 0)) (zg_2 Za.out)) : gb235 ≠ gb236)); have n6_ := zm ((by rw [hg]; exact Nat.ne_of_gt (blk_lt (g := gb235) (o := .cells #[.slice A0_0 l0_0.length c0_0, .slice A0_1 l0_1.length c0_1] 29 (0, 0)) (zg_2 Za.out)) : gb236 ≠ gb235)); clear Za; clear HB; have Za := n0_; have HB := n1_; have Zc := n2_; have Zp := n3_; have Zf := n4_; have Zd := n5_; have Ze := n6_; clear n0_ n1_ n2_ n3_ n4_ n5_ n6_; clear hb hbox hg; have hnb9 := Zd.out; have hnc9 := Ze.out; have hcz10_0 : w8.cell? ⟨gb235, 0, none⟩ = some (.slice A0_0 l0_0.length c0_0) := (blk_cell Za.out 0).trans rfl; have hcz10_1 : w8.cell? ⟨gb235, 1, none⟩ = some (.slice A0_1 l0_1.length c0_1) := (blk_cell Za.out 1).trans rfl; have hfz10_0 := blk_frozen Za.out 0; have hfz10_1 := blk_frozen Za.out 1; have hcz11_0 : w8.cell? ⟨gb236, 0, none⟩ = some (.slice A1_0 l1_0.length c1_0) := (blk_cell Zc.out 0).trans rfl; have hcz11_1 : w8.cell? ⟨gb236, 1, none⟩ = some (.slice A1_1 l1_1.length c1_1) := (blk_cell Zc.out 1).trans rfl; have hfz11_0 := blk_frozen Zc.out 0; have hfz11_1 := blk_frozen Zc.out 1) | ((with_reducible refine gate_callee (f := 36) rfl ?_); refine goesL_ (some 9) rfl rfl Try.func36 (by kernel_rfl) rfl #[.slice A0_0 l0_0.length c0_0, .slice A1_0 l1_0.length c1_0] rfl zq ?_; (with_reducible refine (laws_eqStringS.calls k _ _ l0_0 _ _ l1_0 true _ ?side1 ?side2 ?side3 ?side4 A3.out).mono ?_); (case side1 => repeat (first | exact (Kd.C_below Zg.out HB.out) | (with_reducible refine Kd.C_alloc ?_ _) | (with_reducible refine Kd.C_drewN ?_ _) | (with_reducible refine Kd.C_drew ?_))); (case side2 => exact Zh.out); (case side3 => repeat (first | exact (Kd.C_below Zi.out HB.out) | (with_reducible refine Kd.C_alloc ?_ _) | (with_reducible refine Kd.C_drewN ?_ _) | (with_reducible refine Kd.C_drew ?_))); (case side4 => exact Zj.out); rintro e w' ⟨rfl, ⟨nd, rfl⟩⟩; refine ⟨_, rfl, ?_⟩) | ((with_reducible refine gate_callee (f := 37) rfl ?_); refine goesL_ (some 15) rfl rfl Try.func37 (by kernel_rfl) rfl #[.slice A0_1 l0_1.length c0_1, .slice A1_1 l1_1.length c1_1] rfl zq ?_; (with_reducible refine (laws_eqIoS.calls k _ _ l0_1 _ _ l1_1 true _ ?side1 ?side2 ?side3 ?side4 A5.out).mono ?_); (case side1 => repeat (first | exact (Kd.C_below Zk.out (zg_4 HB.out Zb.out Zf.out)) | (with_reducible refine Kd.C_alloc ?_ _) | (with_reducible refine Kd.C_drewN ?_ _) | (with_reducible refine Kd.C_drew ?_))); (case side2 => exact Zl.out); (case side3 => repeat (first | exact (Kd.C_below Zm.out (zg_4 HB.out Zb.out Zf.out)) | (with_reducible refine Kd.C_alloc ?_ _) | (with_reducible refine Kd.C_drewN ?_ _) | (with_reducible refine Kd.C_drew ?_))); (case side4 => exact Zn.out); rintro e w12 ⟨rfl, hb⟩; refine ⟨_, rfl, ?_⟩; have n0_ := zm (blk_below (g := gb235) (o := .cells #[.slice A0_0 l0_0.length c0_0, .slice A0_1 l0_1.length c0_1] 29 (0, 0)) (zg_2 Za.out) hb); have n1_ := zm (blk_below (g := gb236) (o := .cells #[.slice A1_0 l1_0.length c1_0, .slice A1_1 l1_1.length c1_1] 29 (0, 0)) (zg_2 Zc.out) hb); have n2_ := zm (below_step (zg_4 HB.out Zb.out Zf.out) hb); clear Za; clear Zc; clear HB; have Za := n0_; have Zc := n1_; have HB := n2_; clear n0_ n1_ n2_; (try clear hb); (try clear hb2); (try clear hk); (try clear hi)))
   go_ret
   exact ⟨by first | rfl | (simp [errW_none, errW_some] <;> rfl) | (simp [*, errW_none, errW_some] <;> rfl), zg_4 HB.out Zb.out Zf.out⟩
  ·replace c6 := Bool.eq_false_iff.mpr c6
   subst c6
   have H1 : (some false) = some r := by rw [if_neg (show ¬ (false = true) by decide)] at H; exact H
   clear H
   have H := H1
   clear H1
   obtain rfl := Option.some.inj H
   go_enter Try.func13, Try.ntmps13
   go_wp2_with (first | ((with_reducible refine gate_dst (N := 2) rfl ?_); refine box_event ?hg (N := 2) ?hd (cs := #[.slice A0_0 l0_0.length c0_0, .slice A0_1 l0_1.length c0_1]) (t := 29) ?hr ?_; (case hd => rfl); (case hg => rfl); (case hr => first | (go_simp; done) | (go_simp; rfl)); intro gb235 hg w13 hbox hb; have n0_ := zm (below_step (zg_0 HB.out) hb); have n1_ := zm (hbox); have n2_ := zm ((by rw [hg]; exact (below_size (zg_0 HB.out)) : w.heap.size ≤ gb235)); have n3_ := zm ((by rw [hg]; exact (below_size (zg_0 HB.out)) : w.heap.size ≤ gb235)); clear HB; have HB := n0_; have Za := n1_; have Zo := n2_; have Zb := n3_; clear n0_ n1_ n2_ n3_; clear hb hbox hg) | ((with_reducible refine gate_dst (N := 3) rfl ?_); refine box_event ?hg (N := 3) ?hd (cs := #[.slice A1_0 l1_0.length c1_0, .slice A1_1 l1_1.length c1_1]) (t := 29) ?hr ?_; (case hd => rfl); (case hg => rfl); (case hr => first | (go_simp; done) | (go_simp; rfl)); intro gb236 hg w14 hbox hb; have n0_ := zm (blk_below (g := gb235) (o := .cells #[.slice A0_0 l0_0.length c0_0, .slice A0_1 l0_1.length c0_1] 29 (0, 0)) (zg_2 Za.out) hb); have n1_ := zm (below_step (zg_1 HB.out Zb.out) hb); have n2_ := zm (hbox); have n3_ := zm ((by rw [hg]; exact (below_size (zg_1 HB.out Zb.out)) : w.heap.size ≤ gb236)); have n4_ := zm ((by rw [hg]; exact (below_size (zg_1 HB.out Zb.out)) : w.heap.size ≤ gb236)); have n5_ := zm ((by rw [hg]; exact Nat.ne_of_lt (blk_lt (g := gb235) (o := .cells #[.slice A0_0 l0_0.length c0_0, .slice A0_1 l0_1.length c0_1] 29 (0, 0)) (zg_2 Za.out)) : gb235 ≠ gb236)); have n6_ := zm ((by rw [hg]; exact Nat.ne_of_gt (blk_lt (g := gb235) (o := .cells #[.slice A0_0 l0_0.length c0_0, .slice A0_1 l0_1.length c0_1] 29 (0, 0)) (zg_2 Za.out)) : gb236 ≠ gb235)); clear Za; clear HB; have Za := n0_; have HB := n1_; have Zc := n2_; have Zp := n3_; have Zf := n4_; have Zd := n5_; have Ze := n6_; clear n0_ n1_ n2_ n3_ n4_ n5_ n6_; clear hb hbox hg; have hnb15 := Zd.out; have hnc15 := Ze.out; have hcz16_0 : w14.cell? ⟨gb235, 0, none⟩ = some (.slice A0_0 l0_0.length c0_0) := (blk_cell Za.out 0).trans rfl; have hcz16_1 : w14.cell? ⟨gb235, 1, none⟩ = some (.slice A0_1 l0_1.length c0_1) := (blk_cell Za.out 1).trans rfl; have hfz16_0 := blk_frozen Za.out 0; have hfz16_1 := blk_frozen Za.out 1; have hcz17_0 : w14.cell? ⟨gb236, 0, none⟩ = some (.slice A1_0 l1_0.length c1_0) := (blk_cell Zc.out 0).trans rfl; have hcz17_1 : w14.cell? ⟨gb236, 1, none⟩ = some (.slice A1_1 l1_1.length c1_1) := (blk_cell Zc.out 1).trans rfl; have hfz17_0 := blk_frozen Zc.out 0; have hfz17_1 := blk_frozen Zc.out 1) | ((with_reducible refine gate_callee (f := 36) rfl ?_); refine goesL_ (some 9) rfl rfl Try.func36 (by kernel_rfl) rfl #[.slice A0_0 l0_0.length c0_0, .slice A1_0 l1_0.length c1_0] rfl zq ?_; (with_reducible refine (laws_eqStringS.calls k _ _ l0_0 _ _ l1_0 true _ ?side1 ?side2 ?side3 ?side4 A3.out).mono ?_); (case side1 => repeat (first | exact (Kd.C_below Zg.out HB.out) | (with_reducible refine Kd.C_alloc ?_ _) | (with_reducible refine Kd.C_drewN ?_ _) | (with_reducible refine Kd.C_drew ?_))); (case side2 => exact Zh.out); (case side3 => repeat (first | exact (Kd.C_below Zi.out HB.out) | (with_reducible refine Kd.C_alloc ?_ _) | (with_reducible refine Kd.C_drewN ?_ _) | (with_reducible refine Kd.C_drew ?_))); (case side4 => exact Zj.out); rintro e w' ⟨rfl, ⟨nd, rfl⟩⟩; refine ⟨_, rfl, ?_⟩) | ((with_reducible refine gate_callee (f := 37) rfl ?_); refine goesL_ (some 15) rfl rfl Try.func37 (by kernel_rfl) rfl #[.slice A0_1 l0_1.length c0_1, .slice A1_1 l1_1.length c1_1] rfl zq ?_; (with_reducible refine (laws_eqIoS.calls k _ _ l0_1 _ _ l1_1 false _ ?side1 ?side2 ?side3 ?side4 A5.out).mono ?_); (case side1 => repeat (first | exact (Kd.C_below Zk.out (zg_4 HB.out Zb.out Zf.out)) | (with_reducible refine Kd.C_alloc ?_ _) | (with_reducible refine Kd.C_drewN ?_ _) | (with_reducible refine Kd.C_drew ?_))); (case side2 => exact Zl.out); (case side3 => repeat (first | exact (Kd.C_below Zm.out (zg_4 HB.out Zb.out Zf.out)) | (with_reducible refine Kd.C_alloc ?_ _) | (with_reducible refine Kd.C_drewN ?_ _) | (with_reducible refine Kd.C_drew ?_))); (case side4 => exact Zn.out); rintro e w18 ⟨rfl, hb⟩; refine ⟨_, rfl, ?_⟩; have n0_ := zm (blk_below (g := gb235) (o := .cells #[.slice A0_0 l0_0.length c0_0, .slice A0_1 l0_1.length c0_1] 29 (0, 0)) (zg_2 Za.out) hb); have n1_ := zm (blk_below (g := gb236) (o := .cells #[.slice A1_0 l1_0.length c1_0, .slice A1_1 l1_1.length c1_1] 29 (0, 0)) (zg_2 Zc.out) hb); have n2_ := zm (below_step (zg_4 HB.out Zb.out Zf.out) hb); clear Za; clear Zc; clear HB; have Za := n0_; have Zc := n1_; have HB := n2_; clear n0_ n1_ n2_; (try clear hb); (try clear hb2); (try clear hk); (try clear hi)))
   go_ret
   exact ⟨by first | rfl | (simp [errW_none, errW_some] <;> rfl) | (simp [*, errW_none, errW_some] <;> rfl), zg_4 HB.out Zb.out Zf.out⟩
 ·replace c4 := Bool.eq_false_iff.mpr c4
  subst c4
  have H1 : (some false) = some r := by rw [if_neg (show ¬ (false = true) by decide)] at H; exact H
  clear H
  have H := H1
  clear H1
  obtain rfl := Option.some.inj H
  go_enter Try.func13, Try.ntmps13
  go_wp2_with (first | ((with_reducible refine gate_dst (N := 2) rfl ?_); refine box_event ?hg (N := 2) ?hd (cs := #[.slice A0_0 l0_0.length c0_0, .slice A0_1 l0_1.length c0_1]) (t := 29) ?hr ?_; (case hd => rfl); (case hg => rfl); (case hr => first | (go_simp; done) | (go_simp; rfl)); intro gb235 hg w19 hbox hb; have n0_ := zm (below_step (zg_0 HB.out) hb); have n1_ := zm (hbox); have n2_ := zm ((by rw [hg]; exact (below_size (zg_0 HB.out)) : w.heap.size ≤ gb235)); have n3_ := zm ((by rw [hg]; exact (below_size (zg_0 HB.out)) : w.heap.size ≤ gb235)); clear HB; have HB := n0_; have Za := n1_; have Zo := n2_; have Zb := n3_; clear n0_ n1_ n2_ n3_; clear hb hbox hg) | ((with_reducible refine gate_dst (N := 3) rfl ?_); refine box_event ?hg (N := 3) ?hd (cs := #[.slice A1_0 l1_0.length c1_0, .slice A1_1 l1_1.length c1_1]) (t := 29) ?hr ?_; (case hd => rfl); (case hg => rfl); (case hr => first | (go_simp; done) | (go_simp; rfl)); intro gb236 hg w20 hbox hb; have n0_ := zm (blk_below (g := gb235) (o := .cells #[.slice A0_0 l0_0.length c0_0, .slice A0_1 l0_1.length c0_1] 29 (0, 0)) (zg_2 Za.out) hb); have n1_ := zm (below_step (zg_1 HB.out Zb.out) hb); have n2_ := zm (hbox); have n3_ := zm ((by rw [hg]; exact (below_size (zg_1 HB.out Zb.out)) : w.heap.size ≤ gb236)); have n4_ := zm ((by rw [hg]; exact (below_size (zg_1 HB.out Zb.out)) : w.heap.size ≤ gb236)); have n5_ := zm ((by rw [hg]; exact Nat.ne_of_lt (blk_lt (g := gb235) (o := .cells #[.slice A0_0 l0_0.length c0_0, .slice A0_1 l0_1.length c0_1] 29 (0, 0)) (zg_2 Za.out)) : gb235 ≠ gb236)); have n6_ := zm ((by rw [hg]; exact Nat.ne_of_gt (blk_lt (g := gb235) (o := .cells #[.slice A0_0 l0_0.length c0_0, .slice A0_1 l0_1.length c0_1] 29 (0, 0)) (zg_2 Za.out)) : gb236 ≠ gb235)); clear Za; clear HB; have Za := n0_; have HB := n1_; have Zc := n2_; have Zp := n3_; have Zf := n4_; have Zd := n5_; have Ze := n6_; clear n0_ n1_ n2_ n3_ n4_ n5_ n6_; clear hb hbox hg; have hnb21 := Zd.out; have hnc21 := Ze.out; have hcz22_0 : w20.cell? ⟨gb235, 0, none⟩ = some (.slice A0_0 l0_0.length c0_0) := (blk_cell Za.out 0).trans rfl; have hcz22_1 : w20.cell? ⟨gb235, 1, none⟩ = some (.slice A0_1 l0_1.length c0_1) := (blk_cell Za.out 1).trans rfl; have hfz22_0 := blk_frozen Za.out 0; have hfz22_1 := blk_frozen Za.out 1; have hcz23_0 : w20.cell? ⟨gb236, 0, none⟩ = some (.slice A1_0 l1_0.length c1_0) := (blk_cell Zc.out 0).trans rfl; have hcz23_1 : w20.cell? ⟨gb236, 1, none⟩ = some (.slice A1_1 l1_1.length c1_1) := (blk_cell Zc.out 1).trans rfl; have hfz23_0 := blk_frozen Zc.out 0; have hfz23_1 := blk_frozen Zc.out 1) | ((with_reducible refine gate_callee (f := 36) rfl ?_); refine goesL_ (some 9) rfl rfl Try.func36 (by kernel_rfl) rfl #[.slice A0_0 l0_0.length c0_0, .slice A1_0 l1_0.length c1_0] rfl zq ?_; (with_reducible refine (laws_eqStringS.calls k _ _ l0_0 _ _ l1_0 false _ ?side1 ?side2 ?side3 ?side4 A3.out).mono ?_); (case side1 => repeat (first | exact (Kd.C_below Zg.out HB.out) | (with_reducible refine Kd.C_alloc ?_ _) | (with_reducible refine Kd.C_drewN ?_ _) | (with_reducible refine Kd.C_drew ?_))); (case side2 => exact Zh.out); (case side3 => repeat (first | exact (Kd.C_below Zi.out HB.out) | (with_reducible refine Kd.C_alloc ?_ _) | (with_reducible refine Kd.C_drewN ?_ _) | (with_reducible refine Kd.C_drew ?_))); (case side4 => exact Zj.out); rintro e w' ⟨rfl, ⟨nd, rfl⟩⟩; refine ⟨_, rfl, ?_⟩))
  go_ret
  exact ⟨by first | rfl | (simp [errW_none, errW_some] <;> rfl) | (simp [*, errW_none, errW_some] <;> rfl), zg_4 HB.out Zb.out Zf.out⟩
/-! ### laws_szIo: function 57 -/
def laws_szIo.f (a0_0 : Int) (a0_1 : Int) (a0_2 : ByteArray) (a1 : Int) : Option (Int) := if (wrap64 (a1 - (a0_2.size : Int))) < 0 then (some (-1)) else (some (wrap64 (a1 - (a0_2.size : Int))))
set_option maxHeartbeats 8000000 in
set_option maxRecDepth 100000 in
theorem laws_szIo.calls (a0_0 : Int) (a0_1 : Int) (a0_2 : ByteArray) (a1 : Int) (r : Int) (w : World) (h : laws_szIo.f a0_0 a0_1 a0_2 a1 = some r) :
    Calls Try.prog 57 #[.agg #[.int .i64 a0_0, .int .i64 a0_1, .string a0_2], .int .i64 a1] w fun e w' => e = .returned (.int .i64 r) ∧ Below w.heap.size w w' := by
 have hu75 := Try.underlying75
 have HB := zm (Below.refl w.heap.size w)
 have H : (if (wrap64 (a1 - (a0_2.size : Int))) < 0 then (some (-1)) else (some (wrap64 (a1 - (a0_2.size : Int))))) = some r := h
 clear h
 by_cases c3 : (wrap64 (a1 - (a0_2.size : Int))) < 0
 ·rw [if_pos c3] at H
  have c3b0 : decide ((wrap64 (a1 - (a0_2.size : Int))) < 0) = true := decide_eq_true c3
  clear c3
  obtain rfl := Option.some.inj H
  go_enter Try.func57, Try.ntmps57
  go_wp2_with (first | ((with_reducible refine gate_dst (N := 2) rfl ?_); refine box_event ?hg (N := 2) ?hd (cs := #[.int .i64 a0_0, .int .i64 a0_1, .string a0_2]) (t := 75) ?hr ?_; (case hd => rfl); (case hg => rfl); (case hr => first | (go_simp; done) | (go_simp; rfl)); intro gb108 hg w4 hbox hb; have n0_ := zm (below_step (zg_0 HB.out) hb); have n1_ := zm (hbox); have n2_ := zm ((by rw [hg]; exact (below_size (zg_0 HB.out)) : w.heap.size ≤ gb108)); have n3_ := zm ((by rw [hg]; exact (below_size (zg_0 HB.out)) : w.heap.size ≤ gb108)); clear HB; have HB := n0_; have BK108 := n1_; have GW108 := n2_; have GE108 := n3_; clear n0_ n1_ n2_ n3_; clear hb hbox hg; have hcz5_0 : w4.cell? ⟨gb108, 0, none⟩ = some (.int .i64 a0_0) := (blk_cell BK108.out 0).trans rfl; have hcz5_1 : w4.cell? ⟨gb108, 1, none⟩ = some (.int .i64 a0_1) := (blk_cell BK108.out 1).trans rfl; have hcz5_2 : w4.cell? ⟨gb108, 2, none⟩ = some (.string a0_2) := (blk_cell BK108.out 2).trans rfl; have hfz5_0 := blk_frozen BK108.out 0; have hfz5_1 := blk_frozen BK108.out 1; have hfz5_2 := blk_frozen BK108.out 2))
  go_ret
  exact ⟨by first | rfl | (simp [errW_none, errW_some] <;> rfl) | (simp [*, errW_none, errW_some] <;> rfl), zg_1 HB.out GE108.out⟩
 ·rw [if_neg c3] at H
  have c3b0 : decide ((wrap64 (a1 - (a0_2.size : Int))) < 0) = false := decide_eq_false c3
  clear c3
  obtain rfl := Option.some.inj H
  go_enter Try.func57, Try.ntmps57
  go_wp2_with (first | ((with_reducible refine gate_dst (N := 2) rfl ?_); refine box_event ?hg (N := 2) ?hd (cs := #[.int .i64 a0_0, .int .i64 a0_1, .string a0_2]) (t := 75) ?hr ?_; (case hd => rfl); (case hg => rfl); (case hr => first | (go_simp; done) | (go_simp; rfl)); intro gb108 hg w6 hbox hb; have n0_ := zm (below_step (zg_0 HB.out) hb); have n1_ := zm (hbox); have n2_ := zm ((by rw [hg]; exact (below_size (zg_0 HB.out)) : w.heap.size ≤ gb108)); have n3_ := zm ((by rw [hg]; exact (below_size (zg_0 HB.out)) : w.heap.size ≤ gb108)); clear HB; have HB := n0_; have BK108 := n1_; have GW108 := n2_; have GE108 := n3_; clear n0_ n1_ n2_ n3_; clear hb hbox hg; have hcz7_0 : w6.cell? ⟨gb108, 0, none⟩ = some (.int .i64 a0_0) := (blk_cell BK108.out 0).trans rfl; have hcz7_1 : w6.cell? ⟨gb108, 1, none⟩ = some (.int .i64 a0_1) := (blk_cell BK108.out 1).trans rfl; have hcz7_2 : w6.cell? ⟨gb108, 2, none⟩ = some (.string a0_2) := (blk_cell BK108.out 2).trans rfl; have hfz7_0 := blk_frozen BK108.out 0; have hfz7_1 := blk_frozen BK108.out 1; have hfz7_2 := blk_frozen BK108.out 2))
  go_ret
  exact ⟨by first | rfl | (simp [errW_none, errW_some] <;> rfl) | (simp [*, errW_none, errW_some] <;> rfl), zg_1 HB.out GE108.out⟩
end Go.Proofs.Ytadelojhfepkeaa.Q
