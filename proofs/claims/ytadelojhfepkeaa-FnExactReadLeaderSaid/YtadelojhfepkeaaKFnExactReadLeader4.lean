/- What laws.FnExactReadLeader reaches, part 4: the functions as Lean functions, the proofs that the program's functions answer so, and plain laws about them. -/
import Derived.Test.YtadelojhfepkeaaKFnExactReadLeader1
import Derived.Test.YtadelojhfepkeaaKFnExactReadLeader3
namespace Go.Proofs.Ytadelojhfepkeaa.Q
open Go.RowKit Go.Proofs.Ytadelojhfepkeaa.Ext Go.Proofs.YtadelojhfepkeaaW.PrintWords Go.Proofs.YtadelojhfepkeaaW.PrintLast Go.Proofs.YtadelojhfepkeaaW.PrintMore
attribute [local go_sem] max2_int min2_int max_two min_two max_three min_three max_four min_four   -- for this text's walks alone
set_option linter.unusedVariables false
set_option linter.unusedSimpArgs false

set_option linter.unusedVariables false
set_option linter.unusedSimpArgs false
/-! ### impl_Disk_leader: function 53 -/
def impl_Disk_leader.f (k : Nat) (l0_0 : List ByteArray) (l0_1 : List (S76)) (a1 : Int) : Option (Int × Int × Int) := (impl_Disk_read.f l0_0 l0_1 a1 0).bind fun t655 => ((impl_leaderOf.f k t655).bind fun bt656 => (if bt656.2.2.2 = true then (some (bt656.1, bt656.2.1, bt656.2.2.1)) else ((impl_nobody.f 0).bind fun bt661 => (some (bt661.1, bt661.2.1, bt661.2.2)))))
theorem impl_Disk_leader.mono : ∀ a0 a1 a2 k, LeO (impl_Disk_leader.f k a0 a1 a2) (impl_Disk_leader.f (k + 1) a0 a1 a2) := by
  intro a0 a1 a2 k
  unfold impl_Disk_leader.f
  repeat' first
      | (with_reducible exact impl_leaderOf.mono _ _)
      | (with_reducible exact LeO.refl _)
      | (with_reducible exact LeO.none _)
      | (with_reducible refine LeO.ite ?_ ?_)
      | (with_reducible refine LeO.bind ?_ (fun _ => ?_))
      | exact impl_leaderOf.mono _ _
      | exact LeO.none _
      | refine LeO.ite ?_ ?_
      | refine LeO.bind ?_ (fun _ => ?_)
set_option maxHeartbeats 8000000 in
set_option maxRecDepth 100000 in
theorem impl_Disk_leader.calls (k : Nat) (A0_0 : Option Addr) (c0_0 : Nat) (l0_0 : List ByteArray) (A0_1 : Option Addr) (c0_1 : Nat) (l0_1 : List (S76)) (a1 : Int) (r1 : Int) (r2 : Int) (r3 : Int) (w : World) (hr0_0 : Kd.C Kd.string w A0_0 l0_0.length l0_0) (hc0_0 : l0_0.length ≤ c0_0) (hr0_1 : Kd.C k76 w A0_1 l0_1.length l0_1) (hc0_1 : l0_1.length ≤ c0_1) (h : impl_Disk_leader.f k l0_0 l0_1 a1 = some (r1, r2, r3)) :
    Calls Try.prog 53 #[.agg #[.slice A0_0 l0_0.length c0_0, .slice A0_1 l0_1.length c0_1], .int .i64 a1] w fun e w' => e = .returned (.agg #[.int .i64 r1, .int .i64 r2, .int .i64 r3]) ∧ Below w.heap.size w w' := by
 have hu29 := Try.underlying29
 have hu41 := Try.underlying41
 have Zm := zm hr0_0
 have Zn := zm hc0_0
 clear hr0_0 hc0_0
 have Zo := zm hr0_1
 have Zp := zm hc0_1
 clear hr0_1 hc0_1
 have HB := zm (Below.refl w.heap.size w)
 have H : ((impl_Disk_read.f l0_0 l0_1 a1 0).bind fun t655 => ((impl_leaderOf.f k t655).bind fun bt656 => (if bt656.2.2.2 = true then (some (bt656.1, bt656.2.1, bt656.2.2.1)) else ((impl_nobody.f 0).bind fun bt661 => (some (bt661.1, bt661.2.1, bt661.2.2)))))) = some (r1, r2, r3) := h
 clear h
 replace H := Option.bind_eq_some_iff.mp H
 obtain ⟨t655, A30, H⟩ := H
 replace H : ((impl_leaderOf.f k t655).bind fun bt656 => (if bt656.2.2.2 = true then (some (bt656.1, bt656.2.1, bt656.2.2.1)) else ((impl_nobody.f 0).bind fun bt661 => (some (bt661.1, bt661.2.1, bt661.2.2))))) = some (r1, r2, r3) := H
 have A3 := zm A30
 clear A30
 replace H := Option.bind_eq_some_iff.mp H
 obtain ⟨⟨t656, t657, t658, t659⟩, A40, H⟩ := H
 replace H : (if t659 = true then (some (t656, t657, t658)) else ((impl_nobody.f 0).bind fun bt661 => (some (bt661.1, bt661.2.1, bt661.2.2)))) = some (r1, r2, r3) := H
 have A4 := zm A40
 clear A40
 by_cases c5 : t659 = true
 ·subst c5
  have H1 : (some (t656, t657, t658)) = some (r1, r2, r3) := by rw [if_pos rfl] at H; exact H
  clear H
  have H := H1
  clear H1
  simp only [Option.some.injEq, Prod.mk.injEq] at H
  obtain ⟨rfl, rfl, rfl⟩ := H
  go_enter Try.func53, Try.ntmps53
  go_wp2_with (first | ((with_reducible refine gate_dst (N := 2) rfl ?_); refine box_event ?hg (N := 2) ?hd (cs := #[.slice A0_0 l0_0.length c0_0, .slice A0_1 l0_1.length c0_1]) (t := 29) ?hr ?_; (case hd => rfl); (case hg => rfl); (case hr => first | (go_simp; done) | (go_simp; rfl)); intro gb653 hg w6 hbox hb; have n0_ := zm (below_step (zg_0 HB.out) hb); have n1_ := zm (hbox); have n2_ := zm ((by rw [hg]; exact (below_size (zg_0 HB.out)) : w.heap.size ≤ gb653)); have n3_ := zm ((by rw [hg]; exact (below_size (zg_0 HB.out)) : w.heap.size ≤ gb653)); clear HB; have HB := n0_; have Za := n1_; have Zq := n2_; have Zd := n3_; clear n0_ n1_ n2_ n3_; clear hb hbox hg) | ((with_reducible refine gate_dst (N := 4) rfl ?_); refine box_event ?hg (N := 4) ?hd (cs := #[.int .i64 0, .int .i64 0, .int .i64 0]) (t := 41) ?hr ?_; (case hd => rfl); (case hg => rfl); (case hr => first | (go_simp; done) | (go_simp; rfl)); intro gb654 hg w7 hbox hb; have n0_ := zm (blk_below (g := gb653) (o := .cells #[.slice A0_0 l0_0.length c0_0, .slice A0_1 l0_1.length c0_1] 29 (0, 0)) (zg_2 Za.out) hb); have n1_ := zm (below_step (zg_1 HB.out Zd.out) hb); have n2_ := zm (hbox); have n3_ := zm ((by rw [hg]; exact (below_size (zg_1 HB.out Zd.out)) : w.heap.size ≤ gb654)); have n4_ := zm ((by rw [hg]; exact (below_size (zg_1 HB.out Zd.out)) : w.heap.size ≤ gb654)); have n5_ := zm ((by rw [hg]; exact Nat.ne_of_lt (blk_lt (g := gb653) (o := .cells #[.slice A0_0 l0_0.length c0_0, .slice A0_1 l0_1.length c0_1] 29 (0, 0)) (zg_2 Za.out)) : gb653 ≠ gb654)); have n6_ := zm ((by rw [hg]; exact Nat.ne_of_gt (blk_lt (g := gb653) (o := .cells #[.slice A0_0 l0_0.length c0_0, .slice A0_1 l0_1.length c0_1] 29 (0, 0)) (zg_2 Za.out)) : gb654 ≠ gb653)); clear Za; clear HB; have Za := n0_; have HB := n1_; have Zb := n2_; have Zr := n3_; have Zg := n4_; have Zh := n5_; have Zi := n6_; clear n0_ n1_ n2_ n3_ n4_ n5_ n6_; clear hb hbox hg; have hnb8 := Zh.out; have hnc8 := Zi.out; have hcz9_0 : w7.cell? ⟨gb653, 0, none⟩ = some (.slice A0_0 l0_0.length c0_0) := (blk_cell Za.out 0).trans rfl; have hcz9_1 : w7.cell? ⟨gb653, 1, none⟩ = some (.slice A0_1 l0_1.length c0_1) := (blk_cell Za.out 1).trans rfl; have hfz9_0 := blk_frozen Za.out 0; have hfz9_1 := blk_frozen Za.out 1) | ((with_reducible refine gate_callee (f := 75) rfl ?_); refine goesL_ (some 10) rfl rfl Try.func75 (by kernel_rfl) rfl #[.agg #[.slice A0_0 l0_0.length c0_0, .slice A0_1 l0_1.length c0_1], .int .i64 a1, .int .i64 0] rfl zq ?_; (with_reducible refine (impl_Disk_read.calls _ _ l0_0 _ _ l0_1 a1 0 t655 _ ?side1 ?side2 ?side3 ?side4 A3.out).mono ?_); (case side1 => repeat (first | exact (Kd.C_below Zm.out HB.out) | (with_reducible refine Kd.C_alloc ?_ _) | (with_reducible refine Kd.C_drewN ?_ _) | (with_reducible refine Kd.C_drew ?_))); (case side2 => exact Zn.out); (case side3 => repeat (first | exact (Kd.C_below Zo.out HB.out) | (with_reducible refine Kd.C_alloc ?_ _) | (with_reducible refine Kd.C_drewN ?_ _) | (with_reducible refine Kd.C_drew ?_))); (case side4 => exact Zp.out); rintro e w10 ⟨rfl, hb⟩; refine ⟨_, rfl, ?_⟩; have n0_ := zm (blk_below (g := gb653) (o := .cells #[.slice A0_0 l0_0.length c0_0, .slice A0_1 l0_1.length c0_1] 29 (0, 0)) (zg_2 Za.out) hb); have n1_ := zm (blk_below (g := gb654) (o := .cells #[.int .i64 0, .int .i64 0, .int .i64 0] 41 (0, 0)) (zg_2 Zb.out) hb); have n2_ := zm (below_step (zg_4 HB.out Zd.out Zg.out) hb); clear Za; clear Zb; clear HB; have Za := n0_; have Zb := n1_; have HB := n2_; clear n0_ n1_ n2_; (try clear hb); (try clear hb2); (try clear hk); (try clear hi)) | ((with_reducible refine gate_callee (f := 74) rfl ?_); refine goesL_ (some 11) rfl rfl Try.func74 (by kernel_rfl) rfl #[.string t655] rfl zq ?_; (with_reducible refine (impl_leaderOf.calls k t655 t656 t657 t658 true _ A4.out).mono ?_); rintro e w11 ⟨rfl, hb⟩; refine ⟨_, rfl, ?_⟩; have n0_ := zm (blk_below (g := gb653) (o := .cells #[.slice A0_0 l0_0.length c0_0, .slice A0_1 l0_1.length c0_1] 29 (0, 0)) (zg_2 Za.out) hb); have n1_ := zm (blk_below (g := gb654) (o := .cells #[.int .i64 0, .int .i64 0, .int .i64 0] 41 (0, 0)) (zg_2 Zb.out) hb); have n2_ := zm (below_step (zg_4 HB.out Zd.out Zg.out) hb); clear Za; clear Zb; clear HB; have Za := n0_; have Zb := n1_; have HB := n2_; clear n0_ n1_ n2_; (try clear hb); (try clear hb2); (try clear hk); (try clear hi)) | ((with_reducible refine gate_dst (N := 5) rfl ?_); refine box_event ?hg (N := 5) ?hd (cs := #[.int .i64 0, .int .i64 0, .int .i64 0]) (t := 41) ?hr ?_; (case hd => rfl); (case hg => rfl); (case hr => first | (go_simp; done) | (go_simp; rfl)); intro gb660 hg w12 hbox hb; have n0_ := zm (blk_below (g := gb653) (o := .cells #[.slice A0_0 l0_0.length c0_0, .slice A0_1 l0_1.length c0_1] 29 (0, 0)) (zg_2 Za.out) hb); have n1_ := zm (blk_below (g := gb654) (o := .cells #[.int .i64 0, .int .i64 0, .int .i64 0] 41 (0, 0)) (zg_2 Zb.out) hb); have n2_ := zm (below_step (zg_4 HB.out Zd.out Zg.out) hb); have n3_ := zm (hbox); have n4_ := zm ((by rw [hg]; exact (below_size (zg_4 HB.out Zd.out Zg.out)) : w.heap.size ≤ gb660)); have n5_ := zm ((by rw [hg]; exact (below_size (zg_4 HB.out Zd.out Zg.out)) : w.heap.size ≤ gb660)); have n6_ := zm ((by rw [hg]; exact Nat.ne_of_lt (blk_lt (g := gb653) (o := .cells #[.slice A0_0 l0_0.length c0_0, .slice A0_1 l0_1.length c0_1] 29 (0, 0)) (zg_2 Za.out)) : gb653 ≠ gb660)); have n7_ := zm ((by rw [hg]; exact Nat.ne_of_gt (blk_lt (g := gb653) (o := .cells #[.slice A0_0 l0_0.length c0_0, .slice A0_1 l0_1.length c0_1] 29 (0, 0)) (zg_2 Za.out)) : gb660 ≠ gb653)); have n8_ := zm ((by rw [hg]; exact Nat.ne_of_lt (blk_lt (g := gb654) (o := .cells #[.int .i64 0, .int .i64 0, .int .i64 0] 41 (0, 0)) (zg_2 Zb.out)) : gb654 ≠ gb660)); have n9_ := zm ((by rw [hg]; exact Nat.ne_of_gt (blk_lt (g := gb654) (o := .cells #[.int .i64 0, .int .i64 0, .int .i64 0] 41 (0, 0)) (zg_2 Zb.out)) : gb660 ≠ gb654)); clear Za; clear Zb; clear HB; have Za := n0_; have Zb := n1_; have HB := n2_; have Ze := n3_; have Zs := n4_; have Zl := n5_; have Zf := n6_; have Zj := n7_; have Zc := n8_; have Zk := n9_; clear n0_ n1_ n2_ n3_ n4_ n5_ n6_ n7_ n8_ n9_; clear hb hbox hg; have hnb13 := Zj.out; have hnc13 := Zf.out; have hnb14 := Zk.out; have hnc14 := Zc.out; have hcz15_0 : w12.cell? ⟨gb660, 0, none⟩ = some (.int .i64 0) := (blk_cell Ze.out 0).trans rfl; have hcz15_1 : w12.cell? ⟨gb660, 1, none⟩ = some (.int .i64 0) := (blk_cell Ze.out 1).trans rfl; have hcz15_2 : w12.cell? ⟨gb660, 2, none⟩ = some (.int .i64 0) := (blk_cell Ze.out 2).trans rfl; have hfz15_0 := blk_frozen Ze.out 0; have hfz15_1 := blk_frozen Ze.out 1; have hfz15_2 := blk_frozen Ze.out 2; have hcz16_0 : w12.cell? ⟨gb654, 0, none⟩ = some (.int .i64 0) := (blk_cell Zb.out 0).trans rfl; have hcz16_1 : w12.cell? ⟨gb654, 1, none⟩ = some (.int .i64 0) := (blk_cell Zb.out 1).trans rfl; have hcz16_2 : w12.cell? ⟨gb654, 2, none⟩ = some (.int .i64 0) := (blk_cell Zb.out 2).trans rfl; have hfz16_0 := blk_frozen Zb.out 0; have hfz16_1 := blk_frozen Zb.out 1; have hfz16_2 := blk_frozen Zb.out 2))
  refine bodyPost_ret (results_cell_row rfl _ _ gb654 41 #[.int .i64 t656, .int .i64 t657, .int .i64 t658] (0, 0) _ rfl (by (with_reducible repeat (first | refine blk_drewN ?_ _ | refine blk_drew ?_ | refine blk_alloc ?_ _)); refine blk_put (cs := #[.int .i64 t656, .int .i64 t657, .int .i64 0]) ?_ 2 _ rfl; (with_reducible repeat (first | refine blk_drewN ?_ _ | refine blk_drew ?_ | refine blk_alloc ?_ _)); refine blk_put (cs := #[.int .i64 t656, .int .i64 0, .int .i64 0]) ?_ 1 _ rfl; (with_reducible repeat (first | refine blk_drewN ?_ _ | refine blk_drew ?_ | refine blk_alloc ?_ _)); refine blk_put (cs := #[.int .i64 0, .int .i64 0, .int .i64 0]) ?_ 0 _ rfl; (with_reducible repeat (first | refine blk_drewN ?_ _ | refine blk_drew ?_ | refine blk_alloc ?_ _)); refine blk_far ?_ Zc.out _; (with_reducible repeat (first | refine blk_drewN ?_ _ | refine blk_drew ?_ | refine blk_alloc ?_ _)); refine blk_far ?_ Zc.out _; (with_reducible repeat (first | refine blk_drewN ?_ _ | refine blk_drew ?_ | refine blk_alloc ?_ _)); refine blk_far ?_ Zc.out _; (with_reducible repeat (first | refine blk_drewN ?_ _ | refine blk_drew ?_ | refine blk_alloc ?_ _)); exact Zb.out) Try.underlying41 rfl (by kernel_rfl)) rfl ?_
  exact ⟨by first | rfl | (simp [errW_none, errW_some] <;> rfl) | (simp [*, errW_none, errW_some] <;> rfl), zg_5 HB.out Zd.out Zg.out Zl.out⟩
 ·replace c5 := Bool.eq_false_iff.mpr c5
  subst c5
  have H1 : ((impl_nobody.f 0).bind fun bt661 => (some (bt661.1, bt661.2.1, bt661.2.2))) = some (r1, r2, r3) := by rw [if_neg (show ¬ (false = true) by decide)] at H; exact H
  clear H
  have H := H1
  clear H1
  replace H := Option.bind_eq_some_iff.mp H
  obtain ⟨⟨t661, t662, t663⟩, A170, H⟩ := H
  replace H : (some (t661, t662, t663)) = some (r1, r2, r3) := H
  have A17 := zm A170
  clear A170
  simp only [Option.some.injEq, Prod.mk.injEq] at H
  obtain ⟨rfl, rfl, rfl⟩ := H
  go_enter Try.func53, Try.ntmps53
  go_wp2_with (first | ((with_reducible refine gate_dst (N := 2) rfl ?_); refine box_event ?hg (N := 2) ?hd (cs := #[.slice A0_0 l0_0.length c0_0, .slice A0_1 l0_1.length c0_1]) (t := 29) ?hr ?_; (case hd => rfl); (case hg => rfl); (case hr => first | (go_simp; done) | (go_simp; rfl)); intro gb653 hg w18 hbox hb; have n0_ := zm (below_step (zg_0 HB.out) hb); have n1_ := zm (hbox); have n2_ := zm ((by rw [hg]; exact (below_size (zg_0 HB.out)) : w.heap.size ≤ gb653)); have n3_ := zm ((by rw [hg]; exact (below_size (zg_0 HB.out)) : w.heap.size ≤ gb653)); clear HB; have HB := n0_; have Za := n1_; have Zq := n2_; have Zd := n3_; clear n0_ n1_ n2_ n3_; clear hb hbox hg) | ((with_reducible refine gate_dst (N := 4) rfl ?_); refine box_event ?hg (N := 4) ?hd (cs := #[.int .i64 0, .int .i64 0, .int .i64 0]) (t := 41) ?hr ?_; (case hd => rfl); (case hg => rfl); (case hr => first | (go_simp; done) | (go_simp; rfl)); intro gb654 hg w19 hbox hb; have n0_ := zm (blk_below (g := gb653) (o := .cells #[.slice A0_0 l0_0.length c0_0, .slice A0_1 l0_1.length c0_1] 29 (0, 0)) (zg_2 Za.out) hb); have n1_ := zm (below_step (zg_1 HB.out Zd.out) hb); have n2_ := zm (hbox); have n3_ := zm ((by rw [hg]; exact (below_size (zg_1 HB.out Zd.out)) : w.heap.size ≤ gb654)); have n4_ := zm ((by rw [hg]; exact (below_size (zg_1 HB.out Zd.out)) : w.heap.size ≤ gb654)); have n5_ := zm ((by rw [hg]; exact Nat.ne_of_lt (blk_lt (g := gb653) (o := .cells #[.slice A0_0 l0_0.length c0_0, .slice A0_1 l0_1.length c0_1] 29 (0, 0)) (zg_2 Za.out)) : gb653 ≠ gb654)); have n6_ := zm ((by rw [hg]; exact Nat.ne_of_gt (blk_lt (g := gb653) (o := .cells #[.slice A0_0 l0_0.length c0_0, .slice A0_1 l0_1.length c0_1] 29 (0, 0)) (zg_2 Za.out)) : gb654 ≠ gb653)); clear Za; clear HB; have Za := n0_; have HB := n1_; have Zb := n2_; have Zr := n3_; have Zg := n4_; have Zh := n5_; have Zi := n6_; clear n0_ n1_ n2_ n3_ n4_ n5_ n6_; clear hb hbox hg; have hnb20 := Zh.out; have hnc20 := Zi.out; have hcz21_0 : w19.cell? ⟨gb653, 0, none⟩ = some (.slice A0_0 l0_0.length c0_0) := (blk_cell Za.out 0).trans rfl; have hcz21_1 : w19.cell? ⟨gb653, 1, none⟩ = some (.slice A0_1 l0_1.length c0_1) := (blk_cell Za.out 1).trans rfl; have hfz21_0 := blk_frozen Za.out 0; have hfz21_1 := blk_frozen Za.out 1) | ((with_reducible refine gate_callee (f := 75) rfl ?_); refine goesL_ (some 10) rfl rfl Try.func75 (by kernel_rfl) rfl #[.agg #[.slice A0_0 l0_0.length c0_0, .slice A0_1 l0_1.length c0_1], .int .i64 a1, .int .i64 0] rfl zq ?_; (with_reducible refine (impl_Disk_read.calls _ _ l0_0 _ _ l0_1 a1 0 t655 _ ?side1 ?side2 ?side3 ?side4 A3.out).mono ?_); (case side1 => repeat (first | exact (Kd.C_below Zm.out HB.out) | (with_reducible refine Kd.C_alloc ?_ _) | (with_reducible refine Kd.C_drewN ?_ _) | (with_reducible refine Kd.C_drew ?_))); (case side2 => exact Zn.out); (case side3 => repeat (first | exact (Kd.C_below Zo.out HB.out) | (with_reducible refine Kd.C_alloc ?_ _) | (with_reducible refine Kd.C_drewN ?_ _) | (with_reducible refine Kd.C_drew ?_))); (case side4 => exact Zp.out); rintro e w22 ⟨rfl, hb⟩; refine ⟨_, rfl, ?_⟩; have n0_ := zm (blk_below (g := gb653) (o := .cells #[.slice A0_0 l0_0.length c0_0, .slice A0_1 l0_1.length c0_1] 29 (0, 0)) (zg_2 Za.out) hb); have n1_ := zm (blk_below (g := gb654) (o := .cells #[.int .i64 0, .int .i64 0, .int .i64 0] 41 (0, 0)) (zg_2 Zb.out) hb); have n2_ := zm (below_step (zg_4 HB.out Zd.out Zg.out) hb); clear Za; clear Zb; clear HB; have Za := n0_; have Zb := n1_; have HB := n2_; clear n0_ n1_ n2_; (try clear hb); (try clear hb2); (try clear hk); (try clear hi)) | ((with_reducible refine gate_callee (f := 74) rfl ?_); refine goesL_ (some 11) rfl rfl Try.func74 (by kernel_rfl) rfl #[.string t655] rfl zq ?_; (with_reducible refine (impl_leaderOf.calls k t655 t656 t657 t658 false _ A4.out).mono ?_); rintro e w23 ⟨rfl, hb⟩; refine ⟨_, rfl, ?_⟩; have n0_ := zm (blk_below (g := gb653) (o := .cells #[.slice A0_0 l0_0.length c0_0, .slice A0_1 l0_1.length c0_1] 29 (0, 0)) (zg_2 Za.out) hb); have n1_ := zm (blk_below (g := gb654) (o := .cells #[.int .i64 0, .int .i64 0, .int .i64 0] 41 (0, 0)) (zg_2 Zb.out) hb); have n2_ := zm (below_step (zg_4 HB.out Zd.out Zg.out) hb); clear Za; clear Zb; clear HB; have Za := n0_; have Zb := n1_; have HB := n2_; clear n0_ n1_ n2_; (try clear hb); (try clear hb2); (try clear hk); (try clear hi)) | ((with_reducible refine gate_dst (N := 5) rfl ?_); refine box_event ?hg (N := 5) ?hd (cs := #[.int .i64 0, .int .i64 0, .int .i64 0]) (t := 41) ?hr ?_; (case hd => rfl); (case hg => rfl); (case hr => first | (go_simp; done) | (go_simp; rfl)); intro gb660 hg w24 hbox hb; have n0_ := zm (blk_below (g := gb653) (o := .cells #[.slice A0_0 l0_0.length c0_0, .slice A0_1 l0_1.length c0_1] 29 (0, 0)) (zg_2 Za.out) hb); have n1_ := zm (blk_below (g := gb654) (o := .cells #[.int .i64 0, .int .i64 0, .int .i64 0] 41 (0, 0)) (zg_2 Zb.out) hb); have n2_ := zm (below_step (zg_4 HB.out Zd.out Zg.out) hb); have n3_ := zm (hbox); have n4_ := zm ((by rw [hg]; exact (below_size (zg_4 HB.out Zd.out Zg.out)) : w.heap.size ≤ gb660)); have n5_ := zm ((by rw [hg]; exact (below_size (zg_4 HB.out Zd.out Zg.out)) : w.heap.size ≤ gb660)); have n6_ := zm ((by rw [hg]; exact Nat.ne_of_lt (blk_lt (g := gb653) (o := .cells #[.slice A0_0 l0_0.length c0_0, .slice A0_1 l0_1.length c0_1] 29 (0, 0)) (zg_2 Za.out)) : gb653 ≠ gb660)); have n7_ := zm ((by rw [hg]; exact Nat.ne_of_gt (blk_lt (g := gb653) (o := .cells #[.slice A0_0 l0_0.length c0_0, .slice A0_1 l0_1.length c0_1] 29 (0, 0)) (zg_2 Za.out)) : gb660 ≠ gb653)); have n8_ := zm ((by rw [hg]; exact Nat.ne_of_lt (blk_lt (g := gb654) (o := .cells #[.int .i64 0, .int .i64 0, .int .i64 0] 41 (0, 0)) (zg_2 Zb.out)) : gb654 ≠ gb660)); have n9_ := zm ((by rw [hg]; exact Nat.ne_of_gt (blk_lt (g := gb654) (o := .cells #[.int .i64 0, .int .i64 0, .int .i64 0] 41 (0, 0)) (zg_2 Zb.out)) : gb660 ≠ gb654)); clear Za; clear Zb; clear HB; have Za := n0_; have Zb := n1_; have HB := n2_; have Ze := n3_; have Zs := n4_; have Zl := n5_; have Zf := n6_; have Zj := n7_; have Zc := n8_; have Zk := n9_; clear n0_ n1_ n2_ n3_ n4_ n5_ n6_ n7_ n8_ n9_; clear hb hbox hg; have hnb25 := Zj.out; have hnc25 := Zf.out; have hnb26 := Zk.out; have hnc26 := Zc.out; have hcz27_0 : w24.cell? ⟨gb660, 0, none⟩ = some (.int .i64 0) := (blk_cell Ze.out 0).trans rfl; have hcz27_1 : w24.cell? ⟨gb660, 1, none⟩ = some (.int .i64 0) := (blk_cell Ze.out 1).trans rfl; have hcz27_2 : w24.cell? ⟨gb660, 2, none⟩ = some (.int .i64 0) := (blk_cell Ze.out 2).trans rfl; have hfz27_0 := blk_frozen Ze.out 0; have hfz27_1 := blk_frozen Ze.out 1; have hfz27_2 := blk_frozen Ze.out 2) | ((with_reducible refine gate_callee (f := 76) rfl ?_); refine goesL_ (some 16) rfl rfl Try.func76 (by kernel_rfl) rfl #[.int .i64 0] rfl zq ?_; (with_reducible refine (impl_nobody.calls 0 t661 t662 t663 _ A17.out).mono ?_); rintro e w28 ⟨rfl, hb⟩; refine ⟨_, rfl, ?_⟩; have n0_ := zm (blk_below (g := gb653) (o := .cells #[.slice A0_0 l0_0.length c0_0, .slice A0_1 l0_1.length c0_1] 29 (0, 0)) (by (with_reducible repeat (first | refine blk_drewN ?_ _ | refine blk_drew ?_ | refine blk_alloc ?_ _)); refine blk_far ?_ Zf.out _; (with_reducible repeat (first | refine blk_drewN ?_ _ | refine blk_drew ?_ | refine blk_alloc ?_ _)); refine blk_far ?_ Zf.out _; (with_reducible repeat (first | refine blk_drewN ?_ _ | refine blk_drew ?_ | refine blk_alloc ?_ _)); refine blk_far ?_ Zf.out _; (with_reducible repeat (first | refine blk_drewN ?_ _ | refine blk_drew ?_ | refine blk_alloc ?_ _)); exact Za.out) hb); have n1_ := zm (blk_below (g := gb654) (o := .cells #[.int .i64 0, .int .i64 0, .int .i64 0] 41 (0, 0)) (by (with_reducible repeat (first | refine blk_drewN ?_ _ | refine blk_drew ?_ | refine blk_alloc ?_ _)); refine blk_far ?_ Zc.out _; (with_reducible repeat (first | refine blk_drewN ?_ _ | refine blk_drew ?_ | refine blk_alloc ?_ _)); refine blk_far ?_ Zc.out _; (with_reducible repeat (first | refine blk_drewN ?_ _ | refine blk_drew ?_ | refine blk_alloc ?_ _)); refine blk_far ?_ Zc.out _; (with_reducible repeat (first | refine blk_drewN ?_ _ | refine blk_drew ?_ | refine blk_alloc ?_ _)); exact Zb.out) hb); have n2_ := zm (blk_below (g := gb660) (o := .cells #[.int .i64 t656, .int .i64 t657, .int .i64 t658] 41 (0, 0)) (by (with_reducible repeat (first | refine blk_drewN ?_ _ | refine blk_drew ?_ | refine blk_alloc ?_ _)); refine blk_put (cs := #[.int .i64 t656, .int .i64 t657, .int .i64 0]) ?_ 2 _ rfl; (with_reducible repeat (first | refine blk_drewN ?_ _ | refine blk_drew ?_ | refine blk_alloc ?_ _)); refine blk_put (cs := #[.int .i64 t656, .int .i64 0, .int .i64 0]) ?_ 1 _ rfl; (with_reducible repeat (first | refine blk_drewN ?_ _ | refine blk_drew ?_ | refine blk_alloc ?_ _)); refine blk_put (cs := #[.int .i64 0, .int .i64 0, .int .i64 0]) ?_ 0 _ rfl; (with_reducible repeat (first | refine blk_drewN ?_ _ | refine blk_drew ?_ | refine blk_alloc ?_ _)); exact Ze.out) hb); have n3_ := zm (below_step (zg_5 HB.out Zd.out Zg.out Zl.out) hb); clear Za; clear Zb; clear Ze; clear HB; have Za := n0_; have Zb := n1_; have Ze := n2_; have HB := n3_; clear n0_ n1_ n2_ n3_; (try clear hb); (try clear hb2); (try clear hk); (try clear hi); have hcz29_0 : w28.cell? ⟨gb654, 0, none⟩ = some (.int .i64 0) := (blk_cell Zb.out 0).trans rfl; have hcz29_1 : w28.cell? ⟨gb654, 1, none⟩ = some (.int .i64 0) := (blk_cell Zb.out 1).trans rfl; have hcz29_2 : w28.cell? ⟨gb654, 2, none⟩ = some (.int .i64 0) := (blk_cell Zb.out 2).trans rfl; have hfz29_0 := blk_frozen Zb.out 0; have hfz29_1 := blk_frozen Zb.out 1; have hfz29_2 := blk_frozen Zb.out 2))
  refine bodyPost_ret (results_cell_row rfl _ _ gb654 41 #[.int .i64 t661, .int .i64 t662, .int .i64 t663] (0, 0) _ rfl (by (with_reducible repeat (first | refine blk_drewN ?_ _ | refine blk_drew ?_ | refine blk_alloc ?_ _)); refine blk_put (cs := #[.int .i64 t661, .int .i64 t662, .int .i64 0]) ?_ 2 _ rfl; (with_reducible repeat (first | refine blk_drewN ?_ _ | refine blk_drew ?_ | refine blk_alloc ?_ _)); refine blk_put (cs := #[.int .i64 t661, .int .i64 0, .int .i64 0]) ?_ 1 _ rfl; (with_reducible repeat (first | refine blk_drewN ?_ _ | refine blk_drew ?_ | refine blk_alloc ?_ _)); refine blk_put (cs := #[.int .i64 0, .int .i64 0, .int .i64 0]) ?_ 0 _ rfl; (with_reducible repeat (first | refine blk_drewN ?_ _ | refine blk_drew ?_ | refine blk_alloc ?_ _)); exact Zb.out) Try.underlying41 rfl (by kernel_rfl)) rfl ?_
  exact ⟨by first | rfl | (simp [errW_none, errW_some] <;> rfl) | (simp [*, errW_none, errW_some] <;> rfl), zg_5 HB.out Zd.out Zg.out Zl.out⟩
/-! ### impl_ReadLeader: function 23 -/
def impl_ReadLeader.f (k : Nat) (l0_0 : List ByteArray) (l0_1 : List (S76)) (a1 : Int) : Option (Int × Int × Int × Int) := (impl_Disk_codes.f l0_0 l0_1 a1).bind fun t704 => (if t704 = 0 then ((impl_Disk_leader.f k l0_0 l0_1 a1).bind fun bt705 => (some (bt705.1, bt705.2.1, bt705.2.2, 0))) else (some (0, 0, 0, t704)))
theorem impl_ReadLeader.mono : ∀ a0 a1 a2 k, LeO (impl_ReadLeader.f k a0 a1 a2) (impl_ReadLeader.f (k + 1) a0 a1 a2) := by
  intro a0 a1 a2 k
  unfold impl_ReadLeader.f
  repeat' first
      | (with_reducible exact impl_Disk_leader.mono _ _ _ _)
      | (with_reducible exact LeO.refl _)
      | (with_reducible exact LeO.none _)
      | (with_reducible refine LeO.ite ?_ ?_)
      | (with_reducible refine LeO.bind ?_ (fun _ => ?_))
      | exact impl_Disk_leader.mono _ _ _ _
      | exact LeO.none _
      | refine LeO.ite ?_ ?_
      | refine LeO.bind ?_ (fun _ => ?_)
set_option maxHeartbeats 8000000 in
set_option maxRecDepth 100000 in
theorem impl_ReadLeader.calls (k : Nat) (A0_0 : Option Addr) (c0_0 : Nat) (l0_0 : List ByteArray) (A0_1 : Option Addr) (c0_1 : Nat) (l0_1 : List (S76)) (a1 : Int) (r1 : Int) (r2 : Int) (r3 : Int) (r4 : Int) (w : World) (hr0_0 : Kd.C Kd.string w A0_0 l0_0.length l0_0) (hc0_0 : l0_0.length ≤ c0_0) (hr0_1 : Kd.C k76 w A0_1 l0_1.length l0_1) (hc0_1 : l0_1.length ≤ c0_1) (h : impl_ReadLeader.f k l0_0 l0_1 a1 = some (r1, r2, r3, r4)) :
    Calls Try.prog 23 #[.agg #[.slice A0_0 l0_0.length c0_0, .slice A0_1 l0_1.length c0_1], .int .i64 a1] w fun e w' => e = .returned (.tuple #[.agg #[.int .i64 r1, .int .i64 r2, .int .i64 r3], .int .i64 r4]) ∧ Below w.heap.size w w' := by
 have hu29 := Try.underlying29
 have hu41 := Try.underlying41
 have Zg := zm hr0_0
 have Zh := zm hc0_0
 clear hr0_0 hc0_0
 have Zi := zm hr0_1
 have Zj := zm hc0_1
 clear hr0_1 hc0_1
 have HB := zm (Below.refl w.heap.size w)
 have H : ((impl_Disk_codes.f l0_0 l0_1 a1).bind fun t704 => (if t704 = 0 then ((impl_Disk_leader.f k l0_0 l0_1 a1).bind fun bt705 => (some (bt705.1, bt705.2.1, bt705.2.2, 0))) else (some (0, 0, 0, t704)))) = some (r1, r2, r3, r4) := h
 clear h
 replace H := Option.bind_eq_some_iff.mp H
 obtain ⟨t704, A30, H⟩ := H
 replace H : (if t704 = 0 then ((impl_Disk_leader.f k l0_0 l0_1 a1).bind fun bt705 => (some (bt705.1, bt705.2.1, bt705.2.2, 0))) else (some (0, 0, 0, t704))) = some (r1, r2, r3, r4) := H
 have A3 := zm A30
 clear A30
 by_cases c4 : t704 = 0
 ·rw [if_pos c4] at H
  have c4b0 : (t704 == 0) = true := beq_iff_eq.mpr c4
  have c4b1 : (t704 != 0) = false := bne_eq_false_iff_eq.mpr c4
  clear c4
  replace H := Option.bind_eq_some_iff.mp H
  obtain ⟨⟨t705, t706, t707⟩, A50, H⟩ := H
  replace H : (some (t705, t706, t707, 0)) = some (r1, r2, r3, r4) := H
  have A5 := zm A50
  clear A50
  simp only [Option.some.injEq, Prod.mk.injEq] at H
  obtain ⟨rfl, rfl, rfl, rfl⟩ := H
  go_enter Try.func23, Try.ntmps23
  go_wp2_with (first | ((with_reducible refine gate_dst (N := 2) rfl ?_); refine box_event ?hg (N := 2) ?hd (cs := #[.slice A0_0 l0_0.length c0_0, .slice A0_1 l0_1.length c0_1]) (t := 29) ?hr ?_; (case hd => rfl); (case hg => rfl); (case hr => first | (go_simp; done) | (go_simp; rfl)); intro gb702 hg w6 hbox hb; have n0_ := zm (below_step (zg_0 HB.out) hb); have n1_ := zm (hbox); have n2_ := zm ((by rw [hg]; exact (below_size (zg_0 HB.out)) : w.heap.size ≤ gb702)); have n3_ := zm ((by rw [hg]; exact (below_size (zg_0 HB.out)) : w.heap.size ≤ gb702)); clear HB; have HB := n0_; have Za := n1_; have Zk := n2_; have Zc := n3_; clear n0_ n1_ n2_ n3_; clear hb hbox hg) | ((with_reducible refine gate_dst (N := 4) rfl ?_); refine box_event ?hg (N := 4) ?hd (cs := #[.int .i64 0, .int .i64 0, .int .i64 0]) (t := 41) ?hr ?_; (case hd => rfl); (case hg => rfl); (case hr => first | (go_simp; done) | (go_simp; rfl)); intro gb703 hg w7 hbox hb; have n0_ := zm (blk_below (g := gb702) (o := .cells #[.slice A0_0 l0_0.length c0_0, .slice A0_1 l0_1.length c0_1] 29 (0, 0)) (zg_2 Za.out) hb); have n1_ := zm (below_step (zg_1 HB.out Zc.out) hb); have n2_ := zm (hbox); have n3_ := zm ((by rw [hg]; exact (below_size (zg_1 HB.out Zc.out)) : w.heap.size ≤ gb703)); have n4_ := zm ((by rw [hg]; exact (below_size (zg_1 HB.out Zc.out)) : w.heap.size ≤ gb703)); have n5_ := zm ((by rw [hg]; exact Nat.ne_of_lt (blk_lt (g := gb702) (o := .cells #[.slice A0_0 l0_0.length c0_0, .slice A0_1 l0_1.length c0_1] 29 (0, 0)) (zg_2 Za.out)) : gb702 ≠ gb703)); have n6_ := zm ((by rw [hg]; exact Nat.ne_of_gt (blk_lt (g := gb702) (o := .cells #[.slice A0_0 l0_0.length c0_0, .slice A0_1 l0_1.length c0_1] 29 (0, 0)) (zg_2 Za.out)) : gb703 ≠ gb702)); clear Za; clear HB; have Za := n0_; have HB := n1_; have Zb := n2_; have Zl := n3_; have Zf := n4_; have Zd := n5_; have Ze := n6_; clear n0_ n1_ n2_ n3_ n4_ n5_ n6_; clear hb hbox hg; have hnb8 := Zd.out; have hnc8 := Ze.out; have hcz9_0 : w7.cell? ⟨gb702, 0, none⟩ = some (.slice A0_0 l0_0.length c0_0) := (blk_cell Za.out 0).trans rfl; have hcz9_1 : w7.cell? ⟨gb702, 1, none⟩ = some (.slice A0_1 l0_1.length c0_1) := (blk_cell Za.out 1).trans rfl; have hfz9_0 := blk_frozen Za.out 0; have hfz9_1 := blk_frozen Za.out 1) | ((with_reducible refine gate_callee (f := 34) rfl ?_); refine goesL_ (some 9) rfl rfl Try.func34 (by kernel_rfl) rfl #[.agg #[.slice A0_0 l0_0.length c0_0, .slice A0_1 l0_1.length c0_1], .int .i64 a1] rfl zq ?_; (with_reducible refine (impl_Disk_codes.calls _ _ l0_0 _ _ l0_1 a1 t704 _ ?side1 ?side2 ?side3 ?side4 A3.out).mono ?_); (case side1 => repeat (first | exact (Kd.C_below Zg.out HB.out) | (with_reducible refine Kd.C_alloc ?_ _) | (with_reducible refine Kd.C_drewN ?_ _) | (with_reducible refine Kd.C_drew ?_))); (case side2 => exact Zh.out); (case side3 => repeat (first | exact (Kd.C_below Zi.out HB.out) | (with_reducible refine Kd.C_alloc ?_ _) | (with_reducible refine Kd.C_drewN ?_ _) | (with_reducible refine Kd.C_drew ?_))); (case side4 => exact Zj.out); rintro e w10 ⟨rfl, hb⟩; refine ⟨_, rfl, ?_⟩; have n0_ := zm (blk_below (g := gb702) (o := .cells #[.slice A0_0 l0_0.length c0_0, .slice A0_1 l0_1.length c0_1] 29 (0, 0)) (zg_2 Za.out) hb); have n1_ := zm (blk_below (g := gb703) (o := .cells #[.int .i64 0, .int .i64 0, .int .i64 0] 41 (0, 0)) (zg_2 Zb.out) hb); have n2_ := zm (below_step (zg_4 HB.out Zc.out Zf.out) hb); clear Za; clear Zb; clear HB; have Za := n0_; have Zb := n1_; have HB := n2_; clear n0_ n1_ n2_; (try clear hb); (try clear hb2); (try clear hk); (try clear hi); have hcz11_0 : w10.cell? ⟨gb702, 0, none⟩ = some (.slice A0_0 l0_0.length c0_0) := (blk_cell Za.out 0).trans rfl; have hcz11_1 : w10.cell? ⟨gb702, 1, none⟩ = some (.slice A0_1 l0_1.length c0_1) := (blk_cell Za.out 1).trans rfl; have hfz11_0 := blk_frozen Za.out 0; have hfz11_1 := blk_frozen Za.out 1) | ((with_reducible refine gate_callee (f := 53) rfl ?_); refine goesL_ (some 16) rfl rfl Try.func53 (by kernel_rfl) rfl #[.agg #[.slice A0_0 l0_0.length c0_0, .slice A0_1 l0_1.length c0_1], .int .i64 a1] rfl zq ?_; (with_reducible refine (impl_Disk_leader.calls k _ _ l0_0 _ _ l0_1 a1 t705 t706 t707 _ ?side1 ?side2 ?side3 ?side4 A5.out).mono ?_); (case side1 => repeat (first | exact (Kd.C_below Zg.out HB.out) | (with_reducible refine Kd.C_alloc ?_ _) | (with_reducible refine Kd.C_drewN ?_ _) | (with_reducible refine Kd.C_drew ?_))); (case side2 => exact Zh.out); (case side3 => repeat (first | exact (Kd.C_below Zi.out HB.out) | (with_reducible refine Kd.C_alloc ?_ _) | (with_reducible refine Kd.C_drewN ?_ _) | (with_reducible refine Kd.C_drew ?_))); (case side4 => exact Zj.out); rintro e w12 ⟨rfl, hb⟩; refine ⟨_, rfl, ?_⟩; have n0_ := zm (blk_below (g := gb702) (o := .cells #[.slice A0_0 l0_0.length c0_0, .slice A0_1 l0_1.length c0_1] 29 (0, 0)) (zg_2 Za.out) hb); have n1_ := zm (blk_below (g := gb703) (o := .cells #[.int .i64 0, .int .i64 0, .int .i64 0] 41 (0, 0)) (zg_2 Zb.out) hb); have n2_ := zm (below_step (zg_4 HB.out Zc.out Zf.out) hb); clear Za; clear Zb; clear HB; have Za := n0_; have Zb := n1_; have HB := n2_; clear n0_ n1_ n2_; (try clear hb); (try clear hb2); (try clear hk); (try clear hi); have hcz13_0 : w12.cell? ⟨gb703, 0, none⟩ = some (.int .i64 0) := (blk_cell Zb.out 0).trans rfl; have hcz13_1 : w12.cell? ⟨gb703, 1, none⟩ = some (.int .i64 0) := (blk_cell Zb.out 1).trans rfl; have hcz13_2 : w12.cell? ⟨gb703, 2, none⟩ = some (.int .i64 0) := (blk_cell Zb.out 2).trans rfl; have hfz13_0 := blk_frozen Zb.out 0; have hfz13_1 := blk_frozen Zb.out 1; have hfz13_2 := blk_frozen Zb.out 2))
  refine bodyPost_ret (results_ct rfl _ _ gb703 41 #[.int .i64 t705, .int .i64 t706, .int .i64 t707] (0, 0) _ rfl (by (with_reducible repeat (first | refine blk_drewN ?_ _ | refine blk_drew ?_ | refine blk_alloc ?_ _)); refine blk_put (cs := #[.int .i64 t705, .int .i64 t706, .int .i64 0]) ?_ 2 _ rfl; (with_reducible repeat (first | refine blk_drewN ?_ _ | refine blk_drew ?_ | refine blk_alloc ?_ _)); refine blk_put (cs := #[.int .i64 t705, .int .i64 0, .int .i64 0]) ?_ 1 _ rfl; (with_reducible repeat (first | refine blk_drewN ?_ _ | refine blk_drew ?_ | refine blk_alloc ?_ _)); refine blk_put (cs := #[.int .i64 0, .int .i64 0, .int .i64 0]) ?_ 0 _ rfl; (with_reducible repeat (first | refine blk_drewN ?_ _ | refine blk_drew ?_ | refine blk_alloc ?_ _)); exact Zb.out) Try.underlying41 rfl (by kernel_rfl)) rfl ?_
  exact ⟨by first | rfl | (simp [errW_none, errW_some] <;> rfl) | (simp [*, errW_none, errW_some] <;> rfl), zg_4 HB.out Zc.out Zf.out⟩
 ·rw [if_neg c4] at H
  have c4b0 : (t704 == 0) = false := beq_eq_false_iff_ne.mpr c4
  have c4b1 : (t704 != 0) = true := bne_iff_ne.mpr c4
  simp only [Option.some.injEq, Prod.mk.injEq] at H
  obtain ⟨rfl, rfl, rfl, rfl⟩ := H
  go_enter Try.func23, Try.ntmps23
  go_wp2_with (first | ((with_reducible refine gate_dst (N := 2) rfl ?_); refine box_event ?hg (N := 2) ?hd (cs := #[.slice A0_0 l0_0.length c0_0, .slice A0_1 l0_1.length c0_1]) (t := 29) ?hr ?_; (case hd => rfl); (case hg => rfl); (case hr => first | (go_simp; done) | (go_simp; rfl)); intro gb702 hg w14 hbox hb; have n0_ := zm (below_step (zg_0 HB.out) hb); have n1_ := zm (hbox); have n2_ := zm ((by rw [hg]; exact (below_size (zg_0 HB.out)) : w.heap.size ≤ gb702)); have n3_ := zm ((by rw [hg]; exact (below_size (zg_0 HB.out)) : w.heap.size ≤ gb702)); clear HB; have HB := n0_; have Za := n1_; have Zk := n2_; have Zc := n3_; clear n0_ n1_ n2_ n3_; clear hb hbox hg) | ((with_reducible refine gate_dst (N := 4) rfl ?_); refine box_event ?hg (N := 4) ?hd (cs := #[.int .i64 0, .int .i64 0, .int .i64 0]) (t := 41) ?hr ?_; (case hd => rfl); (case hg => rfl); (case hr => first | (go_simp; done) | (go_simp; rfl)); intro gb703 hg w15 hbox hb; have n0_ := zm (blk_below (g := gb702) (o := .cells #[.slice A0_0 l0_0.length c0_0, .slice A0_1 l0_1.length c0_1] 29 (0, 0)) (zg_2 Za.out) hb); have n1_ := zm (below_step (zg_1 HB.out Zc.out) hb); have n2_ := zm (hbox); have n3_ := zm ((by rw [hg]; exact (below_size (zg_1 HB.out Zc.out)) : w.heap.size ≤ gb703)); have n4_ := zm ((by rw [hg]; exact (below_size (zg_1 HB.out Zc.out)) : w.heap.size ≤ gb703)); have n5_ := zm ((by rw [hg]; exact Nat.ne_of_lt (blk_lt (g := gb702) (o := .cells #[.slice A0_0 l0_0.length c0_0, .slice A0_1 l0_1.length c0_1] 29 (0, 0)) (zg_2 Za.out)) : gb702 ≠ gb703)); have n6_ := zm ((by rw [hg]; exact Nat.ne_of_gt (blk_lt (g := gb702) (o := .cells #[.slice A0_0 l0_0.length c0_0, .slice A0_1 l0_1.length c0_1] 29 (0, 0)) (zg_2 Za.out)) : gb703 ≠ gb702)); clear Za; clear HB; have Za := n0_; have HB := n1_; have Zb := n2_; have Zl := n3_; have Zf := n4_; have Zd := n5_; have Ze := n6_; clear n0_ n1_ n2_ n3_ n4_ n5_ n6_; clear hb hbox hg; have hnb16 := Zd.out; have hnc16 := Ze.out; have hcz17_0 : w15.cell? ⟨gb702, 0, none⟩ = some (.slice A0_0 l0_0.length c0_0) := (blk_cell Za.out 0).trans rfl; have hcz17_1 : w15.cell? ⟨gb702, 1, none⟩ = some (.slice A0_1 l0_1.length c0_1) := (blk_cell Za.out 1).trans rfl; have hfz17_0 := blk_frozen Za.out 0; have hfz17_1 := blk_frozen Za.out 1) | ((with_reducible refine gate_callee (f := 34) rfl ?_); refine goesL_ (some 9) rfl rfl Try.func34 (by kernel_rfl) rfl #[.agg #[.slice A0_0 l0_0.length c0_0, .slice A0_1 l0_1.length c0_1], .int .i64 a1] rfl zq ?_; (with_reducible refine (impl_Disk_codes.calls _ _ l0_0 _ _ l0_1 a1 t704 _ ?side1 ?side2 ?side3 ?side4 A3.out).mono ?_); (case side1 => repeat (first | exact (Kd.C_below Zg.out HB.out) | (with_reducible refine Kd.C_alloc ?_ _) | (with_reducible refine Kd.C_drewN ?_ _) | (with_reducible refine Kd.C_drew ?_))); (case side2 => exact Zh.out); (case side3 => repeat (first | exact (Kd.C_below Zi.out HB.out) | (with_reducible refine Kd.C_alloc ?_ _) | (with_reducible refine Kd.C_drewN ?_ _) | (with_reducible refine Kd.C_drew ?_))); (case side4 => exact Zj.out); rintro e w18 ⟨rfl, hb⟩; refine ⟨_, rfl, ?_⟩; have n0_ := zm (blk_below (g := gb702) (o := .cells #[.slice A0_0 l0_0.length c0_0, .slice A0_1 l0_1.length c0_1] 29 (0, 0)) (zg_2 Za.out) hb); have n1_ := zm (blk_below (g := gb703) (o := .cells #[.int .i64 0, .int .i64 0, .int .i64 0] 41 (0, 0)) (zg_2 Zb.out) hb); have n2_ := zm (below_step (zg_4 HB.out Zc.out Zf.out) hb); clear Za; clear Zb; clear HB; have Za := n0_; have Zb := n1_; have HB := n2_; clear n0_ n1_ n2_; (try clear hb); (try clear hb2); (try clear hk); (try clear hi); have hcz19_0 : w18.cell? ⟨gb703, 0, none⟩ = some (.int .i64 0) := (blk_cell Zb.out 0).trans rfl; have hcz19_1 : w18.cell? ⟨gb703, 1, none⟩ = some (.int .i64 0) := (blk_cell Zb.out 1).trans rfl; have hcz19_2 : w18.cell? ⟨gb703, 2, none⟩ = some (.int .i64 0) := (blk_cell Zb.out 2).trans rfl; have hfz19_0 := blk_frozen Zb.out 0; have hfz19_1 := blk_frozen Zb.out 1; have hfz19_2 := blk_frozen Zb.out 2))
  refine bodyPost_ret (results_ct rfl _ _ gb703 41 #[.int .i64 0, .int .i64 0, .int .i64 0] (0, 0) _ rfl (by (with_reducible repeat (first | refine blk_drewN ?_ _ | refine blk_drew ?_ | refine blk_alloc ?_ _)); refine blk_put (cs := #[.int .i64 0, .int .i64 0, .int .i64 0]) ?_ 2 _ rfl; (with_reducible repeat (first | refine blk_drewN ?_ _ | refine blk_drew ?_ | refine blk_alloc ?_ _)); refine blk_put (cs := #[.int .i64 0, .int .i64 0, .int .i64 0]) ?_ 1 _ rfl; (with_reducible repeat (first | refine blk_drewN ?_ _ | refine blk_drew ?_ | refine blk_alloc ?_ _)); refine blk_put (cs := #[.int .i64 0, .int .i64 0, .int .i64 0]) ?_ 0 _ rfl; (with_reducible repeat (first | refine blk_drewN ?_ _ | refine blk_drew ?_ | refine blk_alloc ?_ _)); exact Zb.out) Try.underlying41 rfl (by kernel_rfl)) rfl ?_
  exact ⟨by first | rfl | (simp [errW_none, errW_some] <;> rfl) | (simp [*, errW_none, errW_some] <;> rfl), zg_4 HB.out Zc.out Zf.out⟩
/-! ### laws_eqIo: function 62 -/
def laws_eqIo.f (a0_0 : Int) (a0_1 : Int) (a0_2 : ByteArray) (a1_0 : Int) (a1_1 : Int) (a1_2 : ByteArray) : Option (Bool) := if a0_0 = a1_0 then (if a0_1 = a1_1 then (if a0_2.toList = a1_2.toList then (some true) else (some false)) else (some false)) else (some false)
set_option maxHeartbeats 8000000 in
set_option maxRecDepth 100000 in
theorem laws_eqIo.calls (a0_0 : Int) (a0_1 : Int) (a0_2 : ByteArray) (a1_0 : Int) (a1_1 : Int) (a1_2 : ByteArray) (r : Bool) (w : World) (h : laws_eqIo.f a0_0 a0_1 a0_2 a1_0 a1_1 a1_2 = some r) :
    Calls Try.prog 62 #[.agg #[.int .i64 a0_0, .int .i64 a0_1, .string a0_2], .agg #[.int .i64 a1_0, .int .i64 a1_1, .string a1_2]] w fun e w' => e = .returned (.bool r) ∧ Below w.heap.size w w' := by
 have hu76 := Try.underlying76
 have HB := zm (Below.refl w.heap.size w)
 have H : (if a0_0 = a1_0 then (if a0_1 = a1_1 then (if a0_2.toList = a1_2.toList then (some true) else (some false)) else (some false)) else (some false)) = some r := h
 clear h
 by_cases c3 : a0_0 = a1_0
 ·rw [if_pos c3] at H
  have c3b0 : (a0_0 == a1_0) = true := beq_iff_eq.mpr c3
  have c3b1 : (a0_0 != a1_0) = false := bne_eq_false_iff_eq.mpr c3
  clear c3
  by_cases c4 : a0_1 = a1_1
  ·rw [if_pos c4] at H
   have c4b0 : (a0_1 == a1_1) = true := beq_iff_eq.mpr c4
   have c4b1 : (a0_1 != a1_1) = false := bne_eq_false_iff_eq.mpr c4
   clear c4
   by_cases c5 : a0_2.toList = a1_2.toList
   ·rw [if_pos c5] at H
    have c5b0 : (a0_2.toList == a1_2.toList) = true := beq_iff_eq.mpr c5
    have c5b1 : (a0_2.toList != a1_2.toList) = false := bne_eq_false_iff_eq.mpr c5
    clear c5
    obtain rfl := Option.some.inj H
    go_enter Try.func62, Try.ntmps62
    go_wp2_with (first | ((with_reducible refine gate_dst (N := 2) rfl ?_); refine box_event ?hg (N := 2) ?hd (cs := #[.int .i64 a0_0, .int .i64 a0_1, .string a0_2]) (t := 76) ?hr ?_; (case hd => rfl); (case hg => rfl); (case hr => first | (go_simp; done) | (go_simp; rfl)); intro gb230 hg w6 hbox hb; have n0_ := zm (below_step (zg_0 HB.out) hb); have n1_ := zm (hbox); have n2_ := zm ((by rw [hg]; exact (below_size (zg_0 HB.out)) : w.heap.size ≤ gb230)); have n3_ := zm ((by rw [hg]; exact (below_size (zg_0 HB.out)) : w.heap.size ≤ gb230)); clear HB; have HB := n0_; have Za := n1_; have Zg := n2_; have Zc := n3_; clear n0_ n1_ n2_ n3_; clear hb hbox hg) | ((with_reducible refine gate_dst (N := 3) rfl ?_); refine box_event ?hg (N := 3) ?hd (cs := #[.int .i64 a1_0, .int .i64 a1_1, .string a1_2]) (t := 76) ?hr ?_; (case hd => rfl); (case hg => rfl); (case hr => first | (go_simp; done) | (go_simp; rfl)); intro gb231 hg w7 hbox hb; have n0_ := zm (blk_below (g := gb230) (o := .cells #[.int .i64 a0_0, .int .i64 a0_1, .string a0_2] 76 (0, 0)) (zg_2 Za.out) hb); have n1_ := zm (below_step (zg_1 HB.out Zc.out) hb); have n2_ := zm (hbox); have n3_ := zm ((by rw [hg]; exact (below_size (zg_1 HB.out Zc.out)) : w.heap.size ≤ gb231)); have n4_ := zm ((by rw [hg]; exact (below_size (zg_1 HB.out Zc.out)) : w.heap.size ≤ gb231)); have n5_ := zm ((by rw [hg]; exact Nat.ne_of_lt (blk_lt (g := gb230) (o := .cells #[.int .i64 a0_0, .int .i64 a0_1, .string a0_2] 76 (0, 0)) (zg_2 Za.out)) : gb230 ≠ gb231)); have n6_ := zm ((by rw [hg]; exact Nat.ne_of_gt (blk_lt (g := gb230) (o := .cells #[.int .i64 a0_0, .int .i64 a0_1, .string a0_2] 76 (0, 0)) (zg_2 Za.out)) : gb231 ≠ gb230)); clear Za; clear HB; have Za := n0_; have HB := n1_; have Zb := n2_; have Zh := n3_; have Zf := n4_; have Zd := n5_; have Ze := n6_; clear n0_ n1_ n2_ n3_ n4_ n5_ n6_; clear hb hbox hg; have hnb8 := Zd.out; have hnc8 := Ze.out; have hcz9_0 : w7.cell? ⟨gb230, 0, none⟩ = some (.int .i64 a0_0) := (blk_cell Za.out 0).trans rfl; have hcz9_1 : w7.cell? ⟨gb230, 1, none⟩ = some (.int .i64 a0_1) := (blk_cell Za.out 1).trans rfl; have hcz9_2 : w7.cell? ⟨gb230, 2, none⟩ = some (.string a0_2) := (blk_cell Za.out 2).trans rfl; have hfz9_0 := blk_frozen Za.out 0; have hfz9_1 := blk_frozen Za.out 1; have hfz9_2 := blk_frozen Za.out 2; have hcz10_0 : w7.cell? ⟨gb231, 0, none⟩ = some (.int .i64 a1_0) := (blk_cell Zb.out 0).trans rfl; have hcz10_1 : w7.cell? ⟨gb231, 1, none⟩ = some (.int .i64 a1_1) := (blk_cell Zb.out 1).trans rfl; have hcz10_2 : w7.cell? ⟨gb231, 2, none⟩ = some (.string a1_2) := (blk_cell Zb.out 2).trans rfl; have hfz10_0 := blk_frozen Zb.out 0; have hfz10_1 := blk_frozen Zb.out 1; have hfz10_2 := blk_frozen Zb.out 2))
    go_ret
    exact ⟨by first | rfl | (simp [errW_none, errW_some] <;> rfl) | (simp [*, errW_none, errW_some] <;> rfl), zg_4 HB.out Zc.out Zf.out⟩
   ·rw [if_neg c5] at H
    have c5b0 : (a0_2.toList == a1_2.toList) = false := beq_eq_false_iff_ne.mpr c5
    have c5b1 : (a0_2.toList != a1_2.toList) = true := bne_iff_ne.mpr c5
    obtain rfl := Option.some.inj H
    go_enter Try.func62, Try.ntmps62
    go_wp2_with (first | ((with_reducible refine gate_dst (N := 2) rfl ?_); refine box_event ?hg (N := 2) ?hd (cs := #[.int .i64 a0_0, .int .i64 a0_1, .string a0_2]) (t := 76) ?hr ?_; (case hd => rfl); (case hg => rfl); (case hr => first | (go_simp; done) | (go_simp; rfl)); intro gb230 hg w11 hbox hb; have n0_ := zm (below_step (zg_0 HB.out) hb); have n1_ := zm (hbox); have n2_ := zm ((by rw [hg]; exact (below_size (zg_0 HB.out)) : w.heap.size ≤ gb230)); have n3_ := zm ((by rw [hg]; exact (below_size (zg_0 HB.out)) : w.heap.size ≤ gb230)); clear HB; have HB := n0_; have Za := n1_; have Zg := n2_; have Zc := n3_; clear n0_ n1_ n2_ n3_; clear hb hbox hg) | ((with_reducible refine gate_dst (N := 3) rfl ?_); refine box_event ?hg (N := 3) ?hd (cs := #[.int .i64 a1_0, .int .i64 a1_1, .string a1_2]) (t := 76) ?hr ?_; (case hd => rfl); (case hg => rfl); (case hr => first | (go_simp; done) | (go_simp; rfl)); intro gb231 hg w12 hbox hb; have n0_ := zm (blk_below (g := gb230) (o := .cells #[.int .i64 a0_0, .int .i64 a0_1, .string a0_2] 76 (0, 0)) (zg_2 Za.out) hb); have n1_ := zm (below_step (zg_1 HB.out Zc.out) hb); have n2_ := zm (hbox); have n3_ := zm ((by rw [hg]; exact (below_size (zg_1 HB.out Zc.out)) : w.heap.size ≤ gb231)); have n4_ := zm ((by rw [hg]; exact (below_size (zg_1 HB.out Zc.out)) : w.heap.size ≤ gb231)); have n5_ := zm ((by rw [hg]; exact Nat.ne_of_lt (blk_lt (g := gb230) (o := .cells #[.int .i64 a0_0, .int .i64 a0_1, .string a0_2] 76 (0, 0)) (zg_2 Za.out)) : gb230 ≠ gb231)); have n6_ := zm ((by rw [hg]; exact Nat.ne_of_gt (blk_lt (g := gb230) (o := .cells #[.int .i64 a0_0, .int .i64 a0_1, .string a0_2] 76 (0, 0)) (zg_2 Za.out)) : gb231 ≠ gb230)); clear Za; clear HB; have Za := n0_; have HB := n1_; have Zb := n2_; have Zh := n3_; have Zf := n4_; have Zd := n5_; have Ze := n6_; clear n0_ n1_ n2_ n3_ n4_ n5_ n6_; clear hb hbox hg; have hnb13 := Zd.out; have hnc13 := Ze.out; have hcz14_0 : w12.cell? ⟨gb230, 0, none⟩ = some (.int .i64 a0_0) := (blk_cell Za.out 0).trans rfl; have hcz14_1 : w12.cell? ⟨gb230, 1, none⟩ = some (.int .i64 a0_1) := (blk_cell Za.out 1).trans rfl; have hcz14_2 : w12.cell? ⟨gb230, 2, none⟩ = some (.string a0_2) := (blk_cell Za.out 2).trans rfl; have hfz14_0 := blk_frozen Za.out 0; have hfz14_1 := blk_frozen Za.out 1; have hfz14_2 := blk_frozen Za.out 2; have hcz15_0 : w12.cell? ⟨gb231, 0, none⟩ = some (.int .i64 a1_0) := (blk_cell Zb.out 0).trans rfl; have hcz15_1 : w12.cell? ⟨gb231, 1, none⟩ = some (.int .i64 a1_1) := (blk_cell Zb.out 1).trans rfl; have hcz15_2 : w12.cell? ⟨gb231, 2, none⟩ = some (.string a1_2) := (blk_cell Zb.out 2).trans rfl; have hfz15_0 := blk_frozen Zb.out 0; have hfz15_1 := blk_frozen Zb.out 1; have hfz15_2 := blk_frozen Zb.out 2))
    go_ret
    exact ⟨by first | rfl | (simp [errW_none, errW_some] <;> rfl) | (simp [*, errW_none, errW_some] <;> rfl), zg_4 HB.out Zc.out Zf.out⟩
  ·rw [if_neg c4] at H
   have c4b0 : (a0_1 == a1_1) = false := beq_eq_false_iff_ne.mpr c4
   have c4b1 : (a0_1 != a1_1) = true := bne_iff_ne.mpr c4
   obtain rfl := Option.some.inj H
   go_enter Try.func62, Try.ntmps62
   go_wp2_with (first | ((with_reducible refine gate_dst (N := 2) rfl ?_); refine box_event ?hg (N := 2) ?hd (cs := #[.int .i64 a0_0, .int .i64 a0_1, .string a0_2]) (t := 76) ?hr ?_; (case hd => rfl); (case hg => rfl); (case hr => first | (go_simp; done) | (go_simp; rfl)); intro gb230 hg w16 hbox hb; have n0_ := zm (below_step (zg_0 HB.out) hb); have n1_ := zm (hbox); have n2_ := zm ((by rw [hg]; exact (below_size (zg_0 HB.out)) : w.heap.size ≤ gb230)); have n3_ := zm ((by rw [hg]; exact (below_size (zg_0 HB.out)) : w.heap.size ≤ gb230)); clear HB; have HB := n0_; have Za := n1_; have Zg := n2_; have Zc := n3_; clear n0_ n1_ n2_ n3_; clear hb hbox hg) | ((with_reducible refine gate_dst (N := 3) rfl ?_); refine box_event ?hg (N := 3) ?hd (cs := #[.int .i64 a1_0, .int .i64 a1_1, .string a1_2]) (t := 76) ?hr ?_; (case hd => rfl); (case hg => rfl); (case hr => first | (go_simp; done) | (go_simp; rfl)); intro gb231 hg w17 hbox hb; have n0_ := zm (blk_below (g := gb230) (o := .cells #[.int .i64 a0_0, .int .i64 a0_1, .string a0_2] 76 (0, 0)) (zg_2 Za.out) hb); have n1_ := zm (below_step (zg_1 HB.out Zc.out) hb); have n2_ := zm (hbox); have n3_ := zm ((by rw [hg]; exact (below_size (zg_1 HB.out Zc.out)) : w.heap.size ≤ gb231)); have n4_ := zm ((by rw [hg]; exact (below_size (zg_1 HB.out Zc.out)) : w.heap.size ≤ gb231)); have n5_ := zm ((by rw [hg]; exact Nat.ne_of_lt (blk_lt (g := gb230) (o := .cells #[.int .i64 a0_0, .int .i64 a0_1, .string a0_2] 76 (0, 0)) (zg_2 Za.out)) : gb230 ≠ gb231)); have n6_ := zm ((by rw [hg]; exact Nat.ne_of_gt (blk_lt (g := gb230) (o := .cells #[.int .i64 a0_0, .int .i64 a0_1, .string a0_2] 76 (0, 0)) (zg_2 Za.out)) : gb231 ≠ gb230)); clear Za; clear HB; have Za := n0_; have HB := n1_; have Zb := n2_; have Zh := n3_; have Zf := n4_; have Zd := n5_; have Ze := n6_; clear n0_ n1_ n2_ n3_ n4_ n5_ n6_; clear hb hbox hg; have hnb18 := Zd.out; have hnc18 := Ze.out; have hcz19_0 : w17.cell? ⟨gb230, 0, none⟩ = some (.int .i64 a0_0) := (blk_cell Za.out 0).trans rfl; have hcz19_1 : w17.cell? ⟨gb230, 1, none⟩ = some (.int .i64 a0_1) := (blk_cell Za.out 1).trans rfl; have hcz19_2 : w17.cell? ⟨gb230, 2, none⟩ = some (.string a0_2) := (blk_cell Za.out 2).trans rfl; have hfz19_0 := blk_frozen Za.out 0; have hfz19_1 := blk_frozen Za.out 1; have hfz19_2 := blk_frozen Za.out 2; have hcz20_0 : w17.cell? ⟨gb231, 0, none⟩ = some (.int .i64 a1_0) := (blk_cell Zb.out 0).trans rfl; have hcz20_1 : w17.cell? ⟨gb231, 1, none⟩ = some (.int .i64 a1_1) := (blk_cell Zb.out 1).trans rfl; have hcz20_2 : w17.cell? ⟨gb231, 2, none⟩ = some (.string a1_2) := (blk_cell Zb.out 2).trans rfl; have hfz20_0 := blk_frozen Zb.out 0; have hfz20_1 := blk_frozen Zb.out 1; have hfz20_2 := blk_frozen Zb.out 2))
   go_ret
   exact ⟨by first | rfl | (simp [errW_none, errW_some] <;> rfl) | (simp [*, errW_none, errW_some] <;> rfl), zg_4 HB.out Zc.out Zf.out⟩
 ·rw [if_neg c3] at H
  have c3b0 : (a0_0 == a1_0) = false := beq_eq_false_iff_ne.mpr c3
  have c3b1 : (a0_0 != a1_0) = true := bne_iff_ne.mpr c3
  obtain rfl := Option.some.inj H
  go_enter Try.func62, Try.ntmps62
  go_wp2_with (first | ((with_reducible refine gate_dst (N := 2) rfl ?_); refine box_event ?hg (N := 2) ?hd (cs := #[.int .i64 a0_0, .int .i64 a0_1, .string a0_2]) (t := 76) ?hr ?_; (case hd => rfl); (case hg => rfl); (case hr => first | (go_simp; done) | (go_simp; rfl)); intro gb230 hg w21 hbox hb; have n0_ := zm (below_step (zg_0 HB.out) hb); have n1_ := zm (hbox); have n2_ := zm ((by rw [hg]; exact (below_size (zg_0 HB.out)) : w.heap.size ≤ gb230)); have n3_ := zm ((by rw [hg]; exact (below_size (zg_0 HB.out)) : w.heap.size ≤ gb230)); clear HB; have HB := n0_; have Za := n1_; have Zg := n2_; have Zc := n3_; clear n0_ n1_ n2_ n3_; clear hb hbox hg) | ((with_reducible refine gate_dst (N := 3) rfl ?_); refine box_event ?hg (N := 3) ?hd (cs := #[.int .i64 a1_0, .int .i64 a1_1, .string a1_2]) (t := 76) ?hr ?_; (case hd => rfl); (case hg => rfl); (case hr => first | (go_simp; done) | (go_simp; rfl)); intro gb231 hg w22 hbox hb; have n0_ := zm (blk_below (g := gb230) (o := .cells #[.int .i64 a0_0, .int .i64 a0_1, .string a0_2] 76 (0, 0)) (zg_2 Za.out) hb); have n1_ := zm (below_step (zg_1 HB.out Zc.out) hb); have n2_ := zm (hbox); have n3_ := zm ((by rw [hg]; exact (below_size (zg_1 HB.out Zc.out)) : w.heap.size ≤ gb231)); have n4_ := zm ((by rw [hg]; exact (below_size (zg_1 HB.out Zc.out)) : w.heap.size ≤ gb231)); have n5_ := zm ((by rw [hg]; exact Nat.ne_of_lt (blk_lt (g := gb230) (o := .cells #[.int .i64 a0_0, .int .i64 a0_1, .string a0_2] 76 (0, 0)) (zg_2 Za.out)) : gb230 ≠ gb231)); have n6_ := zm ((by rw [hg]; exact Nat.ne_of_gt (blk_lt (g := gb230) (o := .cells #[.int .i64 a0_0, .int .i64 a0_1, .string a0_2] 76 (0, 0)) (zg_2 Za.out)) : gb231 ≠ gb230)); clear Za; clear HB; have Za := n0_; have HB := n1_; have Zb := n2_; have Zh := n3_; have Zf := n4_; have Zd := n5_; have Ze := n6_; clear n0_ n1_ n2_ n3_ n4_ n5_ n6_; clear hb hbox hg; have hnb23 := Zd.out; have hnc23 := Ze.out; have hcz24_0 : w22.cell? ⟨gb230, 0, none⟩ = some (.int .i64 a0_0) := (blk_cell Za.out 0).trans rfl; have hcz24_1 : w22.cell? ⟨gb230, 1, none⟩ = some (.int .i64 a0_1) := (blk_cell Za.out 1).trans rfl; have hcz24_2 : w22.cell? ⟨gb230, 2, none⟩ = some (.string a0_2) := (blk_cell Za.out 2).trans rfl; have hfz24_0 := blk_frozen Za.out 0; have hfz24_1 := blk_frozen Za.out 1; have hfz24_2 := blk_frozen Za.out 2; have hcz25_0 : w22.cell? ⟨gb231, 0, none⟩ = some (.int .i64 a1_0) := (blk_cell Zb.out 0).trans rfl; have hcz25_1 : w22.cell? ⟨gb231, 1, none⟩ = some (.int .i64 a1_1) := (blk_cell Zb.out 1).trans rfl; have hcz25_2 : w22.cell? ⟨gb231, 2, none⟩ = some (.string a1_2) := (blk_cell Zb.out 2).trans rfl; have hfz25_0 := blk_frozen Zb.out 0; have hfz25_1 := blk_frozen Zb.out 1; have hfz25_2 := blk_frozen Zb.out 2))
  go_ret
  exact ⟨by first | rfl | (simp [errW_none, errW_some] <;> rfl) | (simp [*, errW_none, errW_some] <;> rfl), zg_4 HB.out Zc.out Zf.out⟩
/-! ### laws_eqIoS: function 37 -/
def laws_eqIoS.l0 : Nat → List (S76) → List (S76) → Int → Option (Bool)
  | 0, _, _, _ => none
  | k + 1, x0, x1, x5 => if x5 < (x0.length : Int) then (if 0 ≤ x5 then (if x5 < (x1.length : Int) then ((laws_eqIo.f ((rd_T76 x0 x5).f0) ((rd_T76 x0 x5).f1) ((rd_T76 x0 x5).f2) ((rd_T76 x1 x5).f0) ((rd_T76 x1 x5).f1) ((rd_T76 x1 x5).f2)).bind fun t234 => (if t234 = true then (laws_eqIoS.l0 k x0 x1 (wrap64 (x5 + 1))) else (some false))) else (none)) else (none)) else (some true)
def laws_eqIoS.f (k : Nat) (l0 : List (S76)) (l1 : List (S76)) : Option (Bool) := if (l0.length : Int) = (l1.length : Int) then (laws_eqIoS.l0 k l0 l1 0) else (some false)
theorem laws_eqIoS.mono_l : ∀ k, (∀ y0 y1 y2, LeO (laws_eqIoS.l0 k y0 y1 y2) (laws_eqIoS.l0 (k + 1) y0 y1 y2))
  | 0 => fun _ _ _ r h => by simp [laws_eqIoS.l0] at h
  | k + 1 => by
    have ih0 := laws_eqIoS.mono_l k
    · intro y0 y1 y2
      unfold laws_eqIoS.l0
      repeat' first
      | (with_reducible exact ih0 _ _ _)
      | (with_reducible exact LeO.refl _)
      | (with_reducible exact LeO.none _)
      | (with_reducible refine LeO.ite ?_ ?_)
      | (with_reducible refine LeO.bind ?_ (fun _ => ?_))
      | exact ih0 _ _ _
      | exact LeO.none _
      | refine LeO.ite ?_ ?_
      | refine LeO.bind ?_ (fun _ => ?_)
theorem laws_eqIoS.mono : ∀ a0 a1 k, LeO (laws_eqIoS.f k a0 a1) (laws_eqIoS.f (k + 1) a0 a1) := by
  intro a0 a1 k
  have ih0 := laws_eqIoS.mono_l k
  unfold laws_eqIoS.f
  repeat' first
      | (with_reducible exact ih0 _ _ _)
      | (with_reducible exact LeO.refl _)
      | (with_reducible exact LeO.none _)
      | (with_reducible refine LeO.ite ?_ ?_)
      | (with_reducible refine LeO.bind ?_ (fun _ => ?_))
      | exact ih0 _ _ _
      | exact LeO.none _
      | refine LeO.ite ?_ ?_
      | refine LeO.bind ?_ (fun _ => ?_)
def laws_eqIoS.T6 : Bool × List (List Nat × List Nat) := (true, [([], []), ([], []), ([0, 1], [0, 1]), ([2], [2]), ([], []), ([], []), ([4, 5], [4, 5]), ([6], [6]), ([3, 7], [3, 7]), ([8], [8])])
def laws_eqIoS.B6 : List Nat := [0, 0, 3, 7, 0, 0, 48, 112, 255, 511]
theorem laws_eqIoS.tab6 : rtab .any (opsOf Try.f37 6) = laws_eqIoS.T6 := by kernel_rfl
theorem laws_eqIoS.bits6 : waitsOk laws_eqIoS.T6.2 laws_eqIoS.B6 = true := by kernel_rfl
set_option maxHeartbeats 8000000 in
set_option maxRecDepth 100000 in
theorem laws_eqIoS.calls (k : Nat) (A0 : Option Addr) (c0 : Nat) (l0 : List (S76)) (A1 : Option Addr) (c1 : Nat) (l1 : List (S76)) (r : Bool) (w : World) (hr0 : Kd.C k76 w A0 l0.length l0) (hc0 : l0.length ≤ c0) (hr1 : Kd.C k76 w A1 l1.length l1) (hc1 : l1.length ≤ c1) (h : laws_eqIoS.f k l0 l1 = some r) :
    Calls Try.prog 37 #[.slice A0 l0.length c0, .slice A1 l1.length c1] w fun e w' => e = .returned (.bool r) ∧ Below w.heap.size w w' := by
 have hu76 := Try.underlying76
 have HR0 := zm hr0
 have HC0 := zm hc0
 clear hr0 hc0
 have HR1 := zm hr1
 have HC1 := zm hc1
 clear hr1 hc1
 have HB := zm (Below.refl w.heap.size w)
 have H : (if (l0.length : Int) = (l1.length : Int) then (laws_eqIoS.l0 k l0 l1 0) else (some false)) = some r := h
 clear h
 by_cases c3 : (l0.length : Int) = (l1.length : Int)
 ·rw [if_pos c3] at H
  have c3b0 : ((l0.length : Int) == (l1.length : Int)) = true := beq_iff_eq.mpr c3
  have c3b1 : ((l0.length : Int) != (l1.length : Int)) = false := bne_eq_false_iff_eq.mpr c3
  have c3b2 : (l0.length == l1.length) = true := by first | simpa using c3 | (simp at c3 ⊢; omega)
  clear c3
  have H' := zm H
  clear H
  go_enter Try.func37, Try.ntmps37
  go_wp2
  go_loopg [5] k (fun kq v5 w' => ∃ (x5_1 : Int), v5 = .int .i64 x5_1 ∧ Aside0 (laws_eqIoS.l0 kq l0 l1 x5_1 = some r) ∧ Aside0 (kq ≤ k) ∧ Aside0 (Below w.heap.size w w'))
  case atStart => exact ⟨(0), zr, H', ⟨Nat.le_refl _⟩, ⟨zg_0 HB.out⟩⟩
  case round =>
   clear H'
   try clear c1
   try clear p2
   try clear c3
   try clear c3b0
   try clear c3b1
   try clear c3b2
   obtain ⟨x5_1, rfl, HA, HK1, HB⟩ := hrel
   cases gk with
   | zero => exact absurd HA.out (by simp [laws_eqIoS.l0])
   | succ k1 =>
    have H := HA.out
    clear HA
    simp only [laws_eqIoS.l0] at H
    by_cases c4 : x5_1 < (l0.length : Int)
    ·rw [if_pos c4] at H
     have c4b0 : decide (x5_1 < (l0.length : Int)) = true := decide_eq_true c4
     clear c4
     by_cases c5 : 0 ≤ x5_1
     ·rw [if_pos c5] at H
      have c5b0 : decide (0 ≤ x5_1) = true := decide_eq_true c5
      clear c5
      by_cases c6 : x5_1 < (l1.length : Int)
      ·rw [if_pos c6] at H
       have c6b0 : decide (x5_1 < (l1.length : Int)) = true := decide_eq_true c6
       clear c6
       replace H := Option.bind_eq_some_iff.mp H
       obtain ⟨t234, A70, H⟩ := H
       replace H : (if t234 = true then (laws_eqIoS.l0 k1 l0 l1 (wrap64 (x5_1 + 1))) else (some false)) = some r := H
       have A7 := zm A70
       clear A70
       by_cases c8 : t234 = true
       ·subst c8
        have H1 : (laws_eqIoS.l0 k1 l0 l1 (wrap64 (x5_1 + 1))) = some r := by rw [if_pos rfl] at H; exact H
        clear H
        have H := H1
        clear H1
        have H' := zm H
        clear H
        try go_wp2
        have n0_ := zm (below_drew1 HB.out)
        clear HB
        have HB := n0_
        clear n0_
        have p232 : 0 ≤ (x5_1 : Int) := of_decide_eq_true (by first | (with_reducible assumption) | assumption)
        have q232 : x5_1 < (l0.length : Int) := of_decide_eq_true (by first | (with_reducible assumption) | assumption)
        obtain ⟨ad232, e232, hx232_0, hx232_1, hx232_2⟩ := at_T76 HR0.out x5_1 p232 q232
        have hw232_2 := hx232_2
        have hw232_1 := hx232_1
        have hw232_0 := hx232_0
        cases e232
        replace hx232_0 := (HB.out.cell (World.block_lt_of_cell? w _ hx232_0)).trans hx232_0
        replace hx232_1 := (HB.out.cell (World.block_lt_of_cell? w _ hx232_1)).trans hx232_1
        replace hx232_2 := (HB.out.cell (World.block_lt_of_cell? w _ hx232_2)).trans hx232_2
        replace p232 := eq_true p232
        replace q232 := eq_true q232
        have p233 : 0 ≤ (x5_1 : Int) := of_decide_eq_true (by first | (with_reducible assumption) | assumption)
        have q233 : x5_1 < (l1.length : Int) := of_decide_eq_true (by first | (with_reducible assumption) | assumption)
        obtain ⟨ad233, e233, hx233_0, hx233_1, hx233_2⟩ := at_T76 HR1.out x5_1 p233 q233
        have hw233_2 := hx233_2
        have hw233_1 := hx233_1
        have hw233_0 := hx233_0
        cases e233
        replace hx233_0 := (HB.out.cell (World.block_lt_of_cell? w _ hx233_0)).trans hx233_0
        replace hx233_1 := (HB.out.cell (World.block_lt_of_cell? w _ hx233_1)).trans hx233_1
        replace hx233_2 := (HB.out.cell (World.block_lt_of_cell? w _ hx233_2)).trans hx233_2
        replace p233 := eq_true p233
        replace q233 := eq_true q233
        refine start_ (n := 10) (S := fun w' => w'.cell? (ad232.add ((x5_1).toNat * 3)) = some (.int .i64 ((rd_T76 l0 x5_1).f0)) ∧ w'.cell? ⟨(ad232.add ((x5_1).toNat * 3)).block, (ad232.add ((x5_1).toNat * 3)).off + 1, none⟩ = some (.int .i64 ((rd_T76 l0 x5_1).f1)) ∧ w'.cell? ⟨(ad232.add ((x5_1).toNat * 3)).block, (ad232.add ((x5_1).toNat * 3)).off + 2, none⟩ = some (.string ((rd_T76 l0 x5_1).f2)) ∧ w'.cell? (ad233.add ((x5_1).toNat * 3)) = some (.int .i64 ((rd_T76 l1 x5_1).f0)) ∧ w'.cell? ⟨(ad233.add ((x5_1).toNat * 3)).block, (ad233.add ((x5_1).toNat * 3)).off + 1, none⟩ = some (.int .i64 ((rd_T76 l1 x5_1).f1)) ∧ w'.cell? ⟨(ad233.add ((x5_1).toNat * 3)).block, (ad233.add ((x5_1).toNat * 3)).off + 2, none⟩ = some (.string ((rd_T76 l1 x5_1).f2))) (ds := []) #[false, false, false, false, false, false, false, false, false, false] (by kernel_rfl) rfl rfl ⟨((HB.out.cell (World.block_lt_of_cell? w _ hw232_0)).trans hw232_0), ((HB.out.cell (World.block_lt_of_cell? w _ hw232_1)).trans hw232_1), ((HB.out.cell (World.block_lt_of_cell? w _ hw232_2)).trans hw232_2), ((HB.out.cell (World.block_lt_of_cell? w _ hw233_0)).trans hw233_0), ((HB.out.cell (World.block_lt_of_cell? w _ hw233_1)).trans hw233_1), ((HB.out.cell (World.block_lt_of_cell? w _ hw233_2)).trans hw233_2)⟩ (fun hHeld => ?_); refine with_tabW laws_eqIoS.tab6 laws_eqIoS.bits6 (fun HT_ HW_ => ?_)
        generalize wr.drew = w9 at HB hx232_0 hx232_1 hx232_2 hx233_0 hx233_1 hx233_2 hHeld ⊢
        refine pure_ (i := 0) (N := some 17) (v := ?_) (a' := ?_) #[true, false, false, false, false, false, false, false, false, false] rfl rfl (any_of HT_.out (by kernel_rfl)) (fun _ _ _ h => h) (Or.inl ⟨by rfl, ?_⟩) ?_ ?_
        rotate_left
        ·intro w'
         go_simp
         with_reducible rfl
        rotate_left
        ·simp only [Act.put, zs, zz, zt, i64_w, i32_w]
         rfl
        refine pure_ (i := 1) (N := some 18) (v := ?_) (a' := ?_) #[true, true, false, false, false, false, false, false, false, false] rfl rfl (any_of HT_.out (by kernel_rfl)) (fun _ _ _ h => h) (Or.inl ⟨by rfl, ?_⟩) ?_ ?_
        rotate_left
        ·intro w'
         go_simp
         with_reducible rfl
        rotate_left
        ·simp only [Act.put, zs, zz, zt, i64_w, i32_w]
         rfl
        refine pure_ (i := 2) (N := some 19) (v := ?_) (a' := ?_) #[true, true, true, false, false, false, false, false, false, false] rfl rfl (any_of HT_.out (by kernel_rfl)) (fun _ _ _ h => h) (Or.inl ⟨by rfl, ?_⟩) ?_ ?_
        rotate_left
        ·intro w'
         go_simp
         with_reducible rfl
        rotate_left
        ·simp only [Act.put, zs, zz, zt, i64_w, i32_w]
         rfl
        refine pure_ (i := 4) (N := some 21) (v := ?_) (a' := ?_) #[true, true, true, false, true, false, false, false, false, false] rfl rfl (any_of HT_.out (by kernel_rfl)) (fun _ _ _ h => h) (Or.inl ⟨by rfl, ?_⟩) ?_ ?_
        rotate_left
        ·intro w'
         go_simp
         with_reducible rfl
        rotate_left
        ·simp only [Act.put, zs, zz, zt, i64_w, i32_w]
         rfl
        refine pure_ (i := 5) (N := some 22) (v := ?_) (a' := ?_) #[true, true, true, false, true, true, false, false, false, false] rfl rfl (any_of HT_.out (by kernel_rfl)) (fun _ _ _ h => h) (Or.inl ⟨by rfl, ?_⟩) ?_ ?_
        rotate_left
        ·intro w'
         go_simp
         with_reducible rfl
        rotate_left
        ·simp only [Act.put, zs, zz, zt, i64_w, i32_w]
         rfl
        refine pure_ (i := 6) (N := some 23) (v := ?_) (a' := ?_) #[true, true, true, false, true, true, true, false, false, false] rfl rfl (any_of HT_.out (by kernel_rfl)) (fun _ _ _ h => h) (Or.inl ⟨by rfl, ?_⟩) ?_ ?_
        rotate_left
        ·intro w'
         go_simp
         with_reducible rfl
        rotate_left
        ·simp only [Act.put, zs, zz, zt, i64_w, i32_w]
         rfl
        refine take_ (i := 3) (N := some 20) (v := ?_) (a' := ?_) #[true, true, true, true, true, true, true, false, false, false] rfl rfl (take_ofW HT_.out HW_.out (by kernel_rfl)) (fun _ _ _ h => h) (Or.inl ⟨by rfl, ?_⟩) hHeld ?_ ?_
        rotate_left
        ·rintro w' ⟨s0, s1, s2, s3, s4, s5⟩
         go_simp
         with_reducible rfl
        rotate_left
        ·simp only [Act.put, zs, zz, zt, i64_w, i32_w]
         rfl
        refine take_ (i := 7) (N := some 24) (v := ?_) (a' := ?_) #[true, true, true, true, true, true, true, true, false, false] rfl rfl (take_ofW HT_.out HW_.out (by kernel_rfl)) (fun _ _ _ h => h) (Or.inl ⟨by rfl, ?_⟩) hHeld ?_ ?_
        rotate_left
        ·rintro w' ⟨s0, s1, s2, s3, s4, s5⟩
         go_simp
         with_reducible rfl
        rotate_left
        ·simp only [Act.put, zs, zz, zt, i64_w, i32_w]
         rfl
        refine one_ (i := 8) (N := some 25) #[true, true, true, true, true, true, true, true, true, false] rfl rfl (one_of HT_.out (by kernel_rfl)) (by decide) (fun K hK => ?_)
        refine goes_ Try.func62 (by kernel_rfl) rfl #[.agg #[.int .i64 ((rd_T76 l0 x5_1).f0), .int .i64 ((rd_T76 l0 x5_1).f1), .string ((rd_T76 l0 x5_1).f2)], .agg #[.int .i64 ((rd_T76 l1 x5_1).f0), .int .i64 ((rd_T76 l1 x5_1).f1), .string ((rd_T76 l1 x5_1).f2)]] (by rfl) rfl rfl zq ?_
        with_reducible refine (laws_eqIo.calls ((rd_T76 l0 x5_1).f0) ((rd_T76 l0 x5_1).f1) ((rd_T76 l0 x5_1).f2) ((rd_T76 l1 x5_1).f0) ((rd_T76 l1 x5_1).f1) ((rd_T76 l1 x5_1).f2) true _ A7.out).mono ?_
        rintro e w10 ⟨rfl, hb⟩
        refine ⟨_, rfl, ?_⟩
        have n0_ := zm (below_step (zg_0 HB.out) hb)
        clear HB
        have HB := n0_
        clear n0_
        (try clear hb)
        (try clear hb2)
        (try clear hk)
        (try clear hi)
        refine hK.out _ _ ⟨((HB.out.cell (World.block_lt_of_cell? w _ hw232_0)).trans hw232_0), ((HB.out.cell (World.block_lt_of_cell? w _ hw232_1)).trans hw232_1), ((HB.out.cell (World.block_lt_of_cell? w _ hw232_2)).trans hw232_2), ((HB.out.cell (World.block_lt_of_cell? w _ hw233_0)).trans hw233_0), ((HB.out.cell (World.block_lt_of_cell? w _ hw233_1)).trans hw233_1), ((HB.out.cell (World.block_lt_of_cell? w _ hw233_2)).trans hw233_2)⟩ (fun hHeld => ?_)
        clear hK K
        refine norm_ (a' := ?_) ?_ ?_
        rotate_left
        ·show Act.put _ (some 25) _ = _
         simp only [Act.put, zs, zz, zt, i64_w, i32_w]
         rfl
        refine pure_ (i := 9) (N := some 26) (v := ?_) (a' := ?_) #[true, true, true, true, true, true, true, true, true, true] rfl rfl (any_of HT_.out (by kernel_rfl)) (fun _ _ _ h => h) (Or.inl ⟨by rfl, ?_⟩) ?_ ?_
        rotate_left
        ·intro w'
         go_simp
         with_reducible rfl
        rotate_left
        ·simp only [Act.put, zs, zz, zt, i64_w, i32_w]
         rfl
        refine done_ (done_of HT_.out (by kernel_rfl)) ?_
        try go_wp2
        go_roundg k1
        case measure => have := HK1.out; omega
        case rel => exact ⟨(wrap64 (x5_1 + 1)), zr, H', ⟨by have := HK1.out; omega⟩, ⟨zg_0 HB.out⟩⟩
       ·replace c8 := Bool.eq_false_iff.mpr c8
        subst c8
        have H1 : (some false) = some r := by rw [if_neg (show ¬ (false = true) by decide)] at H; exact H
        clear H
        have H := H1
        clear H1
        obtain rfl := Option.some.inj H
        try go_wp2
        have n0_ := zm (below_drew1 HB.out)
        clear HB
        have HB := n0_
        clear n0_
        have p232 : 0 ≤ (x5_1 : Int) := of_decide_eq_true (by first | (with_reducible assumption) | assumption)
        have q232 : x5_1 < (l0.length : Int) := of_decide_eq_true (by first | (with_reducible assumption) | assumption)
        obtain ⟨ad232, e232, hx232_0, hx232_1, hx232_2⟩ := at_T76 HR0.out x5_1 p232 q232
        have hw232_2 := hx232_2
        have hw232_1 := hx232_1
        have hw232_0 := hx232_0
        cases e232
        replace hx232_0 := (HB.out.cell (World.block_lt_of_cell? w _ hx232_0)).trans hx232_0
        replace hx232_1 := (HB.out.cell (World.block_lt_of_cell? w _ hx232_1)).trans hx232_1
        replace hx232_2 := (HB.out.cell (World.block_lt_of_cell? w _ hx232_2)).trans hx232_2
        replace p232 := eq_true p232
        replace q232 := eq_true q232
        have p233 : 0 ≤ (x5_1 : Int) := of_decide_eq_true (by first | (with_reducible assumption) | assumption)
        have q233 : x5_1 < (l1.length : Int) := of_decide_eq_true (by first | (with_reducible assumption) | assumption)
        obtain ⟨ad233, e233, hx233_0, hx233_1, hx233_2⟩ := at_T76 HR1.out x5_1 p233 q233
        have hw233_2 := hx233_2
        have hw233_1 := hx233_1
        have hw233_0 := hx233_0
        cases e233
        replace hx233_0 := (HB.out.cell (World.block_lt_of_cell? w _ hx233_0)).trans hx233_0
        replace hx233_1 := (HB.out.cell (World.block_lt_of_cell? w _ hx233_1)).trans hx233_1
        replace hx233_2 := (HB.out.cell (World.block_lt_of_cell? w _ hx233_2)).trans hx233_2
        replace p233 := eq_true p233
        replace q233 := eq_true q233
        refine start_ (n := 10) (S := fun w' => w'.cell? (ad232.add ((x5_1).toNat * 3)) = some (.int .i64 ((rd_T76 l0 x5_1).f0)) ∧ w'.cell? ⟨(ad232.add ((x5_1).toNat * 3)).block, (ad232.add ((x5_1).toNat * 3)).off + 1, none⟩ = some (.int .i64 ((rd_T76 l0 x5_1).f1)) ∧ w'.cell? ⟨(ad232.add ((x5_1).toNat * 3)).block, (ad232.add ((x5_1).toNat * 3)).off + 2, none⟩ = some (.string ((rd_T76 l0 x5_1).f2)) ∧ w'.cell? (ad233.add ((x5_1).toNat * 3)) = some (.int .i64 ((rd_T76 l1 x5_1).f0)) ∧ w'.cell? ⟨(ad233.add ((x5_1).toNat * 3)).block, (ad233.add ((x5_1).toNat * 3)).off + 1, none⟩ = some (.int .i64 ((rd_T76 l1 x5_1).f1)) ∧ w'.cell? ⟨(ad233.add ((x5_1).toNat * 3)).block, (ad233.add ((x5_1).toNat * 3)).off + 2, none⟩ = some (.string ((rd_T76 l1 x5_1).f2))) (ds := []) #[false, false, false, false, false, false, false, false, false, false] (by kernel_rfl) rfl rfl ⟨((HB.out.cell (World.block_lt_of_cell? w _ hw232_0)).trans hw232_0), ((HB.out.cell (World.block_lt_of_cell? w _ hw232_1)).trans hw232_1), ((HB.out.cell (World.block_lt_of_cell? w _ hw232_2)).trans hw232_2), ((HB.out.cell (World.block_lt_of_cell? w _ hw233_0)).trans hw233_0), ((HB.out.cell (World.block_lt_of_cell? w _ hw233_1)).trans hw233_1), ((HB.out.cell (World.block_lt_of_cell? w _ hw233_2)).trans hw233_2)⟩ (fun hHeld => ?_); refine with_tabW laws_eqIoS.tab6 laws_eqIoS.bits6 (fun HT_ HW_ => ?_)
        generalize wr.drew = w11 at HB hx232_0 hx232_1 hx232_2 hx233_0 hx233_1 hx233_2 hHeld ⊢
        refine pure_ (i := 0) (N := some 17) (v := ?_) (a' := ?_) #[true, false, false, false, false, false, false, false, false, false] rfl rfl (any_of HT_.out (by kernel_rfl)) (fun _ _ _ h => h) (Or.inl ⟨by rfl, ?_⟩) ?_ ?_
        rotate_left
        ·intro w'
         go_simp
         with_reducible rfl
        rotate_left
        ·simp only [Act.put, zs, zz, zt, i64_w, i32_w]
         rfl
        refine pure_ (i := 1) (N := some 18) (v := ?_) (a' := ?_) #[true, true, false, false, false, false, false, false, false, false] rfl rfl (any_of HT_.out (by kernel_rfl)) (fun _ _ _ h => h) (Or.inl ⟨by rfl, ?_⟩) ?_ ?_
        rotate_left
        ·intro w'
         go_simp
         with_reducible rfl
        rotate_left
        ·simp only [Act.put, zs, zz, zt, i64_w, i32_w]
         rfl
        refine pure_ (i := 2) (N := some 19) (v := ?_) (a' := ?_) #[true, true, true, false, false, false, false, false, false, false] rfl rfl (any_of HT_.out (by kernel_rfl)) (fun _ _ _ h => h) (Or.inl ⟨by rfl, ?_⟩) ?_ ?_
        rotate_left
        ·intro w'
         go_simp
         with_reducible rfl
        rotate_left
        ·simp only [Act.put, zs, zz, zt, i64_w, i32_w]
         rfl
        refine pure_ (i := 4) (N := some 21) (v := ?_) (a' := ?_) #[true, true, true, false, true, false, false, false, false, false] rfl rfl (any_of HT_.out (by kernel_rfl)) (fun _ _ _ h => h) (Or.inl ⟨by rfl, ?_⟩) ?_ ?_
        rotate_left
        ·intro w'
         go_simp
         with_reducible rfl
        rotate_left
        ·simp only [Act.put, zs, zz, zt, i64_w, i32_w]
         rfl
        refine pure_ (i := 5) (N := some 22) (v := ?_) (a' := ?_) #[true, true, true, false, true, true, false, false, false, false] rfl rfl (any_of HT_.out (by kernel_rfl)) (fun _ _ _ h => h) (Or.inl ⟨by rfl, ?_⟩) ?_ ?_
        rotate_left
        ·intro w'
         go_simp
         with_reducible rfl
        rotate_left
        ·simp only [Act.put, zs, zz, zt, i64_w, i32_w]
         rfl
        refine pure_ (i := 6) (N := some 23) (v := ?_) (a' := ?_) #[true, true, true, false, true, true, true, false, false, false] rfl rfl (any_of HT_.out (by kernel_rfl)) (fun _ _ _ h => h) (Or.inl ⟨by rfl, ?_⟩) ?_ ?_
        rotate_left
        ·intro w'
         go_simp
         with_reducible rfl
        rotate_left
        ·simp only [Act.put, zs, zz, zt, i64_w, i32_w]
         rfl
        refine take_ (i := 3) (N := some 20) (v := ?_) (a' := ?_) #[true, true, true, true, true, true, true, false, false, false] rfl rfl (take_ofW HT_.out HW_.out (by kernel_rfl)) (fun _ _ _ h => h) (Or.inl ⟨by rfl, ?_⟩) hHeld ?_ ?_
        rotate_left
        ·rintro w' ⟨s0, s1, s2, s3, s4, s5⟩
         go_simp
         with_reducible rfl
        rotate_left
        ·simp only [Act.put, zs, zz, zt, i64_w, i32_w]
         rfl
        refine take_ (i := 7) (N := some 24) (v := ?_) (a' := ?_) #[true, true, true, true, true, true, true, true, false, false] rfl rfl (take_ofW HT_.out HW_.out (by kernel_rfl)) (fun _ _ _ h => h) (Or.inl ⟨by rfl, ?_⟩) hHeld ?_ ?_
        rotate_left
        ·rintro w' ⟨s0, s1, s2, s3, s4, s5⟩
         go_simp
         with_reducible rfl
        rotate_left
        ·simp only [Act.put, zs, zz, zt, i64_w, i32_w]
         rfl
        refine one_ (i := 8) (N := some 25) #[true, true, true, true, true, true, true, true, true, false] rfl rfl (one_of HT_.out (by kernel_rfl)) (by decide) (fun K hK => ?_)
        refine goes_ Try.func62 (by kernel_rfl) rfl #[.agg #[.int .i64 ((rd_T76 l0 x5_1).f0), .int .i64 ((rd_T76 l0 x5_1).f1), .string ((rd_T76 l0 x5_1).f2)], .agg #[.int .i64 ((rd_T76 l1 x5_1).f0), .int .i64 ((rd_T76 l1 x5_1).f1), .string ((rd_T76 l1 x5_1).f2)]] (by rfl) rfl rfl zq ?_
        with_reducible refine (laws_eqIo.calls ((rd_T76 l0 x5_1).f0) ((rd_T76 l0 x5_1).f1) ((rd_T76 l0 x5_1).f2) ((rd_T76 l1 x5_1).f0) ((rd_T76 l1 x5_1).f1) ((rd_T76 l1 x5_1).f2) false _ A7.out).mono ?_
        rintro e w12 ⟨rfl, hb⟩
        refine ⟨_, rfl, ?_⟩
        have n0_ := zm (below_step (zg_0 HB.out) hb)
        clear HB
        have HB := n0_
        clear n0_
        (try clear hb)
        (try clear hb2)
        (try clear hk)
        (try clear hi)
        refine hK.out _ _ ⟨((HB.out.cell (World.block_lt_of_cell? w _ hw232_0)).trans hw232_0), ((HB.out.cell (World.block_lt_of_cell? w _ hw232_1)).trans hw232_1), ((HB.out.cell (World.block_lt_of_cell? w _ hw232_2)).trans hw232_2), ((HB.out.cell (World.block_lt_of_cell? w _ hw233_0)).trans hw233_0), ((HB.out.cell (World.block_lt_of_cell? w _ hw233_1)).trans hw233_1), ((HB.out.cell (World.block_lt_of_cell? w _ hw233_2)).trans hw233_2)⟩ (fun hHeld => ?_)
        clear hK K
        refine norm_ (a' := ?_) ?_ ?_
        rotate_left
        ·show Act.put _ (some 25) _ = _
         simp only [Act.put, zs, zz, zt, i64_w, i32_w]
         rfl
        refine pure_ (i := 9) (N := some 26) (v := ?_) (a' := ?_) #[true, true, true, true, true, true, true, true, true, true] rfl rfl (any_of HT_.out (by kernel_rfl)) (fun _ _ _ h => h) (Or.inl ⟨by rfl, ?_⟩) ?_ ?_
        rotate_left
        ·intro w'
         go_simp
         with_reducible rfl
        rotate_left
        ·simp only [Act.put, zs, zz, zt, i64_w, i32_w]
         rfl
        refine done_ (done_of HT_.out (by kernel_rfl)) ?_
        try go_wp2
        go_ret
        exact ⟨by first | rfl | (simp [errW_none, errW_some] <;> rfl) | (simp [*, errW_none, errW_some] <;> rfl), zg_0 HB.out⟩
      ·rw [if_neg c6] at H
       exact absurd H (by simp)
     ·rw [if_neg c5] at H
      exact absurd H (by simp)
    ·rw [if_neg c4] at H
     have c4b0 : decide (x5_1 < (l0.length : Int)) = false := decide_eq_false c4
     clear c4
     obtain rfl := Option.some.inj H
     go_wp2
     go_ret
     exact ⟨by first | rfl | (simp [errW_none, errW_some] <;> rfl) | (simp [*, errW_none, errW_some] <;> rfl), zg_0 HB.out⟩
 ·rw [if_neg c3] at H
  have c3b0 : ((l0.length : Int) == (l1.length : Int)) = false := beq_eq_false_iff_ne.mpr c3
  have c3b1 : ((l0.length : Int) != (l1.length : Int)) = true := bne_iff_ne.mpr c3
  have c3b2 : (l0.length == l1.length) = false := by first | simpa using c3 | (simp at c3 ⊢; omega)
  obtain rfl := Option.some.inj H
  go_enter Try.func37, Try.ntmps37
  go_wp2
  go_ret
  exact ⟨by first | rfl | (simp [errW_none, errW_some] <;> rfl) | (simp [*, errW_none, errW_some] <;> rfl), zg_0 HB.out⟩
/-! ### laws_eqStringS: function 36 -/
def laws_eqStringS.l0 : Nat → List ByteArray → List ByteArray → Int → Option (Bool)
  | 0, _, _, _ => none
  | k + 1, x0, x1, x5 => if x5 < (x0.length : Int) then (if 0 ≤ x5 then (if x5 < (x1.length : Int) then (if (rdOf ByteArray.empty x0 x5).toList = (rdOf ByteArray.empty x1 x5).toList then (laws_eqStringS.l0 k x0 x1 (wrap64 (x5 + 1))) else (some false)) else (none)) else (none)) else (some true)
def laws_eqStringS.f (k : Nat) (l0 : List ByteArray) (l1 : List ByteArray) : Option (Bool) := if (l0.length : Int) = (l1.length : Int) then (laws_eqStringS.l0 k l0 l1 0) else (some false)
theorem laws_eqStringS.mono_l : ∀ k, (∀ y0 y1 y2, LeO (laws_eqStringS.l0 k y0 y1 y2) (laws_eqStringS.l0 (k + 1) y0 y1 y2))
  | 0 => fun _ _ _ r h => by simp [laws_eqStringS.l0] at h
  | k + 1 => by
    have ih0 := laws_eqStringS.mono_l k
    · intro y0 y1 y2
      unfold laws_eqStringS.l0
      repeat' first
      | (with_reducible exact ih0 _ _ _)
      | (with_reducible exact LeO.refl _)
      | (with_reducible exact LeO.none _)
      | (with_reducible refine LeO.ite ?_ ?_)
      | (with_reducible refine LeO.bind ?_ (fun _ => ?_))
      | exact ih0 _ _ _
      | exact LeO.none _
      | refine LeO.ite ?_ ?_
      | refine LeO.bind ?_ (fun _ => ?_)
theorem laws_eqStringS.mono : ∀ a0 a1 k, LeO (laws_eqStringS.f k a0 a1) (laws_eqStringS.f (k + 1) a0 a1) := by
  intro a0 a1 k
  have ih0 := laws_eqStringS.mono_l k
  unfold laws_eqStringS.f
  repeat' first
      | (with_reducible exact ih0 _ _ _)
      | (with_reducible exact LeO.refl _)
      | (with_reducible exact LeO.none _)
      | (with_reducible refine LeO.ite ?_ ?_)
      | (with_reducible refine LeO.bind ?_ (fun _ => ?_))
      | exact ih0 _ _ _
      | exact LeO.none _
      | refine LeO.ite ?_ ?_
      | refine LeO.bind ?_ (fun _ => ?_)
set_option maxHeartbeats 8000000 in
set_option maxRecDepth 100000 in
theorem laws_eqStringS.calls (k : Nat) (A0 : Option Addr) (c0 : Nat) (l0 : List ByteArray) (A1 : Option Addr) (c1 : Nat) (l1 : List ByteArray) (r : Bool) (w : World) (hr0 : Kd.C Kd.string w A0 l0.length l0) (hc0 : l0.length ≤ c0) (hr1 : Kd.C Kd.string w A1 l1.length l1) (hc1 : l1.length ≤ c1) (h : laws_eqStringS.f k l0 l1 = some r) :
    Calls Try.prog 36 #[.slice A0 l0.length c0, .slice A1 l1.length c1] w fun e w' => e = .returned (.bool r) ∧ Drawn0 w w' := by
 have HR0 := zm hr0
 have HC0 := zm hc0
 clear hr0 hc0
 have HR1 := zm hr1
 have HC1 := zm hc1
 clear hr1 hc1
 have H : (if (l0.length : Int) = (l1.length : Int) then (laws_eqStringS.l0 k l0 l1 0) else (some false)) = some r := h
 clear h
 by_cases c3 : (l0.length : Int) = (l1.length : Int)
 ·rw [if_pos c3] at H
  have c3b0 : ((l0.length : Int) == (l1.length : Int)) = true := beq_iff_eq.mpr c3
  have c3b1 : ((l0.length : Int) != (l1.length : Int)) = false := bne_eq_false_iff_eq.mpr c3
  have c3b2 : (l0.length == l1.length) = true := by first | simpa using c3 | (simp at c3 ⊢; omega)
  clear c3
  have H' := zm H
  clear H
  go_enter Try.func36, Try.ntmps36
  go_wp2
  repeat (go_quiet (fail); try go_wp2)
  go_loopg [5] k (fun kq v5 w' => ∃ (x5_1 : Int), v5 = .int .i64 x5_1 ∧ Aside0 (laws_eqStringS.l0 kq l0 l1 x5_1 = some r) ∧ Aside0 (kq ≤ k) ∧ Drawn0 w w')
  case atStart => exact ⟨(0), zr, H', ⟨Nat.le_refl _⟩, by repeat (first | exact Drawn0.refl _ | apply Drawn0.step)⟩
  case round =>
   clear H'
   try clear c1
   try clear p2
   try clear c3
   try clear c3b0
   try clear c3b1
   try clear c3b2
   obtain ⟨x5_1, rfl, HA, HK1, ⟨m1, rfl⟩⟩ := hrel
   cases gk with
   | zero => exact absurd HA.out (by simp [laws_eqStringS.l0])
   | succ k1 =>
    have H := HA.out
    clear HA
    simp only [laws_eqStringS.l0] at H
    by_cases c4 : x5_1 < (l0.length : Int)
    ·rw [if_pos c4] at H
     have c4b0 : decide (x5_1 < (l0.length : Int)) = true := decide_eq_true c4
     clear c4
     by_cases c5 : 0 ≤ x5_1
     ·rw [if_pos c5] at H
      have c5b0 : decide (0 ≤ x5_1) = true := decide_eq_true c5
      clear c5
      by_cases c6 : x5_1 < (l1.length : Int)
      ·rw [if_pos c6] at H
       have c6b0 : decide (x5_1 < (l1.length : Int)) = true := decide_eq_true c6
       clear c6
       by_cases c7 : (rdOf ByteArray.empty l0 x5_1).toList = (rdOf ByteArray.empty l1 x5_1).toList
       ·rw [if_pos c7] at H
        have c7b0 : ((rdOf ByteArray.empty l0 x5_1).toList == (rdOf ByteArray.empty l1 x5_1).toList) = true := beq_iff_eq.mpr c7
        have c7b1 : ((rdOf ByteArray.empty l0 x5_1).toList != (rdOf ByteArray.empty l1 x5_1).toList) = false := bne_eq_false_iff_eq.mpr c7
        clear c7
        have H' := zm H
        clear H
        have p228 : 0 ≤ (x5_1 : Int) := of_decide_eq_true (by first | (with_reducible assumption) | assumption)
        have q228 : x5_1 < (l0.length : Int) := of_decide_eq_true (by first | (with_reducible assumption) | assumption)
        obtain ⟨ad228, e228, hx228_0⟩ := Kd.at_string HR0.out x5_1 p228 q228
        cases e228
        replace p228 := eq_true p228
        replace q228 := eq_true q228
        have p229 : 0 ≤ (x5_1 : Int) := of_decide_eq_true (by first | (with_reducible assumption) | assumption)
        have q229 : x5_1 < (l1.length : Int) := of_decide_eq_true (by first | (with_reducible assumption) | assumption)
        obtain ⟨ad229, e229, hx229_0⟩ := Kd.at_string HR1.out x5_1 p229 q229
        cases e229
        replace p229 := eq_true p229
        replace q229 := eq_true q229
        go_wp2
        repeat (go_quiet (fail); try go_wp2)
        go_roundg k1
        case measure => have := HK1.out; omega
        case rel => exact ⟨(wrap64 (x5_1 + 1)), zr, H', ⟨by have := HK1.out; omega⟩, by repeat (first | exact Drawn0.refl _ | apply Drawn0.step)⟩
       ·rw [if_neg c7] at H
        have c7b0 : ((rdOf ByteArray.empty l0 x5_1).toList == (rdOf ByteArray.empty l1 x5_1).toList) = false := beq_eq_false_iff_ne.mpr c7
        have c7b1 : ((rdOf ByteArray.empty l0 x5_1).toList != (rdOf ByteArray.empty l1 x5_1).toList) = true := bne_iff_ne.mpr c7
        obtain rfl := Option.some.inj H
        have p228 : 0 ≤ (x5_1 : Int) := of_decide_eq_true (by first | (with_reducible assumption) | assumption)
        have q228 : x5_1 < (l0.length : Int) := of_decide_eq_true (by first | (with_reducible assumption) | assumption)
        obtain ⟨ad228, e228, hx228_0⟩ := Kd.at_string HR0.out x5_1 p228 q228
        cases e228
        replace p228 := eq_true p228
        replace q228 := eq_true q228
        have p229 : 0 ≤ (x5_1 : Int) := of_decide_eq_true (by first | (with_reducible assumption) | assumption)
        have q229 : x5_1 < (l1.length : Int) := of_decide_eq_true (by first | (with_reducible assumption) | assumption)
        obtain ⟨ad229, e229, hx229_0⟩ := Kd.at_string HR1.out x5_1 p229 q229
        cases e229
        replace p229 := eq_true p229
        replace q229 := eq_true q229
        go_wp2
        repeat (go_quiet (fail); try go_wp2)
        go_ret
        exact ⟨zr, by repeat (first | exact Drawn0.refl _ | apply Drawn0.step)⟩
      ·rw [if_neg c6] at H
       exact absurd H (by simp)
     ·rw [if_neg c5] at H
      exact absurd H (by simp)
    ·rw [if_neg c4] at H
     have c4b0 : decide (x5_1 < (l0.length : Int)) = false := decide_eq_false c4
     clear c4
     obtain rfl := Option.some.inj H
     go_wp2
     repeat (go_quiet (fail); try go_wp2)
     go_ret
     exact ⟨zr, by repeat (first | exact Drawn0.refl _ | apply Drawn0.step)⟩
 ·rw [if_neg c3] at H
  have c3b0 : ((l0.length : Int) == (l1.length : Int)) = false := beq_eq_false_iff_ne.mpr c3
  have c3b1 : ((l0.length : Int) != (l1.length : Int)) = true := bne_iff_ne.mpr c3
  have c3b2 : (l0.length == l1.length) = false := by first | simpa using c3 | (simp at c3 ⊢; omega)
  obtain rfl := Option.some.inj H
  go_enter Try.func36, Try.ntmps36
  go_wp2
  repeat (go_quiet (fail); try go_wp2)
  go_ret
  exact ⟨zr, by repeat (first | exact Drawn0.refl _ | apply Drawn0.step)⟩
/-! ### laws_eqDisk: function 13 -/
def laws_eqDisk.f (k : Nat) (l0_0 : List ByteArray) (l0_1 : List (S76)) (l1_0 : List ByteArray) (l1_1 : List (S76)) : Option (Bool) := (laws_eqStringS.f k l0_0 l1_0).bind fun t237 => (if t237 = true then ((laws_eqIoS.f k l0_1 l1_1).bind fun t238 => (if t238 = true then (some true) else (some false))) else (some false))
theorem laws_eqDisk.mono : ∀ a0 a1 a2 a3 k, LeO (laws_eqDisk.f k a0 a1 a2 a3) (laws_eqDisk.f (k + 1) a0 a1 a2 a3) := by
  intro a0 a1 a2 a3 k
  unfold laws_eqDisk.f
  repeat' first
      | (with_reducible exact laws_eqIoS.mono _ _ _)
      | (with_reducible exact laws_eqStringS.mono _ _ _)
      | (with_reducible exact LeO.refl _)
      | (with_reducible exact LeO.none _)
      | (with_reducible refine LeO.ite ?_ ?_)
      | (with_reducible refine LeO.bind ?_ (fun _ => ?_))
      | exact laws_eqIoS.mono _ _ _
      | exact laws_eqStringS.mono _ _ _
      | exact LeO.none _
      | refine LeO.ite ?_ ?_
      | refine LeO.bind ?_ (fun _ => ?_)
set_option maxHeartbeats 8000000 in
set_option maxRecDepth 100000 in
theorem laws_eqDisk.calls (k : Nat) (A0_0 : Option Addr) (c0_0 : Nat) (l0_0 : List ByteArray) (A0_1 : Option Addr) (c0_1 : Nat) (l0_1 : List (S76)) (A1_0 : Option Addr) (c1_0 : Nat) (l1_0 : List ByteArray) (A1_1 : Option Addr) (c1_1 : Nat) (l1_1 : List (S76)) (r : Bool) (w : World) (hr0_0 : Kd.C Kd.string w A0_0 l0_0.length l0_0) (hc0_0 : l0_0.length ≤ c0_0) (hr0_1 : Kd.C k76 w A0_1 l0_1.length l0_1) (hc0_1 : l0_1.length ≤ c0_1) (hr1_0 : Kd.C Kd.string w A1_0 l1_0.length l1_0) (hc1_0 : l1_0.length ≤ c1_0) (hr1_1 : Kd.C k76 w A1_1 l1_1.length l1_1) (hc1_1 : l1_1.length ≤ c1_1) (h : laws_eqDisk.f k l0_0 l0_1 l1_0 l1_1 = some r) :
    Calls Try.prog 13 #[.agg #[.slice A0_0 l0_0.length c0_0, .slice A0_1 l0_1.length c0_1], .agg #[.slice A1_0 l1_0.length c1_0, .slice A1_1 l1_1.length c1_1]] w fun e w' => e = .returned (.bool r) ∧ Below w.heap.size w w' := by
 have hu29 := Try.underlying29
 have Zg := zm hr0_0
 have Zh := zm hc0_0
 clear hr0_0 hc0_0
 have Zk := zm hr0_1
 have Zl := zm hc0_1
 clear hr0_1 hc0_1
 have Zi := zm hr1_0
 have Zj := zm hc1_0
 clear hr1_0 hc1_0
 have Zm := zm hr1_1
 have Zn := zm hc1_1
 clear hr1_1 hc1_1
 have HB := zm (Below.refl w.heap.size w)
 have H : ((laws_eqStringS.f k l0_0 l1_0).bind fun t237 => (if t237 = true then ((laws_eqIoS.f k l0_1 l1_1).bind fun t238 => (if t238 = true then (some true) else (some false))) else (some false))) = some r := h
 clear h
 replace H := Option.bind_eq_some_iff.mp H
 obtain ⟨t237, A30, H⟩ := H
 replace H : (if t237 = true then ((laws_eqIoS.f k l0_1 l1_1).bind fun t238 => (if t238 = true then (some true) else (some false))) else (some false)) = some r := H
 have A3 := zm A30
 clear A30
 by_cases c4 : t237 = true
 ·subst c4
  have H1 : ((laws_eqIoS.f k l0_1 l1_1).bind fun t238 => (if t238 = true then (some true) else (some false))) = some r := by rw [if_pos rfl] at H; exact H
  clear H
  have H := H1
  clear H1
  replace H := Option.bind_eq_some_iff.mp H
  obtain ⟨t238, A50, H⟩ := H
  replace H : (if t238 = true then (some true) else (some false)) = some r := H
  have A5 := zm A50
  clear A50
  by_cases c6 : t238 = true
  ·subst c6
   have H1 : (some true) = some r := by rw [if_pos rfl] at H; exact H
   clear H
   have H := H1
   clear H1
   obtain rfl := Option.some.inj H
   go_enter Try.func13, Try.ntmps13
   go_wp2_with (first | ((with_reducible refine gate_dst (N := 2) rfl ?_); refine box_event ?hg (N := 2) ?hd (cs := #[.slice A0_0 l0_0.length c0_0, .slice A0_1 l0_1.length c0_1]) (t := 29) ?hr ?_; (case hd => rfl); (case hg => rfl); (case hr => first | (go_simp; done) | (go_simp; rfl)); intro gb235 hg w7 hbox hb; have n0_ := zm (below_step (zg_0 HB.out) hb); have n1_ := zm (hbox); have n2_ := zm ((by rw [hg]; exact (below_size (zg_0 HB.out)) : w.heap.size ≤ gb235)); have n3_ := zm ((by rw [hg]; exact (below_size (zg_0 HB.out)) : w.heap.size ≤ gb235)); clear HB; have HB := n0_; have Za := n1_; have Zo := n2_; have Zb := n3_; clear n0_ n1_ n2_ n3_; clear hb hbox hg) | ((with_reducible refine gate_dst (N := 3) rfl ?_); refine box_event ?hg (N := 3) ?hd (cs := #[.slice A1_0 l1_0.length c1_0, .slice A1_1 l1_1.length c1_1]) (t := 29) ?hr ?_; (case hd => rfl); (case hg => rfl); (case hr => first | (go_simp; done) | (go_simp; rfl)); intro gb236 hg w8 hbox hb; have n0_ := zm (blk_below (g := gb235) (o := .cells #[.slice A0_0 l0_0.length c0_0, .slice A0_1 l0_1.length c0_1] 29 (0, 0)) (zg_2 Za.out) hb); have n1_ := zm (below_step (zg_1 HB.out Zb.out) hb); have n2_ := zm (hbox); have n3_ := zm ((by rw [hg]; exact (below_size (zg_1 HB.out Zb.out)) : w.heap.size ≤ gb236)); have n4_ := zm ((by rw [hg]; exact (below_size (zg_1 HB.out Zb.out)) : w.heap.size ≤ gb236)); have n5_ := zm ((by rw [hg]; exact Nat.ne_of_lt (blk_lt (g := gb235) (o := .cells #[.slice A0_0 l0_0.length c0_0, .slice A0_1 l0_1.length c0_1] 29 (0, 0)) (zg_2 Za.out)) : gb235 ≠ gb236)); have n6_ := zm ((by rw [hg]; exact Nat.ne_of_gt (blk_lt (g := gb235) (o := .cells #[.slice A0_0 l0_0.length c0_0, .slice A0_1 l0_1.length c0_1] 29 (0, 0)) (zg_2 Za.out)) : gb236 ≠ gb235)); clear Za; clear HB; have Za := n0_; have HB := n1_; have Zc := n2_; have Zp := n3_; have Zf := n4_; have Zd := n5_; have Ze := n6_; clear n0_ n1_ n2_ n3_ n4_ n5_ n6_; clear hb hbox hg; have hnb9 := Zd.out; have hnc9 := Ze.out; have hcz10_0 : w8.cell? ⟨gb235, 0, none⟩ = some (.slice A0_0 l0_0.length c0_0) := (blk_cell Za.out 0).trans rfl; have hcz10_1 : w8.cell? ⟨gb235, 1, none⟩ = some (.slice A0_1 l0_1.length c0_1) := (blk_cell Za.out 1).trans rfl; have hfz10_0 := blk_frozen Za.out 0; have hfz10_1 := blk_frozen Za.out 1; have hcz11_0 : w8.cell? ⟨gb236, 0, none⟩ = some (.slice A1_0 l1_0.length c1_0) := (blk_cell Zc.out 0).trans rfl; have hcz11_1 : w8.cell? ⟨gb236, 1, none⟩ = some (.slice A1_1 l1_1.length c1_1) := (blk_cell Zc.out 1).trans rfl; have hfz11_0 := blk_frozen Zc.out 0; have hfz11_1 := blk_frozen Zc.out 1) | ((with_reducible refine gate_callee (f := 36) rfl ?_); refine goesL_ (some 9) rfl rfl Try.func36 (by kernel_rfl) rfl #[.slice A0_0 l0_0.length c0_0, .slice A1_0 l1_0.length c1_0] rfl zq ?_; (with_reducible refine (laws_eqStringS.calls k _ _ l0_0 _ _ l1_0 true _ ?side1 ?side2 ?side3 ?side4 A3.out).mono ?_); (case side1 => repeat (first | exact (Kd.C_below Zg.out HB.out) | (with_reducible refine Kd.C_alloc ?_ _) | (with_reducible refine Kd.C_drewN ?_ _) | (with_reducible refine Kd.C_drew ?_))); (case side2 => exact Zh.out); (case side3 => repeat (first | exact (Kd.C_below Zi.out HB.out) | (with_reducible refine Kd.C_alloc ?_ _) | (with_reducible refine Kd.C_drewN ?_ _) | (with_reducible refine Kd.C_drew ?_))); (case side4 => exact Zj.out); rintro e w' ⟨rfl, ⟨nd, rfl⟩⟩; refine ⟨_, rfl, ?_⟩) | ((with_reducible refine gate_callee (f := 37) rfl ?_); refine goesL_ (some 15) rfl rfl Try.func37 (by kernel_rfl) rfl #[.slice A0_1 l0_1.length c0_1, .slice A1_1 l1_1.length c1_1] rfl zq ?_; (with_reducible refine (laws_eqIoS.calls k _ _ l0_1 _ _ l1_1 true _ ?side1 ?side2 ?side3 ?side4 A5.out).mono ?_); (case side1 => repeat (first | exact (Kd.C_below Zk.out (zg_4 HB.out Zb.out Zf.out)) | (with_reducible refine Kd.C_alloc ?_ _) | (with_reducible refine Kd.C_drewN ?_ _) | (with_reducible refine Kd.C_drew ?_))); (case side2 => exact Zl.out); (case side3 => repeat (first | exact (Kd.C_below Zm.out (zg_4 HB.out Zb.out Zf.out)) | (with_reducible refine Kd.C_alloc ?_ _) | (with_reducible refine Kd.C_drewN ?_ _) | (with_reducible refine Kd.C_drew ?_))); (case side4 => exact Zn.out); rintro e w12 ⟨rfl, hb⟩; refine ⟨_, rfl, ?_⟩; have n0_ := zm (blk_below (g := gb235) (o := .cells #[.slice A0_0 l0_0.length c0_0, .slice A0_1 l0_1.length c0_1] 29 (0, 0)) (zg_2 Za.out) hb); have n1_ := zm (blk_below (g := gb236) (o := .cells #[.slice A1_0 l1_0.length c1_0, .slice A1_1 l1_1.length c1_1] 29 (0, 0)) (zg_2 Zc.out) hb); have n2_ := zm (below_step (zg_4 HB.out Zb.out Zf.out) hb); clear Za; clear Zc; clear HB; have Za := n0_; have Zc := n1_; have HB := n2_; clear n0_ n1_ n2_; (try clear hb); (try clear hb2); (try clear hk); (try clear hi)))
   go_ret
   exact ⟨by first | rfl | (simp [errW_none, errW_some] <;> rfl) | (simp [*, errW_none, errW_some] <;> rfl), zg_4 HB.out Zb.out Zf.out⟩
  ·replace c6 := Bool.eq_false_iff.mpr c6
   subst c6
   have H1 : (some false) = some r := by rw [if_neg (show ¬ (false = true) by decide)] at H; exact H
   clear H
   have H := H1
   clear H1
   obtain rfl := Option.some.inj H
   go_enter Try.func13, Try.ntmps13
   go_wp2_with (first | ((with_reducible refine gate_dst (N := 2) rfl ?_); refine box_event ?hg (N := 2) ?hd (cs := #[.slice A0_0 l0_0.length c0_0, .slice A0_1 l0_1.length c0_1]) (t := 29) ?hr ?_; (case hd => rfl); (case hg => rfl); (case hr => first | (go_simp; done) | (go_simp; rfl)); intro gb235 hg w13 hbox hb; have n0_ := zm (below_step (zg_0 HB.out) hb); have n1_ := zm (hbox); have n2_ := zm ((by rw [hg]; exact (below_size (zg_0 HB.out)) : w.heap.size ≤ gb235)); have n3_ := zm ((by rw [hg]; exact (below_size (zg_0 HB.out)) : w.heap.size ≤ gb235)); clear HB; have HB := n0_; have Za := n1_; have Zo := n2_; have Zb := n3_; clear n0_ n1_ n2_ n3_; clear hb hbox hg) | ((with_reducible refine gate_dst (N := 3) rfl ?_); refine box_event ?hg (N := 3) ?hd (cs := #[.slice A1_0 l1_0.length c1_0, .slice A1_1 l1_1.length c1_1]) (t := 29) ?hr ?_; (case hd => rfl); (case hg => rfl); (case hr => first | (go_simp; done) | (go_simp; rfl)); intro gb236 hg w14 hbox hb; have n0_ := zm (blk_below (g := gb235) (o := .cells #[.slice A0_0 l0_0.length c0_0, .slice A0_1 l0_1.length c0_1] 29 (0, 0)) (zg_2 Za.out) hb); have n1_ := zm (below_step (zg_1 HB.out Zb.out) hb); have n2_ := zm (hbox); have n3_ := zm ((by rw [hg]; exact (below_size (zg_1 HB.out Zb.out)) : w.heap.size ≤ gb236)); have n4_ := zm ((by rw [hg]; exact (below_size (zg_1 HB.out Zb.out)) : w.heap.size ≤ gb236)); have n5_ := zm ((by rw [hg]; exact Nat.ne_of_lt (blk_lt (g := gb235) (o := .cells #[.slice A0_0 l0_0.length c0_0, .slice A0_1 l0_1.length c0_1] 29 (0, 0)) (zg_2 Za.out)) : gb235 ≠ gb236)); have n6_ := zm ((by rw [hg]; exact Nat.ne_of_gt (blk_lt (g := gb235) (o := .cells #[.slice A0_0 l0_0.length c0_0, .slice A0_1 l0_1.length c0_1] 29 (0, 0)) (zg_2 Za.out)) : gb236 ≠ gb235)); clear Za; clear HB; have Za := n0_; have HB := n1_; have Zc := n2_; have Zp := n3_; have Zf := n4_; have Zd := n5_; have Ze := n6_; clear n0_ n1_ n2_ n3_ n4_ n5_ n6_; clear hb hbox hg; have hnb15 := Zd.out; have hnc15 := Ze.out; have hcz16_0 : w14.cell? ⟨gb235, 0, none⟩ = some (.slice A0_0 l0_0.length c0_0) := (blk_cell Za.out 0).trans rfl; have hcz16_1 : w14.cell? ⟨gb235, 1, none⟩ = some (.slice A0_1 l0_1.length c0_1) := (blk_cell Za.out 1).trans rfl; have hfz16_0 := blk_frozen Za.out 0; have hfz16_1 := blk_frozen Za.out 1; have hcz17_0 : w14.cell? ⟨gb236, 0, none⟩ = some (.slice A1_0 l1_0.length c1_0) := (blk_cell Zc.out 0).trans rfl; have hcz17_1 : w14.cell? ⟨gb236, 1, none⟩ = some (.slice A1_1 l1_1.length c1_1) := (blk_cell Zc.out 1).trans rfl; have hfz17_0 := blk_frozen Zc.out 0; have hfz17_1 := blk_frozen Zc.out 1) | ((with_reducible refine gate_callee (f := 36) rfl ?_); refine goesL_ (some 9) rfl rfl Try.func36 (by kernel_rfl) rfl #[.slice A0_0 l0_0.length c0_0, .slice A1_0 l1_0.length c1_0] rfl zq ?_; (with_reducible refine (laws_eqStringS.calls k _ _ l0_0 _ _ l1_0 true _ ?side1 ?side2 ?side3 ?side4 A3.out).mono ?_); (case side1 => repeat (first | exact (Kd.C_below Zg.out HB.out) | (with_reducible refine Kd.C_alloc ?_ _) | (with_reducible refine Kd.C_drewN ?_ _) | (with_reducible refine Kd.C_drew ?_))); (case side2 => exact Zh.out); (case side3 => repeat (first | exact (Kd.C_below Zi.out HB.out) | (with_reducible refine Kd.C_alloc ?_ _) | (with_reducible refine Kd.C_drewN ?_ _) | (with_reducible refine Kd.C_drew ?_))); (case side4 => exact Zj.out); rintro e w' ⟨rfl, ⟨nd, rfl⟩⟩; refine ⟨_, rfl, ?_⟩) | ((with_reducible refine gate_callee (f := 37) rfl ?_); refine goesL_ (some 15) rfl rfl Try.func37 (by kernel_rfl) rfl #[.slice A0_1 l0_1.length c0_1, .slice A1_1 l1_1.length c1_1] rfl zq ?_; (with_reducible refine (laws_eqIoS.calls k _ _ l0_1 _ _ l1_1 false _ ?side1 ?side2 ?side3 ?side4 A5.out).mono ?_); (case side1 => repeat (first | exact (Kd.C_below Zk.out (zg_4 HB.out Zb.out Zf.out)) | (with_reducible refine Kd.C_alloc ?_ _) | (with_reducible refine Kd.C_drewN ?_ _) | (with_reducible refine Kd.C_drew ?_))); (case side2 => exact Zl.out); (case side3 => repeat (first | exact (Kd.C_below Zm.out (zg_4 HB.out Zb.out Zf.out)) | (with_reducible refine Kd.C_alloc ?_ _) | (with_reducible refine Kd.C_drewN ?_ _) | (with_reducible refine Kd.C_drew ?_))); (case side4 => exact Zn.out); rintro e w18 ⟨rfl, hb⟩; refine ⟨_, rfl, ?_⟩; have n0_ := zm (blk_below (g := gb235) (o := .cells #[.slice A0_0 l0_0.length c0_0, .slice A0_1 l0_1.length c0_1] 29 (0, 0)) (zg_2 Za.out) hb); have n1_ := zm (blk_below (g := gb236) (o := .cells #[.slice A1_0 l1_0.length c1_0, .slice A1_1 l1_1.length c1_1] 29 (0, 0)) (zg_2 Zc.out) hb); have n2_ := zm (below_step (zg_4 HB.out Zb.out Zf.out) hb); clear Za; clear Zc; clear HB; have Za := n0_; have Zc := n1_; have HB := n2_; clear n0_ n1_ n2_; (try clear hb); (try clear hb2); (try clear hk); (try clear hi)))
   go_ret
   exact ⟨by first | rfl | (simp [errW_none, errW_some] <;> rfl) | (simp [*, errW_none, errW_some] <;> rfl), zg_4 HB.out Zb.out Zf.out⟩
 ·replace c4 := Bool.eq_false_iff.mpr c4
  subst c4
  have H1 : (some false) = some r := by rw [if_neg (show ¬ (false = true) by decide)] at H; exact H
  clear H
  have H := H1
  clear H1
  obtain rfl := Option.some.inj H
  go_enter Try.func13, Try.ntmps13
  go_wp2_with (first | ((with_reducible refine gate_dst (N := 2) rfl ?_); refine box_event ?hg (N := 2) ?hd (cs := #[.slice A0_0 l0_0.length c0_0, .slice A0_1 l0_1.length c0_1]) (t := 29) ?hr ?_; (case hd => rfl); (case hg => rfl); (case hr => first | (go_simp; done) | (go_simp; rfl)); intro gb235 hg w19 hbox hb; have n0_ := zm (below_step (zg_0 HB.out) hb); have n1_ := zm (hbox); have n2_ := zm ((by rw [hg]; exact (below_size (zg_0 HB.out)) : w.heap.size ≤ gb235)); have n3_ := zm ((by rw [hg]; exact (below_size (zg_0 HB.out)) : w.heap.size ≤ gb235)); clear HB; have HB := n0_; have Za := n1_; have Zo := n2_; have Zb := n3_; clear n0_ n1_ n2_ n3_; clear hb hbox hg) | ((with_reducible refine gate_dst (N := 3) rfl ?_); refine box_event ?hg (N := 3) ?hd (cs := #[.slice A1_0 l1_0.length c1_0, .slice A1_1 l1_1.length c1_1]) (t := 29) ?hr ?_; (case hd => rfl); (case hg => rfl); (case hr => first | (go_simp; done) | (go_simp; rfl)); intro gb236 hg w20 hbox hb; have n0_ := zm (blk_below (g := gb235) (o := .cells #[.slice A0_0 l0_0.length c0_0, .slice A0_1 l0_1.length c0_1] 29 (0, 0)) (zg_2 Za.out) hb); have n1_ := zm (below_step (zg_1 HB.out Zb.out) hb); have n2_ := zm (hbox); have n3_ := zm ((by rw [hg]; exact (below_size (zg_1 HB.out Zb.out)) : w.heap.size ≤ gb236)); have n4_ := zm ((by rw [hg]; exact (below_size (zg_1 HB.out Zb.out)) : w.heap.size ≤ gb236)); have n5_ := zm ((by rw [hg]; exact Nat.ne_of_lt (blk_lt (g := gb235) (o := .cells #[.slice A0_0 l0_0.length c0_0, .slice A0_1 l0_1.length c0_1] 29 (0, 0)) (zg_2 Za.out)) : gb235 ≠ gb236)); have n6_ := zm ((by rw [hg]; exact Nat.ne_of_gt (blk_lt (g := gb235) (o := .cells #[.slice A0_0 l0_0.length c0_0, .slice A0_1 l0_1.length c0_1] 29 (0, 0)) (zg_2 Za.out)) : gb236 ≠ gb235)); clear Za; clear HB; have Za := n0_; have HB := n1_; have Zc := n2_; have Zp := n3_; have Zf := n4_; have Zd := n5_; have Ze := n6_; clear n0_ n1_ n2_ n3_ n4_ n5_ n6_; clear hb hbox hg; have hnb21 := Zd.out; have hnc21 := Ze.out; have hcz22_0 : w20.cell? ⟨gb235, 0, none⟩ = some (.slice A0_0 l0_0.length c0_0) := (blk_cell Za.out 0).trans rfl; have hcz22_1 : w20.cell? ⟨gb235, 1, none⟩ = some (.slice A0_1 l0_1.length c0_1) := (blk_cell Za.out 1).trans rfl; have hfz22_0 := blk_frozen Za.out 0; have hfz22_1 := blk_frozen Za.out 1; have hcz23_0 : w20.cell? ⟨gb236, 0, none⟩ = some (.slice A1_0 l1_0.length c1_0) := (blk_cell Zc.out 0).trans rfl; have hcz23_1 : w20.cell? ⟨gb236, 1, none⟩ = some (.slice A1_1 l1_1.length c1_1) := (blk_cell Zc.out 1).trans rfl; have hfz23_0 := blk_frozen Zc.out 0; have hfz23_1 := blk_frozen Zc.out 1) | ((with_reducible refine gate_callee (f := 36) rfl ?_); refine goesL_ (some 9) rfl rfl Try.func36 (by kernel_rfl) rfl #[.slice A0_0 l0_0.length c0_0, .slice A1_0 l1_0.length c1_0] rfl zq ?_; (with_reducible refine (laws_eqStringS.calls k _ _ l0_0 _ _ l1_0 false _ ?side1 ?side2 ?side3 ?side4 A3.out).mono ?_); (case side1 => repeat (first | exact (Kd.C_below Zg.out HB.out) | (with_reducible refine Kd.C_alloc ?_ _) | (with_reducible refine Kd.C_drewN ?_ _) | (with_reducible refine Kd.C_drew ?_))); (case side2 => exact Zh.out); (case side3 => repeat (first | exact (Kd.C_below Zi.out HB.out) | (with_reducible refine Kd.C_alloc ?_ _) | (with_reducible refine Kd.C_drewN ?_ _) | (with_reducible refine Kd.C_drew ?_))); (case side4 => exact Zj.out); rintro e w' ⟨rfl, ⟨nd, rfl⟩⟩; refine ⟨_, rfl, ?_⟩))
  go_ret
  exact ⟨by first | rfl | (simp [errW_none, errW_some] <;> rfl) | (simp [*, errW_none, errW_some] <;> rfl), zg_4 HB.out Zb.out Zf.out⟩
/-! ### laws_eqLeader: function 24 -/
def laws_eqLeader.f (a0_0 : Int) (a0_1 : Int) (a0_2 : Int) (a1_0 : Int) (a1_1 : Int) (a1_2 : Int) : Option (Bool) := if a0_0 = a1_0 then (if a0_1 = a1_1 then (if a0_2 = a1_2 then (some true) else (some false)) else (some false)) else (some false)
set_option maxHeartbeats 8000000 in
set_option maxRecDepth 100000 in
theorem laws_eqLeader.calls (a0_0 : Int) (a0_1 : Int) (a0_2 : Int) (a1_0 : Int) (a1_1 : Int) (a1_2 : Int) (r : Bool) (w : World) (h : laws_eqLeader.f a0_0 a0_1 a0_2 a1_0 a1_1 a1_2 = some r) :
    Calls Try.prog 24 #[.agg #[.int .i64 a0_0, .int .i64 a0_1, .int .i64 a0_2], .agg #[.int .i64 a1_0, .int .i64 a1_1, .int .i64 a1_2]] w fun e w' => e = .returned (.bool r) ∧ Below w.heap.size w w' := by
 have hu41 := Try.underlying41
 have HB := zm (Below.refl w.heap.size w)
 have H : (if a0_0 = a1_0 then (if a0_1 = a1_1 then (if a0_2 = a1_2 then (some true) else (some false)) else (some false)) else (some false)) = some r := h
 clear h
 by_cases c3 : a0_0 = a1_0
 ·rw [if_pos c3] at H
  have c3b0 : (a0_0 == a1_0) = true := beq_iff_eq.mpr c3
  have c3b1 : (a0_0 != a1_0) = false := bne_eq_false_iff_eq.mpr c3
  clear c3
  by_cases c4 : a0_1 = a1_1
  ·rw [if_pos c4] at H
   have c4b0 : (a0_1 == a1_1) = true := beq_iff_eq.mpr c4
   have c4b1 : (a0_1 != a1_1) = false := bne_eq_false_iff_eq.mpr c4
   clear c4
   by_cases c5 : a0_2 = a1_2
   ·rw [if_pos c5] at H
    have c5b0 : (a0_2 == a1_2) = true := beq_iff_eq.mpr c5
    have c5b1 : (a0_2 != a1_2) = false := bne_eq_false_iff_eq.mpr c5
    clear c5
    obtain rfl := Option.some.inj H
    go_enter Try.func24, Try.ntmps24
    go_wp2_with (first | ((with_reducible refine gate_dst (N := 2) rfl ?_); refine box_event ?hg (N := 2) ?hd (cs := #[.int .i64 a0_0, .int .i64 a0_1, .int .i64 a0_2]) (t := 41) ?hr ?_; (case hd => rfl); (case hg => rfl); (case hr => first | (go_simp; done) | (go_simp; rfl)); intro gb708 hg w6 hbox hb; have n0_ := zm (below_step (zg_0 HB.out) hb); have n1_ := zm (hbox); have n2_ := zm ((by rw [hg]; exact (below_size (zg_0 HB.out)) : w.heap.size ≤ gb708)); have n3_ := zm ((by rw [hg]; exact (below_size (zg_0 HB.out)) : w.heap.size ≤ gb708)); clear HB; have HB := n0_; have Za := n1_; have Zg := n2_; have Zc := n3_; clear n0_ n1_ n2_ n3_; clear hb hbox hg) | ((with_reducible refine gate_dst (N := 3) rfl ?_); refine box_event ?hg (N := 3) ?hd (cs := #[.int .i64 a1_0, .int .i64 a1_1, .int .i64 a1_2]) (t := 41) ?hr ?_; (case hd => rfl); (case hg => rfl); (case hr => first | (go_simp; done) | (go_simp; rfl)); intro gb709 hg w7 hbox hb; have n0_ := zm (blk_below (g := gb708) (o := .cells #[.int .i64 a0_0, .int .i64 a0_1, .int .i64 a0_2] 41 (0, 0)) (zg_2 Za.out) hb); have n1_ := zm (below_step (zg_1 HB.out Zc.out) hb); have n2_ := zm (hbox); have n3_ := zm ((by rw [hg]; exact (below_size (zg_1 HB.out Zc.out)) : w.heap.size ≤ gb709)); have n4_ := zm ((by rw [hg]; exact (below_size (zg_1 HB.out Zc.out)) : w.heap.size ≤ gb709)); have n5_ := zm ((by rw [hg]; exact Nat.ne_of_lt (blk_lt (g := gb708) (o := .cells #[.int .i64 a0_0, .int .i64 a0_1, .int .i64 a0_2] 41 (0, 0)) (zg_2 Za.out)) : gb708 ≠ gb709)); have n6_ := zm ((by rw [hg]; exact Nat.ne_of_gt (blk_lt (g := gb708) (o := .cells #[.int .i64 a0_0, .int .i64 a0_1, .int .i64 a0_2] 41 (0, 0)) (zg_2 Za.out)) : gb709 ≠ gb708)); clear Za; clear HB; have Za := n0_; have HB := n1_; have Zb := n2_; have Zh := n3_; have Zf := n4_; have Zd := n5_; have Ze := n6_; clear n0_ n1_ n2_ n3_ n4_ n5_ n6_; clear hb hbox hg; have hnb8 := Zd.out; have hnc8 := Ze.out; have hcz9_0 : w7.cell? ⟨gb708, 0, none⟩ = some (.int .i64 a0_0) := (blk_cell Za.out 0).trans rfl; have hcz9_1 : w7.cell? ⟨gb708, 1, none⟩ = some (.int .i64 a0_1) := (blk_cell Za.out 1).trans rfl; have hcz9_2 : w7.cell? ⟨gb708, 2, none⟩ = some (.int .i64 a0_2) := (blk_cell Za.out 2).trans rfl; have hfz9_0 := blk_frozen Za.out 0; have hfz9_1 := blk_frozen Za.out 1; have hfz9_2 := blk_frozen Za.out 2; have hcz10_0 : w7.cell? ⟨gb709, 0, none⟩ = some (.int .i64 a1_0) := (blk_cell Zb.out 0).trans rfl; have hcz10_1 : w7.cell? ⟨gb709, 1, none⟩ = some (.int .i64 a1_1) := (blk_cell Zb.out 1).trans rfl; have hcz10_2 : w7.cell? ⟨gb709, 2, none⟩ = some (.int .i64 a1_2) := (blk_cell Zb.out 2).trans rfl; have hfz10_0 := blk_frozen Zb.out 0; have hfz10_1 := blk_frozen Zb.out 1; have hfz10_2 := blk_frozen Zb.out 2))
    go_ret
    exact ⟨by first | rfl | (simp [errW_none, errW_some] <;> rfl) | (simp [*, errW_none, errW_some] <;> rfl), zg_4 HB.out Zc.out Zf.out⟩
   ·rw [if_neg c5] at H
    have c5b0 : (a0_2 == a1_2) = false := beq_eq_false_iff_ne.mpr c5
    have c5b1 : (a0_2 != a1_2) = true := bne_iff_ne.mpr c5
    obtain rfl := Option.some.inj H
    go_enter Try.func24, Try.ntmps24
    go_wp2_with (first | ((with_reducible refine gate_dst (N := 2) rfl ?_); refine box_event ?hg (N := 2) ?hd (cs := #[.int .i64 a0_0, .int .i64 a0_1, .int .i64 a0_2]) (t := 41) ?hr ?_; (case hd => rfl); (case hg => rfl); (case hr => first | (go_simp; done) | (go_simp; rfl)); intro gb708 hg w11 hbox hb; have n0_ := zm (below_step (zg_0 HB.out) hb); have n1_ := zm (hbox); have n2_ := zm ((by rw [hg]; exact (below_size (zg_0 HB.out)) : w.heap.size ≤ gb708)); have n3_ := zm ((by rw [hg]; exact (below_size (zg_0 HB.out)) : w.heap.size ≤ gb708)); clear HB; have HB := n0_; have Za := n1_; have Zg := n2_; have Zc := n3_; clear n0_ n1_ n2_ n3_; clear hb hbox hg) | ((with_reducible refine gate_dst (N := 3) rfl ?_); refine box_event ?hg (N := 3) ?hd (cs := #[.int .i64 a1_0, .int .i64 a1_1, .int .i64 a1_2]) (t := 41) ?hr ?_; (case hd => rfl); (case hg => rfl); (case hr => first | (go_simp; done) | (go_simp; rfl)); intro gb709 hg w12 hbox hb; have n0_ := zm (blk_below (g := gb708) (o := .cells #[.int .i64 a0_0, .int .i64 a0_1, .int .i64 a0_2] 41 (0, 0)) (zg_2 Za.out) hb); have n1_ := zm (below_step (zg_1 HB.out Zc.out) hb); have n2_ := zm (hbox); have n3_ := zm ((by rw [hg]; exact (below_size (zg_1 HB.out Zc.out)) : w.heap.size ≤ gb709)); have n4_ := zm ((by rw [hg]; exact (below_size (zg_1 HB.out Zc.out)) : w.heap.size ≤ gb709)); have n5_ := zm ((by rw [hg]; exact Nat.ne_of_lt (blk_lt (g := gb708) (o := .cells #[.int .i64 a0_0, .int .i64 a0_1, .int .i64 a0_2] 41 (0, 0)) (zg_2 Za.out)) : gb708 ≠ gb709)); have n6_ := zm ((by rw [hg]; exact Nat.ne_of_gt (blk_lt (g := gb708) (o := .cells #[.int .i64 a0_0, .int .i64 a0_1, .int .i64 a0_2] 41 (0, 0)) (zg_2 Za.out)) : gb709 ≠ gb708)); clear Za; clear HB; have Za := n0_; have HB := n1_; have Zb := n2_; have Zh := n3_; have Zf := n4_; have Zd := n5_; have Ze := n6_; clear n0_ n1_ n2_ n3_ n4_ n5_ n6_; clear hb hbox hg; have hnb13 := Zd.out; have hnc13 := Ze.out; have hcz14_0 : w12.cell? ⟨gb708, 0, none⟩ = some (.int .i64 a0_0) := (blk_cell Za.out 0).trans rfl; have hcz14_1 : w12.cell? ⟨gb708, 1, none⟩ = some (.int .i64 a0_1) := (blk_cell Za.out 1).trans rfl; have hcz14_2 : w12.cell? ⟨gb708, 2, none⟩ = some (.int .i64 a0_2) := (blk_cell Za.out 2).trans rfl; have hfz14_0 := blk_frozen Za.out 0; have hfz14_1 := blk_frozen Za.out 1; have hfz14_2 := blk_frozen Za.out 2; have hcz15_0 : w12.cell? ⟨gb709, 0, none⟩ = some (.int .i64 a1_0) := (blk_cell Zb.out 0).trans rfl; have hcz15_1 : w12.cell? ⟨gb709, 1, none⟩ = some (.int .i64 a1_1) := (blk_cell Zb.out 1).trans rfl; have hcz15_2 : w12.cell? ⟨gb709, 2, none⟩ = some (.int .i64 a1_2) := (blk_cell Zb.out 2).trans rfl; have hfz15_0 := blk_frozen Zb.out 0; have hfz15_1 := blk_frozen Zb.out 1; have hfz15_2 := blk_frozen Zb.out 2))
    go_ret
    exact ⟨by first | rfl | (simp [errW_none, errW_some] <;> rfl) | (simp [*, errW_none, errW_some] <;> rfl), zg_4 HB.out Zc.out Zf.out⟩
  ·rw [if_neg c4] at H
   have c4b0 : (a0_1 == a1_1) = false := beq_eq_false_iff_ne.mpr c4
   have c4b1 : (a0_1 != a1_1) = true := bne_iff_ne.mpr c4
   obtain rfl := Option.some.inj H
   go_enter Try.func24, Try.ntmps24
   go_wp2_with (first | ((with_reducible refine gate_dst (N := 2) rfl ?_); refine box_event ?hg (N := 2) ?hd (cs := #[.int .i64 a0_0, .int .i64 a0_1, .int .i64 a0_2]) (t := 41) ?hr ?_; (case hd => rfl); (case hg => rfl); (case hr => first | (go_simp; done) | (go_simp; rfl)); intro gb708 hg w16 hbox hb; have n0_ := zm (below_step (zg_0 HB.out) hb); have n1_ := zm (hbox); have n2_ := zm ((by rw [hg]; exact (below_size (zg_0 HB.out)) : w.heap.size ≤ gb708)); have n3_ := zm ((by rw [hg]; exact (below_size (zg_0 HB.out)) : w.heap.size ≤ gb708)); clear HB; have HB := n0_; have Za := n1_; have Zg := n2_; have Zc := n3_; clear n0_ n1_ n2_ n3_; clear hb hbox hg) | ((with_reducible refine gate_dst (N := 3) rfl ?_); refine box_event ?hg (N := 3) ?hd (cs := #[.int .i64 a1_0, .int .i64 a1_1, .int .i64 a1_2]) (t := 41) ?hr ?_; (case hd => rfl); (case hg => rfl); (case hr => first | (go_simp; done) | (go_simp; rfl)); intro gb709 hg w17 hbox hb; have n0_ := zm (blk_below (g := gb708) (o := .cells #[.int .i64 a0_0, .int .i64 a0_1, .int .i64 a0_2] 41 (0, 0)) (zg_2 Za.out) hb); have n1_ := zm (below_step (zg_1 HB.out Zc.out) hb); have n2_ := zm (hbox); have n3_ := zm ((by rw [hg]; exact (below_size (zg_1 HB.out Zc.out)) : w.heap.size ≤ gb709)); have n4_ := zm ((by rw [hg]; exact (below_size (zg_1 HB.out Zc.out)) : w.heap.size ≤ gb709)); have n5_ := zm ((by rw [hg]; exact Nat.ne_of_lt (blk_lt (g := gb708) (o := .cells #[.int .i64 a0_0, .int .i64 a0_1, .int .i64 a0_2] 41 (0, 0)) (zg_2 Za.out)) : gb708 ≠ gb709)); have n6_ := zm ((by rw [hg]; exact Nat.ne_of_gt (blk_lt (g := gb708) (o := .cells #[.int .i64 a0_0, .int .i64 a0_1, .int .i64 a0_2] 41 (0, 0)) (zg_2 Za.out)) : gb709 ≠ gb708)); clear Za; clear HB; have Za := n0_; have HB := n1_; have Zb := n2_; have Zh := n3_; have Zf := n4_; have Zd := n5_; have Ze := n6_; clear n0_ n1_ n2_ n3_ n4_ n5_ n6_; clear hb hbox hg; have hnb18 := Zd.out; have hnc18 := Ze.out; have hcz19_0 : w17.cell? ⟨gb708, 0, none⟩ = some (.int .i64 a0_0) := (blk_cell Za.out 0).trans rfl; have hcz19_1 : w17.cell? ⟨gb708, 1, none⟩ = some (.int .i64 a0_1) := (blk_cell Za.out 1).trans rfl; have hcz19_2 : w17.cell? ⟨gb708, 2, none⟩ = some (.int .i64 a0_2) := (blk_cell Za.out 2).trans rfl; have hfz19_0 := blk_frozen Za.out 0; have hfz19_1 := blk_frozen Za.out 1; have hfz19_2 := blk_frozen Za.out 2; have hcz20_0 : w17.cell? ⟨gb709, 0, none⟩ = some (.int .i64 a1_0) := (blk_cell Zb.out 0).trans rfl; have hcz20_1 : w17.cell? ⟨gb709, 1, none⟩ = some (.int .i64 a1_1) := (blk_cell Zb.out 1).trans rfl; have hcz20_2 : w17.cell? ⟨gb709, 2, none⟩ = some (.int .i64 a1_2) := (blk_cell Zb.out 2).trans rfl; have hfz20_0 := blk_frozen Zb.out 0; have hfz20_1 := blk_frozen Zb.out 1; have hfz20_2 := blk_frozen Zb.out 2))
   go_ret
   exact ⟨by first | rfl | (simp [errW_none, errW_some] <;> rfl) | (simp [*, errW_none, errW_some] <;> rfl), zg_4 HB.out Zc.out Zf.out⟩
 ·rw [if_neg c3] at H
  have c3b0 : (a0_0 == a1_0) = false := beq_eq_false_iff_ne.mpr c3
  have c3b1 : (a0_0 != a1_0) = true := bne_iff_ne.mpr c3
  obtain rfl := Option.some.inj H
  go_enter Try.func24, Try.ntmps24
  go_wp2_with (first | ((with_reducible refine gate_dst (N := 2) rfl ?_); refine box_event ?hg (N := 2) ?hd (cs := #[.int .i64 a0_0, .int .i64 a0_1, .int .i64 a0_2]) (t := 41) ?hr ?_; (case hd => rfl); (case hg => rfl); (case hr => first | (go_simp; done) | (go_simp; rfl)); intro gb708 hg w21 hbox hb; have n0_ := zm (below_step (zg_0 HB.out) hb); have n1_ := zm (hbox); have n2_ := zm ((by rw [hg]; exact (below_size (zg_0 HB.out)) : w.heap.size ≤ gb708)); have n3_ := zm ((by rw [hg]; exact (below_size (zg_0 HB.out)) : w.heap.size ≤ gb708)); clear HB; have HB := n0_; have Za := n1_; have Zg := n2_; have Zc := n3_; clear n0_ n1_ n2_ n3_; clear hb hbox hg) | ((with_reducible refine gate_dst (N := 3) rfl ?_); refine box_event ?hg (N := 3) ?hd (cs := #[.int .i64 a1_0, .int .i64 a1_1, .int .i64 a1_2]) (t := 41) ?hr ?_; (case hd => rfl); (case hg => rfl); (case hr => first | (go_simp; done) | (go_simp; rfl)); intro gb709 hg w22 hbox hb; have n0_ := zm (blk_below (g := gb708) (o := .cells #[.int .i64 a0_0, .int .i64 a0_1, .int .i64 a0_2] 41 (0, 0)) (zg_2 Za.out) hb); have n1_ := zm (below_step (zg_1 HB.out Zc.out) hb); have n2_ := zm (hbox); have n3_ := zm ((by rw [hg]; exact (below_size (zg_1 HB.out Zc.out)) : w.heap.size ≤ gb709)); have n4_ := zm ((by rw [hg]; exact (below_size (zg_1 HB.out Zc.out)) : w.heap.size ≤ gb709)); have n5_ := zm ((by rw [hg]; exact Nat.ne_of_lt (blk_lt (g := gb708) (o := .cells #[.int .i64 a0_0, .int .i64 a0_1, .int .i64 a0_2] 41 (0, 0)) (zg_2 Za.out)) : gb708 ≠ gb709)); have n6_ := zm ((by rw [hg]; exact Nat.ne_of_gt (blk_lt (g := gb708) (o := .cells #[.int .i64 a0_0, .int .i64 a0_1, .int .i64 a0_2] 41 (0, 0)) (zg_2 Za.out)) : gb709 ≠ gb708)); clear Za; clear HB; have Za := n0_; have HB := n1_; have Zb := n2_; have Zh := n3_; have Zf := n4_; have Zd := n5_; have Ze := n6_; clear n0_ n1_ n2_ n3_ n4_ n5_ n6_; clear hb hbox hg; have hnb23 := Zd.out; have hnc23 := Ze.out; have hcz24_0 : w22.cell? ⟨gb708, 0, none⟩ = some (.int .i64 a0_0) := (blk_cell Za.out 0).trans rfl; have hcz24_1 : w22.cell? ⟨gb708, 1, none⟩ = some (.int .i64 a0_1) := (blk_cell Za.out 1).trans rfl; have hcz24_2 : w22.cell? ⟨gb708, 2, none⟩ = some (.int .i64 a0_2) := (blk_cell Za.out 2).trans rfl; have hfz24_0 := blk_frozen Za.out 0; have hfz24_1 := blk_frozen Za.out 1; have hfz24_2 := blk_frozen Za.out 2; have hcz25_0 : w22.cell? ⟨gb709, 0, none⟩ = some (.int .i64 a1_0) := (blk_cell Zb.out 0).trans rfl; have hcz25_1 : w22.cell? ⟨gb709, 1, none⟩ = some (.int .i64 a1_1) := (blk_cell Zb.out 1).trans rfl; have hcz25_2 : w22.cell? ⟨gb709, 2, none⟩ = some (.int .i64 a1_2) := (blk_cell Zb.out 2).trans rfl; have hfz25_0 := blk_frozen Zb.out 0; have hfz25_1 := blk_frozen Zb.out 1; have hfz25_2 := blk_frozen Zb.out 2))
  go_ret
  exact ⟨by first | rfl | (simp [errW_none, errW_some] <;> rfl) | (simp [*, errW_none, errW_some] <;> rfl), zg_4 HB.out Zc.out Zf.out⟩
/-! ### laws_szIo: function 57 -/
def laws_szIo.f (a0_0 : Int) (a0_1 : Int) (a0_2 : ByteArray) (a1 : Int) : Option (Int) := if (wrap64 (a1 - (a0_2.size : Int))) < 0 then (some (-1)) else (some (wrap64 (a1 - (a0_2.size : Int))))
set_option maxHeartbeats 8000000 in
set_option maxRecDepth 100000 in
theorem laws_szIo.calls (a0_0 : Int) (a0_1 : Int) (a0_2 : ByteArray) (a1 : Int) (r : Int) (w : World) (h : laws_szIo.f a0_0 a0_1 a0_2 a1 = some r) :
    Calls Try.prog 57 #[.agg #[.int .i64 a0_0, .int .i64 a0_1, .string a0_2], .int .i64 a1] w fun e w' => e = .returned (.int .i64 r) ∧ Below w.heap.size w w' := by
 have hu75 := Try.underlying75
 have HB := zm (Below.refl w.heap.size w)
 have H : (if (wrap64 (a1 - (a0_2.size : Int))) < 0 then (some (-1)) else (some (wrap64 (a1 - (a0_2.size : Int))))) = some r := h
 clear h
 by_cases c3 : (wrap64 (a1 - (a0_2.size : Int))) < 0
 ·rw [if_pos c3] at H
  have c3b0 : decide ((wrap64 (a1 - (a0_2.size : Int))) < 0) = true := decide_eq_true c3
  clear c3
  obtain rfl := Option.some.inj H
  go_enter Try.func57, Try.ntmps57
  go_wp2_with (first | ((with_reducible refine gate_dst (N := 2) rfl ?_); refine box_event ?hg (N := 2) ?hd (cs := #[.int .i64 a0_0, .int .i64 a0_1, .string a0_2]) (t := 75) ?hr ?_; (case hd => rfl); (case hg => rfl); (case hr => first | (go_simp; done) | (go_simp; rfl)); intro gb108 hg w4 hbox hb; have n0_ := zm (below_step (zg_0 HB.out) hb); have n1_ := zm (hbox); have n2_ := zm ((by rw [hg]; exact (below_size (zg_0 HB.out)) : w.heap.size ≤ gb108)); have n3_ := zm ((by rw [hg]; exact (below_size (zg_0 HB.out)) : w.heap.size ≤ gb108)); clear HB; have HB := n0_; have BK108 := n1_; have GW108 := n2_; have GE108 := n3_; clear n0_ n1_ n2_ n3_; clear hb hbox hg; have hcz5_0 : w4.cell? ⟨gb108, 0, none⟩ = some (.int .i64 a0_0) := (blk_cell BK108.out 0).trans rfl; have hcz5_1 : w4.cell? ⟨gb108, 1, none⟩ = some (.int .i64 a0_1) := (blk_cell BK108.out 1).trans rfl; have hcz5_2 : w4.cell? ⟨gb108, 2, none⟩ = some (.string a0_2) := (blk_cell BK108.out 2).trans rfl; have hfz5_0 := blk_frozen BK108.out 0; have hfz5_1 := blk_frozen BK108.out 1; have hfz5_2 := blk_frozen BK108.out 2))
  go_ret
  exact ⟨by first | rfl | (simp [errW_none, errW_some] <;> rfl) | (simp [*, errW_none, errW_some] <;> rfl), zg_1 HB.out GE108.out⟩
 ·rw [if_neg c3] at H
  have c3b0 : decide ((wrap64 (a1 - (a0_2.size : Int))) < 0) = false := decide_eq_false c3
  clear c3
  obtain rfl := Option.some.inj H
  go_enter Try.func57, Try.ntmps57
  go_wp2_with (first | ((with_reducible refine gate_dst (N := 2) rfl ?_); refine box_event ?hg (N := 2) ?hd (cs := #[.int .i64 a0_0, .int .i64 a0_1, .string a0_2]) (t := 75) ?hr ?_; (case hd => rfl); (case hg => rfl); (case hr => first | (go_simp; done) | (go_simp; rfl)); intro gb108 hg w6 hbox hb; have n0_ := zm (below_step (zg_0 HB.out) hb); have n1_ := zm (hbox); have n2_ := zm ((by rw [hg]; exact (below_size (zg_0 HB.out)) : w.heap.size ≤ gb108)); have n3_ := zm ((by rw [hg]; exact (below_size (zg_0 HB.out)) : w.heap.size ≤ gb108)); clear HB; have HB := n0_; have BK108 := n1_; have GW108 := n2_; have GE108 := n3_; clear n0_ n1_ n2_ n3_; clear hb hbox hg; have hcz7_0 : w6.cell? ⟨gb108, 0, none⟩ = some (.int .i64 a0_0) := (blk_cell BK108.out 0).trans rfl; have hcz7_1 : w6.cell? ⟨gb108, 1, none⟩ = some (.int .i64 a0_1) := (blk_cell BK108.out 1).trans rfl; have hcz7_2 : w6.cell? ⟨gb108, 2, none⟩ = some (.string a0_2) := (blk_cell BK108.out 2).trans rfl; have hfz7_0 := blk_frozen BK108.out 0; have hfz7_1 := blk_frozen BK108.out 1; have hfz7_2 := blk_frozen BK108.out 2))
  go_ret
  exact ⟨by first | rfl | (simp [errW_none, errW_some] <;> rfl) | (simp [*, errW_none, errW_some] <;> rfl), zg_1 HB.out GE108.out⟩
/-! ### laws_szIoS: function 29 -/
def laws_szIoS.l0 : Nat → List (S75) → Int → Int → Option (Int)
  | 0, _, _, _ => none
  | k + 1, x0, x1, x5 => if x5 < (x0.length : Int) then (if 0 ≤ x5 then ((laws_szIo.f ((rd_T75 x0 x5).f0) ((rd_T75 x0 x5).f1) ((rd_T75 x0 x5).f2) x1).bind fun t110 => (if t110 < 0 then (some (-1)) else (laws_szIoS.l0 k x0 t110 (wrap64 (x5 + 1))))) else (none)) else (some x1)
def laws_szIoS.f (k : Nat) (l0 : List (S75)) (a1 : Int) : Option (Int) := if (wrap64 (a1 - (l0.length : Int))) < 0 then (some (-1)) else (laws_szIoS.l0 k l0 (wrap64 (a1 - (l0.length : Int))) 0)
theorem laws_szIoS.mono_l : ∀ k, (∀ y0 y1 y2, LeO (laws_szIoS.l0 k y0 y1 y2) (laws_szIoS.l0 (k + 1) y0 y1 y2))
  | 0 => fun _ _ _ r h => by simp [laws_szIoS.l0] at h
  | k + 1 => by
    have ih0 := laws_szIoS.mono_l k
    · intro y0 y1 y2
      unfold laws_szIoS.l0
      repeat' first
      | (with_reducible exact ih0 _ _ _)
      | (with_reducible exact LeO.refl _)
      | (with_reducible exact LeO.none _)
      | (with_reducible refine LeO.ite ?_ ?_)
      | (with_reducible refine LeO.bind ?_ (fun _ => ?_))
      | exact ih0 _ _ _
      | exact LeO.none _
      | refine LeO.ite ?_ ?_
      | refine LeO.bind ?_ (fun _ => ?_)
theorem laws_szIoS.mono : ∀ a0 a1 k, LeO (laws_szIoS.f k a0 a1) (laws_szIoS.f (k + 1) a0 a1) := by
  intro a0 a1 k
  have ih0 := laws_szIoS.mono_l k
  unfold laws_szIoS.f
  repeat' first
      | (with_reducible exact ih0 _ _ _)
      | (with_reducible exact LeO.refl _)
      | (with_reducible exact LeO.none _)
      | (with_reducible refine LeO.ite ?_ ?_)
      | (with_reducible refine LeO.bind ?_ (fun _ => ?_))
      | exact ih0 _ _ _
      | exact LeO.none _
      | refine LeO.ite ?_ ?_
      | refine LeO.bind ?_ (fun _ => ?_)
set_option maxHeartbeats 8000000 in
set_option maxRecDepth 100000 in
theorem laws_szIoS.calls (k : Nat) (A0 : Option Addr) (c0 : Nat) (l0 : List (S75)) (a1 : Int) (r : Int) (w : World) (hr0 : Kd.C k75 w A0 l0.length l0) (hc0 : l0.length ≤ c0) (h : laws_szIoS.f k l0 a1 = some r) :
    Calls Try.prog 29 #[.slice A0 l0.length c0, .int .i64 a1] w fun e w' => e = .returned (.int .i64 r) ∧ Below w.heap.size w w' := by
 have hu75 := Try.underlying75
 have HR0 := zm hr0
 have HC0 := zm hc0
 clear hr0 hc0
 have HB := zm (Below.refl w.heap.size w)
 have H : (if (wrap64 (a1 - (l0.length : Int))) < 0 then (some (-1)) else (laws_szIoS.l0 k l0 (wrap64 (a1 - (l0.length : Int))) 0)) = some r := h
 clear h
 by_cases c3 : (wrap64 (a1 - (l0.length : Int))) < 0
 ·rw [if_pos c3] at H
  have c3b0 : decide ((wrap64 (a1 - (l0.length : Int))) < 0) = true := decide_eq_true c3
  clear c3
  obtain rfl := Option.some.inj H
  go_enter Try.func29, Try.ntmps29
  go_wp2
  go_ret
  exact ⟨by first | rfl | (simp [errW_none, errW_some] <;> rfl) | (simp [*, errW_none, errW_some] <;> rfl), zg_0 HB.out⟩
 ·rw [if_neg c3] at H
  have c3b0 : decide ((wrap64 (a1 - (l0.length : Int))) < 0) = false := decide_eq_false c3
  clear c3
  have H' := zm H
  clear H
  go_enter Try.func29, Try.ntmps29
  go_wp2
  go_loopg [1, 5] k (fun kq v1 v5 w' => ∃ (x1_1 : Int) (x5_1 : Int), v1 = .int .i64 x1_1 ∧ v5 = .int .i64 x5_1 ∧ Aside0 (laws_szIoS.l0 kq l0 x1_1 x5_1 = some r) ∧ Aside0 (kq ≤ k) ∧ Aside0 (Below w.heap.size w w'))
  case atStart => exact ⟨(wrap64 (a1 - (l0.length : Int))), (0), zr, zr, H', ⟨Nat.le_refl _⟩, ⟨zg_0 HB.out⟩⟩
  case round =>
   clear H'
   try clear c2
   try clear p2
   try clear c3
   try clear c3b0
   obtain ⟨x1_1, x5_1, rfl, rfl, HA, HK1, HB⟩ := hrel
   cases gk with
   | zero => exact absurd HA.out (by simp [laws_szIoS.l0])
   | succ k1 =>
    have H := HA.out
    clear HA
    simp only [laws_szIoS.l0] at H
    by_cases c4 : x5_1 < (l0.length : Int)
    ·rw [if_pos c4] at H
     have c4b0 : decide (x5_1 < (l0.length : Int)) = true := decide_eq_true c4
     clear c4
     by_cases c5 : 0 ≤ x5_1
     ·rw [if_pos c5] at H
      have c5b0 : decide (0 ≤ x5_1) = true := decide_eq_true c5
      clear c5
      replace H := Option.bind_eq_some_iff.mp H
      obtain ⟨t110, A60, H⟩ := H
      replace H : (if t110 < 0 then (some (-1)) else (laws_szIoS.l0 k1 l0 t110 (wrap64 (x5_1 + 1)))) = some r := H
      have A6 := zm A60
      clear A60
      by_cases c7 : t110 < 0
      ·rw [if_pos c7] at H
       have c7b0 : decide (t110 < 0) = true := decide_eq_true c7
       clear c7
       obtain rfl := Option.some.inj H
       have p109 : 0 ≤ (x5_1 : Int) := of_decide_eq_true (by first | (with_reducible assumption) | assumption)
       have q109 : x5_1 < (l0.length : Int) := of_decide_eq_true (by first | (with_reducible assumption) | assumption)
       obtain ⟨ad109, e109, hx109_0, hx109_1, hx109_2⟩ := at_T75 HR0.out x5_1 p109 q109
       cases e109
       replace hx109_0 := (HB.out.cell (World.block_lt_of_cell? w _ hx109_0)).trans hx109_0
       replace hx109_1 := (HB.out.cell (World.block_lt_of_cell? w _ hx109_1)).trans hx109_1
       replace hx109_2 := (HB.out.cell (World.block_lt_of_cell? w _ hx109_2)).trans hx109_2
       replace p109 := eq_true p109
       replace q109 := eq_true q109
       go_wp2_with (first | ((with_reducible refine gate_callee (f := 57) rfl ?_); refine goesL_ (some 23) rfl rfl Try.func57 (by kernel_rfl) rfl #[.agg #[.int .i64 ((rd_T75 l0 x5_1).f0), .int .i64 ((rd_T75 l0 x5_1).f1), .string ((rd_T75 l0 x5_1).f2)], .int .i64 x1_1] rfl zq ?_; (with_reducible refine (laws_szIo.calls ((rd_T75 l0 x5_1).f0) ((rd_T75 l0 x5_1).f1) ((rd_T75 l0 x5_1).f2) x1_1 t110 _ A6.out).mono ?_); rintro e w8 ⟨rfl, hb⟩; refine ⟨_, rfl, ?_⟩; have n0_ := zm (below_step (zg_0 HB.out) hb); clear HB; have HB := n0_; clear n0_; (try clear hb); (try clear hb2); (try clear hk); (try clear hi)))
       go_ret
       exact ⟨by first | rfl | (simp [errW_none, errW_some] <;> rfl) | (simp [*, errW_none, errW_some] <;> rfl), zg_0 HB.out⟩
      ·rw [if_neg c7] at H
       have c7b0 : decide (t110 < 0) = false := decide_eq_false c7
       clear c7
       have H' := zm H
       clear H
       have p109 : 0 ≤ (x5_1 : Int) := of_decide_eq_true (by first | (with_reducible assumption) | assumption)
       have q109 : x5_1 < (l0.length : Int) := of_decide_eq_true (by first | (with_reducible assumption) | assumption)
       obtain ⟨ad109, e109, hx109_0, hx109_1, hx109_2⟩ := at_T75 HR0.out x5_1 p109 q109
       cases e109
       replace hx109_0 := (HB.out.cell (World.block_lt_of_cell? w _ hx109_0)).trans hx109_0
       replace hx109_1 := (HB.out.cell (World.block_lt_of_cell? w _ hx109_1)).trans hx109_1
       replace hx109_2 := (HB.out.cell (World.block_lt_of_cell? w _ hx109_2)).trans hx109_2
       replace p109 := eq_true p109
       replace q109 := eq_true q109
       go_wp2_with (first | ((with_reducible refine gate_callee (f := 57) rfl ?_); refine goesL_ (some 23) rfl rfl Try.func57 (by kernel_rfl) rfl #[.agg #[.int .i64 ((rd_T75 l0 x5_1).f0), .int .i64 ((rd_T75 l0 x5_1).f1), .string ((rd_T75 l0 x5_1).f2)], .int .i64 x1_1] rfl zq ?_; (with_reducible refine (laws_szIo.calls ((rd_T75 l0 x5_1).f0) ((rd_T75 l0 x5_1).f1) ((rd_T75 l0 x5_1).f2) x1_1 t110 _ A6.out).mono ?_); rintro e w9 ⟨rfl, hb⟩; refine ⟨_, rfl, ?_⟩; have n0_ := zm (below_step (zg_0 HB.out) hb); clear HB; have HB := n0_; clear n0_; (try clear hb); (try clear hb2); (try clear hk); (try clear hi)))
       go_roundg k1
       case measure => have := HK1.out; omega
       case rel => exact ⟨(t110), (wrap64 (x5_1 + 1)), zr, zr, H', ⟨by have := HK1.out; omega⟩, ⟨zg_0 HB.out⟩⟩
     ·rw [if_neg c5] at H
      exact absurd H (by simp)
    ·rw [if_neg c4] at H
     have c4b0 : decide (x5_1 < (l0.length : Int)) = false := decide_eq_false c4
     clear c4
     obtain rfl := Option.some.inj H
     go_wp2
     go_ret
     exact ⟨by first | rfl | (simp [errW_none, errW_some] <;> rfl) | (simp [*, errW_none, errW_some] <;> rfl), zg_0 HB.out⟩
/-! ### laws_szStringS: function 28 -/
def laws_szStringS.l0 : Nat → List ByteArray → Int → Int → Option (Int)
  | 0, _, _, _ => none
  | k + 1, x0, x1, x5 => if x5 < (x0.length : Int) then (if 0 ≤ x5 then (if (wrap64 (x1 - ((rdOf ByteArray.empty x0 x5).size : Int))) < 0 then (some (-1)) else (laws_szStringS.l0 k x0 (wrap64 (x1 - ((rdOf ByteArray.empty x0 x5).size : Int))) (wrap64 (x5 + 1)))) else (none)) else (some x1)
def laws_szStringS.f (k : Nat) (l0 : List ByteArray) (a1 : Int) : Option (Int) := if (wrap64 (a1 - (l0.length : Int))) < 0 then (some (-1)) else (laws_szStringS.l0 k l0 (wrap64 (a1 - (l0.length : Int))) 0)
theorem laws_szStringS.mono_l : ∀ k, (∀ y0 y1 y2, LeO (laws_szStringS.l0 k y0 y1 y2) (laws_szStringS.l0 (k + 1) y0 y1 y2))
  | 0 => fun _ _ _ r h => by simp [laws_szStringS.l0] at h
  | k + 1 => by
    have ih0 := laws_szStringS.mono_l k
    · intro y0 y1 y2
      unfold laws_szStringS.l0
      repeat' first
      | (with_reducible exact ih0 _ _ _)
      | (with_reducible exact LeO.refl _)
      | (with_reducible exact LeO.none _)
      | (with_reducible refine LeO.ite ?_ ?_)
      | (with_reducible refine LeO.bind ?_ (fun _ => ?_))
      | exact ih0 _ _ _
      | exact LeO.none _
      | refine LeO.ite ?_ ?_
      | refine LeO.bind ?_ (fun _ => ?_)
theorem laws_szStringS.mono : ∀ a0 a1 k, LeO (laws_szStringS.f k a0 a1) (laws_szStringS.f (k + 1) a0 a1) := by
  intro a0 a1 k
  have ih0 := laws_szStringS.mono_l k
  unfold laws_szStringS.f
  repeat' first
      | (with_reducible exact ih0 _ _ _)
      | (with_reducible exact LeO.refl _)
      | (with_reducible exact LeO.none _)
      | (with_reducible refine LeO.ite ?_ ?_)
      | (with_reducible refine LeO.bind ?_ (fun _ => ?_))
      | exact ih0 _ _ _
      | exact LeO.none _
      | refine LeO.ite ?_ ?_
      | refine LeO.bind ?_ (fun _ => ?_)
set_option maxHeartbeats 8000000 in
set_option maxRecDepth 100000 in
theorem laws_szStringS.calls (k : Nat) (A0 : Option Addr) (c0 : Nat) (l0 : List ByteArray) (a1 : Int) (r : Int) (w : World) (hr0 : Kd.C Kd.string w A0 l0.length l0) (hc0 : l0.length ≤ c0) (h : laws_szStringS.f k l0 a1 = some r) :
    Calls Try.prog 28 #[.slice A0 l0.length c0, .int .i64 a1] w fun e w' => e = .returned (.int .i64 r) ∧ Drawn0 w w' := by
 have HR0 := zm hr0
 have HC0 := zm hc0
 clear hr0 hc0
 have H : (if (wrap64 (a1 - (l0.length : Int))) < 0 then (some (-1)) else (laws_szStringS.l0 k l0 (wrap64 (a1 - (l0.length : Int))) 0)) = some r := h
 clear h
 by_cases c3 : (wrap64 (a1 - (l0.length : Int))) < 0
 ·rw [if_pos c3] at H
  have c3b0 : decide ((wrap64 (a1 - (l0.length : Int))) < 0) = true := decide_eq_true c3
  clear c3
  obtain rfl := Option.some.inj H
  go_enter Try.func28, Try.ntmps28
  go_wp2
  go_ret
  exact ⟨zr, by repeat (first | exact Drawn0.refl _ | apply Drawn0.step)⟩
 ·rw [if_neg c3] at H
  have c3b0 : decide ((wrap64 (a1 - (l0.length : Int))) < 0) = false := decide_eq_false c3
  clear c3
  have H' := zm H
  clear H
  go_enter Try.func28, Try.ntmps28
  go_wp2
  go_loopg [1, 5] k (fun kq v1 v5 w' => ∃ (x1_1 : Int) (x5_1 : Int), v1 = .int .i64 x1_1 ∧ v5 = .int .i64 x5_1 ∧ Aside0 (laws_szStringS.l0 kq l0 x1_1 x5_1 = some r) ∧ Aside0 (kq ≤ k) ∧ Drawn0 w w')
  case atStart => exact ⟨(wrap64 (a1 - (l0.length : Int))), (0), zr, zr, H', ⟨Nat.le_refl _⟩, by repeat (first | exact Drawn0.refl _ | apply Drawn0.step)⟩
  case round =>
   clear H'
   try clear c2
   try clear p2
   try clear c3
   try clear c3b0
   obtain ⟨x1_1, x5_1, rfl, rfl, HA, HK1, ⟨m1, rfl⟩⟩ := hrel
   cases gk with
   | zero => exact absurd HA.out (by simp [laws_szStringS.l0])
   | succ k1 =>
    have H := HA.out
    clear HA
    simp only [laws_szStringS.l0] at H
    by_cases c4 : x5_1 < (l0.length : Int)
    ·rw [if_pos c4] at H
     have c4b0 : decide (x5_1 < (l0.length : Int)) = true := decide_eq_true c4
     clear c4
     by_cases c5 : 0 ≤ x5_1
     ·rw [if_pos c5] at H
      have c5b0 : decide (0 ≤ x5_1) = true := decide_eq_true c5
      clear c5
      by_cases c6 : (wrap64 (x1_1 - ((rdOf ByteArray.empty l0 x5_1).size : Int))) < 0
      ·rw [if_pos c6] at H
       have c6b0 : decide ((wrap64 (x1_1 - ((rdOf ByteArray.empty l0 x5_1).size : Int))) < 0) = true := decide_eq_true c6
       clear c6
       obtain rfl := Option.some.inj H
       have p107 : 0 ≤ (x5_1 : Int) := of_decide_eq_true (by first | (with_reducible assumption) | assumption)
       have q107 : x5_1 < (l0.length : Int) := of_decide_eq_true (by first | (with_reducible assumption) | assumption)
       obtain ⟨ad107, e107, hx107_0⟩ := Kd.at_string HR0.out x5_1 p107 q107
       cases e107
       replace p107 := eq_true p107
       replace q107 := eq_true q107
       go_wp2
       go_ret
       exact ⟨zr, by repeat (first | exact Drawn0.refl _ | apply Drawn0.step)⟩
      ·rw [if_neg c6] at H
       have c6b0 : decide ((wrap64 (x1_1 - ((rdOf ByteArray.empty l0 x5_1).size : Int))) < 0) = false := decide_eq_false c6
       clear c6
       have H' := zm H
       clear H
       have p107 : 0 ≤ (x5_1 : Int) := of_decide_eq_true (by first | (with_reducible assumption) | assumption)
       have q107 : x5_1 < (l0.length : Int) := of_decide_eq_true (by first | (with_reducible assumption) | assumption)
       obtain ⟨ad107, e107, hx107_0⟩ := Kd.at_string HR0.out x5_1 p107 q107
       cases e107
       replace p107 := eq_true p107
       replace q107 := eq_true q107
       go_wp2
       go_roundg k1
       case measure => have := HK1.out; omega
       case rel => exact ⟨(wrap64 (x1_1 - ((rdOf ByteArray.empty l0 x5_1).size : Int))), (wrap64 (x5_1 + 1)), zr, zr, H', ⟨by have := HK1.out; omega⟩, by repeat (first | exact Drawn0.refl _ | apply Drawn0.step)⟩
     ·rw [if_neg c5] at H
      exact absurd H (by simp)
    ·rw [if_neg c4] at H
     have c4b0 : decide (x5_1 < (l0.length : Int)) = false := decide_eq_false c4
     clear c4
     obtain rfl := Option.some.inj H
     go_wp2
     go_ret
     exact ⟨zr, by repeat (first | exact Drawn0.refl _ | apply Drawn0.step)⟩
/-! ### laws_szDisk: function 9 -/
def laws_szDisk.f (k : Nat) (l0_0 : List ByteArray) (l0_1 : List (S75)) (a1 : Int) : Option (Int) := (laws_szStringS.f k l0_0 a1).bind fun t112 => (if t112 < 0 then (some (-1)) else ((laws_szIoS.f k l0_1 t112).bind fun t113 => (if t113 < 0 then (some (-1)) else (some t113))))
theorem laws_szDisk.mono : ∀ a0 a1 a2 k, LeO (laws_szDisk.f k a0 a1 a2) (laws_szDisk.f (k + 1) a0 a1 a2) := by
  intro a0 a1 a2 k
  unfold laws_szDisk.f
  repeat' first
      | (with_reducible exact laws_szIoS.mono _ _ _)
      | (with_reducible exact laws_szStringS.mono _ _ _)
      | (with_reducible exact LeO.refl _)
      | (with_reducible exact LeO.none _)
      | (with_reducible refine LeO.ite ?_ ?_)
      | (with_reducible refine LeO.bind ?_ (fun _ => ?_))
      | exact laws_szIoS.mono _ _ _
      | exact laws_szStringS.mono _ _ _
      | exact LeO.none _
      | refine LeO.ite ?_ ?_
      | refine LeO.bind ?_ (fun _ => ?_)
set_option maxHeartbeats 8000000 in
set_option maxRecDepth 100000 in
theorem laws_szDisk.calls (k : Nat) (A0_0 : Option Addr) (c0_0 : Nat) (l0_0 : List ByteArray) (A0_1 : Option Addr) (c0_1 : Nat) (l0_1 : List (S75)) (a1 : Int) (r : Int) (w : World) (hr0_0 : Kd.C Kd.string w A0_0 l0_0.length l0_0) (hc0_0 : l0_0.length ≤ c0_0) (hr0_1 : Kd.C k75 w A0_1 l0_1.length l0_1) (hc0_1 : l0_1.length ≤ c0_1) (h : laws_szDisk.f k l0_0 l0_1 a1 = some r) :
    Calls Try.prog 9 #[.agg #[.slice A0_0 l0_0.length c0_0, .slice A0_1 l0_1.length c0_1], .int .i64 a1] w fun e w' => e = .returned (.int .i64 r) ∧ Below w.heap.size w w' := by
 have hu25 := Try.underlying25
 have Zc := zm hr0_0
 have Zd := zm hc0_0
 clear hr0_0 hc0_0
 have Ze := zm hr0_1
 have Zf := zm hc0_1
 clear hr0_1 hc0_1
 have HB := zm (Below.refl w.heap.size w)
 have H : ((laws_szStringS.f k l0_0 a1).bind fun t112 => (if t112 < 0 then (some (-1)) else ((laws_szIoS.f k l0_1 t112).bind fun t113 => (if t113 < 0 then (some (-1)) else (some t113))))) = some r := h
 clear h
 replace H := Option.bind_eq_some_iff.mp H
 obtain ⟨t112, A30, H⟩ := H
 replace H : (if t112 < 0 then (some (-1)) else ((laws_szIoS.f k l0_1 t112).bind fun t113 => (if t113 < 0 then (some (-1)) else (some t113)))) = some r := H
 have A3 := zm A30
 clear A30
 by_cases c4 : t112 < 0
 ·rw [if_pos c4] at H
  have c4b0 : decide (t112 < 0) = true := decide_eq_true c4
  clear c4
  obtain rfl := Option.some.inj H
  go_enter Try.func9, Try.ntmps9
  go_wp2_with (first | ((with_reducible refine gate_dst (N := 2) rfl ?_); refine box_event ?hg (N := 2) ?hd (cs := #[.slice A0_0 l0_0.length c0_0, .slice A0_1 l0_1.length c0_1]) (t := 25) ?hr ?_; (case hd => rfl); (case hg => rfl); (case hr => first | (go_simp; done) | (go_simp; rfl)); intro gb111 hg w5 hbox hb; have n0_ := zm (below_step (zg_0 HB.out) hb); have n1_ := zm (hbox); have n2_ := zm ((by rw [hg]; exact (below_size (zg_0 HB.out)) : w.heap.size ≤ gb111)); have n3_ := zm ((by rw [hg]; exact (below_size (zg_0 HB.out)) : w.heap.size ≤ gb111)); clear HB; have HB := n0_; have Za := n1_; have Zg := n2_; have Zb := n3_; clear n0_ n1_ n2_ n3_; clear hb hbox hg; have hcz6_0 : w5.cell? ⟨gb111, 0, none⟩ = some (.slice A0_0 l0_0.length c0_0) := (blk_cell Za.out 0).trans rfl; have hcz6_1 : w5.cell? ⟨gb111, 1, none⟩ = some (.slice A0_1 l0_1.length c0_1) := (blk_cell Za.out 1).trans rfl; have hfz6_0 := blk_frozen Za.out 0; have hfz6_1 := blk_frozen Za.out 1) | ((with_reducible refine gate_callee (f := 28) rfl ?_); refine goesL_ (some 8) rfl rfl Try.func28 (by kernel_rfl) rfl #[.slice A0_0 l0_0.length c0_0, .int .i64 a1] rfl zq ?_; (with_reducible refine (laws_szStringS.calls k _ _ l0_0 a1 t112 _ ?side1 ?side2 A3.out).mono ?_); (case side1 => repeat (first | exact (Kd.C_below Zc.out HB.out) | (with_reducible refine Kd.C_alloc ?_ _) | (with_reducible refine Kd.C_drewN ?_ _) | (with_reducible refine Kd.C_drew ?_))); (case side2 => exact Zd.out); rintro e w' ⟨rfl, ⟨nd, rfl⟩⟩; refine ⟨_, rfl, ?_⟩))
  go_ret
  exact ⟨by first | rfl | (simp [errW_none, errW_some] <;> rfl) | (simp [*, errW_none, errW_some] <;> rfl), zg_1 HB.out Zb.out⟩
 ·rw [if_neg c4] at H
  have c4b0 : decide (t112 < 0) = false := decide_eq_false c4
  clear c4
  replace H := Option.bind_eq_some_iff.mp H
  obtain ⟨t113, A70, H⟩ := H
  replace H : (if t113 < 0 then (some (-1)) else (some t113)) = some r := H
  have A7 := zm A70
  clear A70
  by_cases c8 : t113 < 0
  ·rw [if_pos c8] at H
   have c8b0 : decide (t113 < 0) = true := decide_eq_true c8
   clear c8
   obtain rfl := Option.some.inj H
   go_enter Try.func9, Try.ntmps9
   go_wp2_with (first | ((with_reducible refine gate_dst (N := 2) rfl ?_); refine box_event ?hg (N := 2) ?hd (cs := #[.slice A0_0 l0_0.length c0_0, .slice A0_1 l0_1.length c0_1]) (t := 25) ?hr ?_; (case hd => rfl); (case hg => rfl); (case hr => first | (go_simp; done) | (go_simp; rfl)); intro gb111 hg w9 hbox hb; have n0_ := zm (below_step (zg_0 HB.out) hb); have n1_ := zm (hbox); have n2_ := zm ((by rw [hg]; exact (below_size (zg_0 HB.out)) : w.heap.size ≤ gb111)); have n3_ := zm ((by rw [hg]; exact (below_size (zg_0 HB.out)) : w.heap.size ≤ gb111)); clear HB; have HB := n0_; have Za := n1_; have Zg := n2_; have Zb := n3_; clear n0_ n1_ n2_ n3_; clear hb hbox hg; have hcz10_0 : w9.cell? ⟨gb111, 0, none⟩ = some (.slice A0_0 l0_0.length c0_0) := (blk_cell Za.out 0).trans rfl; have hcz10_1 : w9.cell? ⟨gb111, 1, none⟩ = some (.slice A0_1 l0_1.length c0_1) := (blk_cell Za.out 1).trans rfl; have hfz10_0 := blk_frozen Za.out 0; have hfz10_1 := blk_frozen Za.out 1) | ((with_reducible refine gate_callee (f := 28) rfl ?_); refine goesL_ (some 8) rfl rfl Try.func28 (by kernel_rfl) rfl #[.slice A0_0 l0_0.length c0_0, .int .i64 a1] rfl zq ?_; (with_reducible refine (laws_szStringS.calls k _ _ l0_0 a1 t112 _ ?side1 ?side2 A3.out).mono ?_); (case side1 => repeat (first | exact (Kd.C_below Zc.out HB.out) | (with_reducible refine Kd.C_alloc ?_ _) | (with_reducible refine Kd.C_drewN ?_ _) | (with_reducible refine Kd.C_drew ?_))); (case side2 => exact Zd.out); rintro e w' ⟨rfl, ⟨nd, rfl⟩⟩; refine ⟨_, rfl, ?_⟩) | ((with_reducible refine gate_callee (f := 29) rfl ?_); refine goesL_ (some 14) rfl rfl Try.func29 (by kernel_rfl) rfl #[.slice A0_1 l0_1.length c0_1, .int .i64 t112] rfl zq ?_; (with_reducible refine (laws_szIoS.calls k _ _ l0_1 t112 t113 _ ?side1 ?side2 A7.out).mono ?_); (case side1 => repeat (first | exact (Kd.C_below Ze.out (zg_1 HB.out Zb.out)) | (with_reducible refine Kd.C_alloc ?_ _) | (with_reducible refine Kd.C_drewN ?_ _) | (with_reducible refine Kd.C_drew ?_))); (case side2 => exact Zf.out); rintro e w11 ⟨rfl, hb⟩; refine ⟨_, rfl, ?_⟩; have n0_ := zm (blk_below (g := gb111) (o := .cells #[.slice A0_0 l0_0.length c0_0, .slice A0_1 l0_1.length c0_1] 25 (0, 0)) (zg_2 Za.out) hb); have n1_ := zm (below_step (zg_1 HB.out Zb.out) hb); clear Za; clear HB; have Za := n0_; have HB := n1_; clear n0_ n1_; (try clear hb); (try clear hb2); (try clear hk); (try clear hi)))
   go_ret
   exact ⟨by first | rfl | (simp [errW_none, errW_some] <;> rfl) | (simp [*, errW_none, errW_some] <;> rfl), zg_1 HB.out Zb.out⟩
  ·rw [if_neg c8] at H
   have c8b0 : decide (t113 < 0) = false := decide_eq_false c8
   clear c8
   obtain rfl := Option.some.inj H
   go_enter Try.func9, Try.ntmps9
   go_wp2_with (first | ((with_reducible refine gate_dst (N := 2) rfl ?_); refine box_event ?hg (N := 2) ?hd (cs := #[.slice A0_0 l0_0.length c0_0, .slice A0_1 l0_1.length c0_1]) (t := 25) ?hr ?_; (case hd => rfl); (case hg => rfl); (case hr => first | (go_simp; done) | (go_simp; rfl)); intro gb111 hg w12 hbox hb; have n0_ := zm (below_step (zg_0 HB.out) hb); have n1_ := zm (hbox); have n2_ := zm ((by rw [hg]; exact (below_size (zg_0 HB.out)) : w.heap.size ≤ gb111)); have n3_ := zm ((by rw [hg]; exact (below_size (zg_0 HB.out)) : w.heap.size ≤ gb111)); clear HB; have HB := n0_; have Za := n1_; have Zg := n2_; have Zb := n3_; clear n0_ n1_ n2_ n3_; clear hb hbox hg; have hcz13_0 : w12.cell? ⟨gb111, 0, none⟩ = some (.slice A0_0 l0_0.length c0_0) := (blk_cell Za.out 0).trans rfl; have hcz13_1 : w12.cell? ⟨gb111, 1, none⟩ = some (.slice A0_1 l0_1.length c0_1) := (blk_cell Za.out 1).trans rfl; have hfz13_0 := blk_frozen Za.out 0; have hfz13_1 := blk_frozen Za.out 1) | ((with_reducible refine gate_callee (f := 28) rfl ?_); refine goesL_ (some 8) rfl rfl Try.func28 (by kernel_rfl) rfl #[.slice A0_0 l0_0.length c0_0, .int .i64 a1] rfl zq ?_; (with_reducible refine (laws_szStringS.calls k _ _ l0_0 a1 t112 _ ?side1 ?side2 A3.out).mono ?_); (case side1 => repeat (first | exact (Kd.C_below Zc.out HB.out) | (with_reducible refine Kd.C_alloc ?_ _) | (with_reducible refine Kd.C_drewN ?_ _) | (with_reducible refine Kd.C_drew ?_))); (case side2 => exact Zd.out); rintro e w' ⟨rfl, ⟨nd, rfl⟩⟩; refine ⟨_, rfl, ?_⟩) | ((with_reducible refine gate_callee (f := 29) rfl ?_); refine goesL_ (some 14) rfl rfl Try.func29 (by kernel_rfl) rfl #[.slice A0_1 l0_1.length c0_1, .int .i64 t112] rfl zq ?_; (with_reducible refine (laws_szIoS.calls k _ _ l0_1 t112 t113 _ ?side1 ?side2 A7.out).mono ?_); (case side1 => repeat (first | exact (Kd.C_below Ze.out (zg_1 HB.out Zb.out)) | (with_reducible refine Kd.C_alloc ?_ _) | (with_reducible refine Kd.C_drewN ?_ _) | (with_reducible refine Kd.C_drew ?_))); (case side2 => exact Zf.out); rintro e w14 ⟨rfl, hb⟩; refine ⟨_, rfl, ?_⟩; have n0_ := zm (blk_below (g := gb111) (o := .cells #[.slice A0_0 l0_0.length c0_0, .slice A0_1 l0_1.length c0_1] 25 (0, 0)) (zg_2 Za.out) hb); have n1_ := zm (below_step (zg_1 HB.out Zb.out) hb); clear Za; clear HB; have Za := n0_; have HB := n1_; clear n0_ n1_; (try clear hb); (try clear hb2); (try clear hk); (try clear hi)))
   go_ret
   exact ⟨by first | rfl | (simp [errW_none, errW_some] <;> rfl) | (simp [*, errW_none, errW_some] <;> rfl), zg_1 HB.out Zb.out⟩
end Go.Proofs.Ytadelojhfepkeaa.Q
