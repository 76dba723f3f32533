/- What laws.FnDisk reaches, part 2: the functions as Lean functions, the proofs that the program's functions answer so, and plain laws about them. -/
import Derived.Test.YtajflpcihblkfaaKFnDisk1
namespace Go.Proofs.Ytajflpcihblkfaa.Q
open Go.RowKit Go.Proofs.Ytajflpcihblkfaa.Ext Go.Proofs.YtajflpcihblkfaaW.PrintWords Go.Proofs.YtajflpcihblkfaaW.PrintLast Go.Proofs.YtajflpcihblkfaaW.PrintMore
attribute [local go_sem] max2_int min2_int max_two min_two max_three min_three max_four min_four   -- for this text's walks alone
set_option linter.unusedVariables false
set_option linter.unusedSimpArgs false

set_option linter.unusedVariables false
set_option linter.unusedSimpArgs false
/-! ### impl_Flush: function 40 -/
def impl_Flush.f (l0_0 : List ByteArray) (l0_1 : List (S92)) (a1 : Int) : Option (List ByteArray × (List (S92)) × Int) := (impl_Disk_codes.f l0_0 l0_1 a1).bind fun t845 => (if t845 = 0 then ((impl_Disk_settle.f l0_0 l0_1 a1 200 false).bind fun bt846 => (some (bt846.1, bt846.2, 0))) else (some (([] : List ByteArray), ([] : List (S92)), t845)))
set_option maxHeartbeats 8000000 in
set_option maxRecDepth 100000 in
theorem impl_Flush.calls (A0_0 : Option Addr) (c0_0 : Nat) (l0_0 : List ByteArray) (A0_1 : Option Addr) (c0_1 : Nat) (l0_1 : List (S92)) (a1 : Int) (r1 : List ByteArray) (r2 : List (S92)) (r3 : Int) (w : World) (hr0_0 : Kd.C Kd.string w A0_0 l0_0.length l0_0) (hc0_0 : l0_0.length ≤ c0_0) (hr0_1 : Kd.C k92 w A0_1 l0_1.length l0_1) (hc0_1 : l0_1.length ≤ c0_1) (h : impl_Flush.f l0_0 l0_1 a1 = some (r1, r2, r3)) :
    Calls Try.prog 40 #[.agg #[.slice A0_0 l0_0.length c0_0, .slice A0_1 l0_1.length c0_1], .int .i64 a1] w fun e w' => ∃ v0_ v1_ : Value, e = .returned (.tuple #[.agg #[v0_, v1_], .int .i64 r3]) ∧ Kd.R Kd.string 9 w' w.heap.size (fun _ => True) v0_ r1 ∧ Kd.R k92 92 w' w.heap.size (fun _ => True) v1_ r2 ∧ Below w.heap.size w w' := by
 have hu48 := Try.underlying48
 have Zg := zm hr0_0
 have Zh := zm hc0_0
 clear hr0_0 hc0_0
 have Zi := zm hr0_1
 have Zj := zm hc0_1
 clear hr0_1 hc0_1
 have HB := zm (Below.refl w.heap.size w)
 have H : ((impl_Disk_codes.f l0_0 l0_1 a1).bind fun t845 => (if t845 = 0 then ((impl_Disk_settle.f l0_0 l0_1 a1 200 false).bind fun bt846 => (some (bt846.1, bt846.2, 0))) else (some (([] : List ByteArray), ([] : List (S92)), t845)))) = some (r1, r2, r3) := h
 clear h
 replace H := Option.bind_eq_some_iff.mp H
 obtain ⟨t845, A30, H⟩ := H
 replace H : (if t845 = 0 then ((impl_Disk_settle.f l0_0 l0_1 a1 200 false).bind fun bt846 => (some (bt846.1, bt846.2, 0))) else (some (([] : List ByteArray), ([] : List (S92)), t845))) = some (r1, r2, r3) := H
 have A3 := zm A30
 clear A30
 by_cases c4 : t845 = 0
 ·rw [if_pos c4] at H
  have c4b0 : (t845 == 0) = true := beq_iff_eq.mpr c4
  have c4b1 : (t845 != 0) = false := bne_eq_false_iff_eq.mpr c4
  clear c4
  replace H := Option.bind_eq_some_iff.mp H
  obtain ⟨⟨t846, t849⟩, A50, H⟩ := H
  replace H : (some (t846, t849, 0)) = some (r1, r2, r3) := H
  have A5 := zm A50
  clear A50
  simp only [Option.some.injEq, Prod.mk.injEq] at H
  obtain ⟨rfl, rfl, rfl⟩ := H
  go_enter Try.func40, Try.ntmps40
  go_wp2_with (first | ((with_reducible refine gate_dst (N := 2) rfl ?_); refine box_event ?hg (N := 2) ?hd (cs := #[.slice A0_0 l0_0.length c0_0, .slice A0_1 l0_1.length c0_1]) (t := 48) ?hr ?_; (case hd => rfl); (case hg => rfl); (case hr => first | (go_simp; done) | (go_simp; rfl)); intro gb843 hg w6 hbox hb; have n0_ := zm (below_step (zg_0 HB.out) hb); have n1_ := zm (hbox); have n2_ := zm ((by rw [hg]; exact (below_size (zg_0 HB.out)) : w.heap.size ≤ gb843)); have n3_ := zm ((by rw [hg]; exact (below_size (zg_0 HB.out)) : w.heap.size ≤ gb843)); clear HB; have HB := n0_; have Za := n1_; have Zm := n2_; have Zc := n3_; clear n0_ n1_ n2_ n3_; clear hb hbox hg) | ((with_reducible refine gate_dst (N := 4) rfl ?_); refine box_event ?hg (N := 4) ?hd (cs := #[.slice none 0 0, .slice none 0 0]) (t := 48) ?hr ?_; (case hd => rfl); (case hg => rfl); (case hr => first | (go_simp; done) | (go_simp; rfl)); intro gb844 hg w7 hbox hb; have n0_ := zm (blk_below (g := gb843) (o := .cells #[.slice A0_0 l0_0.length c0_0, .slice A0_1 l0_1.length c0_1] 48 (0, 0)) (zg_2 Za.out) hb); have n1_ := zm (below_step (zg_1 HB.out Zc.out) hb); have n2_ := zm (hbox); have n3_ := zm ((by rw [hg]; exact (below_size (zg_1 HB.out Zc.out)) : w.heap.size ≤ gb844)); have n4_ := zm ((by rw [hg]; exact (below_size (zg_1 HB.out Zc.out)) : w.heap.size ≤ gb844)); have n5_ := zm ((by rw [hg]; exact Nat.ne_of_lt (blk_lt (g := gb843) (o := .cells #[.slice A0_0 l0_0.length c0_0, .slice A0_1 l0_1.length c0_1] 48 (0, 0)) (zg_2 Za.out)) : gb843 ≠ gb844)); have n6_ := zm ((by rw [hg]; exact Nat.ne_of_gt (blk_lt (g := gb843) (o := .cells #[.slice A0_0 l0_0.length c0_0, .slice A0_1 l0_1.length c0_1] 48 (0, 0)) (zg_2 Za.out)) : gb844 ≠ gb843)); clear Za; clear HB; have Za := n0_; have HB := n1_; have Zb := n2_; have Zn := n3_; have Zf := n4_; have Zd := n5_; have Ze := n6_; clear n0_ n1_ n2_ n3_ n4_ n5_ n6_; clear hb hbox hg; have hnb8 := Zd.out; have hnc8 := Ze.out; have hcz9_0 : w7.cell? ⟨gb843, 0, none⟩ = some (.slice A0_0 l0_0.length c0_0) := (blk_cell Za.out 0).trans rfl; have hcz9_1 : w7.cell? ⟨gb843, 1, none⟩ = some (.slice A0_1 l0_1.length c0_1) := (blk_cell Za.out 1).trans rfl; have hfz9_0 := blk_frozen Za.out 0; have hfz9_1 := blk_frozen Za.out 1) | ((with_reducible refine gate_callee (f := 74) rfl ?_); refine goesL_ (some 9) rfl rfl Try.func74 (by kernel_rfl) rfl #[.agg #[.slice A0_0 l0_0.length c0_0, .slice A0_1 l0_1.length c0_1], .int .i64 a1] rfl zq ?_; (with_reducible refine (impl_Disk_codes.calls _ _ l0_0 _ _ l0_1 a1 t845 _ ?side1 ?side2 ?side3 ?side4 A3.out).mono ?_); (case side1 => repeat (first | exact (Kd.C_below Zg.out HB.out) | (with_reducible refine Kd.C_alloc ?_ _) | (with_reducible refine Kd.C_drewN ?_ _) | (with_reducible refine Kd.C_drew ?_))); (case side2 => exact Zh.out); (case side3 => repeat (first | exact (Kd.C_below Zi.out HB.out) | (with_reducible refine Kd.C_alloc ?_ _) | (with_reducible refine Kd.C_drewN ?_ _) | (with_reducible refine Kd.C_drew ?_))); (case side4 => exact Zj.out); rintro e w10 ⟨rfl, hb⟩; refine ⟨_, rfl, ?_⟩; have n0_ := zm (blk_below (g := gb843) (o := .cells #[.slice A0_0 l0_0.length c0_0, .slice A0_1 l0_1.length c0_1] 48 (0, 0)) (zg_2 Za.out) hb); have n1_ := zm (blk_below (g := gb844) (o := .cells #[.slice none 0 0, .slice none 0 0] 48 (0, 0)) (zg_2 Zb.out) hb); have n2_ := zm (below_step (zg_3 HB.out Zc.out Zf.out) hb); clear Za; clear Zb; clear HB; have Za := n0_; have Zb := n1_; have HB := n2_; clear n0_ n1_ n2_; (try clear hb); (try clear hb2); (try clear hk); (try clear hi); have hcz11_0 : w10.cell? ⟨gb843, 0, none⟩ = some (.slice A0_0 l0_0.length c0_0) := (blk_cell Za.out 0).trans rfl; have hcz11_1 : w10.cell? ⟨gb843, 1, none⟩ = some (.slice A0_1 l0_1.length c0_1) := (blk_cell Za.out 1).trans rfl; have hfz11_0 := blk_frozen Za.out 0; have hfz11_1 := blk_frozen Za.out 1) | ((with_reducible refine gate_callee (f := 70) rfl ?_); refine goesL_ (some 16) rfl rfl Try.func70 (by kernel_rfl) rfl #[.agg #[.slice A0_0 l0_0.length c0_0, .slice A0_1 l0_1.length c0_1], .int .i64 a1, .int .i64 200, .bool false] rfl zq ?_; (with_reducible refine (impl_Disk_settle.calls _ _ l0_0 _ _ l0_1 a1 200 false t846 t849 _ ?side1 ?side2 ?side3 ?side4 A5.out).mono ?_); (case side1 => repeat (first | exact (Kd.C_below Zg.out HB.out) | (with_reducible refine Kd.C_alloc ?_ _) | (with_reducible refine Kd.C_drewN ?_ _) | (with_reducible refine Kd.C_drew ?_))); (case side2 => exact Zh.out); (case side3 => repeat (first | exact (Kd.C_below Zi.out HB.out) | (with_reducible refine Kd.C_alloc ?_ _) | (with_reducible refine Kd.C_drewN ?_ _) | (with_reducible refine Kd.C_drew ?_))); (case side4 => exact Zj.out); rintro e w12 ⟨v847, v850, rfl, ho0, ho1, hb⟩; refine ⟨_, rfl, ?_⟩; have n0_ := zm (Kd.R_lower ho0 (below_size (zg_3 HB.out Zc.out Zf.out))); have n1_ := zm (Kd.R_lower ho1 (below_size (zg_3 HB.out Zc.out Zf.out))); have n2_ := zm (blk_below (g := gb843) (o := .cells #[.slice A0_0 l0_0.length c0_0, .slice A0_1 l0_1.length c0_1] 48 (0, 0)) (zg_2 Za.out) hb); have n3_ := zm (blk_below (g := gb844) (o := .cells #[.slice none 0 0, .slice none 0 0] 48 (0, 0)) (zg_2 Zb.out) hb); have n4_ := zm (below_step (zg_3 HB.out Zc.out Zf.out) hb); clear Za; clear Zb; clear HB; have Zk := n0_; have Zl := n1_; have Za := n2_; have Zb := n3_; have HB := n4_; clear n0_ n1_ n2_ n3_ n4_; (try clear hb); (try clear hb2); (try clear hk); (try clear hi); (try clear ho0); (try clear ho1); obtain ⟨Ao13, co13, eo13⟩ := Kd.R_slice Zk.out; subst eo13; have hcz14_0 : w12.cell? ⟨gb844, 0, none⟩ = some (.slice none 0 0) := (blk_cell Zb.out 0).trans rfl; have hcz14_1 : w12.cell? ⟨gb844, 1, none⟩ = some (.slice none 0 0) := (blk_cell Zb.out 1).trans rfl; have hfz14_0 := blk_frozen Zb.out 0; have hfz14_1 := blk_frozen Zb.out 1; obtain ⟨Ao15, co15, eo15⟩ := Kd.R_slice Zl.out; subst eo15))
  refine bodyPost_ret (results_ct rfl _ _ gb844 48 #[.slice Ao13 t846.length co13, .slice Ao15 t849.length co15] (0, 0) _ rfl (by (with_reducible repeat (first | refine blk_drewN ?_ _ | refine blk_drew ?_ | refine blk_alloc ?_ _)); refine blk_put (cs := #[.slice Ao13 t846.length co13, .slice none 0 0]) ?_ 1 _ rfl; (with_reducible repeat (first | refine blk_drewN ?_ _ | refine blk_drew ?_ | refine blk_alloc ?_ _)); refine blk_put (cs := #[.slice none 0 0, .slice none 0 0]) ?_ 0 _ rfl; (with_reducible repeat (first | refine blk_drewN ?_ _ | refine blk_drew ?_ | refine blk_alloc ?_ _)); exact Zb.out) Try.underlying48 rfl (by kernel_rfl)) rfl ?_
  exact ⟨_, _, by first | rfl | (simp [errW_none, errW_some] <;> rfl) | (simp [*, errW_none, errW_some] <;> rfl), by (with_reducible repeat (first | apply Kd.R_alloc | apply Kd.R_drewN | apply Kd.R_drew)); exact Kd.R_mono (Kd.R_far (p := ⟨gb844, 1, none⟩) (Kd.R_far (p := ⟨gb844, 0, none⟩) (Kd.R_types Zk.out Zb.out (by decide)) (fun _ hk => hk.2) (.slice Ao13 t846.length co13)) (fun _ hk => hk.2) (.slice Ao15 t849.length co15)) (fun _ hk => trivial), by (with_reducible repeat (first | apply Kd.R_alloc | apply Kd.R_drewN | apply Kd.R_drew)); exact Kd.R_mono (Kd.R_far (p := ⟨gb844, 1, none⟩) (Kd.R_far (p := ⟨gb844, 0, none⟩) (Kd.R_types Zl.out Zb.out (by decide)) (fun _ hk => hk.2) (.slice Ao13 t846.length co13)) (fun _ hk => hk.2) (.slice Ao15 t849.length co15)) (fun _ hk => trivial), zg_3 HB.out Zc.out Zf.out⟩
 ·rw [if_neg c4] at H
  have c4b0 : (t845 == 0) = false := beq_eq_false_iff_ne.mpr c4
  have c4b1 : (t845 != 0) = true := bne_iff_ne.mpr c4
  simp only [Option.some.injEq, Prod.mk.injEq] at H
  obtain ⟨rfl, rfl, rfl⟩ := H
  go_enter Try.func40, Try.ntmps40
  go_wp2_with (first | ((with_reducible refine gate_dst (N := 2) rfl ?_); refine box_event ?hg (N := 2) ?hd (cs := #[.slice A0_0 l0_0.length c0_0, .slice A0_1 l0_1.length c0_1]) (t := 48) ?hr ?_; (case hd => rfl); (case hg => rfl); (case hr => first | (go_simp; done) | (go_simp; rfl)); intro gb843 hg w16 hbox hb; have n0_ := zm (below_step (zg_0 HB.out) hb); have n1_ := zm (hbox); have n2_ := zm ((by rw [hg]; exact (below_size (zg_0 HB.out)) : w.heap.size ≤ gb843)); have n3_ := zm ((by rw [hg]; exact (below_size (zg_0 HB.out)) : w.heap.size ≤ gb843)); clear HB; have HB := n0_; have Za := n1_; have Zm := n2_; have Zc := n3_; clear n0_ n1_ n2_ n3_; clear hb hbox hg) | ((with_reducible refine gate_dst (N := 4) rfl ?_); refine box_event ?hg (N := 4) ?hd (cs := #[.slice none 0 0, .slice none 0 0]) (t := 48) ?hr ?_; (case hd => rfl); (case hg => rfl); (case hr => first | (go_simp; done) | (go_simp; rfl)); intro gb844 hg w17 hbox hb; have n0_ := zm (blk_below (g := gb843) (o := .cells #[.slice A0_0 l0_0.length c0_0, .slice A0_1 l0_1.length c0_1] 48 (0, 0)) (zg_2 Za.out) hb); have n1_ := zm (below_step (zg_1 HB.out Zc.out) hb); have n2_ := zm (hbox); have n3_ := zm ((by rw [hg]; exact (below_size (zg_1 HB.out Zc.out)) : w.heap.size ≤ gb844)); have n4_ := zm ((by rw [hg]; exact (below_size (zg_1 HB.out Zc.out)) : w.heap.size ≤ gb844)); have n5_ := zm ((by rw [hg]; exact Nat.ne_of_lt (blk_lt (g := gb843) (o := .cells #[.slice A0_0 l0_0.length c0_0, .slice A0_1 l0_1.length c0_1] 48 (0, 0)) (zg_2 Za.out)) : gb843 ≠ gb844)); have n6_ := zm ((by rw [hg]; exact Nat.ne_of_gt (blk_lt (g := gb843) (o := .cells #[.slice A0_0 l0_0.length c0_0, .slice A0_1 l0_1.length c0_1] 48 (0, 0)) (zg_2 Za.out)) : gb844 ≠ gb843)); clear Za; clear HB; have Za := n0_; have HB := n1_; have Zb := n2_; have Zn := n3_; have Zf := n4_; have Zd := n5_; have Ze := n6_; clear n0_ n1_ n2_ n3_ n4_ n5_ n6_; clear hb hbox hg; have hnb18 := Zd.out; have hnc18 := Ze.out; have hcz19_0 : w17.cell? ⟨gb843, 0, none⟩ = some (.slice A0_0 l0_0.length c0_0) := (blk_cell Za.out 0).trans rfl; have hcz19_1 : w17.cell? ⟨gb843, 1, none⟩ = some (.slice A0_1 l0_1.length c0_1) := (blk_cell Za.out 1).trans rfl; have hfz19_0 := blk_frozen Za.out 0; have hfz19_1 := blk_frozen Za.out 1) | ((with_reducible refine gate_callee (f := 74) rfl ?_); refine goesL_ (some 9) rfl rfl Try.func74 (by kernel_rfl) rfl #[.agg #[.slice A0_0 l0_0.length c0_0, .slice A0_1 l0_1.length c0_1], .int .i64 a1] rfl zq ?_; (with_reducible refine (impl_Disk_codes.calls _ _ l0_0 _ _ l0_1 a1 t845 _ ?side1 ?side2 ?side3 ?side4 A3.out).mono ?_); (case side1 => repeat (first | exact (Kd.C_below Zg.out HB.out) | (with_reducible refine Kd.C_alloc ?_ _) | (with_reducible refine Kd.C_drewN ?_ _) | (with_reducible refine Kd.C_drew ?_))); (case side2 => exact Zh.out); (case side3 => repeat (first | exact (Kd.C_below Zi.out HB.out) | (with_reducible refine Kd.C_alloc ?_ _) | (with_reducible refine Kd.C_drewN ?_ _) | (with_reducible refine Kd.C_drew ?_))); (case side4 => exact Zj.out); rintro e w20 ⟨rfl, hb⟩; refine ⟨_, rfl, ?_⟩; have n0_ := zm (blk_below (g := gb843) (o := .cells #[.slice A0_0 l0_0.length c0_0, .slice A0_1 l0_1.length c0_1] 48 (0, 0)) (zg_2 Za.out) hb); have n1_ := zm (blk_below (g := gb844) (o := .cells #[.slice none 0 0, .slice none 0 0] 48 (0, 0)) (zg_2 Zb.out) hb); have n2_ := zm (below_step (zg_3 HB.out Zc.out Zf.out) hb); clear Za; clear Zb; clear HB; have Za := n0_; have Zb := n1_; have HB := n2_; clear n0_ n1_ n2_; (try clear hb); (try clear hb2); (try clear hk); (try clear hi); have hcz21_0 : w20.cell? ⟨gb844, 0, none⟩ = some (.slice none 0 0) := (blk_cell Zb.out 0).trans rfl; have hcz21_1 : w20.cell? ⟨gb844, 1, none⟩ = some (.slice none 0 0) := (blk_cell Zb.out 1).trans rfl; have hfz21_0 := blk_frozen Zb.out 0; have hfz21_1 := blk_frozen Zb.out 1))
  refine bodyPost_ret (results_ct rfl _ _ gb844 48 #[.slice none 0 0, .slice none 0 0] (0, 0) _ rfl (by (with_reducible repeat (first | refine blk_drewN ?_ _ | refine blk_drew ?_ | refine blk_alloc ?_ _)); refine blk_put (cs := #[.slice none 0 0, .slice none 0 0]) ?_ 1 _ rfl; (with_reducible repeat (first | refine blk_drewN ?_ _ | refine blk_drew ?_ | refine blk_alloc ?_ _)); refine blk_put (cs := #[.slice none 0 0, .slice none 0 0]) ?_ 0 _ rfl; (with_reducible repeat (first | refine blk_drewN ?_ _ | refine blk_drew ?_ | refine blk_alloc ?_ _)); exact Zb.out) Try.underlying48 rfl (by kernel_rfl)) rfl ?_
  exact ⟨_, _, by first | rfl | (simp [errW_none, errW_some] <;> rfl) | (simp [*, errW_none, errW_some] <;> rfl), by first | exact Kd.R_nil _ _ _ _ _ | exact Kd.N_nil _ _ _ _ _ | exact Kd.V_nil _ _ _ _ _ | exact Kd.Q_nil _ _ _ _ _ | exact Kd.S_nil _ _ _ _ _, by first | exact Kd.R_nil _ _ _ _ _ | exact Kd.N_nil _ _ _ _ _ | exact Kd.V_nil _ _ _ _ _ | exact Kd.Q_nil _ _ _ _ _ | exact Kd.S_nil _ _ _ _ _, zg_3 HB.out Zc.out Zf.out⟩
/-! ### impl_LoseHost: function 25 -/
def impl_LoseHost.f (l0_0 : List ByteArray) (l0_1 : List (S92)) (a1 : Int) (a2 : Int) : Option (List ByteArray × (List (S92)) × Int) := (impl_DiskOK.f l0_0 l0_1).bind fun t556 => ((impl_isHost.f a1).bind fun t557 => ((impl_within.f a2 0 200).bind fun t558 => ((impl_first.f (([Any.b (!t556), Any.n 1, Any.b (!t557), Any.n 4, Any.b (!t558), Any.n 4] : List Any))).bind fun t562 => (if t562 = 0 then ((impl_Disk_settle.f l0_0 l0_1 a1 a2 true).bind fun bt563 => (some (bt563.1, bt563.2, 0))) else (some (([] : List ByteArray), ([] : List (S92)), t562))))))
set_option maxHeartbeats 8000000 in
set_option maxRecDepth 100000 in
theorem impl_LoseHost.calls (A0_0 : Option Addr) (c0_0 : Nat) (l0_0 : List ByteArray) (A0_1 : Option Addr) (c0_1 : Nat) (l0_1 : List (S92)) (a1 : Int) (a2 : Int) (r1 : List ByteArray) (r2 : List (S92)) (r3 : Int) (w : World) (hr0_0 : Kd.C Kd.string w A0_0 l0_0.length l0_0) (hc0_0 : l0_0.length ≤ c0_0) (hr0_1 : Kd.C k92 w A0_1 l0_1.length l0_1) (hc0_1 : l0_1.length ≤ c0_1) (h : impl_LoseHost.f l0_0 l0_1 a1 a2 = some (r1, r2, r3)) :
    Calls Try.prog 25 #[.agg #[.slice A0_0 l0_0.length c0_0, .slice A0_1 l0_1.length c0_1], .int .i64 a1, .int .i64 a2] w fun e w' => ∃ v0_ v1_ : Value, e = .returned (.tuple #[.agg #[v0_, v1_], .int .i64 r3]) ∧ Kd.R Kd.string 9 w' w.heap.size (fun _ => True) v0_ r1 ∧ Kd.R k92 92 w' w.heap.size (fun _ => True) v1_ r2 ∧ Below w.heap.size w w' := by
 have hu48 := Try.underlying48
 have Zh := zm hr0_0
 have Zi := zm hc0_0
 clear hr0_0 hc0_0
 have Zj := zm hr0_1
 have Zk := zm hc0_1
 clear hr0_1 hc0_1
 have HB := zm (Below.refl w.heap.size w)
 have H : ((impl_DiskOK.f l0_0 l0_1).bind fun t556 => ((impl_isHost.f a1).bind fun t557 => ((impl_within.f a2 0 200).bind fun t558 => ((impl_first.f (([Any.b (!t556), Any.n 1, Any.b (!t557), Any.n 4, Any.b (!t558), Any.n 4] : List Any))).bind fun t562 => (if t562 = 0 then ((impl_Disk_settle.f l0_0 l0_1 a1 a2 true).bind fun bt563 => (some (bt563.1, bt563.2, 0))) else (some (([] : List ByteArray), ([] : List (S92)), t562))))))) = some (r1, r2, r3) := h
 clear h
 replace H := Option.bind_eq_some_iff.mp H
 obtain ⟨t556, A40, H⟩ := H
 replace H : ((impl_isHost.f a1).bind fun t557 => ((impl_within.f a2 0 200).bind fun t558 => ((impl_first.f (([Any.b (!t556), Any.n 1, Any.b (!t557), Any.n 4, Any.b (!t558), Any.n 4] : List Any))).bind fun t562 => (if t562 = 0 then ((impl_Disk_settle.f l0_0 l0_1 a1 a2 true).bind fun bt563 => (some (bt563.1, bt563.2, 0))) else (some (([] : List ByteArray), ([] : List (S92)), t562)))))) = some (r1, r2, r3) := H
 have A4 := zm A40
 clear A40
 replace H := Option.bind_eq_some_iff.mp H
 obtain ⟨t557, A50, H⟩ := H
 replace H : ((impl_within.f a2 0 200).bind fun t558 => ((impl_first.f (([Any.b (!t556), Any.n 1, Any.b (!t557), Any.n 4, Any.b (!t558), Any.n 4] : List Any))).bind fun t562 => (if t562 = 0 then ((impl_Disk_settle.f l0_0 l0_1 a1 a2 true).bind fun bt563 => (some (bt563.1, bt563.2, 0))) else (some (([] : List ByteArray), ([] : List (S92)), t562))))) = some (r1, r2, r3) := H
 have A5 := zm A50
 clear A50
 replace H := Option.bind_eq_some_iff.mp H
 obtain ⟨t558, A60, H⟩ := H
 replace H : ((impl_first.f (([Any.b (!t556), Any.n 1, Any.b (!t557), Any.n 4, Any.b (!t558), Any.n 4] : List Any))).bind fun t562 => (if t562 = 0 then ((impl_Disk_settle.f l0_0 l0_1 a1 a2 true).bind fun bt563 => (some (bt563.1, bt563.2, 0))) else (some (([] : List ByteArray), ([] : List (S92)), t562)))) = some (r1, r2, r3) := H
 have A6 := zm A60
 clear A60
 obtain ⟨y559, hy559⟩ : ∃ y_ : List Any, y_ = (([Any.b (!t556), Any.n 1, Any.b (!t557), Any.n 4, Any.b (!t558), Any.n 4] : List Any)) := ⟨_, rfl⟩
 replace H : ((impl_first.f y559).bind fun t562 => (if t562 = 0 then ((impl_Disk_settle.f l0_0 l0_1 a1 a2 true).bind fun bt563 => (some (bt563.1, bt563.2, 0))) else (some (([] : List ByteArray), ([] : List (S92)), t562)))) = some (r1, r2, r3) := by first | (rw [hy559]; with_reducible exact H) | (have H2_ := (Option.bind_some _ _).symm.trans H; rw [hy559]; with_reducible exact H2_) | (have H2_ := (Option.bind_some _ _).symm.trans H; with_reducible exact H2_) | with_reducible exact H | (rw [hy559]; exact H) | exact H
 have Ny559 := zm hy559
 clear hy559
 replace H := Option.bind_eq_some_iff.mp H
 obtain ⟨t562, A70, H⟩ := H
 replace H : (if t562 = 0 then ((impl_Disk_settle.f l0_0 l0_1 a1 a2 true).bind fun bt563 => (some (bt563.1, bt563.2, 0))) else (some (([] : List ByteArray), ([] : List (S92)), t562))) = some (r1, r2, r3) := H
 have A7 := zm A70
 clear A70
 by_cases c8 : t562 = 0
 ·rw [if_pos c8] at H
  have c8b0 : (t562 == 0) = true := beq_iff_eq.mpr c8
  have c8b1 : (t562 != 0) = false := bne_eq_false_iff_eq.mpr c8
  clear c8
  replace H := Option.bind_eq_some_iff.mp H
  obtain ⟨⟨t563, t566⟩, A90, H⟩ := H
  replace H : (some (t563, t566, 0)) = some (r1, r2, r3) := H
  have A9 := zm A90
  clear A90
  simp only [Option.some.injEq, Prod.mk.injEq] at H
  obtain ⟨rfl, rfl, rfl⟩ := H
  go_enter Try.func25, Try.ntmps25
  go_wp2_with (first | ((with_reducible refine gate_dst (N := 3) rfl ?_); refine box_event ?hg (N := 3) ?hd (cs := #[.slice A0_0 l0_0.length c0_0, .slice A0_1 l0_1.length c0_1]) (t := 48) ?hr ?_; (case hd => rfl); (case hg => rfl); (case hr => first | (go_simp; done) | (go_simp; rfl)); intro gb554 hg w10 hbox hb; have n0_ := zm (below_step (zg_0 HB.out) hb); have n1_ := zm (hbox); have n2_ := zm ((by rw [hg]; exact (below_size (zg_0 HB.out)) : w.heap.size ≤ gb554)); have n3_ := zm ((by rw [hg]; exact (below_size (zg_0 HB.out)) : w.heap.size ≤ gb554)); clear HB; have HB := n0_; have Za := n1_; have Zn := n2_; have Zc := n3_; clear n0_ n1_ n2_ n3_; clear hb hbox hg) | ((with_reducible refine gate_dst (N := 6) rfl ?_); refine box_event ?hg (N := 6) ?hd (cs := #[.slice none 0 0, .slice none 0 0]) (t := 48) ?hr ?_; (case hd => rfl); (case hg => rfl); (case hr => first | (go_simp; done) | (go_simp; rfl)); intro gb555 hg w11 hbox hb; have n0_ := zm (blk_below (g := gb554) (o := .cells #[.slice A0_0 l0_0.length c0_0, .slice A0_1 l0_1.length c0_1] 48 (0, 0)) (zg_2 Za.out) hb); have n1_ := zm (below_step (zg_1 HB.out Zc.out) hb); have n2_ := zm (hbox); have n3_ := zm ((by rw [hg]; exact (below_size (zg_1 HB.out Zc.out)) : w.heap.size ≤ gb555)); have n4_ := zm ((by rw [hg]; exact (below_size (zg_1 HB.out Zc.out)) : w.heap.size ≤ gb555)); have n5_ := zm ((by rw [hg]; exact Nat.ne_of_lt (blk_lt (g := gb554) (o := .cells #[.slice A0_0 l0_0.length c0_0, .slice A0_1 l0_1.length c0_1] 48 (0, 0)) (zg_2 Za.out)) : gb554 ≠ gb555)); have n6_ := zm ((by rw [hg]; exact Nat.ne_of_gt (blk_lt (g := gb554) (o := .cells #[.slice A0_0 l0_0.length c0_0, .slice A0_1 l0_1.length c0_1] 48 (0, 0)) (zg_2 Za.out)) : gb555 ≠ gb554)); clear Za; clear HB; have Za := n0_; have HB := n1_; have Zb := n2_; have Zo := n3_; have Zd := n4_; have Zf := n5_; have Zg := n6_; clear n0_ n1_ n2_ n3_ n4_ n5_ n6_; clear hb hbox hg; have hnb12 := Zf.out; have hnc12 := Zg.out; have hcz13_0 : w11.cell? ⟨gb554, 0, none⟩ = some (.slice A0_0 l0_0.length c0_0) := (blk_cell Za.out 0).trans rfl; have hcz13_1 : w11.cell? ⟨gb554, 1, none⟩ = some (.slice A0_1 l0_1.length c0_1) := (blk_cell Za.out 1).trans rfl; have hfz13_0 := blk_frozen Za.out 0; have hfz13_1 := blk_frozen Za.out 1) | ((with_reducible refine gate_callee (f := 42) rfl ?_); refine goesL_ (some 10) rfl rfl Try.func42 (by kernel_rfl) rfl #[.agg #[.slice A0_0 l0_0.length c0_0, .slice A0_1 l0_1.length c0_1]] rfl zq ?_; (with_reducible refine (impl_DiskOK.calls _ _ l0_0 _ _ l0_1 t556 _ ?side1 ?side2 ?side3 ?side4 A4.out).mono ?_); (case side1 => repeat (first | exact (Kd.C_below Zh.out HB.out) | (with_reducible refine Kd.C_alloc ?_ _) | (with_reducible refine Kd.C_drewN ?_ _) | (with_reducible refine Kd.C_drew ?_))); (case side2 => exact Zi.out); (case side3 => repeat (first | exact (Kd.C_below Zj.out HB.out) | (with_reducible refine Kd.C_alloc ?_ _) | (with_reducible refine Kd.C_drewN ?_ _) | (with_reducible refine Kd.C_drew ?_))); (case side4 => exact Zk.out); rintro e w14 ⟨rfl, hb⟩; refine ⟨_, rfl, ?_⟩; have n0_ := zm (blk_below (g := gb554) (o := .cells #[.slice A0_0 l0_0.length c0_0, .slice A0_1 l0_1.length c0_1] 48 (0, 0)) (zg_2 Za.out) hb); have n1_ := zm (blk_below (g := gb555) (o := .cells #[.slice none 0 0, .slice none 0 0] 48 (0, 0)) (zg_2 Zb.out) hb); have n2_ := zm (below_step (zg_3 HB.out Zc.out Zd.out) hb); clear Za; clear Zb; clear HB; have Za := n0_; have Zb := n1_; have HB := n2_; clear n0_ n1_ n2_; (try clear hb); (try clear hb2); (try clear hk); (try clear hi)) | ((with_reducible refine gate_callee (f := 56) rfl ?_); refine goesL_ (some 15) rfl rfl Try.func56 (by kernel_rfl) rfl #[.int .i64 a1] rfl zq ?_; (with_reducible refine (impl_isHost.calls a1 t557 _ A5.out).mono ?_); rintro e w' ⟨rfl, ⟨nd, rfl⟩⟩; refine ⟨_, rfl, ?_⟩; (try (rw [drewN_self w14]; generalize hq_ : World.drewN w14 _ = w14; have n0_ : Aside0 (w14.heap[gb554]? = some (.cells #[.slice A0_0 l0_0.length c0_0, .slice A0_1 l0_1.length c0_1] 48 (0, 0))) := ⟨by rw [← hq_]; exact (zg_2 Za.out)⟩; have n1_ : Aside0 (w14.heap[gb555]? = some (.cells #[.slice none 0 0, .slice none 0 0] 48 (0, 0))) := ⟨by rw [← hq_]; exact (zg_2 Zb.out)⟩; have n2_ : Aside0 (Below w.heap.size w w14) := ⟨by rw [← hq_]; exact (zg_3 HB.out Zc.out Zd.out)⟩; clear Za Zb HB hq_; have Za := n0_; have Zb := n1_; have HB := n2_; clear n0_ n1_ n2_))) | ((with_reducible refine gate_callee (f := 65) rfl ?_); refine goesL_ (some 20) rfl rfl Try.func65 (by kernel_rfl) rfl #[.int .i64 a2, .int .i64 0, .int .i64 200] rfl zq ?_; (with_reducible refine (impl_within.calls a2 0 200 t558 _ A6.out).mono ?_); rintro e w' ⟨rfl, ⟨nd, rfl⟩⟩; refine ⟨_, rfl, ?_⟩; (try (rw [drewN_self w14]; generalize hq_ : World.drewN w14 _ = w14; have n0_ : Aside0 (w14.heap[gb554]? = some (.cells #[.slice A0_0 l0_0.length c0_0, .slice A0_1 l0_1.length c0_1] 48 (0, 0))) := ⟨by rw [← hq_]; exact (zg_2 Za.out)⟩; have n1_ : Aside0 (w14.heap[gb555]? = some (.cells #[.slice none 0 0, .slice none 0 0] 48 (0, 0))) := ⟨by rw [← hq_]; exact (zg_2 Zb.out)⟩; have n2_ : Aside0 (Below w.heap.size w w14) := ⟨by rw [← hq_]; exact (zg_3 HB.out Zc.out Zd.out)⟩; clear Za Zb HB hq_; have Za := n0_; have Zb := n1_; have HB := n2_; clear n0_ n1_ n2_))) | ((with_reducible refine gate_dst (N := 24) rfl ?_); refine Kd.R_lit kAny _ 20 ?hg (N := 24) ?hd (xs := ([Any.b (!t556), Any.n 1, Any.b (!t557), Any.n 4, Any.b (!t558), Any.n 4] : List Any)) (inner := [.iface 4 (.bool (!t556)), .iface 3 (.int .i64 1), .iface 4 (.bool (!t557)), .iface 3 (.int .i64 4), .iface 4 (.bool (!t558)), .iface 3 (.int .i64 4)]) (ok := fun _ => True) (okp := fun _ => True) ?hr ?hp (fun _ hk => hk) trivial (Below.refl _ _) (Nat.le_refl _) (by simp) ?_; (case hd => rfl); (case hg => rfl); (case hr => first | (go_simp; done) | (go_simp; rfl)); (case hp => exact (Reps.one (show Kd.M kAny _ _ _ (Any.b (!t556)) [.iface 4 (.bool (!t556))] from rfl) (Reps.one (show Kd.M kAny _ _ _ (Any.n 1) [.iface 3 (.int .i64 1)] from rfl) (Reps.one (show Kd.M kAny _ _ _ (Any.b (!t557)) [.iface 4 (.bool (!t557))] from rfl) (Reps.one (show Kd.M kAny _ _ _ (Any.n 4) [.iface 3 (.int .i64 4)] from rfl) (Reps.one (show Kd.M kAny _ _ _ (Any.b (!t558)) [.iface 4 (.bool (!t558))] from rfl) (Reps.one (show Kd.M kAny _ _ _ (Any.n 4) [.iface 3 (.int .i64 4)] from rfl) (Reps.none _ _)))))))); intro v560 w15 ho16 hb hg_ hnew_; clear hg_ hnew_; (first | rw [← Ny559.out] at ho16 | (simp only [Int.reduceToNat] at ho16; rw [← Ny559.out] at ho16)); have n0_ := zm (Kd.R_lower ho16 (below_size (zg_3 HB.out Zc.out Zd.out))); have n1_ := zm (blk_below (g := gb554) (o := .cells #[.slice A0_0 l0_0.length c0_0, .slice A0_1 l0_1.length c0_1] 48 (0, 0)) (zg_2 Za.out) hb); have n2_ := zm (blk_below (g := gb555) (o := .cells #[.slice none 0 0, .slice none 0 0] 48 (0, 0)) (zg_2 Zb.out) hb); have n3_ := zm (below_step (zg_3 HB.out Zc.out Zd.out) hb); clear Za; clear Zb; clear HB; have Ze := n0_; have Za := n1_; have Zb := n2_; have HB := n3_; clear n0_ n1_ n2_ n3_; clear hb ho16; obtain ⟨Ao17, co17, eo17⟩ := Kd.R_slice Ze.out; subst eo17) | ((with_reducible refine gate_callee (f := 54) rfl ?_); refine goesL_ (some 25) rfl rfl Try.func54 (by kernel_rfl) rfl #[.slice Ao17 y559.length co17] rfl zq ?_; (with_reducible refine (impl_first.calls _ _ y559 t562 _ ?side1 ?side2 A7.out).mono ?_); (case side1 => repeat (first | exact (Kd.R_reads' Ze.out).2.2 | (with_reducible refine Kd.C_alloc ?_ _) | (with_reducible refine Kd.C_drewN ?_ _) | (with_reducible refine Kd.C_drew ?_))); (case side2 => exact (Kd.R_reads' Ze.out).2.1); rintro e w' ⟨rfl, ⟨nd, rfl⟩⟩; refine ⟨_, rfl, ?_⟩; (try (rw [drewN_self w15]; generalize hq_ : World.drewN w15 _ = w15; have n0_ : Aside0 (Kd.R kAny 20 w15 w.heap.size (fun _ => True) (.slice Ao17 y559.length co17) y559) := ⟨by rw [← hq_]; exact (zg_4 Ze.out)⟩; have n1_ : Aside0 (w15.heap[gb554]? = some (.cells #[.slice A0_0 l0_0.length c0_0, .slice A0_1 l0_1.length c0_1] 48 (0, 0))) := ⟨by rw [← hq_]; exact (zg_2 Za.out)⟩; have n2_ : Aside0 (w15.heap[gb555]? = some (.cells #[.slice none 0 0, .slice none 0 0] 48 (0, 0))) := ⟨by rw [← hq_]; exact (zg_2 Zb.out)⟩; have n3_ : Aside0 (Below w.heap.size w w15) := ⟨by rw [← hq_]; exact (zg_3 HB.out Zc.out Zd.out)⟩; clear Ze Za Zb HB hq_; have Ze := n0_; have Za := n1_; have Zb := n2_; have HB := n3_; clear n0_ n1_ n2_ n3_)); have hcz18_0 : w15.cell? ⟨gb554, 0, none⟩ = some (.slice A0_0 l0_0.length c0_0) := (blk_cell Za.out 0).trans rfl; have hcz18_1 : w15.cell? ⟨gb554, 1, none⟩ = some (.slice A0_1 l0_1.length c0_1) := (blk_cell Za.out 1).trans rfl; have hfz18_0 := blk_frozen Za.out 0; have hfz18_1 := blk_frozen Za.out 1) | ((with_reducible refine gate_callee (f := 70) rfl ?_); refine goesL_ (some 33) rfl rfl Try.func70 (by kernel_rfl) rfl #[.agg #[.slice A0_0 l0_0.length c0_0, .slice A0_1 l0_1.length c0_1], .int .i64 a1, .int .i64 a2, .bool true] rfl zq ?_; (with_reducible refine (impl_Disk_settle.calls _ _ l0_0 _ _ l0_1 a1 a2 true t563 t566 _ ?side1 ?side2 ?side3 ?side4 A9.out).mono ?_); (case side1 => repeat (first | exact (Kd.C_below Zh.out HB.out) | (with_reducible refine Kd.C_alloc ?_ _) | (with_reducible refine Kd.C_drewN ?_ _) | (with_reducible refine Kd.C_drew ?_))); (case side2 => exact Zi.out); (case side3 => repeat (first | exact (Kd.C_below Zj.out HB.out) | (with_reducible refine Kd.C_alloc ?_ _) | (with_reducible refine Kd.C_drewN ?_ _) | (with_reducible refine Kd.C_drew ?_))); (case side4 => exact Zk.out); rintro e w19 ⟨v564, v567, rfl, ho0, ho1, hb⟩; refine ⟨_, rfl, ?_⟩; have n0_ := zm (Kd.R_below (zg_4 Ze.out) hb); have n1_ := zm (Kd.R_lower ho0 (below_size (zg_3 HB.out Zc.out Zd.out))); have n2_ := zm (Kd.R_lower ho1 (below_size (zg_3 HB.out Zc.out Zd.out))); have n3_ := zm (blk_below (g := gb554) (o := .cells #[.slice A0_0 l0_0.length c0_0, .slice A0_1 l0_1.length c0_1] 48 (0, 0)) (zg_2 Za.out) hb); have n4_ := zm (blk_below (g := gb555) (o := .cells #[.slice none 0 0, .slice none 0 0] 48 (0, 0)) (zg_2 Zb.out) hb); have n5_ := zm (below_step (zg_3 HB.out Zc.out Zd.out) hb); clear Ze; clear Za; clear Zb; clear HB; have Ze := n0_; have Zl := n1_; have Zm := n2_; have Za := n3_; have Zb := n4_; have HB := n5_; clear n0_ n1_ n2_ n3_ n4_ n5_; (try clear hb); (try clear hb2); (try clear hk); (try clear hi); (try clear ho0); (try clear ho1); obtain ⟨Ao20, co20, eo20⟩ := Kd.R_slice Zl.out; subst eo20; have hcz21_0 : w19.cell? ⟨gb555, 0, none⟩ = some (.slice none 0 0) := (blk_cell Zb.out 0).trans rfl; have hcz21_1 : w19.cell? ⟨gb555, 1, none⟩ = some (.slice none 0 0) := (blk_cell Zb.out 1).trans rfl; have hfz21_0 := blk_frozen Zb.out 0; have hfz21_1 := blk_frozen Zb.out 1; obtain ⟨Ao22, co22, eo22⟩ := Kd.R_slice Zm.out; subst eo22))
  refine bodyPost_ret (results_ct rfl _ _ gb555 48 #[.slice Ao20 t563.length co20, .slice Ao22 t566.length co22] (0, 0) _ rfl (by (with_reducible repeat (first | refine blk_drewN ?_ _ | refine blk_drew ?_ | refine blk_alloc ?_ _)); refine blk_put (cs := #[.slice Ao20 t563.length co20, .slice none 0 0]) ?_ 1 _ rfl; (with_reducible repeat (first | refine blk_drewN ?_ _ | refine blk_drew ?_ | refine blk_alloc ?_ _)); refine blk_put (cs := #[.slice none 0 0, .slice none 0 0]) ?_ 0 _ rfl; (with_reducible repeat (first | refine blk_drewN ?_ _ | refine blk_drew ?_ | refine blk_alloc ?_ _)); exact Zb.out) Try.underlying48 rfl (by kernel_rfl)) rfl ?_
  exact ⟨_, _, by first | rfl | (simp [errW_none, errW_some] <;> rfl) | (simp [*, errW_none, errW_some] <;> rfl), by (with_reducible repeat (first | apply Kd.R_alloc | apply Kd.R_drewN | apply Kd.R_drew)); exact Kd.R_mono (Kd.R_far (p := ⟨gb555, 1, none⟩) (Kd.R_far (p := ⟨gb555, 0, none⟩) (Kd.R_types Zl.out Zb.out (by decide)) (fun _ hk => hk.2) (.slice Ao20 t563.length co20)) (fun _ hk => hk.2) (.slice Ao22 t566.length co22)) (fun _ hk => trivial), by (with_reducible repeat (first | apply Kd.R_alloc | apply Kd.R_drewN | apply Kd.R_drew)); exact Kd.R_mono (Kd.R_far (p := ⟨gb555, 1, none⟩) (Kd.R_far (p := ⟨gb555, 0, none⟩) (Kd.R_types Zm.out Zb.out (by decide)) (fun _ hk => hk.2) (.slice Ao20 t563.length co20)) (fun _ hk => hk.2) (.slice Ao22 t566.length co22)) (fun _ hk => trivial), zg_3 HB.out Zc.out Zd.out⟩
 ·rw [if_neg c8] at H
  have c8b0 : (t562 == 0) = false := beq_eq_false_iff_ne.mpr c8
  have c8b1 : (t562 != 0) = true := bne_iff_ne.mpr c8
  simp only [Option.some.injEq, Prod.mk.injEq] at H
  obtain ⟨rfl, rfl, rfl⟩ := H
  go_enter Try.func25, Try.ntmps25
  go_wp2_with (first | ((with_reducible refine gate_dst (N := 3) rfl ?_); refine box_event ?hg (N := 3) ?hd (cs := #[.slice A0_0 l0_0.length c0_0, .slice A0_1 l0_1.length c0_1]) (t := 48) ?hr ?_; (case hd => rfl); (case hg => rfl); (case hr => first | (go_simp; done) | (go_simp; rfl)); intro gb554 hg w23 hbox hb; have n0_ := zm (below_step (zg_0 HB.out) hb); have n1_ := zm (hbox); have n2_ := zm ((by rw [hg]; exact (below_size (zg_0 HB.out)) : w.heap.size ≤ gb554)); have n3_ := zm ((by rw [hg]; exact (below_size (zg_0 HB.out)) : w.heap.size ≤ gb554)); clear HB; have HB := n0_; have Za := n1_; have Zn := n2_; have Zc := n3_; clear n0_ n1_ n2_ n3_; clear hb hbox hg) | ((with_reducible refine gate_dst (N := 6) rfl ?_); refine box_event ?hg (N := 6) ?hd (cs := #[.slice none 0 0, .slice none 0 0]) (t := 48) ?hr ?_; (case hd => rfl); (case hg => rfl); (case hr => first | (go_simp; done) | (go_simp; rfl)); intro gb555 hg w24 hbox hb; have n0_ := zm (blk_below (g := gb554) (o := .cells #[.slice A0_0 l0_0.length c0_0, .slice A0_1 l0_1.length c0_1] 48 (0, 0)) (zg_2 Za.out) hb); have n1_ := zm (below_step (zg_1 HB.out Zc.out) hb); have n2_ := zm (hbox); have n3_ := zm ((by rw [hg]; exact (below_size (zg_1 HB.out Zc.out)) : w.heap.size ≤ gb555)); have n4_ := zm ((by rw [hg]; exact (below_size (zg_1 HB.out Zc.out)) : w.heap.size ≤ gb555)); have n5_ := zm ((by rw [hg]; exact Nat.ne_of_lt (blk_lt (g := gb554) (o := .cells #[.slice A0_0 l0_0.length c0_0, .slice A0_1 l0_1.length c0_1] 48 (0, 0)) (zg_2 Za.out)) : gb554 ≠ gb555)); have n6_ := zm ((by rw [hg]; exact Nat.ne_of_gt (blk_lt (g := gb554) (o := .cells #[.slice A0_0 l0_0.length c0_0, .slice A0_1 l0_1.length c0_1] 48 (0, 0)) (zg_2 Za.out)) : gb555 ≠ gb554)); clear Za; clear HB; have Za := n0_; have HB := n1_; have Zb := n2_; have Zo := n3_; have Zd := n4_; have Zf := n5_; have Zg := n6_; clear n0_ n1_ n2_ n3_ n4_ n5_ n6_; clear hb hbox hg; have hnb25 := Zf.out; have hnc25 := Zg.out; have hcz26_0 : w24.cell? ⟨gb554, 0, none⟩ = some (.slice A0_0 l0_0.length c0_0) := (blk_cell Za.out 0).trans rfl; have hcz26_1 : w24.cell? ⟨gb554, 1, none⟩ = some (.slice A0_1 l0_1.length c0_1) := (blk_cell Za.out 1).trans rfl; have hfz26_0 := blk_frozen Za.out 0; have hfz26_1 := blk_frozen Za.out 1) | ((with_reducible refine gate_callee (f := 42) rfl ?_); refine goesL_ (some 10) rfl rfl Try.func42 (by kernel_rfl) rfl #[.agg #[.slice A0_0 l0_0.length c0_0, .slice A0_1 l0_1.length c0_1]] rfl zq ?_; (with_reducible refine (impl_DiskOK.calls _ _ l0_0 _ _ l0_1 t556 _ ?side1 ?side2 ?side3 ?side4 A4.out).mono ?_); (case side1 => repeat (first | exact (Kd.C_below Zh.out HB.out) | (with_reducible refine Kd.C_alloc ?_ _) | (with_reducible refine Kd.C_drewN ?_ _) | (with_reducible refine Kd.C_drew ?_))); (case side2 => exact Zi.out); (case side3 => repeat (first | exact (Kd.C_below Zj.out HB.out) | (with_reducible refine Kd.C_alloc ?_ _) | (with_reducible refine Kd.C_drewN ?_ _) | (with_reducible refine Kd.C_drew ?_))); (case side4 => exact Zk.out); rintro e w27 ⟨rfl, hb⟩; refine ⟨_, rfl, ?_⟩; have n0_ := zm (blk_below (g := gb554) (o := .cells #[.slice A0_0 l0_0.length c0_0, .slice A0_1 l0_1.length c0_1] 48 (0, 0)) (zg_2 Za.out) hb); have n1_ := zm (blk_below (g := gb555) (o := .cells #[.slice none 0 0, .slice none 0 0] 48 (0, 0)) (zg_2 Zb.out) hb); have n2_ := zm (below_step (zg_3 HB.out Zc.out Zd.out) hb); clear Za; clear Zb; clear HB; have Za := n0_; have Zb := n1_; have HB := n2_; clear n0_ n1_ n2_; (try clear hb); (try clear hb2); (try clear hk); (try clear hi)) | ((with_reducible refine gate_callee (f := 56) rfl ?_); refine goesL_ (some 15) rfl rfl Try.func56 (by kernel_rfl) rfl #[.int .i64 a1] rfl zq ?_; (with_reducible refine (impl_isHost.calls a1 t557 _ A5.out).mono ?_); rintro e w' ⟨rfl, ⟨nd, rfl⟩⟩; refine ⟨_, rfl, ?_⟩; (try (rw [drewN_self w27]; generalize hq_ : World.drewN w27 _ = w27; have n0_ : Aside0 (w27.heap[gb554]? = some (.cells #[.slice A0_0 l0_0.length c0_0, .slice A0_1 l0_1.length c0_1] 48 (0, 0))) := ⟨by rw [← hq_]; exact (zg_2 Za.out)⟩; have n1_ : Aside0 (w27.heap[gb555]? = some (.cells #[.slice none 0 0, .slice none 0 0] 48 (0, 0))) := ⟨by rw [← hq_]; exact (zg_2 Zb.out)⟩; have n2_ : Aside0 (Below w.heap.size w w27) := ⟨by rw [← hq_]; exact (zg_3 HB.out Zc.out Zd.out)⟩; clear Za Zb HB hq_; have Za := n0_; have Zb := n1_; have HB := n2_; clear n0_ n1_ n2_))) | ((with_reducible refine gate_callee (f := 65) rfl ?_); refine goesL_ (some 20) rfl rfl Try.func65 (by kernel_rfl) rfl #[.int .i64 a2, .int .i64 0, .int .i64 200] rfl zq ?_; (with_reducible refine (impl_within.calls a2 0 200 t558 _ A6.out).mono ?_); rintro e w' ⟨rfl, ⟨nd, rfl⟩⟩; refine ⟨_, rfl, ?_⟩; (try (rw [drewN_self w27]; generalize hq_ : World.drewN w27 _ = w27; have n0_ : Aside0 (w27.heap[gb554]? = some (.cells #[.slice A0_0 l0_0.length c0_0, .slice A0_1 l0_1.length c0_1] 48 (0, 0))) := ⟨by rw [← hq_]; exact (zg_2 Za.out)⟩; have n1_ : Aside0 (w27.heap[gb555]? = some (.cells #[.slice none 0 0, .slice none 0 0] 48 (0, 0))) := ⟨by rw [← hq_]; exact (zg_2 Zb.out)⟩; have n2_ : Aside0 (Below w.heap.size w w27) := ⟨by rw [← hq_]; exact (zg_3 HB.out Zc.out Zd.out)⟩; clear Za Zb HB hq_; have Za := n0_; have Zb := n1_; have HB := n2_; clear n0_ n1_ n2_))) | ((with_reducible refine gate_dst (N := 24) rfl ?_); refine Kd.R_lit kAny _ 20 ?hg (N := 24) ?hd (xs := ([Any.b (!t556), Any.n 1, Any.b (!t557), Any.n 4, Any.b (!t558), Any.n 4] : List Any)) (inner := [.iface 4 (.bool (!t556)), .iface 3 (.int .i64 1), .iface 4 (.bool (!t557)), .iface 3 (.int .i64 4), .iface 4 (.bool (!t558)), .iface 3 (.int .i64 4)]) (ok := fun _ => True) (okp := fun _ => True) ?hr ?hp (fun _ hk => hk) trivial (Below.refl _ _) (Nat.le_refl _) (by simp) ?_; (case hd => rfl); (case hg => rfl); (case hr => first | (go_simp; done) | (go_simp; rfl)); (case hp => exact (Reps.one (show Kd.M kAny _ _ _ (Any.b (!t556)) [.iface 4 (.bool (!t556))] from rfl) (Reps.one (show Kd.M kAny _ _ _ (Any.n 1) [.iface 3 (.int .i64 1)] from rfl) (Reps.one (show Kd.M kAny _ _ _ (Any.b (!t557)) [.iface 4 (.bool (!t557))] from rfl) (Reps.one (show Kd.M kAny _ _ _ (Any.n 4) [.iface 3 (.int .i64 4)] from rfl) (Reps.one (show Kd.M kAny _ _ _ (Any.b (!t558)) [.iface 4 (.bool (!t558))] from rfl) (Reps.one (show Kd.M kAny _ _ _ (Any.n 4) [.iface 3 (.int .i64 4)] from rfl) (Reps.none _ _)))))))); intro v560 w28 ho29 hb hg_ hnew_; clear hg_ hnew_; (first | rw [← Ny559.out] at ho29 | (simp only [Int.reduceToNat] at ho29; rw [← Ny559.out] at ho29)); have n0_ := zm (Kd.R_lower ho29 (below_size (zg_3 HB.out Zc.out Zd.out))); have n1_ := zm (blk_below (g := gb554) (o := .cells #[.slice A0_0 l0_0.length c0_0, .slice A0_1 l0_1.length c0_1] 48 (0, 0)) (zg_2 Za.out) hb); have n2_ := zm (blk_below (g := gb555) (o := .cells #[.slice none 0 0, .slice none 0 0] 48 (0, 0)) (zg_2 Zb.out) hb); have n3_ := zm (below_step (zg_3 HB.out Zc.out Zd.out) hb); clear Za; clear Zb; clear HB; have Ze := n0_; have Za := n1_; have Zb := n2_; have HB := n3_; clear n0_ n1_ n2_ n3_; clear hb ho29; obtain ⟨Ao30, co30, eo30⟩ := Kd.R_slice Ze.out; subst eo30) | ((with_reducible refine gate_callee (f := 54) rfl ?_); refine goesL_ (some 25) rfl rfl Try.func54 (by kernel_rfl) rfl #[.slice Ao30 y559.length co30] rfl zq ?_; (with_reducible refine (impl_first.calls _ _ y559 t562 _ ?side1 ?side2 A7.out).mono ?_); (case side1 => repeat (first | exact (Kd.R_reads' Ze.out).2.2 | (with_reducible refine Kd.C_alloc ?_ _) | (with_reducible refine Kd.C_drewN ?_ _) | (with_reducible refine Kd.C_drew ?_))); (case side2 => exact (Kd.R_reads' Ze.out).2.1); rintro e w' ⟨rfl, ⟨nd, rfl⟩⟩; refine ⟨_, rfl, ?_⟩; (try (rw [drewN_self w28]; generalize hq_ : World.drewN w28 _ = w28; have n0_ : Aside0 (Kd.R kAny 20 w28 w.heap.size (fun _ => True) (.slice Ao30 y559.length co30) y559) := ⟨by rw [← hq_]; exact (zg_4 Ze.out)⟩; have n1_ : Aside0 (w28.heap[gb554]? = some (.cells #[.slice A0_0 l0_0.length c0_0, .slice A0_1 l0_1.length c0_1] 48 (0, 0))) := ⟨by rw [← hq_]; exact (zg_2 Za.out)⟩; have n2_ : Aside0 (w28.heap[gb555]? = some (.cells #[.slice none 0 0, .slice none 0 0] 48 (0, 0))) := ⟨by rw [← hq_]; exact (zg_2 Zb.out)⟩; have n3_ : Aside0 (Below w.heap.size w w28) := ⟨by rw [← hq_]; exact (zg_3 HB.out Zc.out Zd.out)⟩; clear Ze Za Zb HB hq_; have Ze := n0_; have Za := n1_; have Zb := n2_; have HB := n3_; clear n0_ n1_ n2_ n3_)); have hcz31_0 : w28.cell? ⟨gb555, 0, none⟩ = some (.slice none 0 0) := (blk_cell Zb.out 0).trans rfl; have hcz31_1 : w28.cell? ⟨gb555, 1, none⟩ = some (.slice none 0 0) := (blk_cell Zb.out 1).trans rfl; have hfz31_0 := blk_frozen Zb.out 0; have hfz31_1 := blk_frozen Zb.out 1))
  refine bodyPost_ret (results_ct rfl _ _ gb555 48 #[.slice none 0 0, .slice none 0 0] (0, 0) _ rfl (by (with_reducible repeat (first | refine blk_drewN ?_ _ | refine blk_drew ?_ | refine blk_alloc ?_ _)); refine blk_put (cs := #[.slice none 0 0, .slice none 0 0]) ?_ 1 _ rfl; (with_reducible repeat (first | refine blk_drewN ?_ _ | refine blk_drew ?_ | refine blk_alloc ?_ _)); refine blk_put (cs := #[.slice none 0 0, .slice none 0 0]) ?_ 0 _ rfl; (with_reducible repeat (first | refine blk_drewN ?_ _ | refine blk_drew ?_ | refine blk_alloc ?_ _)); exact Zb.out) Try.underlying48 rfl (by kernel_rfl)) rfl ?_
  exact ⟨_, _, by first | rfl | (simp [errW_none, errW_some] <;> rfl) | (simp [*, errW_none, errW_some] <;> rfl), by first | exact Kd.R_nil _ _ _ _ _ | exact Kd.N_nil _ _ _ _ _ | exact Kd.V_nil _ _ _ _ _ | exact Kd.Q_nil _ _ _ _ _ | exact Kd.S_nil _ _ _ _ _, by first | exact Kd.R_nil _ _ _ _ _ | exact Kd.N_nil _ _ _ _ _ | exact Kd.V_nil _ _ _ _ _ | exact Kd.Q_nil _ _ _ _ _ | exact Kd.S_nil _ _ _ _ _, zg_3 HB.out Zc.out Zd.out⟩
/-! ### impl_Disk_pending: function 75 -/
def impl_Disk_pending.l0 : Nat → Int → Int → List (S92) → Int → Int → Option (Int)
  | 0, _, _, _, _, _ => none
  | k + 1, x1, x5, x9, x10, x11 => if x11 < x10 then (if 0 ≤ x11 then (if x11 < (x9.length : Int) then (if ((rd_T92 x9 x11).f0) = x1 then (impl_Disk_pending.l0 k x1 (wrap64 (x5 + 1)) x9 x10 (wrap64 (x11 + 1))) else (impl_Disk_pending.l0 k x1 x5 x9 x10 (wrap64 (x11 + 1)))) else (none)) else (none)) else (some x5)
def impl_Disk_pending.f (k : Nat) (l0_0 : List ByteArray) (l0_1 : List (S92)) (a1 : Int) : Option (Int) := impl_Disk_pending.l0 k a1 0 l0_1 (l0_1.length : Int) 0
theorem impl_Disk_pending.mono_l : ∀ k, (∀ y0 y1 y2 y3 y4, LeO (impl_Disk_pending.l0 k y0 y1 y2 y3 y4) (impl_Disk_pending.l0 (k + 1) y0 y1 y2 y3 y4))
  | 0 => fun _ _ _ _ _ r h => by simp [impl_Disk_pending.l0] at h
  | k + 1 => by
    have ih0 := impl_Disk_pending.mono_l k
    · intro y0 y1 y2 y3 y4
      unfold impl_Disk_pending.l0
      repeat' first
      | (with_reducible exact ih0 _ _ _ _ _)
      | (with_reducible exact LeO.refl _)
      | (with_reducible exact LeO.none _)
      | (with_reducible refine LeO.ite ?_ ?_)
      | (with_reducible refine LeO.bind ?_ (fun _ => ?_))
      | exact ih0 _ _ _ _ _
      | exact LeO.none _
      | refine LeO.ite ?_ ?_
      | refine LeO.bind ?_ (fun _ => ?_)
theorem impl_Disk_pending.mono : ∀ a0 a1 a2 k, LeO (impl_Disk_pending.f k a0 a1 a2) (impl_Disk_pending.f (k + 1) a0 a1 a2) := by
  intro a0 a1 a2 k
  have ih0 := impl_Disk_pending.mono_l k
  unfold impl_Disk_pending.f
  repeat' first
      | (with_reducible exact ih0 _ _ _ _ _)
      | (with_reducible exact LeO.refl _)
      | (with_reducible exact LeO.none _)
      | (with_reducible refine LeO.ite ?_ ?_)
      | (with_reducible refine LeO.bind ?_ (fun _ => ?_))
      | exact ih0 _ _ _ _ _
      | exact LeO.none _
      | refine LeO.ite ?_ ?_
      | refine LeO.bind ?_ (fun _ => ?_)
set_option maxHeartbeats 8000000 in
set_option maxRecDepth 100000 in
theorem impl_Disk_pending.calls (k : Nat) (A0_0 : Option Addr) (c0_0 : Nat) (l0_0 : List ByteArray) (A0_1 : Option Addr) (c0_1 : Nat) (l0_1 : List (S92)) (a1 : Int) (r : Int) (w : World) (hr0_0 : Kd.C Kd.string w A0_0 l0_0.length l0_0) (hc0_0 : l0_0.length ≤ c0_0) (hr0_1 : Kd.C k92 w A0_1 l0_1.length l0_1) (hc0_1 : l0_1.length ≤ c0_1) (h : impl_Disk_pending.f k l0_0 l0_1 a1 = some r) :
    Calls Try.prog 75 #[.agg #[.slice A0_0 l0_0.length c0_0, .slice A0_1 l0_1.length c0_1], .int .i64 a1] w fun e w' => e = .returned (.int .i64 r) ∧ Below w.heap.size w w' := by
 have hu48 := Try.underlying48
 have hu92 := Try.underlying92
 have Zi := zm hr0_0
 have Zj := zm hc0_0
 clear hr0_0 hc0_0
 have Zg := zm hr0_1
 have Zk := zm hc0_1
 clear hr0_1 hc0_1
 have HB := zm (Below.refl w.heap.size w)
 have H : (impl_Disk_pending.l0 k a1 0 l0_1 (l0_1.length : Int) 0) = some r := h
 clear h
 have H' := zm H
 clear H
 go_enter Try.func75, Try.ntmps75
 go_wp2_with (first | ((with_reducible refine gate_dst (N := 2) rfl ?_); refine box_event ?hg (N := 2) ?hd (cs := #[.slice A0_0 l0_0.length c0_0, .slice A0_1 l0_1.length c0_1]) (t := 48) ?hr ?_; (case hd => rfl); (case hg => rfl); (case hr => first | (go_simp; done) | (go_simp; rfl)); intro gb597 hg w3 hbox hb; have n0_ := zm (below_step (zg_0 HB.out) hb); have n1_ := zm (hbox); have n2_ := zm ((by rw [hg]; exact (below_size (zg_0 HB.out)) : w.heap.size ≤ gb597)); have n3_ := zm ((by rw [hg]; exact (below_size (zg_0 HB.out)) : w.heap.size ≤ gb597)); clear HB; have HB := n0_; have Zb := n1_; have Zl := n2_; have Zd := n3_; clear n0_ n1_ n2_ n3_; clear hb hbox hg; have hcz4_0 : w3.cell? ⟨gb597, 0, none⟩ = some (.slice A0_0 l0_0.length c0_0) := (blk_cell Zb.out 0).trans rfl; have hcz4_1 : w3.cell? ⟨gb597, 1, none⟩ = some (.slice A0_1 l0_1.length c0_1) := (blk_cell Zb.out 1).trans rfl; have hfz4_0 := blk_frozen Zb.out 0; have hfz4_1 := blk_frozen Zb.out 1))
 go_loopg [5, 11] k (fun kq v5 v11 w' => ∃ (x5_1 : Int) (x11_1 : Int), v5 = .int .i64 x5_1 ∧ v11 = .int .i64 x11_1 ∧ Aside0 (impl_Disk_pending.l0 kq a1 x5_1 l0_1 (l0_1.length : Int) x11_1 = some r) ∧ Aside0 (kq ≤ k) ∧ Aside0 (w'.heap[gb597]? = some (.cells #[(.slice A0_0 l0_0.length c0_0), (.slice A0_1 l0_1.length c0_1)] 48 (0, 0))) ∧ Aside0 (Below w.heap.size w w'))
 case atStart => exact ⟨(0), (0), zr, zr, H', ⟨Nat.le_refl _⟩, ⟨by (with_reducible repeat (first | refine blk_drewN ?_ _ | refine blk_drew ?_ | refine blk_alloc ?_ _)); exact Zb.out⟩, ⟨zg_1 HB.out Zd.out⟩⟩
 case round =>
  clear H'
  try clear p2
  try clear hcz4_0
  try clear hcz4_1
  try clear hfz4_0
  try clear hfz4_1
  obtain ⟨x5_1, x11_1, rfl, rfl, HA, HK1, Zb, HB⟩ := hrel
  cases gk with
  | zero => exact absurd HA.out (by simp [impl_Disk_pending.l0])
  | succ k1 =>
   have H := HA.out
   clear HA
   simp only [impl_Disk_pending.l0] at H
   by_cases c5 : x11_1 < (l0_1.length : Int)
   ·rw [if_pos c5] at H
    have c5b0 : decide (x11_1 < (l0_1.length : Int)) = true := decide_eq_true c5
    clear c5
    by_cases c6 : 0 ≤ x11_1
    ·rw [if_pos c6] at H
     have c6b0 : decide (0 ≤ x11_1) = true := decide_eq_true c6
     clear c6
     by_cases c7 : x11_1 < (l0_1.length : Int)
     ·rw [if_pos c7] at H
      have c7b0 : decide (x11_1 < (l0_1.length : Int)) = true := decide_eq_true c7
      clear c7
      by_cases c8 : ((rd_T92 l0_1 x11_1).f0) = a1
      ·rw [if_pos c8] at H
       have c8b0 : (((rd_T92 l0_1 x11_1).f0) == a1) = true := beq_iff_eq.mpr c8
       have c8b1 : (((rd_T92 l0_1 x11_1).f0) != a1) = false := bne_eq_false_iff_eq.mpr c8
       clear c8
       have H' := zm H
       clear H
       have p598 : 0 ≤ (x11_1 : Int) := of_decide_eq_true (by first | (with_reducible assumption) | assumption)
       have q598 : x11_1 < (l0_1.length : Int) := of_decide_eq_true (by first | (with_reducible assumption) | assumption)
       obtain ⟨ad598, e598, hx598_0, hx598_1, hx598_2⟩ := at_T92 Zg.out x11_1 p598 q598
       cases e598
       replace hx598_0 := (HB.out.cell (World.block_lt_of_cell? w _ hx598_0)).trans hx598_0
       replace hx598_1 := (HB.out.cell (World.block_lt_of_cell? w _ hx598_1)).trans hx598_1
       replace hx598_2 := (HB.out.cell (World.block_lt_of_cell? w _ hx598_2)).trans hx598_2
       replace p598 := eq_true p598
       replace q598 := eq_true q598
       go_wp2_with (first | ((with_reducible refine gate_dst (N := 7) rfl ?_); refine box_event ?hg (N := 7) ?hd (cs := #[.int .i64 0, .int .i64 0, .string (⟨#[]⟩ : ByteArray)]) (t := 92) ?hr ?_; (case hd => rfl); (case hg => rfl); (case hr => first | (go_simp; done) | (go_simp; rfl)); intro gb599 hg w9 hbox hb; have n0_ := zm (blk_below (g := gb597) (o := .cells #[.slice A0_0 l0_0.length c0_0, .slice (some ad598) l0_1.length c0_1] 48 (0, 0)) (zg_2 Zb.out) hb); have n1_ := zm (below_step (zg_1 HB.out Zd.out) hb); have n2_ := zm (hbox); have n3_ := zm ((by rw [hg]; exact (below_size (zg_1 HB.out Zd.out)) : w.heap.size ≤ gb599)); have n4_ := zm ((by rw [hg]; exact (below_size (zg_1 HB.out Zd.out)) : w.heap.size ≤ gb599)); have n5_ := zm ((by rw [hg]; exact Nat.ne_of_lt (blk_lt (g := gb597) (o := .cells #[.slice A0_0 l0_0.length c0_0, .slice (some ad598) l0_1.length c0_1] 48 (0, 0)) (zg_2 Zb.out)) : gb597 ≠ gb599)); have n6_ := zm ((by rw [hg]; exact Nat.ne_of_gt (blk_lt (g := gb597) (o := .cells #[.slice A0_0 l0_0.length c0_0, .slice (some ad598) l0_1.length c0_1] 48 (0, 0)) (zg_2 Zb.out)) : gb599 ≠ gb597)); clear Zb; clear HB; have Zb := n0_; have HB := n1_; have Zc := n2_; have Zh := n3_; have Zf := n4_; have Za := n5_; have Ze := n6_; clear n0_ n1_ n2_ n3_ n4_ n5_ n6_; clear hb hbox hg; have hnb10 := Ze.out; have hnc10 := Za.out; have hcz11_0 : w9.cell? ⟨gb599, 0, none⟩ = some (.int .i64 0) := (blk_cell Zc.out 0).trans rfl; have hcz11_1 : w9.cell? ⟨gb599, 1, none⟩ = some (.int .i64 0) := (blk_cell Zc.out 1).trans rfl; have hcz11_2 : w9.cell? ⟨gb599, 2, none⟩ = some (.string (⟨#[]⟩ : ByteArray)) := (blk_cell Zc.out 2).trans rfl; have hfz11_0 := blk_frozen Zc.out 0; have hfz11_1 := blk_frozen Zc.out 1; have hfz11_2 := blk_frozen Zc.out 2))
       go_roundg k1
       case measure => have := HK1.out; omega
       case rel => exact ⟨(wrap64 (x5_1 + 1)), (wrap64 (x11_1 + 1)), zr, zr, H', ⟨by have := HK1.out; omega⟩, ⟨by (with_reducible repeat (first | refine blk_drewN ?_ _ | refine blk_drew ?_ | refine blk_alloc ?_ _)); refine blk_far ?_ Za.out _; (with_reducible repeat (first | refine blk_drewN ?_ _ | refine blk_drew ?_ | refine blk_alloc ?_ _)); refine blk_far ?_ Za.out _; (with_reducible repeat (first | refine blk_drewN ?_ _ | refine blk_drew ?_ | refine blk_alloc ?_ _)); refine blk_far ?_ Za.out _; (with_reducible repeat (first | refine blk_drewN ?_ _ | refine blk_drew ?_ | refine blk_alloc ?_ _)); exact Zb.out⟩, ⟨zg_3 HB.out Zd.out Zf.out⟩⟩
      ·rw [if_neg c8] at H
       have c8b0 : (((rd_T92 l0_1 x11_1).f0) == a1) = false := beq_eq_false_iff_ne.mpr c8
       have c8b1 : (((rd_T92 l0_1 x11_1).f0) != a1) = true := bne_iff_ne.mpr c8
       have H' := zm H
       clear H
       have p598 : 0 ≤ (x11_1 : Int) := of_decide_eq_true (by first | (with_reducible assumption) | assumption)
       have q598 : x11_1 < (l0_1.length : Int) := of_decide_eq_true (by first | (with_reducible assumption) | assumption)
       obtain ⟨ad598, e598, hx598_0, hx598_1, hx598_2⟩ := at_T92 Zg.out x11_1 p598 q598
       cases e598
       replace hx598_0 := (HB.out.cell (World.block_lt_of_cell? w _ hx598_0)).trans hx598_0
       replace hx598_1 := (HB.out.cell (World.block_lt_of_cell? w _ hx598_1)).trans hx598_1
       replace hx598_2 := (HB.out.cell (World.block_lt_of_cell? w _ hx598_2)).trans hx598_2
       replace p598 := eq_true p598
       replace q598 := eq_true q598
       go_wp2_with (first | ((with_reducible refine gate_dst (N := 7) rfl ?_); refine box_event ?hg (N := 7) ?hd (cs := #[.int .i64 0, .int .i64 0, .string (⟨#[]⟩ : ByteArray)]) (t := 92) ?hr ?_; (case hd => rfl); (case hg => rfl); (case hr => first | (go_simp; done) | (go_simp; rfl)); intro gb599 hg w12 hbox hb; have n0_ := zm (blk_below (g := gb597) (o := .cells #[.slice A0_0 l0_0.length c0_0, .slice (some ad598) l0_1.length c0_1] 48 (0, 0)) (zg_2 Zb.out) hb); have n1_ := zm (below_step (zg_1 HB.out Zd.out) hb); have n2_ := zm (hbox); have n3_ := zm ((by rw [hg]; exact (below_size (zg_1 HB.out Zd.out)) : w.heap.size ≤ gb599)); have n4_ := zm ((by rw [hg]; exact (below_size (zg_1 HB.out Zd.out)) : w.heap.size ≤ gb599)); have n5_ := zm ((by rw [hg]; exact Nat.ne_of_lt (blk_lt (g := gb597) (o := .cells #[.slice A0_0 l0_0.length c0_0, .slice (some ad598) l0_1.length c0_1] 48 (0, 0)) (zg_2 Zb.out)) : gb597 ≠ gb599)); have n6_ := zm ((by rw [hg]; exact Nat.ne_of_gt (blk_lt (g := gb597) (o := .cells #[.slice A0_0 l0_0.length c0_0, .slice (some ad598) l0_1.length c0_1] 48 (0, 0)) (zg_2 Zb.out)) : gb599 ≠ gb597)); clear Zb; clear HB; have Zb := n0_; have HB := n1_; have Zc := n2_; have Zh := n3_; have Zf := n4_; have Za := n5_; have Ze := n6_; clear n0_ n1_ n2_ n3_ n4_ n5_ n6_; clear hb hbox hg; have hnb13 := Ze.out; have hnc13 := Za.out; have hcz14_0 : w12.cell? ⟨gb599, 0, none⟩ = some (.int .i64 0) := (blk_cell Zc.out 0).trans rfl; have hcz14_1 : w12.cell? ⟨gb599, 1, none⟩ = some (.int .i64 0) := (blk_cell Zc.out 1).trans rfl; have hcz14_2 : w12.cell? ⟨gb599, 2, none⟩ = some (.string (⟨#[]⟩ : ByteArray)) := (blk_cell Zc.out 2).trans rfl; have hfz14_0 := blk_frozen Zc.out 0; have hfz14_1 := blk_frozen Zc.out 1; have hfz14_2 := blk_frozen Zc.out 2))
       go_roundg k1
       case measure => have := HK1.out; omega
       case rel => exact ⟨(x5_1), (wrap64 (x11_1 + 1)), zr, zr, H', ⟨by have := HK1.out; omega⟩, ⟨by (with_reducible repeat (first | refine blk_drewN ?_ _ | refine blk_drew ?_ | refine blk_alloc ?_ _)); refine blk_far ?_ Za.out _; (with_reducible repeat (first | refine blk_drewN ?_ _ | refine blk_drew ?_ | refine blk_alloc ?_ _)); refine blk_far ?_ Za.out _; (with_reducible repeat (first | refine blk_drewN ?_ _ | refine blk_drew ?_ | refine blk_alloc ?_ _)); refine blk_far ?_ Za.out _; (with_reducible repeat (first | refine blk_drewN ?_ _ | refine blk_drew ?_ | refine blk_alloc ?_ _)); exact Zb.out⟩, ⟨zg_3 HB.out Zd.out Zf.out⟩⟩
     ·rw [if_neg c7] at H
      exact absurd H (by simp)
    ·rw [if_neg c6] at H
     exact absurd H (by simp)
   ·rw [if_neg c5] at H
    have c5b0 : decide (x11_1 < (l0_1.length : Int)) = false := decide_eq_false c5
    clear c5
    obtain rfl := Option.some.inj H
    go_wp2
    go_ret
    exact ⟨by first | rfl | (simp [errW_none, errW_some] <;> rfl) | (simp [*, errW_none, errW_some] <;> rfl), zg_1 HB.out Zd.out⟩
theorem eqA92 (d : Nat) (w : World) (x0 y0 : Int) (x1 y1 : Int) (x2 y2 : ByteArray) :
    (Op.equalIn (d + 2) 92 (.agg #[.int .i64 x0, .int .i64 x1, .string x2]) (.agg #[.int .i64 y0, .int .i64 y1, .string y2])).run Try.prog w = .ok (x0 == y0 && (x1 == y1 && (x2.toList == y2.toList))) w := by
  refine eqA_of Try.underlying92 (by kernel_rfl) ?_
  refine eqf_cons (by rfl) (by go_simp; rfl) (by go_simp; rfl) (by go_simp) ?_
  refine eqf_cons (by rfl) (by go_simp; rfl) (by go_simp; rfl) (by go_simp) ?_
  exact eqf_last (by rfl) (by go_simp; rfl) (by go_simp; rfl) (by go_simp)
section
attribute [local go_sem high] eqA92
/-! ### impl_PendingOf: function 27 -/
def impl_PendingOf.f (k : Nat) (l0_0 : List ByteArray) (l0_1 : List (S92)) (a1 : Int) : Option (Int × Int) := (impl_Disk_codes.f l0_0 l0_1 a1).bind fun t601 => (if t601 = 0 then ((impl_Disk_pending.f k l0_0 l0_1 a1).bind fun t602 => (some (t602, 0))) else (some (0, t601)))
theorem impl_PendingOf.mono : ∀ a0 a1 a2 k, LeO (impl_PendingOf.f k a0 a1 a2) (impl_PendingOf.f (k + 1) a0 a1 a2) := by
  intro a0 a1 a2 k
  unfold impl_PendingOf.f
  repeat' first
      | (with_reducible exact impl_Disk_pending.mono _ _ _ _)
      | (with_reducible exact LeO.refl _)
      | (with_reducible exact LeO.none _)
      | (with_reducible refine LeO.ite ?_ ?_)
      | (with_reducible refine LeO.bind ?_ (fun _ => ?_))
      | exact impl_Disk_pending.mono _ _ _ _
      | exact LeO.none _
      | refine LeO.ite ?_ ?_
      | refine LeO.bind ?_ (fun _ => ?_)
set_option maxHeartbeats 8000000 in
set_option maxRecDepth 100000 in
theorem impl_PendingOf.calls (k : Nat) (A0_0 : Option Addr) (c0_0 : Nat) (l0_0 : List ByteArray) (A0_1 : Option Addr) (c0_1 : Nat) (l0_1 : List (S92)) (a1 : Int) (r1 : Int) (r2 : Int) (w : World) (hr0_0 : Kd.C Kd.string w A0_0 l0_0.length l0_0) (hc0_0 : l0_0.length ≤ c0_0) (hr0_1 : Kd.C k92 w A0_1 l0_1.length l0_1) (hc0_1 : l0_1.length ≤ c0_1) (h : impl_PendingOf.f k l0_0 l0_1 a1 = some (r1, r2)) :
    Calls Try.prog 27 #[.agg #[.slice A0_0 l0_0.length c0_0, .slice A0_1 l0_1.length c0_1], .int .i64 a1] w fun e w' => e = .returned (.tuple #[.int .i64 r1, .int .i64 r2]) ∧ Below w.heap.size w w' := by
 have hu48 := Try.underlying48
 have Zc := zm hr0_0
 have Zd := zm hc0_0
 clear hr0_0 hc0_0
 have Ze := zm hr0_1
 have Zf := zm hc0_1
 clear hr0_1 hc0_1
 have HB := zm (Below.refl w.heap.size w)
 have H : ((impl_Disk_codes.f l0_0 l0_1 a1).bind fun t601 => (if t601 = 0 then ((impl_Disk_pending.f k l0_0 l0_1 a1).bind fun t602 => (some (t602, 0))) else (some (0, t601)))) = some (r1, r2) := h
 clear h
 replace H := Option.bind_eq_some_iff.mp H
 obtain ⟨t601, A30, H⟩ := H
 replace H : (if t601 = 0 then ((impl_Disk_pending.f k l0_0 l0_1 a1).bind fun t602 => (some (t602, 0))) else (some (0, t601))) = some (r1, r2) := H
 have A3 := zm A30
 clear A30
 by_cases c4 : t601 = 0
 ·rw [if_pos c4] at H
  have c4b0 : (t601 == 0) = true := beq_iff_eq.mpr c4
  have c4b1 : (t601 != 0) = false := bne_eq_false_iff_eq.mpr c4
  clear c4
  replace H := Option.bind_eq_some_iff.mp H
  obtain ⟨t602, A50, H⟩ := H
  replace H : (some (t602, 0)) = some (r1, r2) := H
  have A5 := zm A50
  clear A50
  simp only [Option.some.injEq, Prod.mk.injEq] at H
  obtain ⟨rfl, rfl⟩ := H
  go_enter Try.func27, Try.ntmps27
  go_wp2_with (first | ((with_reducible refine gate_dst (N := 2) rfl ?_); refine box_event ?hg (N := 2) ?hd (cs := #[.slice A0_0 l0_0.length c0_0, .slice A0_1 l0_1.length c0_1]) (t := 48) ?hr ?_; (case hd => rfl); (case hg => rfl); (case hr => first | (go_simp; done) | (go_simp; rfl)); intro gb600 hg w6 hbox hb; have n0_ := zm (below_step (zg_0 HB.out) hb); have n1_ := zm (hbox); have n2_ := zm ((by rw [hg]; exact (below_size (zg_0 HB.out)) : w.heap.size ≤ gb600)); have n3_ := zm ((by rw [hg]; exact (below_size (zg_0 HB.out)) : w.heap.size ≤ gb600)); clear HB; have HB := n0_; have Za := n1_; have Zg := n2_; have Zb := n3_; clear n0_ n1_ n2_ n3_; clear hb hbox hg; have hcz7_0 : w6.cell? ⟨gb600, 0, none⟩ = some (.slice A0_0 l0_0.length c0_0) := (blk_cell Za.out 0).trans rfl; have hcz7_1 : w6.cell? ⟨gb600, 1, none⟩ = some (.slice A0_1 l0_1.length c0_1) := (blk_cell Za.out 1).trans rfl; have hfz7_0 := blk_frozen Za.out 0; have hfz7_1 := blk_frozen Za.out 1) | ((with_reducible refine gate_callee (f := 74) rfl ?_); refine goesL_ (some 9) rfl rfl Try.func74 (by kernel_rfl) rfl #[.agg #[.slice A0_0 l0_0.length c0_0, .slice A0_1 l0_1.length c0_1], .int .i64 a1] rfl zq ?_; (with_reducible refine (impl_Disk_codes.calls _ _ l0_0 _ _ l0_1 a1 t601 _ ?side1 ?side2 ?side3 ?side4 A3.out).mono ?_); (case side1 => repeat (first | exact (Kd.C_below Zc.out HB.out) | (with_reducible refine Kd.C_alloc ?_ _) | (with_reducible refine Kd.C_drewN ?_ _) | (with_reducible refine Kd.C_drew ?_))); (case side2 => exact Zd.out); (case side3 => repeat (first | exact (Kd.C_below Ze.out HB.out) | (with_reducible refine Kd.C_alloc ?_ _) | (with_reducible refine Kd.C_drewN ?_ _) | (with_reducible refine Kd.C_drew ?_))); (case side4 => exact Zf.out); rintro e w8 ⟨rfl, hb⟩; refine ⟨_, rfl, ?_⟩; have n0_ := zm (blk_below (g := gb600) (o := .cells #[.slice A0_0 l0_0.length c0_0, .slice A0_1 l0_1.length c0_1] 48 (0, 0)) (zg_2 Za.out) hb); have n1_ := zm (below_step (zg_1 HB.out Zb.out) hb); clear Za; clear HB; have Za := n0_; have HB := n1_; clear n0_ n1_; (try clear hb); (try clear hb2); (try clear hk); (try clear hi); have hcz9_0 : w8.cell? ⟨gb600, 0, none⟩ = some (.slice A0_0 l0_0.length c0_0) := (blk_cell Za.out 0).trans rfl; have hcz9_1 : w8.cell? ⟨gb600, 1, none⟩ = some (.slice A0_1 l0_1.length c0_1) := (blk_cell Za.out 1).trans rfl; have hfz9_0 := blk_frozen Za.out 0; have hfz9_1 := blk_frozen Za.out 1) | ((with_reducible refine gate_callee (f := 75) rfl ?_); refine goesL_ (some 15) rfl rfl Try.func75 (by kernel_rfl) rfl #[.agg #[.slice A0_0 l0_0.length c0_0, .slice A0_1 l0_1.length c0_1], .int .i64 a1] rfl zq ?_; (with_reducible refine (impl_Disk_pending.calls k _ _ l0_0 _ _ l0_1 a1 t602 _ ?side1 ?side2 ?side3 ?side4 A5.out).mono ?_); (case side1 => repeat (first | exact (Kd.C_below Zc.out HB.out) | (with_reducible refine Kd.C_alloc ?_ _) | (with_reducible refine Kd.C_drewN ?_ _) | (with_reducible refine Kd.C_drew ?_))); (case side2 => exact Zd.out); (case side3 => repeat (first | exact (Kd.C_below Ze.out HB.out) | (with_reducible refine Kd.C_alloc ?_ _) | (with_reducible refine Kd.C_drewN ?_ _) | (with_reducible refine Kd.C_drew ?_))); (case side4 => exact Zf.out); rintro e w10 ⟨rfl, hb⟩; refine ⟨_, rfl, ?_⟩; have n0_ := zm (blk_below (g := gb600) (o := .cells #[.slice A0_0 l0_0.length c0_0, .slice A0_1 l0_1.length c0_1] 48 (0, 0)) (zg_2 Za.out) hb); have n1_ := zm (below_step (zg_1 HB.out Zb.out) hb); clear Za; clear HB; have Za := n0_; have HB := n1_; clear n0_ n1_; (try clear hb); (try clear hb2); (try clear hk); (try clear hi)))
  go_ret2
  exact ⟨by first | rfl | (simp [errW_none, errW_some] <;> rfl) | (simp [*, errW_none, errW_some] <;> rfl), zg_1 HB.out Zb.out⟩
 ·rw [if_neg c4] at H
  have c4b0 : (t601 == 0) = false := beq_eq_false_iff_ne.mpr c4
  have c4b1 : (t601 != 0) = true := bne_iff_ne.mpr c4
  simp only [Option.some.injEq, Prod.mk.injEq] at H
  obtain ⟨rfl, rfl⟩ := H
  go_enter Try.func27, Try.ntmps27
  go_wp2_with (first | ((with_reducible refine gate_dst (N := 2) rfl ?_); refine box_event ?hg (N := 2) ?hd (cs := #[.slice A0_0 l0_0.length c0_0, .slice A0_1 l0_1.length c0_1]) (t := 48) ?hr ?_; (case hd => rfl); (case hg => rfl); (case hr => first | (go_simp; done) | (go_simp; rfl)); intro gb600 hg w11 hbox hb; have n0_ := zm (below_step (zg_0 HB.out) hb); have n1_ := zm (hbox); have n2_ := zm ((by rw [hg]; exact (below_size (zg_0 HB.out)) : w.heap.size ≤ gb600)); have n3_ := zm ((by rw [hg]; exact (below_size (zg_0 HB.out)) : w.heap.size ≤ gb600)); clear HB; have HB := n0_; have Za := n1_; have Zg := n2_; have Zb := n3_; clear n0_ n1_ n2_ n3_; clear hb hbox hg; have hcz12_0 : w11.cell? ⟨gb600, 0, none⟩ = some (.slice A0_0 l0_0.length c0_0) := (blk_cell Za.out 0).trans rfl; have hcz12_1 : w11.cell? ⟨gb600, 1, none⟩ = some (.slice A0_1 l0_1.length c0_1) := (blk_cell Za.out 1).trans rfl; have hfz12_0 := blk_frozen Za.out 0; have hfz12_1 := blk_frozen Za.out 1) | ((with_reducible refine gate_callee (f := 74) rfl ?_); refine goesL_ (some 9) rfl rfl Try.func74 (by kernel_rfl) rfl #[.agg #[.slice A0_0 l0_0.length c0_0, .slice A0_1 l0_1.length c0_1], .int .i64 a1] rfl zq ?_; (with_reducible refine (impl_Disk_codes.calls _ _ l0_0 _ _ l0_1 a1 t601 _ ?side1 ?side2 ?side3 ?side4 A3.out).mono ?_); (case side1 => repeat (first | exact (Kd.C_below Zc.out HB.out) | (with_reducible refine Kd.C_alloc ?_ _) | (with_reducible refine Kd.C_drewN ?_ _) | (with_reducible refine Kd.C_drew ?_))); (case side2 => exact Zd.out); (case side3 => repeat (first | exact (Kd.C_below Ze.out HB.out) | (with_reducible refine Kd.C_alloc ?_ _) | (with_reducible refine Kd.C_drewN ?_ _) | (with_reducible refine Kd.C_drew ?_))); (case side4 => exact Zf.out); rintro e w13 ⟨rfl, hb⟩; refine ⟨_, rfl, ?_⟩; have n0_ := zm (blk_below (g := gb600) (o := .cells #[.slice A0_0 l0_0.length c0_0, .slice A0_1 l0_1.length c0_1] 48 (0, 0)) (zg_2 Za.out) hb); have n1_ := zm (below_step (zg_1 HB.out Zb.out) hb); clear Za; clear HB; have Za := n0_; have HB := n1_; clear n0_ n1_; (try clear hb); (try clear hb2); (try clear hk); (try clear hi)))
  go_ret2
  exact ⟨by first | rfl | (simp [errW_none, errW_some] <;> rfl) | (simp [*, errW_none, errW_some] <;> rfl), zg_1 HB.out Zb.out⟩
end
/-! ### impl_Disk_read: function 88 -/
section
attribute [local go_sem] Oper.semAt_some
def impl_Disk_read_upto {α : Type} (f : Nat → α) (k : Nat) : List α := (List.range k).map f
theorem impl_Disk_read_upto_succ {α : Type} (f : Nat → α) (k : Nat) : impl_Disk_read_upto f (k + 1) = impl_Disk_read_upto f k ++ [f k] := by simp [impl_Disk_read_upto, List.range_succ]
theorem impl_Disk_read_upto_length {α : Type} (f : Nat → α) (k : Nat) : (impl_Disk_read_upto f k).length = k := by simp [impl_Disk_read_upto]
/-- What comes k-th: the elements from behind. -/
def impl_Disk_read_f (xs : List S92) (k : Nat) : Int × S92 := ((xs.length : Int) - 1 - (k : Int), rd_T92 xs ((xs.length : Int) - 1 - (k : Int)))
def impl_Disk_read_encs (x : Int × S92) : Array Value := #[.int .i64 x.1, .agg #[.int .i64 x.2.f0, .int .i64 x.2.f1, .string x.2.f2]]
set_option maxRecDepth 100000 in
set_option maxHeartbeats 4000000 in
theorem impl_Disk_read_back1 (F : Fence) (n : Nat) (h7 : F.fn 142) (hro : F.round = none) (hn : 1 ≤ n) (l Bs n₀ : Nat) (A : Option Addr) (cap : Nat) (xs : List S92) (w0 : World) (hw : w0.heap.size = n₀) (hC : Kd.C k92 w0 A xs.length xs) (hreach : xs.length ≤ 1000000000) (hBs0 : Bs < n₀) (J Jx : List (Int × S92) → World → Prop)
    (hY : ∀ pre x W, J pre W → pre.length < xs.length → YieldAt F (n - 1) Try.prog l (impl_Disk_read_encs x) W fun e W' =>
      (e = .returned (.bool true) ∧ J (pre ++ [x]) W' ∧ Below n₀ W W') ∨ (e = .returned (.bool false) ∧ Jx (pre ++ [x]) W'))
    (W : World) (hWw : Below n₀ w0 W) (hBs : w0.cell? ⟨Bs, 0, none⟩ = some (.slice A xs.length cap)) (h0 : J [] W) :
    CallsIn F n Try.prog 142 #[.func (.yield l) #[] #[], .pointer (some ⟨Bs, 0, none⟩)] W fun e W' => (∃ v, e = .returned v) ∧
      ((∃ ys, ys = impl_Disk_read_upto (impl_Disk_read_f xs) xs.length ∧ J ys W') ∨ (∃ pre, (∃ k, k ≤ xs.length ∧ pre = impl_Disk_read_upto (impl_Disk_read_f xs) k) ∧ Jx pre W')) := by
  have hb0 := (hWw.cell (p := ⟨Bs, 0, none⟩) hBs0).trans hBs
  have hwr : wrap64 ((xs.length : Int) - 1) = (xs.length : Int) - 1 := by unfold wrap64; omega
  refine callsIn_of_wp Try.func142 rfl h7 ?_ hro
  simp only [Try.ntmps142, List.size_toArray, List.length_cons, List.length_nil, Nat.reduceAdd, Nat.reduceSub, Array.replicate_succ, Array.replicate_zero, List.push_toArray, List.append_toArray, List.nil_append, List.cons_append]
  gi_wp2
  gi_loopw [3] (fun i wr => ∃ k : Nat, k ≤ xs.length ∧ i = .int .i64 ((xs.length : Int) - 1 - (k : Int)) ∧ J (impl_Disk_read_upto (impl_Disk_read_f xs) k) wr ∧ Below n₀ w0 wr)
    (fun i _ => (intOf i + 1).toNat)
  case atStart => exact ⟨0, Nat.zero_le _, by simp, h0, hWw⟩
  case round =>
    obtain ⟨k, hk, rfl, hJs, hnx⟩ := hrel
    have hbr := (hnx.cell (p := ⟨Bs, 0, none⟩) hBs0).trans hBs
    by_cases hlt : k < xs.length
    · have h0i : 0 ≤ (xs.length : Int) - 1 - (k : Int) := by omega
      have h1i : (xs.length : Int) - 1 - (k : Int) < (xs.length : Int) := by omega
      obtain ⟨i, hi⟩ : ∃ i : Int, i = (xs.length : Int) - 1 - (k : Int) := ⟨_, rfl⟩
      rw [← hi] at h0i h1i
      obtain ⟨ad, rfl, hx0, hx1, hx2⟩ := at_T92 (Kd.C_below hC (hw.symm ▸ hnx)) i h0i h1i
      obtain ⟨fn, tmps, assign, body, hy, hR⟩ := hY _ (impl_Disk_read_f xs k) wr hJs (by rw [impl_Disk_read_upto_length]; exact hlt)
      have hf : impl_Disk_read_f xs k = (i, rd_T92 xs i) := by rw [hi]; rfl
      rw [hf] at hy hR
      dsimp only [impl_Disk_read_encs] at hy
      have hwi : wrap64 (i - 1) = i - 1 := by unfold wrap64; omega
      rw [← hi]
      have HI := zm hi
      have HF := zm hf
      have HL := zm hlt
      have d0 : decide (0 ≤ i) = true := decide_eq_true h0i
      have p0 := eq_true h0i
      have p1 := eq_true h1i
      clear hi hf hlt h0i h1i hk
      gi_wp2
      refine hR.mono ?_
      rintro e W3 (⟨rfl, hJ3, hk3⟩ | ⟨rfl, hJx3⟩)
      · gi_wp2
        go_roundw
        case rel => exact ⟨k + 1, by have := HL.out; omega, by have := HI.out; first | (rw [hwi, this]; congr 1; omega) | (rw [this]; congr 1; omega), by rw [impl_Disk_read_upto_succ, HF.out]; exact hJ3, hnx.trans hk3⟩
        case measure => have := HI.out; have := HL.out; first | (simp only [intOf, hwi]; omega) | (simp only [intOf]; omega)
      · gi_wp2
        refine bodyPost_ret (results_none rfl _ _ _) rfl ?_
        exact ⟨⟨_, rfl⟩, .inr ⟨_, ⟨k + 1, by have := HL.out; omega, by rw [impl_Disk_read_upto_succ, HF.out]⟩, hJx3⟩⟩
    · obtain rfl : k = xs.length := by omega
      have e1 : ((xs.length : Int) - 1 - (xs.length : Int)) = -1 := by omega
      rw [e1]
      gi_wp2
      go_end0
      exact ⟨⟨_, rfl⟩, .inl ⟨_, rfl, hJs⟩⟩
set_option maxHeartbeats 1000000 in
theorem impl_Disk_read_back (F : Fence) (n : Nat) (h5 : F.fn 123) (hro : F.round = none) (a : Option Addr) (len cap : Nat) (w : World) :
    CallsIn F n Try.prog 123 #[.slice a len cap] w fun e w' => e = .returned (.func (.func 142) #[] #[.pointer (some ⟨w.heap.size, 0, none⟩)]) ∧ w' = w.alloc (.cells #[.slice a len cap] 46) := by
  refine callsIn_of_wp Try.func123 rfl h5 ?_ hro
  simp only [Try.ntmps123, List.size_toArray, List.length_cons, List.length_nil, Nat.reduceAdd, Nat.reduceSub, Array.replicate_succ, Array.replicate_zero, List.push_toArray, List.append_toArray, List.nil_append, List.cons_append]
  gi_wp2
  go_ret
  exact ⟨rfl, rfl⟩
theorem impl_Disk_read_stops (F : Fence) (n : Nat) (h7 : F.fn 142) (hro : F.round = none) (hn : 1 ≤ n) (Bs : Nat) (A : Option Addr) (cap : Nat) (xs : List S92) (hreach : xs.length ≤ 1000000000) (w : World) (hBs : Bs < w.heap.size)
    (hc : w.cell? ⟨Bs, 0, none⟩ = some (.slice A xs.length cap)) (hC : Kd.C k92 w A xs.length xs) :
    SeqStopsK F n Try.prog 142 #[.pointer (some ⟨Bs, 0, none⟩)] impl_Disk_read_encs (Below w.heap.size) (fun ys => ys = impl_Disk_read_upto (impl_Disk_read_f xs) xs.length) (fun pre => ∃ k, k ≤ xs.length ∧ pre = impl_Disk_read_upto (impl_Disk_read_f xs) k) xs.length w := fun l J Jx W hW _ _ hY h0 =>
  impl_Disk_read_back1 F n h7 hro hn l Bs w.heap.size A cap xs w rfl hC hreach hBs J Jx hY W hW hc h0
def impl_Disk_read.f (l0_0 : List ByteArray) (l0_1 : List (S92)) (a1 : Int) (a2 : Int) : Option ByteArray := if l0_1.length ≤ 1000000000 then (match l0_1.reverse.find? (fun x => x.f0 == a1 && x.f1 == a2) with | some x => some x.f2 | none => if 0 ≤ a2 then (if a2 < (l0_0.length : Int) then some (rdOf ByteArray.empty l0_0 a2) else none) else none) else none
theorem impl_Disk_read_seq (xs : List S92) (k : Nat) (hk : k ≤ xs.length) : (impl_Disk_read_upto (impl_Disk_read_f xs) k).map (·.2) = xs.reverse.take k := by
  apply List.ext_getElem
  · simp [impl_Disk_read_upto, hk]
  · intro i h1 h2
    have hi : i < k := by simpa [impl_Disk_read_upto] using h1
    have e : ((xs.length : Int) - 1 - (i : Int)).toNat = xs.length - 1 - i := by omega
    have hx : xs.length - 1 - i < xs.length := by omega
    simp [impl_Disk_read_upto, impl_Disk_read_f, rd_T92, e, hx]
theorem impl_Disk_read_chain (w : World) (o0 o1 o2 o3 o4 : Obj) : ∃ W0, ((((w.alloc o0).alloc o1).alloc o2).alloc o3).alloc o4 = W0 ∧ W0.heap.size = w.heap.size + 5 ∧ W0.heap[w.heap.size]? = some o0 ∧ W0.heap[w.heap.size + 1]? = some o1 ∧ W0.heap[w.heap.size + 1 + 1]? = some o2 ∧ W0.heap[w.heap.size + 1 + 1 + 1]? = some o3 ∧ W0.heap[w.heap.size + 1 + 1 + 1 + 1]? = some o4 ∧ Below w.heap.size w W0 := by
  refine ⟨_, rfl, by simp, blk_alloc (blk_alloc (blk_alloc (blk_alloc (blk_new w _) _) _) _) _, ?_, ?_, ?_, ?_, ?_⟩
  · have := blk_new (w.alloc o0) o1
    rw [World.size_alloc] at this
    exact blk_alloc (blk_alloc (blk_alloc this _) _) _
  · have := blk_new ((w.alloc o0).alloc o1) o2
    rw [World.size_alloc, World.size_alloc] at this
    exact blk_alloc (blk_alloc this _) _
  · have := blk_new (((w.alloc o0).alloc o1).alloc o2) o3
    rw [World.size_alloc, World.size_alloc, World.size_alloc] at this
    exact blk_alloc this _
  · have := blk_new ((((w.alloc o0).alloc o1).alloc o2).alloc o3) o4
    rw [World.size_alloc, World.size_alloc, World.size_alloc, World.size_alloc] at this
    exact this
  · exact below_alloc (below_alloc (below_alloc (below_alloc (below_alloc (Below.refl _ _) _) _) _) _) _
set_option maxRecDepth 100000 in
set_option maxHeartbeats 8000000 in
theorem impl_Disk_read_in (F : Fence) (n : Nat) (hK : F.fn 88) (h6 : F.fn 123) (h8 : F.fn 142) (hro : F.round = none) (hn : 3 ≤ n) (A0 : Option Addr) (c0 : Nat) (l0 : List ByteArray) (A1 : Option Addr) (c1 : Nat) (l1 : List (S92)) (a1 a2 : Int) (hl : l1.length ≤ 1000000000) (w : World) (hr0 : Kd.C Kd.string w A0 l0.length l0) (hr1 : Kd.C k92 w A1 l1.length l1) (r : ByteArray) (h : impl_Disk_read.f l0 l1 a1 a2 = some r) :
    CallsIn F n Try.prog 88 #[.agg #[.slice A0 l0.length c0, .slice A1 l1.length c1], .int .i64 a1, .int .i64 a2] w fun e W' => e = .returned (.string r) ∧ Below w.heap.size w W' := by
 have h1 : 1 ≤ n := by omega
 have hu48 := Try.underlying48
 have hu92 := Try.underlying92
 refine callsIn_of_wp_marks Try.func88 rfl hK ?_ hro
 simp only [Try.ntmps88, List.size_toArray, List.length_cons, List.length_nil, Nat.reduceAdd, Nat.reduceSub, Array.replicate_succ, Array.replicate_zero, List.push_toArray, List.append_toArray, List.nil_append, List.cons_append]
 gi_wp2_with (gi_at_call 123; refine (impl_Disk_read_back F (n - 1) h6 hro _ _ _ _).mono ?_; rintro e w' ⟨rfl, rfl⟩)
 obtain ⟨W0, hW0, hsz, b0, b1, b2, b3, b4, hB0⟩ := impl_Disk_read_chain w (.cells #[.slice A0 l0.length c0, .slice A1 l1.length c1] 48 (0, 0)) (.cells #[.int .i64 a1] 3 (0, 0)) (.cells #[.int .i64 a2] 3 (0, 0)) (.cells #[.string ⟨#[]⟩] 9 (0, 0)) (.cells #[.slice A1 l1.length c1] 46 (0, 0))
 rw [hW0]
 clear hW0
 refine wpIn_rangeFunc_ownH hro h1 (gf := 142) (lb := #[.pointer (some ⟨w.heap.size + 1 + 1 + 1 + 1, 0, none⟩)]) rfl h8 (enters_of Try.func142 (by kernel_rfl) rfl)
  (impl_Disk_read_stops F (n - 1) h8 hro (by omega) (w.heap.size + 1 + 1 + 1 + 1) A1 c1 l1 hl W0 (by omega) ((blk_cell b4 0).trans rfl) (Kd.C_below hr1 hB0)) belowK_t (belowK_b (Nat.le_refl _)) (Below.refl _ _) (fun _ => rfl)
  (fun pre W => (∀ p ∈ pre, (p.2.f0 == a1 && p.2.f1 == a2) = false) ∧ Below W0.heap.size W0 W)
  (fun c pre W => (c = .ret ∧ ∃ ini p, pre = ini ++ [p] ∧ (∀ p ∈ ini, (p.2.f0 == a1 && p.2.f1 == a2) = false) ∧ (p.2.f0 == a1 && p.2.f1 == a2) = true ∧ W.cell? ⟨w.heap.size + 1 + 1 + 1, 0, none⟩ = some (.string p.2.f2)) ∧ Below w.heap.size w W)
  (OwnFrom.and (ownFrom_pure _ _) (ownFrom_below (Nat.le_refl _) (Nat.le_refl _)))
  (fun c => OwnFrom.and (Own.from (fun s A B row hs hg hr => by obtain ⟨hc, ini, last, e1, e2, e3, e4⟩ := hs; exact ⟨hc, ini, last, e1, e2, e3, cell_kept e4 hg hr⟩) _) (ownFrom_below (Nat.le_refl _) (by omega)))
  ⟨by simp, Below.refl _ _⟩
  (fun x a' W => ∃ Bx, W0.heap.size ≤ Bx ∧ W.heap[Bx]? = some (.cells #[.int .i64 x.2.f0, .int .i64 x.2.f1, .string x.2.f2] 92 (0, 0)) ∧ a' = { tmps := #[.agg #[.slice A0 l0.length c0, .slice A1 l1.length c1], .int .i64 a1, .int .i64 a2, .pointer (some ⟨w.heap.size, 0, none⟩), .pointer (some ⟨w.heap.size + 1, 0, none⟩), .pointer (some ⟨w.heap.size + 1 + 1, 0, none⟩), .pointer (some ⟨w.heap.size + 1 + 1 + 1, 0, none⟩), undef, .pointer (some ⟨Bx, 0, none⟩), .pointer (some ⟨w.heap.size, 1, none⟩), .slice A1 l1.length c1, .func (.func 142) #[] #[.pointer (some ⟨w.heap.size + 1 + 1 + 1 + 1, 0, none⟩)], .int .i64 x.1, .agg #[.int .i64 x.2.f0, .int .i64 x.2.f1, .string x.2.f2], undef, undef, undef, undef, undef, undef, undef, undef, undef, undef, undef, undef, undef, undef, undef, undef, undef], defers := [] })
  (fun x a' _ X Y row hs hg hr => by obtain ⟨Bx, e1, e2, e3⟩ := hs; exact ⟨Bx, e1, (grownBy_keeps_cells hg (fun r e => (hr r e).2) e2 rfl).trans e2, e3⟩)
  ?assign ?body ?done ?stop
 case assign =>
  rintro l pre x W K ⟨hp, hB⟩ hK
  have hz := hB.size
  dsimp only [impl_Disk_read_encs]
  gi_wp2
  exact hK _ _ ((KeepsOthers.alloc _ _).from _) ((Below.refl _ W).alloc hz _) ⟨hp, hB.alloc hz _⟩ ⟨W.heap.size, hz, blk_new W _, rfl⟩
 case body =>
  rintro l pre x a' W hl2 ⟨r2, hr2⟩ ⟨hp, hB⟩ ⟨Bx, hBx, bX, rfl⟩ hlt
  have cx0 : W.cell? ⟨Bx, 0, none⟩ = some (.int .i64 x.2.f0) := (blk_cell bX 0).trans rfl
  have cx1 : W.cell? ⟨Bx, 1, none⟩ = some (.int .i64 x.2.f1) := (blk_cell bX 1).trans rfl
  have cx2 : W.cell? ⟨Bx, 2, none⟩ = some (.string x.2.f2) := (blk_cell bX 2).trans rfl
  have cH : W.cell? ⟨w.heap.size + 1, 0, none⟩ = some (.int .i64 a1) := (hB.cell (p := ⟨w.heap.size + 1, 0, none⟩) (by simp; omega)).trans ((blk_cell b1 0).trans rfl)
  have cA : W.cell? ⟨w.heap.size + 1 + 1, 0, none⟩ = some (.int .i64 a2) := (hB.cell (p := ⟨w.heap.size + 1 + 1, 0, none⟩) (by simp; omega)).trans ((blk_cell b2 0).trans rfl)
  have bR := (hB.block (w.heap.size + 1 + 1 + 1) (by omega)).trans b3
  have cR : W.cell? ⟨w.heap.size + 1 + 1 + 1, 0, none⟩ = some (.string ⟨#[]⟩) := (blk_cell bR 0).trans rfl
  have fR := blk_frozen bR 0
  have hBw : Below w.heap.size w W := hB0.trans (hB.mono (by omega))
  by_cases e1 : x.2.f0 = a1
  ·have e1b : (x.2.f0 == a1) = true := beq_iff_eq.2 e1
   by_cases e2 : x.2.f1 = a2
   ·have e2b : (x.2.f1 == a2) = true := beq_iff_eq.2 e2
    clear e1 e2
    gi_wp2
    exact ⟨(KeepsOthers.setCell _ _ _).from _, ⟨rfl, pre, x, rfl, hp, by rw [e1b, e2b]; rfl, World.cell?_setCell_same' _ _ _ (by rw [cR]; rfl)⟩, hBw.setCell (p := ⟨w.heap.size + 1 + 1 + 1, 0, none⟩) (by simp; omega) _⟩
   ·have e2b : (x.2.f1 == a2) = false := beq_eq_false_iff_ne.2 e2
    clear e1 e2
    gi_wp2
    exact ⟨KeepsFrom.refl _ _, Below.refl _ _, ⟨fun p hp' => (List.mem_append.1 hp').elim (hp p) (fun e => by simp at e; subst e; rw [e2b, Bool.and_false]), hB⟩⟩
  ·have e1b : (x.2.f0 == a1) = false := beq_eq_false_iff_ne.2 e1
   clear e1
   gi_wp2
   exact ⟨KeepsFrom.refl _ _, Below.refl _ _, ⟨fun p hp' => (List.mem_append.1 hp').elim (hp p) (fun e => by simp at e; subst e; rw [e1b, Bool.false_and]), hB⟩⟩
 case done =>
  rintro D ys W hD rfl ⟨hp, hB⟩ hK
  have hnone : l1.reverse.find? (fun x => x.f0 == a1 && x.f1 == a2) = none := by
   rw [List.find?_eq_none]
   intro x hx
   have e := impl_Disk_read_seq l1 l1.length (Nat.le_refl _)
   rw [List.take_of_length_le (by simp)] at e
   rw [← e] at hx
   obtain ⟨p, hp1, rfl⟩ := List.mem_map.1 hx
   simp only [hp p hp1]; decide
  unfold impl_Disk_read.f at h
  rw [if_pos hl, hnone] at h
  have h0a : 0 ≤ a2 := by
   by_cases c : 0 ≤ a2
   ·exact c
   ·simp only [if_neg c] at h; cases h
  have h1a : a2 < (l0.length : Int) := by
   by_cases c : a2 < (l0.length : Int)
   ·exact c
   ·simp only [if_pos h0a, if_neg c] at h; cases h
  simp only [if_pos h0a, if_pos h1a, Option.some.injEq] at h
  have hBw : Below w.heap.size w W := hB0.trans (hB.mono (by omega))
  obtain ⟨ad, rfl, hx⟩ := Kd.at_string (Kd.C_below hr0 hBw) a2 h0a h1a
  have cA : W.cell? ⟨w.heap.size + 1 + 1, 0, none⟩ = some (.int .i64 a2) := (hB.cell (p := ⟨w.heap.size + 1 + 1, 0, none⟩) (by simp; omega)).trans ((blk_cell b2 0).trans rfl)
  have cD : W.cell? ⟨w.heap.size, 0, none⟩ = some (.slice (some ad) l0.length c0) := (hB.cell (p := ⟨w.heap.size, 0, none⟩) (by simp; omega)).trans ((blk_cell b0 0).trans rfl)
  have bR := (hB.block (w.heap.size + 1 + 1 + 1) (by omega)).trans b3
  have cR : W.cell? ⟨w.heap.size + 1 + 1 + 1, 0, none⟩ = some (.string ⟨#[]⟩) := (blk_cell bR 0).trans rfl
  have fR := blk_frozen bR 0
  rw [h] at hx
  gi_wp2
  have hK' := (KeepsOthers.setCell W ⟨w.heap.size + 1 + 1 + 1, 0, none⟩ (.string r)).same D _ hK rfl
  refine ⟨by simp, .inl ⟨_, _, rfl, run_takeDeferred hK', ?_⟩⟩
  have hc5 := cell_kept (World.cell?_setCell_same' W ⟨w.heap.size + 1 + 1 + 1, 0, none⟩ (.string r) (by rw [cR]; rfl)) (grownBy_putObj' _ D (.deferred none)) (fun r e => by cases e; exact ⟨_, hK', rfl⟩)
  refine ⟨.string r, ?_, rfl, (hBw.setCell (p := ⟨w.heap.size + 1 + 1 + 1, 0, none⟩) (by simp; omega) _).trans (belowK_b (w := w) (Nat.le_refl _) _ D _ _ (by omega) hK' rfl rfl)⟩
  simp [results, Try.f88, go_sem, hc5]
 case stop =>
  rintro D c pre W hD ⟨k, hk, rfl⟩ ⟨⟨rfl, ini, last, e1, e2, e3, hcr⟩, hB⟩ hK
  have hr5 : r = last.2.f2 := by
   have e := impl_Disk_read_seq l1 k hk
   rw [e1, List.map_append] at e
   have e4 : l1.reverse = (ini.map (·.2) ++ [last.2]) ++ l1.reverse.drop k := by
    rw [show ini.map (·.2) ++ [last.2] = l1.reverse.take k from e, List.take_append_drop]
   unfold impl_Disk_read.f at h
   rw [if_pos hl, e4, List.find?_append, List.find?_append, List.find?_eq_none.2 (fun x hx => by
    obtain ⟨p, hp1, rfl⟩ := List.mem_map.1 hx
    simp only [e2 p hp1]; decide)] at h
   simp only [List.find?_cons, e3, Option.none_or, Option.some_or, Option.some.injEq] at h
   exact h.symm
  gi_wp2
  refine ⟨by simp, .inl ⟨_, _, rfl, run_takeDeferred hK, ?_⟩⟩
  have hc5 := cell_kept hcr (grownBy_putObj' _ D (.deferred none)) (fun r e => by cases e; exact ⟨_, hK, rfl⟩)
  refine ⟨.string last.2.f2, ?_, by rw [hr5], hB.trans (belowK_b (w := w) (Nat.le_refl _) W D _ _ (by omega) hK rfl rfl)⟩
  simp [results, Try.f88, go_sem, hc5]
theorem impl_Disk_read.calls (A0_0 : Option Addr) (c0_0 : Nat) (l0_0 : List ByteArray) (A0_1 : Option Addr) (c0_1 : Nat) (l0_1 : List (S92)) (a1 : Int) (a2 : Int) (r : ByteArray) (w : World) (hr0_0 : Kd.C Kd.string w A0_0 l0_0.length l0_0) (hc0_0 : l0_0.length ≤ c0_0) (hr0_1 : Kd.C k92 w A0_1 l0_1.length l0_1) (hc0_1 : l0_1.length ≤ c0_1) (h : impl_Disk_read.f l0_0 l0_1 a1 a2 = some r) :
 Calls Try.prog 88 #[.agg #[.slice A0_0 l0_0.length c0_0, .slice A0_1 l0_1.length c0_1], .int .i64 a1, .int .i64 a2] w fun e w' => e = .returned (.string r) ∧ Below w.heap.size w w' := by
 have hl : l0_1.length ≤ 1000000000 := by
  by_cases c : l0_1.length ≤ 1000000000
  ·exact c
  ·unfold impl_Disk_read.f at h; rw [if_neg c] at h; cases h
 exact (callsIn_wide (n := 6)).1 (impl_Disk_read_in Fence.wide 6 trivial trivial trivial rfl (by omega) A0_0 c0_0 l0_0 A0_1 c0_1 l0_1 a1 a2 hl w hr0_0 hr0_1 r h)
end
/-! ### impl_ReadSector: function 39 -/
def impl_ReadSector.f (l0_0 : List ByteArray) (l0_1 : List (S92)) (a1 : Int) (a2 : Int) : Option (ByteArray × Int) := (impl_DiskOK.f l0_0 l0_1).bind fun t835 => ((impl_isHost.f a1).bind fun t836 => ((impl_isPlace.f a2).bind fun t837 => ((impl_first.f (([Any.b (!t835), Any.n 1, Any.b (!t836), Any.n 4, Any.b (!t837), Any.n 14] : List Any))).bind fun t841 => (if t841 = 0 then ((impl_Disk_read.f l0_0 l0_1 a1 a2).bind fun t842 => (some (t842, 0))) else (some ((⟨#[]⟩ : ByteArray), t841))))))
set_option maxHeartbeats 8000000 in
set_option maxRecDepth 100000 in
theorem impl_ReadSector.calls (A0_0 : Option Addr) (c0_0 : Nat) (l0_0 : List ByteArray) (A0_1 : Option Addr) (c0_1 : Nat) (l0_1 : List (S92)) (a1 : Int) (a2 : Int) (r1 : ByteArray) (r2 : Int) (w : World) (hr0_0 : Kd.C Kd.string w A0_0 l0_0.length l0_0) (hc0_0 : l0_0.length ≤ c0_0) (hr0_1 : Kd.C k92 w A0_1 l0_1.length l0_1) (hc0_1 : l0_1.length ≤ c0_1) (h : impl_ReadSector.f l0_0 l0_1 a1 a2 = some (r1, r2)) :
    Calls Try.prog 39 #[.agg #[.slice A0_0 l0_0.length c0_0, .slice A0_1 l0_1.length c0_1], .int .i64 a1, .int .i64 a2] w fun e w' => e = .returned (.tuple #[.string r1, .int .i64 r2]) ∧ Below w.heap.size w w' := by
 have hu48 := Try.underlying48
 have Zd := zm hr0_0
 have Ze := zm hc0_0
 clear hr0_0 hc0_0
 have Zf := zm hr0_1
 have Zg := zm hc0_1
 clear hr0_1 hc0_1
 have HB := zm (Below.refl w.heap.size w)
 have H : ((impl_DiskOK.f l0_0 l0_1).bind fun t835 => ((impl_isHost.f a1).bind fun t836 => ((impl_isPlace.f a2).bind fun t837 => ((impl_first.f (([Any.b (!t835), Any.n 1, Any.b (!t836), Any.n 4, Any.b (!t837), Any.n 14] : List Any))).bind fun t841 => (if t841 = 0 then ((impl_Disk_read.f l0_0 l0_1 a1 a2).bind fun t842 => (some (t842, 0))) else (some ((⟨#[]⟩ : ByteArray), t841))))))) = some (r1, r2) := h
 clear h
 replace H := Option.bind_eq_some_iff.mp H
 obtain ⟨t835, A40, H⟩ := H
 replace H : ((impl_isHost.f a1).bind fun t836 => ((impl_isPlace.f a2).bind fun t837 => ((impl_first.f (([Any.b (!t835), Any.n 1, Any.b (!t836), Any.n 4, Any.b (!t837), Any.n 14] : List Any))).bind fun t841 => (if t841 = 0 then ((impl_Disk_read.f l0_0 l0_1 a1 a2).bind fun t842 => (some (t842, 0))) else (some ((⟨#[]⟩ : ByteArray), t841)))))) = some (r1, r2) := H
 have A4 := zm A40
 clear A40
 replace H := Option.bind_eq_some_iff.mp H
 obtain ⟨t836, A50, H⟩ := H
 replace H : ((impl_isPlace.f a2).bind fun t837 => ((impl_first.f (([Any.b (!t835), Any.n 1, Any.b (!t836), Any.n 4, Any.b (!t837), Any.n 14] : List Any))).bind fun t841 => (if t841 = 0 then ((impl_Disk_read.f l0_0 l0_1 a1 a2).bind fun t842 => (some (t842, 0))) else (some ((⟨#[]⟩ : ByteArray), t841))))) = some (r1, r2) := H
 have A5 := zm A50
 clear A50
 replace H := Option.bind_eq_some_iff.mp H
 obtain ⟨t837, A60, H⟩ := H
 replace H : ((impl_first.f (([Any.b (!t835), Any.n 1, Any.b (!t836), Any.n 4, Any.b (!t837), Any.n 14] : List Any))).bind fun t841 => (if t841 = 0 then ((impl_Disk_read.f l0_0 l0_1 a1 a2).bind fun t842 => (some (t842, 0))) else (some ((⟨#[]⟩ : ByteArray), t841)))) = some (r1, r2) := H
 have A6 := zm A60
 clear A60
 obtain ⟨y838, hy838⟩ : ∃ y_ : List Any, y_ = (([Any.b (!t835), Any.n 1, Any.b (!t836), Any.n 4, Any.b (!t837), Any.n 14] : List Any)) := ⟨_, rfl⟩
 replace H : ((impl_first.f y838).bind fun t841 => (if t841 = 0 then ((impl_Disk_read.f l0_0 l0_1 a1 a2).bind fun t842 => (some (t842, 0))) else (some ((⟨#[]⟩ : ByteArray), t841)))) = some (r1, r2) := by first | (rw [hy838]; with_reducible exact H) | (have H2_ := (Option.bind_some _ _).symm.trans H; rw [hy838]; with_reducible exact H2_) | (have H2_ := (Option.bind_some _ _).symm.trans H; with_reducible exact H2_) | with_reducible exact H | (rw [hy838]; exact H) | exact H
 have Ny838 := zm hy838
 clear hy838
 replace H := Option.bind_eq_some_iff.mp H
 obtain ⟨t841, A70, H⟩ := H
 replace H : (if t841 = 0 then ((impl_Disk_read.f l0_0 l0_1 a1 a2).bind fun t842 => (some (t842, 0))) else (some ((⟨#[]⟩ : ByteArray), t841))) = some (r1, r2) := H
 have A7 := zm A70
 clear A70
 by_cases c8 : t841 = 0
 ·rw [if_pos c8] at H
  have c8b0 : (t841 == 0) = true := beq_iff_eq.mpr c8
  have c8b1 : (t841 != 0) = false := bne_eq_false_iff_eq.mpr c8
  clear c8
  replace H := Option.bind_eq_some_iff.mp H
  obtain ⟨t842, A90, H⟩ := H
  replace H : (some (t842, 0)) = some (r1, r2) := H
  have A9 := zm A90
  clear A90
  simp only [Option.some.injEq, Prod.mk.injEq] at H
  obtain ⟨rfl, rfl⟩ := H
  go_enter Try.func39, Try.ntmps39
  go_wp2_with (first | ((with_reducible refine gate_dst (N := 3) rfl ?_); refine box_event ?hg (N := 3) ?hd (cs := #[.slice A0_0 l0_0.length c0_0, .slice A0_1 l0_1.length c0_1]) (t := 48) ?hr ?_; (case hd => rfl); (case hg => rfl); (case hr => first | (go_simp; done) | (go_simp; rfl)); intro gb834 hg w10 hbox hb; have n0_ := zm (below_step (zg_0 HB.out) hb); have n1_ := zm (hbox); have n2_ := zm ((by rw [hg]; exact (below_size (zg_0 HB.out)) : w.heap.size ≤ gb834)); have n3_ := zm ((by rw [hg]; exact (below_size (zg_0 HB.out)) : w.heap.size ≤ gb834)); clear HB; have HB := n0_; have Za := n1_; have Zh := n2_; have Zb := n3_; clear n0_ n1_ n2_ n3_; clear hb hbox hg; have hcz11_0 : w10.cell? ⟨gb834, 0, none⟩ = some (.slice A0_0 l0_0.length c0_0) := (blk_cell Za.out 0).trans rfl; have hcz11_1 : w10.cell? ⟨gb834, 1, none⟩ = some (.slice A0_1 l0_1.length c0_1) := (blk_cell Za.out 1).trans rfl; have hfz11_0 := blk_frozen Za.out 0; have hfz11_1 := blk_frozen Za.out 1) | ((with_reducible refine gate_callee (f := 42) rfl ?_); refine goesL_ (some 10) rfl rfl Try.func42 (by kernel_rfl) rfl #[.agg #[.slice A0_0 l0_0.length c0_0, .slice A0_1 l0_1.length c0_1]] rfl zq ?_; (with_reducible refine (impl_DiskOK.calls _ _ l0_0 _ _ l0_1 t835 _ ?side1 ?side2 ?side3 ?side4 A4.out).mono ?_); (case side1 => repeat (first | exact (Kd.C_below Zd.out HB.out) | (with_reducible refine Kd.C_alloc ?_ _) | (with_reducible refine Kd.C_drewN ?_ _) | (with_reducible refine Kd.C_drew ?_))); (case side2 => exact Ze.out); (case side3 => repeat (first | exact (Kd.C_below Zf.out HB.out) | (with_reducible refine Kd.C_alloc ?_ _) | (with_reducible refine Kd.C_drewN ?_ _) | (with_reducible refine Kd.C_drew ?_))); (case side4 => exact Zg.out); rintro e w12 ⟨rfl, hb⟩; refine ⟨_, rfl, ?_⟩; have n0_ := zm (blk_below (g := gb834) (o := .cells #[.slice A0_0 l0_0.length c0_0, .slice A0_1 l0_1.length c0_1] 48 (0, 0)) (zg_2 Za.out) hb); have n1_ := zm (below_step (zg_1 HB.out Zb.out) hb); clear Za; clear HB; have Za := n0_; have HB := n1_; clear n0_ n1_; (try clear hb); (try clear hb2); (try clear hk); (try clear hi)) | ((with_reducible refine gate_callee (f := 56) rfl ?_); refine goesL_ (some 15) rfl rfl Try.func56 (by kernel_rfl) rfl #[.int .i64 a1] rfl zq ?_; (with_reducible refine (impl_isHost.calls a1 t836 _ A5.out).mono ?_); rintro e w' ⟨rfl, ⟨nd, rfl⟩⟩; refine ⟨_, rfl, ?_⟩) | ((with_reducible refine gate_callee (f := 86) rfl ?_); refine goesL_ (some 20) rfl rfl Try.func86 (by kernel_rfl) rfl #[.int .i64 a2] rfl zq ?_; (with_reducible refine (impl_isPlace.calls a2 t837 _ A6.out).mono ?_); rintro e w' ⟨rfl, ⟨nd, rfl⟩⟩; refine ⟨_, rfl, ?_⟩) | ((with_reducible refine gate_dst (N := 24) rfl ?_); refine Kd.R_lit kAny _ 20 ?hg (N := 24) ?hd (xs := ([Any.b (!t835), Any.n 1, Any.b (!t836), Any.n 4, Any.b (!t837), Any.n 14] : List Any)) (inner := [.iface 4 (.bool (!t835)), .iface 3 (.int .i64 1), .iface 4 (.bool (!t836)), .iface 3 (.int .i64 4), .iface 4 (.bool (!t837)), .iface 3 (.int .i64 14)]) (ok := fun _ => True) (okp := fun _ => True) ?hr ?hp (fun _ hk => hk) trivial (Below.refl _ _) (Nat.le_refl _) (by simp) ?_; (case hd => rfl); (case hg => rfl); (case hr => first | (go_simp; done) | (go_simp; rfl)); (case hp => exact (Reps.one (show Kd.M kAny _ _ _ (Any.b (!t835)) [.iface 4 (.bool (!t835))] from rfl) (Reps.one (show Kd.M kAny _ _ _ (Any.n 1) [.iface 3 (.int .i64 1)] from rfl) (Reps.one (show Kd.M kAny _ _ _ (Any.b (!t836)) [.iface 4 (.bool (!t836))] from rfl) (Reps.one (show Kd.M kAny _ _ _ (Any.n 4) [.iface 3 (.int .i64 4)] from rfl) (Reps.one (show Kd.M kAny _ _ _ (Any.b (!t837)) [.iface 4 (.bool (!t837))] from rfl) (Reps.one (show Kd.M kAny _ _ _ (Any.n 14) [.iface 3 (.int .i64 14)] from rfl) (Reps.none _ _)))))))); intro v839 w13 ho14 hb hg_ hnew_; clear hg_ hnew_; (first | rw [← Ny838.out] at ho14 | (simp only [Int.reduceToNat] at ho14; rw [← Ny838.out] at ho14)); have n0_ := zm (Kd.R_lower ho14 (below_size (zg_1 HB.out Zb.out))); have n1_ := zm (blk_below (g := gb834) (o := .cells #[.slice A0_0 l0_0.length c0_0, .slice A0_1 l0_1.length c0_1] 48 (0, 0)) (zg_2 Za.out) hb); have n2_ := zm (below_step (zg_1 HB.out Zb.out) hb); clear Za; clear HB; have Zc := n0_; have Za := n1_; have HB := n2_; clear n0_ n1_ n2_; clear hb ho14; obtain ⟨Ao15, co15, eo15⟩ := Kd.R_slice Zc.out; subst eo15) | ((with_reducible refine gate_callee (f := 54) rfl ?_); refine goesL_ (some 25) rfl rfl Try.func54 (by kernel_rfl) rfl #[.slice Ao15 y838.length co15] rfl zq ?_; (with_reducible refine (impl_first.calls _ _ y838 t841 _ ?side1 ?side2 A7.out).mono ?_); (case side1 => repeat (first | exact (Kd.R_reads' Zc.out).2.2 | (with_reducible refine Kd.C_alloc ?_ _) | (with_reducible refine Kd.C_drewN ?_ _) | (with_reducible refine Kd.C_drew ?_))); (case side2 => exact (Kd.R_reads' Zc.out).2.1); rintro e w' ⟨rfl, ⟨nd, rfl⟩⟩; refine ⟨_, rfl, ?_⟩; have hcz16_0 : w13.cell? ⟨gb834, 0, none⟩ = some (.slice A0_0 l0_0.length c0_0) := (blk_cell Za.out 0).trans rfl; have hcz16_1 : w13.cell? ⟨gb834, 1, none⟩ = some (.slice A0_1 l0_1.length c0_1) := (blk_cell Za.out 1).trans rfl; have hfz16_0 := blk_frozen Za.out 0; have hfz16_1 := blk_frozen Za.out 1) | ((with_reducible refine gate_callee (f := 88) rfl ?_); refine goesL_ (some 32) rfl rfl Try.func88 (by kernel_rfl) rfl #[.agg #[.slice A0_0 l0_0.length c0_0, .slice A0_1 l0_1.length c0_1], .int .i64 a1, .int .i64 a2] rfl zq ?_; (with_reducible refine (impl_Disk_read.calls _ _ l0_0 _ _ l0_1 a1 a2 t842 _ ?side1 ?side2 ?side3 ?side4 A9.out).mono ?_); (case side1 => repeat (first | exact (Kd.C_below Zd.out (zg_1 HB.out Zb.out)) | (with_reducible refine Kd.C_alloc ?_ _) | (with_reducible refine Kd.C_drewN ?_ _) | (with_reducible refine Kd.C_drew ?_))); (case side2 => exact Ze.out); (case side3 => repeat (first | exact (Kd.C_below Zf.out (zg_1 HB.out Zb.out)) | (with_reducible refine Kd.C_alloc ?_ _) | (with_reducible refine Kd.C_drewN ?_ _) | (with_reducible refine Kd.C_drew ?_))); (case side4 => exact Zg.out); rintro e w17 ⟨rfl, hb⟩; refine ⟨_, rfl, ?_⟩; have n0_ := zm (Kd.R_below (zg_4 Zc.out) hb); have n1_ := zm (blk_below (g := gb834) (o := .cells #[.slice A0_0 l0_0.length c0_0, .slice A0_1 l0_1.length c0_1] 48 (0, 0)) (zg_2 Za.out) hb); have n2_ := zm (below_step (zg_1 HB.out Zb.out) hb); clear Zc; clear Za; clear HB; have Zc := n0_; have Za := n1_; have HB := n2_; clear n0_ n1_ n2_; (try clear hb); (try clear hb2); (try clear hk); (try clear hi)))
  go_ret2
  exact ⟨by first | rfl | (simp [errW_none, errW_some] <;> rfl) | (simp [*, errW_none, errW_some] <;> rfl), zg_1 HB.out Zb.out⟩
 ·rw [if_neg c8] at H
  have c8b0 : (t841 == 0) = false := beq_eq_false_iff_ne.mpr c8
  have c8b1 : (t841 != 0) = true := bne_iff_ne.mpr c8
  simp only [Option.some.injEq, Prod.mk.injEq] at H
  obtain ⟨rfl, rfl⟩ := H
  go_enter Try.func39, Try.ntmps39
  go_wp2_with (first | ((with_reducible refine gate_dst (N := 3) rfl ?_); refine box_event ?hg (N := 3) ?hd (cs := #[.slice A0_0 l0_0.length c0_0, .slice A0_1 l0_1.length c0_1]) (t := 48) ?hr ?_; (case hd => rfl); (case hg => rfl); (case hr => first | (go_simp; done) | (go_simp; rfl)); intro gb834 hg w18 hbox hb; have n0_ := zm (below_step (zg_0 HB.out) hb); have n1_ := zm (hbox); have n2_ := zm ((by rw [hg]; exact (below_size (zg_0 HB.out)) : w.heap.size ≤ gb834)); have n3_ := zm ((by rw [hg]; exact (below_size (zg_0 HB.out)) : w.heap.size ≤ gb834)); clear HB; have HB := n0_; have Za := n1_; have Zh := n2_; have Zb := n3_; clear n0_ n1_ n2_ n3_; clear hb hbox hg; have hcz19_0 : w18.cell? ⟨gb834, 0, none⟩ = some (.slice A0_0 l0_0.length c0_0) := (blk_cell Za.out 0).trans rfl; have hcz19_1 : w18.cell? ⟨gb834, 1, none⟩ = some (.slice A0_1 l0_1.length c0_1) := (blk_cell Za.out 1).trans rfl; have hfz19_0 := blk_frozen Za.out 0; have hfz19_1 := blk_frozen Za.out 1) | ((with_reducible refine gate_callee (f := 42) rfl ?_); refine goesL_ (some 10) rfl rfl Try.func42 (by kernel_rfl) rfl #[.agg #[.slice A0_0 l0_0.length c0_0, .slice A0_1 l0_1.length c0_1]] rfl zq ?_; (with_reducible refine (impl_DiskOK.calls _ _ l0_0 _ _ l0_1 t835 _ ?side1 ?side2 ?side3 ?side4 A4.out).mono ?_); (case side1 => repeat (first | exact (Kd.C_below Zd.out HB.out) | (with_reducible refine Kd.C_alloc ?_ _) | (with_reducible refine Kd.C_drewN ?_ _) | (with_reducible refine Kd.C_drew ?_))); (case side2 => exact Ze.out); (case side3 => repeat (first | exact (Kd.C_below Zf.out HB.out) | (with_reducible refine Kd.C_alloc ?_ _) | (with_reducible refine Kd.C_drewN ?_ _) | (with_reducible refine Kd.C_drew ?_))); (case side4 => exact Zg.out); rintro e w20 ⟨rfl, hb⟩; refine ⟨_, rfl, ?_⟩; have n0_ := zm (blk_below (g := gb834) (o := .cells #[.slice A0_0 l0_0.length c0_0, .slice A0_1 l0_1.length c0_1] 48 (0, 0)) (zg_2 Za.out) hb); have n1_ := zm (below_step (zg_1 HB.out Zb.out) hb); clear Za; clear HB; have Za := n0_; have HB := n1_; clear n0_ n1_; (try clear hb); (try clear hb2); (try clear hk); (try clear hi)) | ((with_reducible refine gate_callee (f := 56) rfl ?_); refine goesL_ (some 15) rfl rfl Try.func56 (by kernel_rfl) rfl #[.int .i64 a1] rfl zq ?_; (with_reducible refine (impl_isHost.calls a1 t836 _ A5.out).mono ?_); rintro e w' ⟨rfl, ⟨nd, rfl⟩⟩; refine ⟨_, rfl, ?_⟩) | ((with_reducible refine gate_callee (f := 86) rfl ?_); refine goesL_ (some 20) rfl rfl Try.func86 (by kernel_rfl) rfl #[.int .i64 a2] rfl zq ?_; (with_reducible refine (impl_isPlace.calls a2 t837 _ A6.out).mono ?_); rintro e w' ⟨rfl, ⟨nd, rfl⟩⟩; refine ⟨_, rfl, ?_⟩) | ((with_reducible refine gate_dst (N := 24) rfl ?_); refine Kd.R_lit kAny _ 20 ?hg (N := 24) ?hd (xs := ([Any.b (!t835), Any.n 1, Any.b (!t836), Any.n 4, Any.b (!t837), Any.n 14] : List Any)) (inner := [.iface 4 (.bool (!t835)), .iface 3 (.int .i64 1), .iface 4 (.bool (!t836)), .iface 3 (.int .i64 4), .iface 4 (.bool (!t837)), .iface 3 (.int .i64 14)]) (ok := fun _ => True) (okp := fun _ => True) ?hr ?hp (fun _ hk => hk) trivial (Below.refl _ _) (Nat.le_refl _) (by simp) ?_; (case hd => rfl); (case hg => rfl); (case hr => first | (go_simp; done) | (go_simp; rfl)); (case hp => exact (Reps.one (show Kd.M kAny _ _ _ (Any.b (!t835)) [.iface 4 (.bool (!t835))] from rfl) (Reps.one (show Kd.M kAny _ _ _ (Any.n 1) [.iface 3 (.int .i64 1)] from rfl) (Reps.one (show Kd.M kAny _ _ _ (Any.b (!t836)) [.iface 4 (.bool (!t836))] from rfl) (Reps.one (show Kd.M kAny _ _ _ (Any.n 4) [.iface 3 (.int .i64 4)] from rfl) (Reps.one (show Kd.M kAny _ _ _ (Any.b (!t837)) [.iface 4 (.bool (!t837))] from rfl) (Reps.one (show Kd.M kAny _ _ _ (Any.n 14) [.iface 3 (.int .i64 14)] from rfl) (Reps.none _ _)))))))); intro v839 w21 ho22 hb hg_ hnew_; clear hg_ hnew_; (first | rw [← Ny838.out] at ho22 | (simp only [Int.reduceToNat] at ho22; rw [← Ny838.out] at ho22)); have n0_ := zm (Kd.R_lower ho22 (below_size (zg_1 HB.out Zb.out))); have n1_ := zm (blk_below (g := gb834) (o := .cells #[.slice A0_0 l0_0.length c0_0, .slice A0_1 l0_1.length c0_1] 48 (0, 0)) (zg_2 Za.out) hb); have n2_ := zm (below_step (zg_1 HB.out Zb.out) hb); clear Za; clear HB; have Zc := n0_; have Za := n1_; have HB := n2_; clear n0_ n1_ n2_; clear hb ho22; obtain ⟨Ao23, co23, eo23⟩ := Kd.R_slice Zc.out; subst eo23) | ((with_reducible refine gate_callee (f := 54) rfl ?_); refine goesL_ (some 25) rfl rfl Try.func54 (by kernel_rfl) rfl #[.slice Ao23 y838.length co23] rfl zq ?_; (with_reducible refine (impl_first.calls _ _ y838 t841 _ ?side1 ?side2 A7.out).mono ?_); (case side1 => repeat (first | exact (Kd.R_reads' Zc.out).2.2 | (with_reducible refine Kd.C_alloc ?_ _) | (with_reducible refine Kd.C_drewN ?_ _) | (with_reducible refine Kd.C_drew ?_))); (case side2 => exact (Kd.R_reads' Zc.out).2.1); rintro e w' ⟨rfl, ⟨nd, rfl⟩⟩; refine ⟨_, rfl, ?_⟩))
  go_ret2
  exact ⟨by first | rfl | (simp [errW_none, errW_some] <;> rfl) | (simp [*, errW_none, errW_some] <;> rfl), zg_1 HB.out Zb.out⟩
section
attribute [local go_sem high] eqA28
/-! ### impl_isLongText: function 55 -/
def impl_isLongText.f (a0 : ByteArray) : Option (Bool) := some (decide ((a0.size : Int) > 65536))
set_option maxHeartbeats 8000000 in
set_option maxRecDepth 100000 in
theorem impl_isLongText.calls (a0 : ByteArray) (r : Bool) (w : World) (h : impl_isLongText.f a0 = some r) :
    Calls Try.prog 55 #[.string a0] w fun e w' => e = .returned (.bool r) ∧ Drawn0 w w' := by
  have H : (some (decide ((a0.size : Int) > 65536))) = some r := h
  clear h
  obtain rfl := Option.some.inj H
  go_enter Try.func55, Try.ntmps55
  go_wp2
  go_ret
  exact ⟨by first | rfl | (simp; done) | (simp [*]; done), by repeat (first | exact Drawn0.refl _ | apply Drawn0.step)⟩
end
end Go.Proofs.Ytajflpcihblkfaa.Q
