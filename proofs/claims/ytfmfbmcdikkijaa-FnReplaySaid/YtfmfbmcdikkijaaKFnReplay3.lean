/- What laws.FnReplay reaches, part 3: the functions as Lean functions, the proofs that the program's functions answer so, and plain laws about them. -/
import Derived.Test.YtfmfbmcdikkijaaKFnReplay1
import Derived.Test.YtfmfbmcdikkijaaKFnReplay2
namespace Go.Proofs.Ytfmfbmcdikkijaa.Q
open Go.RowKit Go.Proofs.Ytfmfbmcdikkijaa.Ext Go.Proofs.YtfmfbmcdikkijaaW.PrintWords Go.Proofs.YtfmfbmcdikkijaaW.PrintLast Go.Proofs.YtfmfbmcdikkijaaW.PrintMore
attribute [local go_sem] max2_int min2_int max_two min_two max_three min_three max_four min_four   -- for this text's walks alone
set_option linter.unusedVariables false
set_option linter.unusedSimpArgs false

set_option linter.unusedVariables false
set_option linter.unusedSimpArgs false
def impl_LoseHost.f (l0_0 : List ByteArray) (l0_1 : List (S75)) (a1 : Int) (a2 : Int) : Option (List ByteArray × (List (S75)) × Int) := (impl_DiskOK.f l0_0 l0_1).bind fun t319 => ((impl_isHost.f a1).bind fun t320 => ((impl_within.f a2 0 200).bind fun t321 => ((impl_first.f (([Any.b (!t319), Any.n 1, Any.b (!t320), Any.n 4, Any.b (!t321), Any.n 4] : List Any))).bind fun t325 => (if t325 = 0 then ((impl_Disk_settle.f l0_0 l0_1 a1 a2 true).bind fun bt326 => (some (bt326.1, bt326.2, 0))) else (some (([] : List ByteArray), ([] : List (S75)), t325))))))
set_option maxHeartbeats 8000000 in
set_option maxRecDepth 100000 in
theorem impl_LoseHost.calls (A0_0 : Option Addr) (c0_0 : Nat) (l0_0 : List ByteArray) (A0_1 : Option Addr) (c0_1 : Nat) (l0_1 : List (S75)) (a1 : Int) (a2 : Int) (r1 : List ByteArray) (r2 : List (S75)) (r3 : Int) (w : World) (hr0_0 : Kd.C Kd.string w A0_0 l0_0.length l0_0) (hc0_0 : l0_0.length ≤ c0_0) (hr0_1 : Kd.C k75 w A0_1 l0_1.length l0_1) (hc0_1 : l0_1.length ≤ c0_1) (h : impl_LoseHost.f l0_0 l0_1 a1 a2 = some (r1, r2, r3)) :
    Calls Try.prog 8 #[.agg #[.slice A0_0 l0_0.length c0_0, .slice A0_1 l0_1.length c0_1], .int .i64 a1, .int .i64 a2] w fun e w' => ∃ v0_ v1_ : Value, e = .returned (.tuple #[.agg #[v0_, v1_], .int .i64 r3]) ∧ Kd.R Kd.string 9 w' w.heap.size (fun _ => True) v0_ r1 ∧ Kd.R k75 75 w' w.heap.size (fun _ => True) v1_ r2 ∧ Below w.heap.size w w' := by
 have hu32 := Try.underlying32; have Zh := zm hr0_0; have Zi := zm hc0_0; clear hr0_0 hc0_0; have Zj := zm hr0_1; have Zk := zm hc0_1; clear hr0_1 hc0_1; have HB := zm (Below.refl w.heap.size w); have H := h
 unfold impl_LoseHost.f at H
 clear h; replace H := Option.bind_eq_some_iff.mp H
 obtain ⟨t319, A40, H⟩ := H
 try dsimp only at H
 have A4 := zm A40; clear A40; replace H := Option.bind_eq_some_iff.mp H
 obtain ⟨t320, A50, H⟩ := H
 try dsimp only at H
 have A5 := zm A50; clear A50; replace H := Option.bind_eq_some_iff.mp H
 obtain ⟨t321, A60, H⟩ := H
 try dsimp only at H
 have A6 := zm A60; clear A60
 obtain ⟨y322, hy322⟩ : ∃ y_ : List Any, y_ = (([Any.b (!t319), Any.n 1, Any.b (!t320), Any.n 4, Any.b (!t321), Any.n 4] : List Any)) := ⟨_, rfl⟩
 replace H : ((impl_first.f y322).bind fun t325 => (if t325 = 0 then ((impl_Disk_settle.f l0_0 l0_1 a1 a2 true).bind fun bt326 => (some (bt326.1, bt326.2, 0))) else (some (([] : List ByteArray), ([] : List (S75)), t325)))) = some (r1, r2, r3) := by first | (rw [hy322]; with_reducible exact H) | (have H2_ := (Option.bind_some _ _).symm.trans H; rw [hy322]; with_reducible exact H2_) | (have H2_ := (Option.bind_some _ _).symm.trans H; with_reducible exact H2_) | with_reducible exact H | (rw [hy322]; exact H) | exact H
 have Ny322 := zm hy322; clear hy322; replace H := Option.bind_eq_some_iff.mp H
 obtain ⟨t325, A70, H⟩ := H
 try dsimp only at H
 have A7 := zm A70; clear A70
 by_cases c8 : t325 = 0
 ·rw [if_pos c8] at H
  have c8b0 : (t325 == 0) = true := beq_iff_eq.mpr c8
  have c8b1 : (t325 != 0) = false := bne_eq_false_iff_eq.mpr c8
  clear c8; replace H := Option.bind_eq_some_iff.mp H
  obtain ⟨⟨t326, t329⟩, A90, H⟩ := H
  try dsimp only at H
  have A9 := zm A90; clear A90
  simp only [Option.some.injEq, Prod.mk.injEq] at H
  obtain ⟨rfl, rfl, rfl⟩ := H
  go_enter Try.func8, Try.ntmps8
  go_wp2_with (first | ((with_reducible refine gate_dst (N := 3) rfl ?_); refine box_event ?hg (N := 3) ?hd (cs := #[.slice A0_0 l0_0.length c0_0, .slice A0_1 l0_1.length c0_1]) (t := 32) ?hr ?_; (case hd => rfl); (case hg => rfl); (case hr => first | (go_simp; done) | (go_simp; rfl)); intro gb317 hg w10 hbox hb; have n0_ := zm (below_step (zg_0 HB.out) hb); have n1_ := zm (hbox); have n2_ := zm ((by rw [hg]; exact (below_size (zg_0 HB.out)) : w.heap.size ≤ gb317)); have n3_ := zm ((by rw [hg]; exact (below_size (zg_0 HB.out)) : w.heap.size ≤ gb317)); replace HB := n0_; have Za := n1_; have Zn := n2_; have Zc := n3_; clear n0_ n1_ n2_ n3_; clear hb hbox hg) | ((with_reducible refine gate_dst (N := 6) rfl ?_); refine box_event ?hg (N := 6) ?hd (cs := #[.slice none 0 0, .slice none 0 0]) (t := 32) ?hr ?_; (case hd => rfl); (case hg => rfl); (case hr => first | (go_simp; done) | (go_simp; rfl)); intro gb318 hg w11 hbox hb; have n0_ := zm (blk_below (g := gb317) (o := .cells #[.slice A0_0 l0_0.length c0_0, .slice A0_1 l0_1.length c0_1] 32 (0, 0)) (zg_3 Za.out) hb); have n1_ := zm (below_step (zg_1 HB.out Zc.out) hb); have n2_ := zm (hbox); have n3_ := zm ((by rw [hg]; exact (below_size (zg_1 HB.out Zc.out)) : w.heap.size ≤ gb318)); have n4_ := zm ((by rw [hg]; exact (below_size (zg_1 HB.out Zc.out)) : w.heap.size ≤ gb318)); have n5_ := zm ((by rw [hg]; exact Nat.ne_of_lt (blk_lt (g := gb317) (o := .cells #[.slice A0_0 l0_0.length c0_0, .slice A0_1 l0_1.length c0_1] 32 (0, 0)) (zg_3 Za.out)) : gb317 ≠ gb318)); have n6_ := zm ((by rw [hg]; exact Nat.ne_of_gt (blk_lt (g := gb317) (o := .cells #[.slice A0_0 l0_0.length c0_0, .slice A0_1 l0_1.length c0_1] 32 (0, 0)) (zg_3 Za.out)) : gb318 ≠ gb317)); replace Za := n0_; replace HB := n1_; have Zb := n2_; have Zo := n3_; have Zd := n4_; have Zf := n5_; have Zg := n6_; clear n0_ n1_ n2_ n3_ n4_ n5_ n6_; clear hb hbox hg; have hnb12 := Zf.out; have hnc12 := Zg.out; obtain ⟨hcz13_0, hcz13_1, hfz13_0, hfz13_1⟩ := zb2 Za.out) | ((with_reducible refine gate_callee (f := 26) rfl ?_); refine goesL_ (some 10) rfl rfl Try.func26 (by kernel_rfl) rfl #[.agg #[.slice A0_0 l0_0.length c0_0, .slice A0_1 l0_1.length c0_1]] rfl zq ?_; (with_reducible refine (impl_DiskOK.calls _ _ l0_0 _ _ l0_1 t319 _ ?side1 ?side2 ?side3 ?side4 A4.out).mono ?_); (case side1 => exact zC (Kd.C_below Zh.out HB.out)); (case side2 => exact Zi.out); (case side3 => exact zC (Kd.C_below Zj.out HB.out)); (case side4 => exact Zk.out); rintro e w14 ⟨rfl, hb⟩; refine ⟨_, rfl, ?_⟩; have n0_ := zm (blk_below (g := gb317) (o := .cells #[.slice A0_0 l0_0.length c0_0, .slice A0_1 l0_1.length c0_1] 32 (0, 0)) (zg_3 Za.out) hb); have n1_ := zm (blk_below (g := gb318) (o := .cells #[.slice none 0 0, .slice none 0 0] 32 (0, 0)) (zg_3 Zb.out) hb); have n2_ := zm (below_step (zg_4 HB.out Zc.out Zd.out) hb); replace Za := n0_; replace Zb := n1_; replace HB := n2_; clear n0_ n1_ n2_; (try clear hb); (try clear hb2); (try clear hk); (try clear hi)) | ((with_reducible refine gate_callee (f := 15) rfl ?_); refine goesL_ (some 15) rfl rfl Try.func15 (by kernel_rfl) rfl #[.int .i64 a1] rfl zq ?_; (with_reducible refine (impl_isHost.calls a1 t320 _ A5.out).mono ?_); rintro e w' ⟨rfl, ⟨nd, rfl⟩⟩; refine ⟨_, rfl, ?_⟩; (try (rw [drewN_self w14]; generalize hq_ : World.drewN w14 _ = w14; have n0_ : Aside0 (w14.heap[gb317]? = some (.cells #[.slice A0_0 l0_0.length c0_0, .slice A0_1 l0_1.length c0_1] 32 (0, 0))) := ⟨by rw [← hq_]; exact (zg_3 Za.out)⟩; have n1_ : Aside0 (w14.heap[gb318]? = some (.cells #[.slice none 0 0, .slice none 0 0] 32 (0, 0))) := ⟨by rw [← hq_]; exact (zg_3 Zb.out)⟩; have n2_ : Aside0 (Below w.heap.size w w14) := ⟨by rw [← hq_]; exact (zg_4 HB.out Zc.out Zd.out)⟩; clear Za Zb HB hq_; have Za := n0_; have Zb := n1_; have HB := n2_; clear n0_ n1_ n2_))) | ((with_reducible refine gate_callee (f := 27) rfl ?_); refine goesL_ (some 20) rfl rfl Try.func27 (by kernel_rfl) rfl #[.int .i64 a2, .int .i64 0, .int .i64 200] rfl zq ?_; (with_reducible refine (impl_within.calls a2 0 200 t321 _ A6.out).mono ?_); rintro e w' ⟨rfl, ⟨nd, rfl⟩⟩; refine ⟨_, rfl, ?_⟩; (try (rw [drewN_self w14]; generalize hq_ : World.drewN w14 _ = w14; have n0_ : Aside0 (w14.heap[gb317]? = some (.cells #[.slice A0_0 l0_0.length c0_0, .slice A0_1 l0_1.length c0_1] 32 (0, 0))) := ⟨by rw [← hq_]; exact (zg_3 Za.out)⟩; have n1_ : Aside0 (w14.heap[gb318]? = some (.cells #[.slice none 0 0, .slice none 0 0] 32 (0, 0))) := ⟨by rw [← hq_]; exact (zg_3 Zb.out)⟩; have n2_ : Aside0 (Below w.heap.size w w14) := ⟨by rw [← hq_]; exact (zg_4 HB.out Zc.out Zd.out)⟩; clear Za Zb HB hq_; have Za := n0_; have Zb := n1_; have HB := n2_; clear n0_ n1_ n2_))) | ((with_reducible refine gate_dst (N := 24) rfl ?_); refine Kd.R_lit kAny _ 20 ?hg (N := 24) ?hd (xs := ([Any.b (!t319), Any.n 1, Any.b (!t320), Any.n 4, Any.b (!t321), Any.n 4] : List Any)) (inner := [.iface 4 (.bool (!t319)), .iface 3 (.int .i64 1), .iface 4 (.bool (!t320)), .iface 3 (.int .i64 4), .iface 4 (.bool (!t321)), .iface 3 (.int .i64 4)]) (ok := fun _ => True) (okp := fun _ => True) ?hr ?hp (fun _ hk => hk) trivial (Below.refl _ _) (Nat.le_refl _) (by simp) ?_; (case hd => rfl); (case hg => rfl); (case hr => first | (go_simp; done) | (go_simp; rfl)); (case hp => exact (Reps.one (show Kd.M kAny _ _ _ (Any.b (!t319)) [.iface 4 (.bool (!t319))] from rfl) (Reps.one (show Kd.M kAny _ _ _ (Any.n 1) [.iface 3 (.int .i64 1)] from rfl) (Reps.one (show Kd.M kAny _ _ _ (Any.b (!t320)) [.iface 4 (.bool (!t320))] from rfl) (Reps.one (show Kd.M kAny _ _ _ (Any.n 4) [.iface 3 (.int .i64 4)] from rfl) (Reps.one (show Kd.M kAny _ _ _ (Any.b (!t321)) [.iface 4 (.bool (!t321))] from rfl) (Reps.one (show Kd.M kAny _ _ _ (Any.n 4) [.iface 3 (.int .i64 4)] from rfl) (Reps.none _ _)))))))); intro v323 w15 ho16 hb hg_ hnew_; clear hg_ hnew_; (first | rw [← Ny322.out] at ho16 | (simp only [Int.reduceToNat] at ho16; rw [← Ny322.out] at ho16)); have n0_ := zm (Kd.R_lower ho16 (below_size (zg_4 HB.out Zc.out Zd.out))); have n1_ := zm (blk_below (g := gb317) (o := .cells #[.slice A0_0 l0_0.length c0_0, .slice A0_1 l0_1.length c0_1] 32 (0, 0)) (zg_3 Za.out) hb); have n2_ := zm (blk_below (g := gb318) (o := .cells #[.slice none 0 0, .slice none 0 0] 32 (0, 0)) (zg_3 Zb.out) hb); have n3_ := zm (below_step (zg_4 HB.out Zc.out Zd.out) hb); have Ze := n0_; replace Za := n1_; replace Zb := n2_; replace HB := n3_; clear n0_ n1_ n2_ n3_; clear hb ho16; obtain ⟨Ao17, co17, eo17⟩ := Kd.R_slice Ze.out; subst eo17) | ((with_reducible refine gate_callee (f := 13) rfl ?_); refine goesL_ (some 25) rfl rfl Try.func13 (by kernel_rfl) rfl #[.slice Ao17 y322.length co17] rfl zq ?_; (with_reducible refine (impl_first.calls _ _ y322 t325 _ ?side1 ?side2 A7.out).mono ?_); (case side1 => exact zC ((Kd.R_reads' Ze.out).2.2)); (case side2 => exact (Kd.R_reads' Ze.out).2.1); rintro e w' ⟨rfl, ⟨nd, rfl⟩⟩; refine ⟨_, rfl, ?_⟩; (try (rw [drewN_self w15]; generalize hq_ : World.drewN w15 _ = w15; have n0_ : Aside0 (Kd.R kAny 20 w15 w.heap.size (fun _ => True) (.slice Ao17 y322.length co17) y322) := ⟨by rw [← hq_]; exact (zg_2 Ze.out)⟩; have n1_ : Aside0 (w15.heap[gb317]? = some (.cells #[.slice A0_0 l0_0.length c0_0, .slice A0_1 l0_1.length c0_1] 32 (0, 0))) := ⟨by rw [← hq_]; exact (zg_3 Za.out)⟩; have n2_ : Aside0 (w15.heap[gb318]? = some (.cells #[.slice none 0 0, .slice none 0 0] 32 (0, 0))) := ⟨by rw [← hq_]; exact (zg_3 Zb.out)⟩; have n3_ : Aside0 (Below w.heap.size w w15) := ⟨by rw [← hq_]; exact (zg_4 HB.out Zc.out Zd.out)⟩; clear Ze Za Zb HB hq_; have Ze := n0_; have Za := n1_; have Zb := n2_; have HB := n3_; clear n0_ n1_ n2_ n3_)); obtain ⟨hcz18_0, hcz18_1, hfz18_0, hfz18_1⟩ := zb2 Za.out) | ((with_reducible refine gate_callee (f := 28) rfl ?_); refine goesL_ (some 33) rfl rfl Try.func28 (by kernel_rfl) rfl #[.agg #[.slice A0_0 l0_0.length c0_0, .slice A0_1 l0_1.length c0_1], .int .i64 a1, .int .i64 a2, .bool true] rfl zq ?_; (with_reducible refine (impl_Disk_settle.calls _ _ l0_0 _ _ l0_1 a1 a2 true t326 t329 _ ?side1 ?side2 ?side3 ?side4 A9.out).mono ?_); (case side1 => exact zC (Kd.C_below Zh.out HB.out)); (case side2 => exact Zi.out); (case side3 => exact zC (Kd.C_below Zj.out HB.out)); (case side4 => exact Zk.out); rintro e w19 ⟨v327, v330, rfl, ho0, ho1, hb⟩; refine ⟨_, rfl, ?_⟩; have n0_ := zm (Kd.R_below (zg_2 Ze.out) hb); have n1_ := zm (Kd.R_lower ho0 (below_size (zg_4 HB.out Zc.out Zd.out))); have n2_ := zm (Kd.R_lower ho1 (below_size (zg_4 HB.out Zc.out Zd.out))); have n3_ := zm (blk_below (g := gb317) (o := .cells #[.slice A0_0 l0_0.length c0_0, .slice A0_1 l0_1.length c0_1] 32 (0, 0)) (zg_3 Za.out) hb); have n4_ := zm (blk_below (g := gb318) (o := .cells #[.slice none 0 0, .slice none 0 0] 32 (0, 0)) (zg_3 Zb.out) hb); have n5_ := zm (below_step (zg_4 HB.out Zc.out Zd.out) hb); replace Ze := n0_; have Zl := n1_; have Zm := n2_; replace Za := n3_; replace Zb := n4_; replace HB := n5_; clear n0_ n1_ n2_ n3_ n4_ n5_; (try clear hb); (try clear hb2); (try clear hk); (try clear hi); (try clear ho0); (try clear ho1); obtain ⟨Ao20, co20, eo20⟩ := Kd.R_slice Zl.out; subst eo20; obtain ⟨hcz21_0, hcz21_1, hfz21_0, hfz21_1⟩ := zb2 Zb.out; obtain ⟨Ao22, co22, eo22⟩ := Kd.R_slice Zm.out; subst eo22))
  refine bodyPost_ret (results_ct rfl _ _ gb318 32 #[.slice Ao20 t326.length co20, .slice Ao22 t329.length co22] (0, 0) _ rfl (by (with_reducible repeat (first | refine blk_drewN ?_ _ | refine blk_drew ?_ | refine blk_alloc ?_ _)); refine blk_put (cs := #[.slice Ao20 t326.length co20, .slice none 0 0]) ?_ 1 _ rfl; (with_reducible repeat (first | refine blk_drewN ?_ _ | refine blk_drew ?_ | refine blk_alloc ?_ _)); refine blk_put (cs := #[.slice none 0 0, .slice none 0 0]) ?_ 0 _ rfl; (with_reducible repeat (first | refine blk_drewN ?_ _ | refine blk_drew ?_ | refine blk_alloc ?_ _)); exact Zb.out) Try.underlying32 rfl (by kernel_rfl)) rfl ?_
  exact ⟨_, _, ze, by (with_reducible repeat (first | apply Kd.R_alloc | apply Kd.R_drewN | apply Kd.R_drew)); exact Kd.R_mono (Kd.R_far (Kd.R_far (Kd.R_types Zl.out Zb.out (by decide)) (fun _ hk => hk.2) _) (fun _ hk => hk.2) _) (fun _ hk => trivial), by (with_reducible repeat (first | apply Kd.R_alloc | apply Kd.R_drewN | apply Kd.R_drew)); exact Kd.R_mono (Kd.R_far (Kd.R_far (Kd.R_types Zm.out Zb.out (by decide)) (fun _ hk => hk.2) _) (fun _ hk => hk.2) _) (fun _ hk => trivial), zg_4 HB.out Zc.out Zd.out⟩
 ·rw [if_neg c8] at H
  have c8b0 : (t325 == 0) = false := beq_eq_false_iff_ne.mpr c8
  have c8b1 : (t325 != 0) = true := bne_iff_ne.mpr c8
  simp only [Option.some.injEq, Prod.mk.injEq] at H
  obtain ⟨rfl, rfl, rfl⟩ := H
  go_enter Try.func8, Try.ntmps8
  go_wp2_with (first | ((with_reducible refine gate_dst (N := 3) rfl ?_); refine box_event ?hg (N := 3) ?hd (cs := #[.slice A0_0 l0_0.length c0_0, .slice A0_1 l0_1.length c0_1]) (t := 32) ?hr ?_; (case hd => rfl); (case hg => rfl); (case hr => first | (go_simp; done) | (go_simp; rfl)); intro gb317 hg w23 hbox hb; have n0_ := zm (below_step (zg_0 HB.out) hb); have n1_ := zm (hbox); have n2_ := zm ((by rw [hg]; exact (below_size (zg_0 HB.out)) : w.heap.size ≤ gb317)); have n3_ := zm ((by rw [hg]; exact (below_size (zg_0 HB.out)) : w.heap.size ≤ gb317)); replace HB := n0_; have Za := n1_; have Zn := n2_; have Zc := n3_; clear n0_ n1_ n2_ n3_; clear hb hbox hg) | ((with_reducible refine gate_dst (N := 6) rfl ?_); refine box_event ?hg (N := 6) ?hd (cs := #[.slice none 0 0, .slice none 0 0]) (t := 32) ?hr ?_; (case hd => rfl); (case hg => rfl); (case hr => first | (go_simp; done) | (go_simp; rfl)); intro gb318 hg w24 hbox hb; have n0_ := zm (blk_below (g := gb317) (o := .cells #[.slice A0_0 l0_0.length c0_0, .slice A0_1 l0_1.length c0_1] 32 (0, 0)) (zg_3 Za.out) hb); have n1_ := zm (below_step (zg_1 HB.out Zc.out) hb); have n2_ := zm (hbox); have n3_ := zm ((by rw [hg]; exact (below_size (zg_1 HB.out Zc.out)) : w.heap.size ≤ gb318)); have n4_ := zm ((by rw [hg]; exact (below_size (zg_1 HB.out Zc.out)) : w.heap.size ≤ gb318)); have n5_ := zm ((by rw [hg]; exact Nat.ne_of_lt (blk_lt (g := gb317) (o := .cells #[.slice A0_0 l0_0.length c0_0, .slice A0_1 l0_1.length c0_1] 32 (0, 0)) (zg_3 Za.out)) : gb317 ≠ gb318)); have n6_ := zm ((by rw [hg]; exact Nat.ne_of_gt (blk_lt (g := gb317) (o := .cells #[.slice A0_0 l0_0.length c0_0, .slice A0_1 l0_1.length c0_1] 32 (0, 0)) (zg_3 Za.out)) : gb318 ≠ gb317)); replace Za := n0_; replace HB := n1_; have Zb := n2_; have Zo := n3_; have Zd := n4_; have Zf := n5_; have Zg := n6_; clear n0_ n1_ n2_ n3_ n4_ n5_ n6_; clear hb hbox hg; have hnb25 := Zf.out; have hnc25 := Zg.out; obtain ⟨hcz26_0, hcz26_1, hfz26_0, hfz26_1⟩ := zb2 Za.out) | ((with_reducible refine gate_callee (f := 26) rfl ?_); refine goesL_ (some 10) rfl rfl Try.func26 (by kernel_rfl) rfl #[.agg #[.slice A0_0 l0_0.length c0_0, .slice A0_1 l0_1.length c0_1]] rfl zq ?_; (with_reducible refine (impl_DiskOK.calls _ _ l0_0 _ _ l0_1 t319 _ ?side1 ?side2 ?side3 ?side4 A4.out).mono ?_); (case side1 => exact zC (Kd.C_below Zh.out HB.out)); (case side2 => exact Zi.out); (case side3 => exact zC (Kd.C_below Zj.out HB.out)); (case side4 => exact Zk.out); rintro e w27 ⟨rfl, hb⟩; refine ⟨_, rfl, ?_⟩; have n0_ := zm (blk_below (g := gb317) (o := .cells #[.slice A0_0 l0_0.length c0_0, .slice A0_1 l0_1.length c0_1] 32 (0, 0)) (zg_3 Za.out) hb); have n1_ := zm (blk_below (g := gb318) (o := .cells #[.slice none 0 0, .slice none 0 0] 32 (0, 0)) (zg_3 Zb.out) hb); have n2_ := zm (below_step (zg_4 HB.out Zc.out Zd.out) hb); replace Za := n0_; replace Zb := n1_; replace HB := n2_; clear n0_ n1_ n2_; (try clear hb); (try clear hb2); (try clear hk); (try clear hi)) | ((with_reducible refine gate_callee (f := 15) rfl ?_); refine goesL_ (some 15) rfl rfl Try.func15 (by kernel_rfl) rfl #[.int .i64 a1] rfl zq ?_; (with_reducible refine (impl_isHost.calls a1 t320 _ A5.out).mono ?_); rintro e w' ⟨rfl, ⟨nd, rfl⟩⟩; refine ⟨_, rfl, ?_⟩; (try (rw [drewN_self w27]; generalize hq_ : World.drewN w27 _ = w27; have n0_ : Aside0 (w27.heap[gb317]? = some (.cells #[.slice A0_0 l0_0.length c0_0, .slice A0_1 l0_1.length c0_1] 32 (0, 0))) := ⟨by rw [← hq_]; exact (zg_3 Za.out)⟩; have n1_ : Aside0 (w27.heap[gb318]? = some (.cells #[.slice none 0 0, .slice none 0 0] 32 (0, 0))) := ⟨by rw [← hq_]; exact (zg_3 Zb.out)⟩; have n2_ : Aside0 (Below w.heap.size w w27) := ⟨by rw [← hq_]; exact (zg_4 HB.out Zc.out Zd.out)⟩; clear Za Zb HB hq_; have Za := n0_; have Zb := n1_; have HB := n2_; clear n0_ n1_ n2_))) | ((with_reducible refine gate_callee (f := 27) rfl ?_); refine goesL_ (some 20) rfl rfl Try.func27 (by kernel_rfl) rfl #[.int .i64 a2, .int .i64 0, .int .i64 200] rfl zq ?_; (with_reducible refine (impl_within.calls a2 0 200 t321 _ A6.out).mono ?_); rintro e w' ⟨rfl, ⟨nd, rfl⟩⟩; refine ⟨_, rfl, ?_⟩; (try (rw [drewN_self w27]; generalize hq_ : World.drewN w27 _ = w27; have n0_ : Aside0 (w27.heap[gb317]? = some (.cells #[.slice A0_0 l0_0.length c0_0, .slice A0_1 l0_1.length c0_1] 32 (0, 0))) := ⟨by rw [← hq_]; exact (zg_3 Za.out)⟩; have n1_ : Aside0 (w27.heap[gb318]? = some (.cells #[.slice none 0 0, .slice none 0 0] 32 (0, 0))) := ⟨by rw [← hq_]; exact (zg_3 Zb.out)⟩; have n2_ : Aside0 (Below w.heap.size w w27) := ⟨by rw [← hq_]; exact (zg_4 HB.out Zc.out Zd.out)⟩; clear Za Zb HB hq_; have Za := n0_; have Zb := n1_; have HB := n2_; clear n0_ n1_ n2_))) | ((with_reducible refine gate_dst (N := 24) rfl ?_); refine Kd.R_lit kAny _ 20 ?hg (N := 24) ?hd (xs := ([Any.b (!t319), Any.n 1, Any.b (!t320), Any.n 4, Any.b (!t321), Any.n 4] : List Any)) (inner := [.iface 4 (.bool (!t319)), .iface 3 (.int .i64 1), .iface 4 (.bool (!t320)), .iface 3 (.int .i64 4), .iface 4 (.bool (!t321)), .iface 3 (.int .i64 4)]) (ok := fun _ => True) (okp := fun _ => True) ?hr ?hp (fun _ hk => hk) trivial (Below.refl _ _) (Nat.le_refl _) (by simp) ?_; (case hd => rfl); (case hg => rfl); (case hr => first | (go_simp; done) | (go_simp; rfl)); (case hp => exact (Reps.one (show Kd.M kAny _ _ _ (Any.b (!t319)) [.iface 4 (.bool (!t319))] from rfl) (Reps.one (show Kd.M kAny _ _ _ (Any.n 1) [.iface 3 (.int .i64 1)] from rfl) (Reps.one (show Kd.M kAny _ _ _ (Any.b (!t320)) [.iface 4 (.bool (!t320))] from rfl) (Reps.one (show Kd.M kAny _ _ _ (Any.n 4) [.iface 3 (.int .i64 4)] from rfl) (Reps.one (show Kd.M kAny _ _ _ (Any.b (!t321)) [.iface 4 (.bool (!t321))] from rfl) (Reps.one (show Kd.M kAny _ _ _ (Any.n 4) [.iface 3 (.int .i64 4)] from rfl) (Reps.none _ _)))))))); intro v323 w28 ho29 hb hg_ hnew_; clear hg_ hnew_; (first | rw [← Ny322.out] at ho29 | (simp only [Int.reduceToNat] at ho29; rw [← Ny322.out] at ho29)); have n0_ := zm (Kd.R_lower ho29 (below_size (zg_4 HB.out Zc.out Zd.out))); have n1_ := zm (blk_below (g := gb317) (o := .cells #[.slice A0_0 l0_0.length c0_0, .slice A0_1 l0_1.length c0_1] 32 (0, 0)) (zg_3 Za.out) hb); have n2_ := zm (blk_below (g := gb318) (o := .cells #[.slice none 0 0, .slice none 0 0] 32 (0, 0)) (zg_3 Zb.out) hb); have n3_ := zm (below_step (zg_4 HB.out Zc.out Zd.out) hb); have Ze := n0_; replace Za := n1_; replace Zb := n2_; replace HB := n3_; clear n0_ n1_ n2_ n3_; clear hb ho29; obtain ⟨Ao30, co30, eo30⟩ := Kd.R_slice Ze.out; subst eo30) | ((with_reducible refine gate_callee (f := 13) rfl ?_); refine goesL_ (some 25) rfl rfl Try.func13 (by kernel_rfl) rfl #[.slice Ao30 y322.length co30] rfl zq ?_; (with_reducible refine (impl_first.calls _ _ y322 t325 _ ?side1 ?side2 A7.out).mono ?_); (case side1 => exact zC ((Kd.R_reads' Ze.out).2.2)); (case side2 => exact (Kd.R_reads' Ze.out).2.1); rintro e w' ⟨rfl, ⟨nd, rfl⟩⟩; refine ⟨_, rfl, ?_⟩; (try (rw [drewN_self w28]; generalize hq_ : World.drewN w28 _ = w28; have n0_ : Aside0 (Kd.R kAny 20 w28 w.heap.size (fun _ => True) (.slice Ao30 y322.length co30) y322) := ⟨by rw [← hq_]; exact (zg_2 Ze.out)⟩; have n1_ : Aside0 (w28.heap[gb317]? = some (.cells #[.slice A0_0 l0_0.length c0_0, .slice A0_1 l0_1.length c0_1] 32 (0, 0))) := ⟨by rw [← hq_]; exact (zg_3 Za.out)⟩; have n2_ : Aside0 (w28.heap[gb318]? = some (.cells #[.slice none 0 0, .slice none 0 0] 32 (0, 0))) := ⟨by rw [← hq_]; exact (zg_3 Zb.out)⟩; have n3_ : Aside0 (Below w.heap.size w w28) := ⟨by rw [← hq_]; exact (zg_4 HB.out Zc.out Zd.out)⟩; clear Ze Za Zb HB hq_; have Ze := n0_; have Za := n1_; have Zb := n2_; have HB := n3_; clear n0_ n1_ n2_ n3_)); obtain ⟨hcz31_0, hcz31_1, hfz31_0, hfz31_1⟩ := zb2 Zb.out))
  refine bodyPost_ret (results_ct rfl _ _ gb318 32 #[.slice none 0 0, .slice none 0 0] (0, 0) _ rfl (by (with_reducible repeat (first | refine blk_drewN ?_ _ | refine blk_drew ?_ | refine blk_alloc ?_ _)); refine blk_put (cs := #[.slice none 0 0, .slice none 0 0]) ?_ 1 _ rfl; (with_reducible repeat (first | refine blk_drewN ?_ _ | refine blk_drew ?_ | refine blk_alloc ?_ _)); refine blk_put (cs := #[.slice none 0 0, .slice none 0 0]) ?_ 0 _ rfl; (with_reducible repeat (first | refine blk_drewN ?_ _ | refine blk_drew ?_ | refine blk_alloc ?_ _)); exact Zb.out) Try.underlying32 rfl (by kernel_rfl)) rfl ?_
  exact ⟨_, _, ze, by first | exact Kd.R_nil _ _ _ _ _ | exact Kd.N_nil _ _ _ _ _ | exact Kd.V_nil _ _ _ _ _ | exact Kd.Q_nil _ _ _ _ _ | exact Kd.S_nil _ _ _ _ _, by first | exact Kd.R_nil _ _ _ _ _ | exact Kd.N_nil _ _ _ _ _ | exact Kd.V_nil _ _ _ _ _ | exact Kd.Q_nil _ _ _ _ _ | exact Kd.S_nil _ _ _ _ _, zg_4 HB.out Zc.out Zd.out⟩
theorem clos22 {α : Type} {d : Kd α} {F : FuncId} {p : α → Option Bool} (hF : Asks1 F d (fun cs => .agg cs.toArray) p) (a : Addr) (x : α) (y0 y1 y2 : Value) (r : Bool) (w : World) (hK : d.K w x [y0, y1, y2]) (hc : w.cell? a = some (.func (.func F) #[] #[])) (h : p x = some r) :
    Calls Try.prog 39 #[.agg #[y0, y1, y2], .pointer (some a)] w fun e w' => e = .returned (.bool !r) ∧ Below w.heap.size w w' := by
  obtain ⟨⟨fn, h1, h2, h3⟩, hF⟩ := hF
  have hb1 : Below w.heap.size w (w.alloc (.cells #[y0, y1, y2] 52 (0, 0))) := (Below.refl _ _).alloc (Nat.le_refl _) _
  have H := zm (show Calls Try.prog F #[.agg #[y0, y1, y2]] (w.alloc (.cells #[y0, y1, y2] 52 (0, 0))) _ from hF x [y0, y1, y2] r _ (Kd.K_below _ hb1 hK) h); have HB0 := zm hb1
  have hc2 : (w.alloc (.cells #[y0, y1, y2] 52 (0, 0))).cell? a = some (.func (.func F) #[] #[]) := (hb1.cell (World.block_lt_of_cell? w _ hc)).trans hc
  have H1 := zm h1; have H2 := zm h2; have H3 := zm h3; have hu := Try.underlying52; clear hF h h1 h2 h3 hK hb1
  go_enter Try.func39, Try.ntmps39
  go_wp2_with (first | ((with_reducible refine gate_dst (N := 6) rfl ?_); refine Stop.out ?_))
  refine ⟨?_⟩
  refine goesV (some 6) rfl rfl H1.out H2.out H3.out #[.agg #[y0, y1, y2]] rfl (cap := #[]) ?hx ?hargs ?_
  case hx => rfl
  case hargs => simp [Act.eval]
  refine H.out.mono ?_
  rintro e w1 ⟨rfl, hb⟩
  refine ⟨_, rfl, ?_⟩
  have HB := zm (HB0.out.trans (hb.mono HB0.out.size)); clear hb
  go_wp2
  go_ret
  exact ⟨rfl, HB.out⟩
set_option maxHeartbeats 1000000 in
set_option maxRecDepth 100000 in
theorem idx22 {F : FuncId} {p : S52 → Option Bool} (hF : Asks1 F k52 (fun cs => .agg cs.toArray) p) (A0 : Option Addr) (c0 : Nat) (l0 : List S52) (a : Addr) (r : Bool) (w : World) (hr0 : Kd.C k52 w A0 l0.length l0) (hc0 : l0.length ≤ c0)
    (hcl : w.cell? a = some (.func (.func F) #[] #[])) (h : allO p l0 = some r) :
    Calls Try.prog 55 #[.slice A0 l0.length c0, .func (.func 39) #[] #[.pointer (some a)]] w (IdxPost r w) := by
 have hlen : l0.length ≤ 9223372036854775807 := hr0.2.1
 have HR0 := zm hr0; have HCL := zm hcl; have HF := zm hF
 have H' := zm h
 have HB := zm (Below.refl w.heap.size w); clear hr0 hcl hF h
 go_enter Try.func55, Try.ntmps55
 go_wp2
 go_loopg [8] (l0.length + 1) (fun kq v8 w' => ∃ k : Nat, v8 = .int .i64 (k : Int) ∧ Aside0 (kq + k = l0.length + 1 ∧ k ≤ l0.length) ∧ Aside0 (allO p (l0.drop k) = some r) ∧ Aside0 (Below w.heap.size w w'))
 case atStart => exact ⟨0, rfl, ⟨by omega, by omega⟩, H', HB⟩
 case round =>
  clear H' HB
  obtain ⟨k, rfl, HK, HA, HB⟩ := hrel
  cases gk with
  | zero =>
   have hk := HK.out
   omega
  | succ k1 =>
   by_cases hlt : k < l0.length
   ·have q1 : (k : Int) < (l0.length : Int) := by omega
    have p1 : 0 ≤ (k : Int) := by omega
    obtain ⟨ad, ea, hx0, hx1, hx2⟩ := at_T52 HR0.out (k : Int) p1 q1
    cases ea
    simp only [Int.toNat_natCast] at hx0 hx1 hx2
    replace hx0 := (HB.out.cell (World.block_lt_of_cell? w _ hx0)).trans hx0; replace hx1 := (HB.out.cell (World.block_lt_of_cell? w _ hx1)).trans hx1; replace hx2 := (HB.out.cell (World.block_lt_of_cell? w _ hx2)).trans hx2; have HKK := zm (show k52.K w (rd_T52 l0 k) [.int .i64 ((rd_T52 l0 k).f0), .int .i64 ((rd_T52 l0 k).f1), .string ((rd_T52 l0 k).f2)] from k52_mk w _)
    have HX := zm (show ∃ b, p (rd_T52 l0 k) = some b ∧ (if b = true then allO p (l0.drop (k+1)) else some false) = some r from by
     have := HA.out
     rw [List.drop_eq_getElem_cons hlt] at this
     simp only [allO] at this
     obtain ⟨b, hb, h2⟩ := Option.bind_eq_some_iff.1 this
     refine ⟨b, ?_, h2⟩
     rw [← hb]; congr 1; simp [rd_T52, hlt])
    obtain ⟨b, hb, h2⟩ := HX.out
    have HPB := zm hb; have H2 := zm h2; have HCL2 := zm ((HB.out.cell (World.block_lt_of_cell? w _ HCL.out)).trans HCL.out); clear HX hb h2 q1 p1 HA
    cases b with
    | true =>
     go_wp2_with (first | ((with_reducible refine gate_dst (N := 16) rfl ?_); refine goesV (some 16) rfl rfl Try.func39 (by kernel_rfl) rfl #[.agg #[.int .i64 ((rd_T52 l0 k).f0), .int .i64 ((rd_T52 l0 k).f1), .string ((rd_T52 l0 k).f2)], .pointer (some a)] rfl (cap := #[.pointer (some a)]) ?hx ?hargs ?_; (case hx => rfl); (case hargs => simp [Act.eval]); refine (clos22 HF.out a _ (.int .i64 ((rd_T52 l0 k).f0)) (.int .i64 ((rd_T52 l0 k).f1)) (.string ((rd_T52 l0 k).f2)) _ _ (Kd.K_below _ HB.out HKK.out) HCL2.out HPB.out).mono ?_; rintro e w2 ⟨rfl, hb⟩; refine ⟨_, rfl, ?_⟩; have HB2 := zm (HB.out.trans (hb.mono HB.out.size)); clear hb))
     go_roundg k1
     case measure => omega
     case rel => exact ⟨k + 1, by simp, ⟨by have := HK.out; omega, by have := HK.out; omega⟩, ⟨by simpa using H2.out⟩, HB2⟩
    | false =>
     go_wp2_with (first | ((with_reducible refine gate_dst (N := 16) rfl ?_); refine goesV (some 16) rfl rfl Try.func39 (by kernel_rfl) rfl #[.agg #[.int .i64 ((rd_T52 l0 k).f0), .int .i64 ((rd_T52 l0 k).f1), .string ((rd_T52 l0 k).f2)], .pointer (some a)] rfl (cap := #[.pointer (some a)]) ?hx ?hargs ?_; (case hx => rfl); (case hargs => simp [Act.eval]); refine (clos22 HF.out a _ (.int .i64 ((rd_T52 l0 k).f0)) (.int .i64 ((rd_T52 l0 k).f1)) (.string ((rd_T52 l0 k).f2)) _ _ (Kd.K_below _ HB.out HKK.out) HCL2.out HPB.out).mono ?_; rintro e w2 ⟨rfl, hb⟩; refine ⟨_, rfl, ?_⟩; have HB2 := zm (HB.out.trans (hb.mono HB.out.size)); clear hb))
     go_ret
     have hr : r = false := by have := H2.out; simpa using this.symm
     exact ⟨k, rfl, by rw [hr]; simp, HB2.out⟩
   ·have hge : l0.length ≤ k := by omega
    go_wp2
    go_ret
    have hr : r = true := by
     have := HA.out
     rw [List.drop_of_length_le hge] at this
     simpa [allO] using this.symm
    exact ⟨-1, rfl, by rw [hr]; decide, HB.out⟩
theorem cont22 {F : FuncId} {p : S52 → Option Bool} (hF : Asks1 F k52 (fun cs => .agg cs.toArray) p) (A0 : Option Addr) (c0 : Nat) (l0 : List S52) (a : Addr) (r : Bool) (w : World) (hr0 : Kd.C k52 w A0 l0.length l0) (hc0 : l0.length ≤ c0)
 (hcl : w.cell? a = some (.func (.func F) #[] #[])) (h : allO p l0 = some r) :
 Calls Try.prog 38 #[.slice A0 l0.length c0, .func (.func 39) #[] #[.pointer (some a)]] w fun e w' => e = .returned (.bool !r) ∧ Below w.heap.size w w' := by
 have H := zm (idx22 hF A0 c0 l0 a r w hr0 hc0 hcl h); clear hr0 hcl hF h
 go_enter Try.func38, Try.ntmps38
 go_wp2_with (go_at_call 55; (with_reducible refine H.out.mono ?_); rintro e w2 ⟨j, rfl, hj, hb⟩; have HJ := zm hj; have HB := zm hb; clear hj hb)
 go_ret
 exact ⟨by rw [← HJ.out]; rfl, HB.out⟩
theorem all22 {F : FuncId} {p : S52 → Option Bool} (hF : Asks1 F k52 (fun cs => .agg cs.toArray) p) (A0 : Option Addr) (c0 : Nat) (l0 : List S52) (r : Bool) (w : World) (hr0 : Kd.C k52 w A0 l0.length l0) (hc0 : l0.length ≤ c0)
 (h : allO p l0 = some r) :
 Calls Try.prog 22 #[.slice A0 l0.length c0, .func (.func F) #[] #[]] w fun e w' => e = .returned (.bool r) ∧ Below w.heap.size w w' := by
 have hb1 : ∀ o, Below w.heap.size w (w.alloc o) := fun o => (Below.refl _ _).alloc (Nat.le_refl _) o
 have H := zm (cont22 hF A0 c0 l0 ⟨w.heap.size, 0, none⟩ r (w.alloc (.cells #[.func (.func F) #[] #[]] 55 (0, 0))) (Kd.C_below hr0 (hb1 _)) hc0 (by go_simp) h); have HB0 := zm (hb1 (.cells #[.func (.func F) #[] #[]] 55 (0, 0))); clear hr0 hF h hb1
 go_enter Try.func22, Try.ntmps22
 go_wp2_with (go_at_call 38; (with_reducible refine H.out.mono ?_); rintro e w2 ⟨rfl, hb⟩; have HB := zm (HB0.out.trans (hb.mono HB0.out.size)); clear hb)
 go_ret
 exact ⟨by simp, HB.out⟩
section
attribute [local go_sem high] eqA52
def impl_moveOK.f (a0_0 : Int) (a0_1 : Int) (a0_2 : ByteArray) : Option (Bool) := if a0_0 = 2 then (some (a0_0 == 2 && (a0_1 == 0 && (a0_2.toList == ([] : List UInt8))))) else (if a0_0 = 1 then ((impl_isPlace.f a0_1).bind fun t265 => (if t265 = true then ((impl_isSector.f a0_2).bind fun t266 => (some t266)) else (some false))) else (some false))
set_option maxHeartbeats 8000000 in
set_option maxRecDepth 100000 in
theorem impl_moveOK.calls (a0_0 : Int) (a0_1 : Int) (a0_2 : ByteArray) (r : Bool) (w : World) (h : impl_moveOK.f a0_0 a0_1 a0_2 = some r) :
    Calls Try.prog 23 #[.agg #[.int .i64 a0_0, .int .i64 a0_1, .string a0_2]] w fun e w' => e = .returned (.bool r) ∧ Below w.heap.size w w' := by
 have hu52 := Try.underlying52; have HB := zm (Below.refl w.heap.size w); have H := h
 unfold impl_moveOK.f at H
 clear h
 by_cases c2 : a0_0 = 2
 ·rw [if_pos c2] at H
  have c2b0 : (a0_0 == 2) = true := beq_iff_eq.mpr c2
  have c2b1 : (a0_0 != 2) = false := bne_eq_false_iff_eq.mpr c2
  clear c2; obtain rfl := Option.some.inj H
  go_enter Try.func23, Try.ntmps23
  go_wp2_with (first | ((with_reducible refine gate_dst (N := 1) rfl ?_); refine box_event ?hg (N := 1) ?hd (cs := #[.int .i64 a0_0, .int .i64 a0_1, .string a0_2]) (t := 52) ?hr ?_; (case hd => rfl); (case hg => rfl); (case hr => first | (go_simp; done) | (go_simp; rfl)); intro gb264 hg w3 hbox hb; have n0_ := zm (below_step (zg_0 HB.out) hb); have n1_ := zm (hbox); have n2_ := zm ((by rw [hg]; exact (below_size (zg_0 HB.out)) : w.heap.size ≤ gb264)); have n3_ := zm ((by rw [hg]; exact (below_size (zg_0 HB.out)) : w.heap.size ≤ gb264)); replace HB := n0_; have Za := n1_; have Zc := n2_; have Zb := n3_; clear n0_ n1_ n2_ n3_; clear hb hbox hg; obtain ⟨hcz4_0, hcz4_1, hcz4_2, hfz4_0, hfz4_1, hfz4_2⟩ := zb3 Za.out))
  go_ret
  exact ⟨ze, zg_1 HB.out Zb.out⟩
 ·rw [if_neg c2] at H
  have c2b0 : (a0_0 == 2) = false := beq_eq_false_iff_ne.mpr c2
  have c2b1 : (a0_0 != 2) = true := bne_iff_ne.mpr c2
  by_cases c5 : a0_0 = 1
  ·rw [if_pos c5] at H
   have c5b0 : (a0_0 == 1) = true := beq_iff_eq.mpr c5
   have c5b1 : (a0_0 != 1) = false := bne_eq_false_iff_eq.mpr c5
   clear c5; replace H := Option.bind_eq_some_iff.mp H
   obtain ⟨t265, A60, H⟩ := H
   try dsimp only at H
   have A6 := zm A60; clear A60
   by_cases c7 : t265 = true
   ·subst c7
    replace H : ((impl_isSector.f a0_2).bind fun t266 => (some t266)) = some r := by rw [if_pos rfl] at H; exact H
    replace H := Option.bind_eq_some_iff.mp H
    obtain ⟨t266, A80, H⟩ := H
    replace H : (some t266) = some r := H
    have A8 := zm A80; clear A80; obtain rfl := Option.some.inj H
    go_enter Try.func23, Try.ntmps23
    go_wp2_with (first | ((with_reducible refine gate_dst (N := 1) rfl ?_); refine box_event ?hg (N := 1) ?hd (cs := #[.int .i64 a0_0, .int .i64 a0_1, .string a0_2]) (t := 52) ?hr ?_; (case hd => rfl); (case hg => rfl); (case hr => first | (go_simp; done) | (go_simp; rfl)); intro gb264 hg w9 hbox hb; have n0_ := zm (below_step (zg_0 HB.out) hb); have n1_ := zm (hbox); have n2_ := zm ((by rw [hg]; exact (below_size (zg_0 HB.out)) : w.heap.size ≤ gb264)); have n3_ := zm ((by rw [hg]; exact (below_size (zg_0 HB.out)) : w.heap.size ≤ gb264)); replace HB := n0_; have Za := n1_; have Zc := n2_; have Zb := n3_; clear n0_ n1_ n2_ n3_; clear hb hbox hg; obtain ⟨hcz10_0, hcz10_1, hcz10_2, hfz10_0, hfz10_1, hfz10_2⟩ := zb3 Za.out) | (go_at_call 40; (with_reducible refine (impl_isPlace.calls a0_1 true _ A6.out).mono ?_); rintro e w' ⟨rfl, ⟨nd, rfl⟩⟩) | (go_at_call 41; (with_reducible refine (impl_isSector.calls a0_2 t266 _ A8.out).mono ?_); rintro e w' ⟨rfl, ⟨nd, rfl⟩⟩))
    go_ret
    exact ⟨ze, zg_1 HB.out Zb.out⟩
   ·replace c7 := Bool.eq_false_iff.mpr c7
    subst c7
    replace H : (some false) = some r := by rw [if_neg (show ¬ (false = true) by decide)] at H; exact H
    obtain rfl := Option.some.inj H
    go_enter Try.func23, Try.ntmps23
    go_wp2_with (first | ((with_reducible refine gate_dst (N := 1) rfl ?_); refine box_event ?hg (N := 1) ?hd (cs := #[.int .i64 a0_0, .int .i64 a0_1, .string a0_2]) (t := 52) ?hr ?_; (case hd => rfl); (case hg => rfl); (case hr => first | (go_simp; done) | (go_simp; rfl)); intro gb264 hg w11 hbox hb; have n0_ := zm (below_step (zg_0 HB.out) hb); have n1_ := zm (hbox); have n2_ := zm ((by rw [hg]; exact (below_size (zg_0 HB.out)) : w.heap.size ≤ gb264)); have n3_ := zm ((by rw [hg]; exact (below_size (zg_0 HB.out)) : w.heap.size ≤ gb264)); replace HB := n0_; have Za := n1_; have Zc := n2_; have Zb := n3_; clear n0_ n1_ n2_ n3_; clear hb hbox hg; obtain ⟨hcz12_0, hcz12_1, hcz12_2, hfz12_0, hfz12_1, hfz12_2⟩ := zb3 Za.out) | (go_at_call 40; (with_reducible refine (impl_isPlace.calls a0_1 false _ A6.out).mono ?_); rintro e w' ⟨rfl, ⟨nd, rfl⟩⟩))
    go_ret
    exact ⟨ze, zg_1 HB.out Zb.out⟩
  ·rw [if_neg c5] at H
   have c5b0 : (a0_0 == 1) = false := beq_eq_false_iff_ne.mpr c5
   have c5b1 : (a0_0 != 1) = true := bne_iff_ne.mpr c5
   obtain rfl := Option.some.inj H
   go_enter Try.func23, Try.ntmps23
   go_wp2_with (first | ((with_reducible refine gate_dst (N := 1) rfl ?_); refine box_event ?hg (N := 1) ?hd (cs := #[.int .i64 a0_0, .int .i64 a0_1, .string a0_2]) (t := 52) ?hr ?_; (case hd => rfl); (case hg => rfl); (case hr => first | (go_simp; done) | (go_simp; rfl)); intro gb264 hg w13 hbox hb; have n0_ := zm (below_step (zg_0 HB.out) hb); have n1_ := zm (hbox); have n2_ := zm ((by rw [hg]; exact (below_size (zg_0 HB.out)) : w.heap.size ≤ gb264)); have n3_ := zm ((by rw [hg]; exact (below_size (zg_0 HB.out)) : w.heap.size ≤ gb264)); replace HB := n0_; have Za := n1_; have Zc := n2_; have Zb := n3_; clear n0_ n1_ n2_ n3_; clear hb hbox hg; obtain ⟨hcz14_0, hcz14_1, hcz14_2, hfz14_0, hfz14_1, hfz14_2⟩ := zb3 Za.out))
   go_ret
   exact ⟨ze, zg_1 HB.out Zb.out⟩
end
def all22_impl_moveOK.f (l0 : List S52) (_ : Unit) : Option Bool := allO (fun x => impl_moveOK.f x.f0 x.f1 x.f2) l0
theorem all22_impl_moveOK.asks : Asks1 23 k52 (fun cs => .agg cs.toArray) (fun x => impl_moveOK.f x.f0 x.f1 x.f2) := ⟨⟨_, Try.func23, by kernel_rfl, rfl⟩, fun x cs r w hK h => by
  obtain rfl := k52_open hK
  exact (impl_moveOK.calls x.f0 x.f1 x.f2 r w  h).mono fun e w' hh => ⟨hh.1, hh.2⟩⟩
theorem all22_impl_moveOK.calls (A0 : Option Addr) (c0 : Nat) (l0 : List S52) (_u : Unit) (r : Bool) (w : World) (hr0 : Kd.C k52 w A0 l0.length l0) (hc0 : l0.length ≤ c0) (h : all22_impl_moveOK.f l0 () = some r) :
    Calls Try.prog 22 #[.slice A0 l0.length c0, .func (.func 23) #[] #[]] w fun e w' => e = .returned (.bool r) ∧ Below w.heap.size w w' :=
  all22 (all22_impl_moveOK.asks) A0 c0 l0 r w hr0 hc0 h
section
attribute [local go_sem high] eqA52
def impl_Disk_codes.f (l0_0 : List ByteArray) (l0_1 : List (S75)) (a1 : Int) : Option (Int) := (impl_DiskOK.f l0_0 l0_1).bind fun t258 => ((impl_isHost.f a1).bind fun t259 => ((impl_first.f (([Any.b (!t258), Any.n 1, Any.b (!t259), Any.n 4] : List Any))).bind fun t263 => (some t263)))
set_option maxHeartbeats 8000000 in
set_option maxRecDepth 100000 in
theorem impl_Disk_codes.calls (A0_0 : Option Addr) (c0_0 : Nat) (l0_0 : List ByteArray) (A0_1 : Option Addr) (c0_1 : Nat) (l0_1 : List (S75)) (a1 : Int) (r : Int) (w : World) (hr0_0 : Kd.C Kd.string w A0_0 l0_0.length l0_0) (hc0_0 : l0_0.length ≤ c0_0) (hr0_1 : Kd.C k75 w A0_1 l0_1.length l0_1) (hc0_1 : l0_1.length ≤ c0_1) (h : impl_Disk_codes.f l0_0 l0_1 a1 = some r) :
    Calls Try.prog 21 #[.agg #[.slice A0_0 l0_0.length c0_0, .slice A0_1 l0_1.length c0_1], .int .i64 a1] w fun e w' => e = .returned (.int .i64 r) ∧ Below w.heap.size w w' := by
 have hu32 := Try.underlying32; have HR0_0 := zm hr0_0; have HC0_0 := zm hc0_0; clear hr0_0 hc0_0; have HR0_1 := zm hr0_1; have HC0_1 := zm hc0_1; clear hr0_1 hc0_1; have HB := zm (Below.refl w.heap.size w); have H := h
 unfold impl_Disk_codes.f at H
 clear h; replace H := Option.bind_eq_some_iff.mp H
 obtain ⟨t258, A30, H⟩ := H
 try dsimp only at H
 have A3 := zm A30; clear A30; replace H := Option.bind_eq_some_iff.mp H
 obtain ⟨t259, A40, H⟩ := H
 try dsimp only at H
 have A4 := zm A40; clear A40
 obtain ⟨y260, hy260⟩ : ∃ y_ : List Any, y_ = (([Any.b (!t258), Any.n 1, Any.b (!t259), Any.n 4] : List Any)) := ⟨_, rfl⟩
 replace H : ((impl_first.f y260).bind fun t263 => (some t263)) = some r := by first | (rw [hy260]; with_reducible exact H) | (have H2_ := (Option.bind_some _ _).symm.trans H; rw [hy260]; with_reducible exact H2_) | (have H2_ := (Option.bind_some _ _).symm.trans H; with_reducible exact H2_) | with_reducible exact H | (rw [hy260]; exact H) | exact H
 have Ny260 := zm hy260; clear hy260; replace H := Option.bind_eq_some_iff.mp H
 obtain ⟨t263, A50, H⟩ := H
 replace H : (some t263) = some r := H
 have A5 := zm A50; clear A50; obtain rfl := Option.some.inj H
 go_enter Try.func21, Try.ntmps21
 go_wp2_with (first | ((with_reducible refine gate_dst (N := 2) rfl ?_); refine box_event ?hg (N := 2) ?hd (cs := #[.slice A0_0 l0_0.length c0_0, .slice A0_1 l0_1.length c0_1]) (t := 32) ?hr ?_; (case hd => rfl); (case hg => rfl); (case hr => first | (go_simp; done) | (go_simp; rfl)); intro gb257 hg w6 hbox hb; have n0_ := zm (below_step (zg_0 HB.out) hb); have n1_ := zm (hbox); have n2_ := zm ((by rw [hg]; exact (below_size (zg_0 HB.out)) : w.heap.size ≤ gb257)); have n3_ := zm ((by rw [hg]; exact (below_size (zg_0 HB.out)) : w.heap.size ≤ gb257)); replace HB := n0_; have BK257 := n1_; have GW257 := n2_; have GE257 := n3_; clear n0_ n1_ n2_ n3_; clear hb hbox hg; obtain ⟨hcz7_0, hcz7_1, hfz7_0, hfz7_1⟩ := zb2 BK257.out) | ((with_reducible refine gate_callee (f := 26) rfl ?_); refine goesL_ (some 6) rfl rfl Try.func26 (by kernel_rfl) rfl #[.agg #[.slice A0_0 l0_0.length c0_0, .slice A0_1 l0_1.length c0_1]] rfl zq ?_; (with_reducible refine (impl_DiskOK.calls _ _ l0_0 _ _ l0_1 t258 _ ?side1 ?side2 ?side3 ?side4 A3.out).mono ?_); (case side1 => exact zC (Kd.C_below HR0_0.out HB.out)); (case side2 => exact HC0_0.out); (case side3 => exact zC (Kd.C_below HR0_1.out HB.out)); (case side4 => exact HC0_1.out); rintro e w8 ⟨rfl, hb⟩; refine ⟨_, rfl, ?_⟩; have n0_ := zm (blk_below (g := gb257) (o := .cells #[.slice A0_0 l0_0.length c0_0, .slice A0_1 l0_1.length c0_1] 32 (0, 0)) (zg_3 BK257.out) hb); have n1_ := zm (below_step (zg_1 HB.out GE257.out) hb); replace BK257 := n0_; replace HB := n1_; clear n0_ n1_; (try clear hb); (try clear hb2); (try clear hk); (try clear hi)) | ((with_reducible refine gate_callee (f := 15) rfl ?_); refine goesL_ (some 11) rfl rfl Try.func15 (by kernel_rfl) rfl #[.int .i64 a1] rfl zq ?_; (with_reducible refine (impl_isHost.calls a1 t259 _ A4.out).mono ?_); rintro e w' ⟨rfl, ⟨nd, rfl⟩⟩; refine ⟨_, rfl, ?_⟩) | ((with_reducible refine gate_dst (N := 15) rfl ?_); refine Kd.R_lit kAny _ 20 ?hg (N := 15) ?hd (xs := ([Any.b (!t258), Any.n 1, Any.b (!t259), Any.n 4] : List Any)) (inner := [.iface 4 (.bool (!t258)), .iface 3 (.int .i64 1), .iface 4 (.bool (!t259)), .iface 3 (.int .i64 4)]) (ok := fun _ => True) (okp := fun _ => True) ?hr ?hp (fun _ hk => hk) trivial (Below.refl _ _) (Nat.le_refl _) (by simp) ?_; (case hd => rfl); (case hg => rfl); (case hr => first | (go_simp; done) | (go_simp; rfl)); (case hp => exact (Reps.one (show Kd.M kAny _ _ _ (Any.b (!t258)) [.iface 4 (.bool (!t258))] from rfl) (Reps.one (show Kd.M kAny _ _ _ (Any.n 1) [.iface 3 (.int .i64 1)] from rfl) (Reps.one (show Kd.M kAny _ _ _ (Any.b (!t259)) [.iface 4 (.bool (!t259))] from rfl) (Reps.one (show Kd.M kAny _ _ _ (Any.n 4) [.iface 3 (.int .i64 4)] from rfl) (Reps.none _ _)))))); intro v261 w9 ho10 hb hg_ hnew_; clear hg_ hnew_; (first | rw [← Ny260.out] at ho10 | (simp only [Int.reduceToNat] at ho10; rw [← Ny260.out] at ho10)); have n0_ := zm (Kd.R_lower ho10 (below_size (zg_1 HB.out GE257.out))); have n1_ := zm (blk_below (g := gb257) (o := .cells #[.slice A0_0 l0_0.length c0_0, .slice A0_1 l0_1.length c0_1] 32 (0, 0)) (zg_3 BK257.out) hb); have n2_ := zm (below_step (zg_1 HB.out GE257.out) hb); have HO262 := n0_; replace BK257 := n1_; replace HB := n2_; clear n0_ n1_ n2_; clear hb ho10; obtain ⟨Ao11, co11, eo11⟩ := Kd.R_slice HO262.out; subst eo11) | ((with_reducible refine gate_callee (f := 13) rfl ?_); refine goesL_ (some 16) rfl rfl Try.func13 (by kernel_rfl) rfl #[.slice Ao11 y260.length co11] rfl zq ?_; (with_reducible refine (impl_first.calls _ _ y260 t263 _ ?side1 ?side2 A5.out).mono ?_); (case side1 => exact zC ((Kd.R_reads' HO262.out).2.2)); (case side2 => exact (Kd.R_reads' HO262.out).2.1); rintro e w' ⟨rfl, ⟨nd, rfl⟩⟩; refine ⟨_, rfl, ?_⟩))
 go_ret
 exact ⟨ze, zg_1 HB.out GE257.out⟩
end
def impl_Disk_moved.l0 : Nat → Int → List (S52) → Int → Int → List ByteArray → List (S75) → Option (List ByteArray × (List (S75)))
  | 0, _, _, _, _, _, _ => none
  | k + 1, x1, x12, x13, x14, x284000, x284001 => if x14 < x13 then (if 0 ≤ x14 then (if x14 < (x12.length : Int) then (if ((rd_T52 x12 x14).f0) = 2 then ((impl_Disk_settle.f x284000 x284001 x1 400 false).bind fun bt286 => (impl_Disk_moved.l0 k x1 x12 x13 (wrap64 (x14 + 1)) bt286.1 bt286.2)) else (if x284001.length < 4398046511104 then (impl_Disk_moved.l0 k x1 x12 x13 (wrap64 (x14 + 1)) x284000 (x284001 ++ [(⟨x1, (rd_T52 x12 x14).f1, (rd_T52 x12 x14).f2⟩ : S75)])) else (none))) else (none)) else (none)) else (some (x284000, x284001))
def impl_Disk_moved.f (k : Nat) (l0_0 : List ByteArray) (l0_1 : List (S75)) (a1 : Int) (l2 : List (S52)) : Option (List ByteArray × (List (S75))) := (impl_Disk_copied.f l0_0 l0_1).bind fun bt277 => (impl_Disk_moved.l0 k a1 l2 (l2.length : Int) 0 bt277.1 bt277.2)
theorem impl_Disk_moved.mono_l : ∀ k, (∀ y0 y1 y2 y3 y4 y5, LeO (impl_Disk_moved.l0 k y0 y1 y2 y3 y4 y5) (impl_Disk_moved.l0 (k + 1) y0 y1 y2 y3 y4 y5))
  | 0 => fun _ _ _ _ _ _ r h => by simp [impl_Disk_moved.l0] at h
  | k + 1 => by
    have ih0 := impl_Disk_moved.mono_l k
    · intro y0 y1 y2 y3 y4 y5
      unfold impl_Disk_moved.l0
      repeat' first| (with_reducible first | exact ih0 _ _ _ _ _ _ | exact LeO.refl _ | exact LeO.none _ | refine LeO.ite ?_ ?_ | refine LeO.bind ?_ (fun _ => ?_)) | exact ih0 _ _ _ _ _ _ | exact LeO.none _ | refine LeO.ite ?_ ?_ | refine LeO.bind ?_ (fun _ => ?_)
theorem impl_Disk_moved.mono : ∀ a0 a1 a2 a3 k, LeO (impl_Disk_moved.f k a0 a1 a2 a3) (impl_Disk_moved.f (k + 1) a0 a1 a2 a3) := by
  intro a0 a1 a2 a3 k
  have ih0 := impl_Disk_moved.mono_l k
  unfold impl_Disk_moved.f
  repeat' first| (with_reducible first | exact ih0 _ _ _ _ _ _ | exact LeO.refl _ | exact LeO.none _ | refine LeO.ite ?_ ?_ | refine LeO.bind ?_ (fun _ => ?_)) | exact ih0 _ _ _ _ _ _ | exact LeO.none _ | refine LeO.ite ?_ ?_ | refine LeO.bind ?_ (fun _ => ?_)
set_option maxHeartbeats 8000000 in
set_option maxRecDepth 100000 in
theorem impl_Disk_moved.calls (k : Nat) (A0_0 : Option Addr) (c0_0 : Nat) (l0_0 : List ByteArray) (A0_1 : Option Addr) (c0_1 : Nat) (l0_1 : List (S75)) (a1 : Int) (A2 : Option Addr) (c2 : Nat) (l2 : List (S52)) (r1 : List ByteArray) (r2 : List (S75)) (w : World) (hr0_0 : Kd.C Kd.string w A0_0 l0_0.length l0_0) (hc0_0 : l0_0.length ≤ c0_0) (hr0_1 : Kd.C k75 w A0_1 l0_1.length l0_1) (hc0_1 : l0_1.length ≤ c0_1) (hr2 : Kd.C k52 w A2 l2.length l2) (hc2 : l2.length ≤ c2) (h : impl_Disk_moved.f k l0_0 l0_1 a1 l2 = some (r1, r2)) :
    Calls Try.prog 25 #[.agg #[.slice A0_0 l0_0.length c0_0, .slice A0_1 l0_1.length c0_1], .int .i64 a1, .slice A2 l2.length c2] w fun e w' => ∃ v0_ v1_ : Value, e = .returned (.agg #[v0_, v1_]) ∧ Kd.R Kd.string 9 w' w.heap.size (fun _ => True) v0_ r1 ∧ Kd.R k75 75 w' w.heap.size (fun _ => True) v1_ r2 ∧ Below w.heap.size w w' := by
 have hu32 := Try.underlying32; have hu52 := Try.underlying52; have hu75 := Try.underlying75; have ZB := zm hr0_0; have ZC := zm hc0_0; clear hr0_0 hc0_0; have ZD := zm hr0_1; have ZE := zm hc0_1; clear hr0_1 hc0_1; have HR2 := zm hr2; have HC2 := zm hc2; clear hr2 hc2; have HB := zm (Below.refl w.heap.size w); have H := h
 unfold impl_Disk_moved.f at H
 clear h; replace H := Option.bind_eq_some_iff.mp H
 obtain ⟨⟨t277, t280⟩, A40, H⟩ := H
 try dsimp only at H
 have A4 := zm A40; clear A40
 have H' := zm H
 clear H
 go_enter Try.func25, Try.ntmps25
 go_wp2_with (first | ((with_reducible refine gate_dst (N := 3) rfl ?_); refine box_event ?hg (N := 3) ?hd (cs := #[.slice A0_0 l0_0.length c0_0, .slice A0_1 l0_1.length c0_1]) (t := 32) ?hr ?_; (case hd => rfl); (case hg => rfl); (case hr => first | (go_simp; done) | (go_simp; rfl)); intro gb275 hg w5 hbox hb; have n0_ := zm (below_step (zg_0 HB.out) hb); have n1_ := zm (hbox); have n2_ := zm ((by rw [hg]; exact (below_size (zg_0 HB.out)) : w.heap.size ≤ gb275)); have n3_ := zm ((by rw [hg]; exact (below_size (zg_0 HB.out)) : w.heap.size ≤ gb275)); replace HB := n0_; have Zd := n1_; have ZG := n2_; have Zg := n3_; clear n0_ n1_ n2_ n3_; clear hb hbox hg) | ((with_reducible refine gate_dst (N := 6) rfl ?_); refine box_event ?hg (N := 6) ?hd (cs := #[.slice none 0 0, .slice none 0 0]) (t := 32) ?hr ?_; (case hd => rfl); (case hg => rfl); (case hr => first | (go_simp; done) | (go_simp; rfl)); intro gb276 hg w6 hbox hb; have n0_ := zm (blk_below (g := gb275) (o := .cells #[.slice A0_0 l0_0.length c0_0, .slice A0_1 l0_1.length c0_1] 32 (0, 0)) (zg_3 Zd.out) hb); have n1_ := zm (below_step (zg_1 HB.out Zg.out) hb); have n2_ := zm (hbox); have n3_ := zm ((by rw [hg]; exact (below_size (zg_1 HB.out Zg.out)) : w.heap.size ≤ gb276)); have n4_ := zm ((by rw [hg]; exact (below_size (zg_1 HB.out Zg.out)) : w.heap.size ≤ gb276)); have n5_ := zm ((by rw [hg]; exact Nat.ne_of_lt (blk_lt (g := gb275) (o := .cells #[.slice A0_0 l0_0.length c0_0, .slice A0_1 l0_1.length c0_1] 32 (0, 0)) (zg_3 Zd.out)) : gb275 ≠ gb276)); have n6_ := zm ((by rw [hg]; exact Nat.ne_of_gt (blk_lt (g := gb275) (o := .cells #[.slice A0_0 l0_0.length c0_0, .slice A0_1 l0_1.length c0_1] 32 (0, 0)) (zg_3 Zd.out)) : gb276 ≠ gb275)); replace Zd := n0_; replace HB := n1_; have Ze := n2_; have ZH := n3_; have Zm := n4_; have Zu := n5_; have Zv := n6_; clear n0_ n1_ n2_ n3_ n4_ n5_ n6_; clear hb hbox hg; have hnb7 := Zu.out; have hnc7 := Zv.out; obtain ⟨hcz8_0, hcz8_1, hfz8_0, hfz8_1⟩ := zb2 Zd.out) | ((with_reducible refine gate_callee (f := 24) rfl ?_); refine goesL_ (some 11) rfl rfl Try.func24 (by kernel_rfl) rfl #[.agg #[.slice A0_0 l0_0.length c0_0, .slice A0_1 l0_1.length c0_1]] rfl zq ?_; (with_reducible refine (impl_Disk_copied.calls _ _ l0_0 _ _ l0_1 t277 t280 _ ?side1 ?side2 ?side3 ?side4 A4.out).mono ?_); (case side1 => exact zC (Kd.C_below ZB.out HB.out)); (case side2 => exact ZC.out); (case side3 => exact zC (Kd.C_below ZD.out HB.out)); (case side4 => exact ZE.out); rintro e w9 ⟨v278, v281, rfl, ho0, ho1, hb⟩; refine ⟨_, rfl, ?_⟩; have n0_ := zm (Kd.R_lower ho0 (below_size (zg_4 HB.out Zg.out Zm.out))); have n1_ := zm (Kd.R_lower ho1 (below_size (zg_4 HB.out Zg.out Zm.out))); have n2_ := zm (blk_below (g := gb275) (o := .cells #[.slice A0_0 l0_0.length c0_0, .slice A0_1 l0_1.length c0_1] 32 (0, 0)) (zg_3 Zd.out) hb); have n3_ := zm (blk_below (g := gb276) (o := .cells #[.slice none 0 0, .slice none 0 0] 32 (0, 0)) (zg_3 Ze.out) hb); have n4_ := zm (below_step (zg_4 HB.out Zg.out Zm.out) hb); have Zw := n0_; have Zx := n1_; replace Zd := n2_; replace Ze := n3_; replace HB := n4_; clear n0_ n1_ n2_ n3_ n4_; (try clear hb); (try clear hb2); (try clear hk); (try clear hi); (try clear ho0); (try clear ho1)) | ((with_reducible refine gate_dst (N := 7) rfl ?_); refine box_event ?hg (N := 7) ?hd (cs := #[.slice none 0 0, .slice none 0 0]) (t := 32) ?hr ?_; (case hd => rfl); (case hg => rfl); (case hr => first | (go_simp; done) | (go_simp; rfl)); intro gb283 hg w10 hbox hb; have n0_ := zm (Kd.R_below (zg_2 Zw.out) hb); have n1_ := zm (Kd.R_below (zg_2 Zx.out) hb); have n2_ := zm (blk_below (g := gb275) (o := .cells #[.slice A0_0 l0_0.length c0_0, .slice A0_1 l0_1.length c0_1] 32 (0, 0)) (zg_3 Zd.out) hb); have n3_ := zm (blk_below (g := gb276) (o := .cells #[.slice none 0 0, .slice none 0 0] 32 (0, 0)) (zg_3 Ze.out) hb); have n4_ := zm (below_step (zg_4 HB.out Zg.out Zm.out) hb); have n5_ := zm (hbox); have n6_ := zm ((by rw [hg]; exact (below_size (zg_4 HB.out Zg.out Zm.out)) : w.heap.size ≤ gb283)); have n7_ := zm ((by rw [hg]; exact (below_size (zg_4 HB.out Zg.out Zm.out)) : w.heap.size ≤ gb283)); have n8_ := zm ((by rw [hg]; exact Nat.ne_of_lt (blk_lt (g := gb275) (o := .cells #[.slice A0_0 l0_0.length c0_0, .slice A0_1 l0_1.length c0_1] 32 (0, 0)) (zg_3 Zd.out)) : gb275 ≠ gb283)); have n9_ := zm ((by rw [hg]; exact Nat.ne_of_gt (blk_lt (g := gb275) (o := .cells #[.slice A0_0 l0_0.length c0_0, .slice A0_1 l0_1.length c0_1] 32 (0, 0)) (zg_3 Zd.out)) : gb283 ≠ gb275)); have n10_ := zm ((by rw [hg]; exact Nat.ne_of_lt (blk_lt (g := gb276) (o := .cells #[.slice none 0 0, .slice none 0 0] 32 (0, 0)) (zg_3 Ze.out)) : gb276 ≠ gb283)); have n11_ := zm ((by rw [hg]; exact Nat.ne_of_gt (blk_lt (g := gb276) (o := .cells #[.slice none 0 0, .slice none 0 0] 32 (0, 0)) (zg_3 Ze.out)) : gb283 ≠ gb276)); replace Zw := n0_; replace Zx := n1_; replace Zd := n2_; replace Ze := n3_; replace HB := n4_; have Zb := n5_; have ZI := n6_; have Zn := n7_; have Zh := n8_; have Zo := n9_; have Zi := n10_; have Zp := n11_; clear n0_ n1_ n2_ n3_ n4_ n5_ n6_ n7_ n8_ n9_ n10_ n11_; clear hb hbox hg; obtain ⟨Ao11, co11, eo11⟩ := Kd.R_slice Zw.out; subst eo11; have hnb12 := Zo.out; have hnc12 := Zh.out; have hnb13 := Zp.out; have hnc13 := Zi.out; obtain ⟨hcz14_0, hcz14_1, hfz14_0, hfz14_1⟩ := zb2 Zb.out; obtain ⟨Ao15, co15, eo15⟩ := Kd.R_slice Zx.out; subst eo15))
 go_loopg [14] k (fun kq v14 w' => ∃ (x14_1 : Int) (x284000_1 : List ByteArray) (x284001_1 : List (S75)) (u284000 : Value) (u284001 : Value), v14 = .int .i64 x14_1 ∧ Aside0 (impl_Disk_moved.l0 kq a1 l2 (l2.length : Int) x14_1 x284000_1 x284001_1 = some (r1, r2)) ∧ Aside0 (kq ≤ k) ∧ Aside0 (Kd.R Kd.string 9 w' w.heap.size (fun _ => True) u284000 x284000_1) ∧ Aside0 (Kd.R k75 75 w' w.heap.size (fun _ => True) u284001 x284001_1) ∧ Aside0 (w'.heap[gb275]? = some (.cells #[(.slice A0_0 l0_0.length c0_0), (.slice A0_1 l0_1.length c0_1)] 32 (0, 0))) ∧ Aside0 (w'.heap[gb276]? = some (.cells #[(.slice none 0 0), (.slice none 0 0)] 32 (0, 0))) ∧ Aside0 (w'.heap[gb283]? = some (.cells #[u284000, u284001] 32 (0, 0))) ∧ Aside0 (Below w.heap.size w w'))
 case atStart => exact ⟨(0), (t277), (t280), (.slice Ao11 t277.length co11), (.slice Ao15 t280.length co15), zr, H', ⟨Nat.le_refl _⟩, ⟨by (with_reducible repeat (first | apply Kd.R_alloc | apply Kd.R_drewN | apply Kd.R_drew)); exact Kd.R_mono (Kd.R_far (Kd.R_far (Kd.R_types Zw.out Zb.out (by decide)) (fun _ hk => hk.2) _) (fun _ hk => hk.2) _) (fun _ hk => trivial)⟩, ⟨by (with_reducible repeat (first | apply Kd.R_alloc | apply Kd.R_drewN | apply Kd.R_drew)); exact Kd.R_mono (Kd.R_far (Kd.R_far (Kd.R_types Zx.out Zb.out (by decide)) (fun _ hk => hk.2) _) (fun _ hk => hk.2) _) (fun _ hk => trivial)⟩, ⟨by (with_reducible repeat (first | refine blk_drewN ?_ _ | refine blk_drew ?_ | refine blk_alloc ?_ _)); refine blk_far ?_ Zh.out _; (with_reducible repeat (first | refine blk_drewN ?_ _ | refine blk_drew ?_ | refine blk_alloc ?_ _)); refine blk_far ?_ Zh.out _; (with_reducible repeat (first | refine blk_drewN ?_ _ | refine blk_drew ?_ | refine blk_alloc ?_ _)); exact Zd.out⟩, ⟨by (with_reducible repeat (first | refine blk_drewN ?_ _ | refine blk_drew ?_ | refine blk_alloc ?_ _)); refine blk_far ?_ Zi.out _; (with_reducible repeat (first | refine blk_drewN ?_ _ | refine blk_drew ?_ | refine blk_alloc ?_ _)); refine blk_far ?_ Zi.out _; (with_reducible repeat (first | refine blk_drewN ?_ _ | refine blk_drew ?_ | refine blk_alloc ?_ _)); exact Ze.out⟩, ⟨by (with_reducible repeat (first | refine blk_drewN ?_ _ | refine blk_drew ?_ | refine blk_alloc ?_ _)); refine blk_put (cs := #[.slice Ao11 t277.length co11, .slice none 0 0]) ?_ 1 _ rfl; (with_reducible repeat (first | refine blk_drewN ?_ _ | refine blk_drew ?_ | refine blk_alloc ?_ _)); refine blk_put (cs := #[.slice none 0 0, .slice none 0 0]) ?_ 0 _ rfl; (with_reducible repeat (first | refine blk_drewN ?_ _ | refine blk_drew ?_ | refine blk_alloc ?_ _)); exact Zb.out⟩, ⟨zg_5 HB.out Zg.out Zm.out Zn.out⟩⟩
 case round =>
  clear H'
  try clear c1
  try clear c2
  try clear p2
  try clear c7
  try clear c12
  try clear c13
  obtain ⟨x14_1, x284000_1, x284001_1, u284000, u284001, rfl, HA, HK1, Zc, Za, Zd, Ze, Zb, HB⟩ := hrel
  cases gk with
  | zero => exact absurd HA.out (by simp [impl_Disk_moved.l0])
  | succ k1 =>
   have H := HA.out; clear HA
   simp only [impl_Disk_moved.l0] at H
   by_cases c16 : x14_1 < (l2.length : Int)
   ·rw [if_pos c16] at H
    have c16b0 := decide_eq_true c16; clear c16
    by_cases c17 : 0 ≤ x14_1
    ·rw [if_pos c17] at H
     have c17b0 := decide_eq_true c17; clear c17
     by_cases c18 : x14_1 < (l2.length : Int)
     ·rw [if_pos c18] at H
      have c18b0 := decide_eq_true c18; clear c18
      by_cases c19 : ((rd_T52 l2 x14_1).f0) = 2
      ·rw [if_pos c19] at H
       have c19b0 : (((rd_T52 l2 x14_1).f0) == 2) = true := beq_iff_eq.mpr c19
       have c19b1 : (((rd_T52 l2 x14_1).f0) != 2) = false := bne_eq_false_iff_eq.mpr c19
       clear c19; replace H := Option.bind_eq_some_iff.mp H
       obtain ⟨⟨t286, t289⟩, A200, H⟩ := H
       try dsimp only at H
       have A20 := zm A200; clear A200
       have H' := zm H
       clear H
       have p284 : 0 ≤ (x14_1 : Int) := zd
       have q284 : x14_1 < (l2.length : Int) := zd
       obtain ⟨ad284, e284, hx284_0, hx284_1, hx284_2⟩ := at_T52 HR2.out x14_1 p284 q284
       cases e284; replace hx284_0 := (HB.out.cell (World.block_lt_of_cell? w _ hx284_0)).trans hx284_0; replace hx284_1 := (HB.out.cell (World.block_lt_of_cell? w _ hx284_1)).trans hx284_1; replace hx284_2 := (HB.out.cell (World.block_lt_of_cell? w _ hx284_2)).trans hx284_2; replace p284 := eq_true p284; replace q284 := eq_true q284
       go_wp2_with (first | ((with_reducible refine gate_dst (N := 9) rfl ?_); refine box_event ?hg (N := 9) ?hd (cs := #[.int .i64 0, .int .i64 0, .string (⟨#[]⟩ : ByteArray)]) (t := 52) ?hr ?_; (case hd => rfl); (case hg => rfl); (case hr => first | (go_simp; done) | (go_simp; rfl)); intro gb285 hg w21 hbox hb; have n0_ := zm (Kd.R_below (zg_2 Zc.out) hb); have n1_ := zm (Kd.R_below (zg_2 Za.out) hb); have n2_ := zm (blk_below (g := gb275) (o := .cells #[.slice A0_0 l0_0.length c0_0, .slice A0_1 l0_1.length c0_1] 32 (0, 0)) (zg_3 Zd.out) hb); have n3_ := zm (blk_below (g := gb276) (o := .cells #[.slice none 0 0, .slice none 0 0] 32 (0, 0)) (zg_3 Ze.out) hb); have n4_ := zm (blk_below (g := gb283) (o := .cells #[u284000, u284001] 32 (0, 0)) (zg_3 Zb.out) hb); have n5_ := zm (below_step (zg_5 HB.out Zg.out Zm.out Zn.out) hb); have n6_ := zm (hbox); have n7_ := zm ((by rw [hg]; exact (below_size (zg_5 HB.out Zg.out Zm.out Zn.out)) : w.heap.size ≤ gb285)); have n8_ := zm ((by rw [hg]; exact (below_size (zg_5 HB.out Zg.out Zm.out Zn.out)) : w.heap.size ≤ gb285)); have n9_ := zm ((by rw [hg]; exact Nat.ne_of_lt (blk_lt (g := gb275) (o := .cells #[.slice A0_0 l0_0.length c0_0, .slice A0_1 l0_1.length c0_1] 32 (0, 0)) (zg_3 Zd.out)) : gb275 ≠ gb285)); have n10_ := zm ((by rw [hg]; exact Nat.ne_of_gt (blk_lt (g := gb275) (o := .cells #[.slice A0_0 l0_0.length c0_0, .slice A0_1 l0_1.length c0_1] 32 (0, 0)) (zg_3 Zd.out)) : gb285 ≠ gb275)); have n11_ := zm ((by rw [hg]; exact Nat.ne_of_lt (blk_lt (g := gb276) (o := .cells #[.slice none 0 0, .slice none 0 0] 32 (0, 0)) (zg_3 Ze.out)) : gb276 ≠ gb285)); have n12_ := zm ((by rw [hg]; exact Nat.ne_of_gt (blk_lt (g := gb276) (o := .cells #[.slice none 0 0, .slice none 0 0] 32 (0, 0)) (zg_3 Ze.out)) : gb285 ≠ gb276)); have n13_ := zm ((by rw [hg]; exact Nat.ne_of_lt (blk_lt (g := gb283) (o := .cells #[u284000, u284001] 32 (0, 0)) (zg_3 Zb.out)) : gb283 ≠ gb285)); have n14_ := zm ((by rw [hg]; exact Nat.ne_of_gt (blk_lt (g := gb283) (o := .cells #[u284000, u284001] 32 (0, 0)) (zg_3 Zb.out)) : gb285 ≠ gb283)); replace Zc := n0_; replace Za := n1_; replace Zd := n2_; replace Ze := n3_; replace Zb := n4_; replace HB := n5_; have Zf := n6_; have ZF := n7_; have Zt := n8_; have Zj := n9_; have Zq := n10_; have Zk := n11_; have Zr := n12_; have Zl := n13_; have Zs := n14_; clear n0_ n1_ n2_ n3_ n4_ n5_ n6_ n7_ n8_ n9_ n10_ n11_ n12_ n13_ n14_; clear hb hbox hg; have hnb22 := Zq.out; have hnc22 := Zj.out; have hnb23 := Zr.out; have hnc23 := Zk.out; have hnb24 := Zs.out; have hnc24 := Zl.out; obtain ⟨hcz25_0, hcz25_1, hcz25_2, hfz25_0, hfz25_1, hfz25_2⟩ := zb3 Zf.out; have hnb26 := Zo.out; have hnc26 := Zh.out; have hnb27 := Zp.out; have hnc27 := Zi.out; obtain ⟨hcz28_0, hcz28_1, hfz28_0, hfz28_1⟩ := zb2 Zb.out; obtain ⟨Ao29, co29, eo29⟩ := Kd.R_slice Zc.out; subst eo29; obtain ⟨Ao30, co30, eo30⟩ := Kd.R_slice Za.out; subst eo30) | ((with_reducible refine gate_callee (f := 28) rfl ?_); refine goesL_ (some 23) rfl rfl Try.func28 (by kernel_rfl) rfl #[.agg #[.slice Ao29 x284000_1.length co29, .slice Ao30 x284001_1.length co30], .int .i64 a1, .int .i64 400, .bool false] rfl zq ?_; (with_reducible refine (impl_Disk_settle.calls _ _ x284000_1 _ _ x284001_1 a1 400 false t286 t289 _ ?side1 ?side2 ?side3 ?side4 A20.out).mono ?_); (case side1 => refine (Kd.R_reads' (e := 9) (base := w.heap.size) (ok := fun k_ => True) (n := x284000_1.length) (c := co29) ?_).2.2; exact (by (with_reducible repeat (first | apply Kd.R_alloc | apply Kd.R_drewN | apply Kd.R_drew)); exact (Kd.R_mono (Kd.R_far (Kd.R_far (Kd.R_far (Kd.R_types Zc.out Zf.out (by decide)) (fun _ hk => hk.2) (.int .i64 ((rd_T52 l2 x14_1).f0))) (fun _ hk => hk.2) (.int .i64 ((rd_T52 l2 x14_1).f1))) (fun _ hk => hk.2) (.string ((rd_T52 l2 x14_1).f2))) (fun _ h_ => h_.1)))); (case side2 => exact (Kd.R_reads' Zc.out).2.1); (case side3 => refine (Kd.R_reads' (e := 75) (base := w.heap.size) (ok := fun k_ => True) (n := x284001_1.length) (c := co30) ?_).2.2; exact (by (with_reducible repeat (first | apply Kd.R_alloc | apply Kd.R_drewN | apply Kd.R_drew)); exact (Kd.R_mono (Kd.R_far (Kd.R_far (Kd.R_far (Kd.R_types Za.out Zf.out (by decide)) (fun _ hk => hk.2) (.int .i64 ((rd_T52 l2 x14_1).f0))) (fun _ hk => hk.2) (.int .i64 ((rd_T52 l2 x14_1).f1))) (fun _ hk => hk.2) (.string ((rd_T52 l2 x14_1).f2))) (fun _ h_ => h_.1)))); (case side4 => exact (Kd.R_reads' Za.out).2.1); rintro e w31 ⟨v287, v290, rfl, ho0, ho1, hb⟩; refine ⟨_, rfl, ?_⟩; have n0_ := zm (Kd.R_elder' (by (with_reducible repeat (first | apply Kd.R_alloc | apply Kd.R_drewN | apply Kd.R_drew)); exact (Kd.R_mono (Kd.R_far (Kd.R_far (Kd.R_far (Kd.R_types Zc.out Zf.out (by decide)) (fun _ hk => hk.2) (.int .i64 ((rd_T52 l2 x14_1).f0))) (fun _ hk => hk.2) (.int .i64 ((rd_T52 l2 x14_1).f1))) (fun _ hk => hk.2) (.string ((rd_T52 l2 x14_1).f2))) (fun _ h_ => h_.1))) (Kd.R_base ho0) hb); have n1_ := zm (Kd.R_elder' (by (with_reducible repeat (first | apply Kd.R_alloc | apply Kd.R_drewN | apply Kd.R_drew)); exact (Kd.R_mono (Kd.R_far (Kd.R_far (Kd.R_far (Kd.R_types Za.out Zf.out (by decide)) (fun _ hk => hk.2) (.int .i64 ((rd_T52 l2 x14_1).f0))) (fun _ hk => hk.2) (.int .i64 ((rd_T52 l2 x14_1).f1))) (fun _ hk => hk.2) (.string ((rd_T52 l2 x14_1).f2))) (fun _ h_ => h_.1))) (Kd.R_base ho1) hb); have n2_ := zm (Kd.R_lower (Kd.R_new' ho0 (Kd.R_lt (by (with_reducible repeat (first | apply Kd.R_alloc | apply Kd.R_drewN | apply Kd.R_drew)); exact (Kd.R_mono (Kd.R_far (Kd.R_far (Kd.R_far (Kd.R_types Zc.out Zf.out (by decide)) (fun _ hk => hk.2) (.int .i64 ((rd_T52 l2 x14_1).f0))) (fun _ hk => hk.2) (.int .i64 ((rd_T52 l2 x14_1).f1))) (fun _ hk => hk.2) (.string ((rd_T52 l2 x14_1).f2))) (fun _ h_ => h_.1))))) (below_size (zg_6 HB.out Zg.out Zm.out Zn.out Zt.out))); have n3_ := zm (Kd.R_lower (Kd.R_new' ho1 (Kd.R_lt (by (with_reducible repeat (first | apply Kd.R_alloc | apply Kd.R_drewN | apply Kd.R_drew)); exact (Kd.R_mono (Kd.R_far (Kd.R_far (Kd.R_far (Kd.R_types Za.out Zf.out (by decide)) (fun _ hk => hk.2) (.int .i64 ((rd_T52 l2 x14_1).f0))) (fun _ hk => hk.2) (.int .i64 ((rd_T52 l2 x14_1).f1))) (fun _ hk => hk.2) (.string ((rd_T52 l2 x14_1).f2))) (fun _ h_ => h_.1))))) (below_size (zg_6 HB.out Zg.out Zm.out Zn.out Zt.out))); have n4_ := zm (blk_below (g := gb275) (o := .cells #[.slice A0_0 l0_0.length c0_0, .slice A0_1 l0_1.length c0_1] 32 (0, 0)) (by (with_reducible repeat (first | refine blk_drewN ?_ _ | refine blk_drew ?_ | refine blk_alloc ?_ _)); refine blk_far ?_ Zj.out _; (with_reducible repeat (first | refine blk_drewN ?_ _ | refine blk_drew ?_ | refine blk_alloc ?_ _)); refine blk_far ?_ Zj.out _; (with_reducible repeat (first | refine blk_drewN ?_ _ | refine blk_drew ?_ | refine blk_alloc ?_ _)); refine blk_far ?_ Zj.out _; (with_reducible repeat (first | refine blk_drewN ?_ _ | refine blk_drew ?_ | refine blk_alloc ?_ _)); exact Zd.out) hb); have n5_ := zm (blk_below (g := gb276) (o := .cells #[.slice none 0 0, .slice none 0 0] 32 (0, 0)) (by (with_reducible repeat (first | refine blk_drewN ?_ _ | refine blk_drew ?_ | refine blk_alloc ?_ _)); refine blk_far ?_ Zk.out _; (with_reducible repeat (first | refine blk_drewN ?_ _ | refine blk_drew ?_ | refine blk_alloc ?_ _)); refine blk_far ?_ Zk.out _; (with_reducible repeat (first | refine blk_drewN ?_ _ | refine blk_drew ?_ | refine blk_alloc ?_ _)); refine blk_far ?_ Zk.out _; (with_reducible repeat (first | refine blk_drewN ?_ _ | refine blk_drew ?_ | refine blk_alloc ?_ _)); exact Ze.out) hb); have n6_ := zm (blk_below (g := gb283) (o := .cells #[.slice Ao29 x284000_1.length co29, .slice Ao30 x284001_1.length co30] 32 (0, 0)) (by (with_reducible repeat (first | refine blk_drewN ?_ _ | refine blk_drew ?_ | refine blk_alloc ?_ _)); refine blk_far ?_ Zl.out _; (with_reducible repeat (first | refine blk_drewN ?_ _ | refine blk_drew ?_ | refine blk_alloc ?_ _)); refine blk_far ?_ Zl.out _; (with_reducible repeat (first | refine blk_drewN ?_ _ | refine blk_drew ?_ | refine blk_alloc ?_ _)); refine blk_far ?_ Zl.out _; (with_reducible repeat (first | refine blk_drewN ?_ _ | refine blk_drew ?_ | refine blk_alloc ?_ _)); exact Zb.out) hb); have n7_ := zm (blk_below (g := gb285) (o := .cells #[.int .i64 ((rd_T52 l2 x14_1).f0), .int .i64 ((rd_T52 l2 x14_1).f1), .string ((rd_T52 l2 x14_1).f2)] 52 (0, 0)) (by (with_reducible repeat (first | refine blk_drewN ?_ _ | refine blk_drew ?_ | refine blk_alloc ?_ _)); refine blk_put (cs := #[.int .i64 ((rd_T52 l2 x14_1).f0), .int .i64 ((rd_T52 l2 x14_1).f1), .string (⟨#[]⟩ : ByteArray)]) ?_ 2 _ rfl; (with_reducible repeat (first | refine blk_drewN ?_ _ | refine blk_drew ?_ | refine blk_alloc ?_ _)); refine blk_put (cs := #[.int .i64 ((rd_T52 l2 x14_1).f0), .int .i64 0, .string (⟨#[]⟩ : ByteArray)]) ?_ 1 _ rfl; (with_reducible repeat (first | refine blk_drewN ?_ _ | refine blk_drew ?_ | refine blk_alloc ?_ _)); refine blk_put (cs := #[.int .i64 0, .int .i64 0, .string (⟨#[]⟩ : ByteArray)]) ?_ 0 _ rfl; (with_reducible repeat (first | refine blk_drewN ?_ _ | refine blk_drew ?_ | refine blk_alloc ?_ _)); exact Zf.out) hb); have n8_ := zm (below_step (zg_6 HB.out Zg.out Zm.out Zn.out Zt.out) hb); replace Zc := n0_; replace Za := n1_; have Zy := n2_; have Zz := n3_; replace Zd := n4_; replace Ze := n5_; replace Zb := n6_; replace Zf := n7_; replace HB := n8_; clear n0_ n1_ n2_ n3_ n4_ n5_ n6_ n7_ n8_; (try clear hb); (try clear hb2); (try clear hk); (try clear hi); (try clear ho0); (try clear ho1); obtain ⟨Ao32, co32, eo32⟩ := Kd.R_slice Zy.out; subst eo32; obtain ⟨hcz33_0, hcz33_1, hfz33_0, hfz33_1⟩ := zb2 Zb.out; obtain ⟨Ao34, co34, eo34⟩ := Kd.R_slice Zz.out; subst eo34))
       go_roundg k1
       case measure => have := HK1.out; omega
       case rel => exact ⟨(wrap64 (x14_1 + 1)), (t286), (t289), (.slice Ao32 t286.length co32), (.slice Ao34 t289.length co34), zr, H', ⟨by have := HK1.out; omega⟩, ⟨by (with_reducible repeat (first | apply Kd.R_alloc | apply Kd.R_drewN | apply Kd.R_drew)); exact Kd.R_mono (Kd.R_far (Kd.R_far (Kd.R_types Zy.out Zb.out (by decide)) (fun _ hk => hk.2) _) (fun _ hk => hk.2) _) (fun _ hk => trivial)⟩, ⟨by (with_reducible repeat (first | apply Kd.R_alloc | apply Kd.R_drewN | apply Kd.R_drew)); exact Kd.R_mono (Kd.R_far (Kd.R_far (Kd.R_types Zz.out Zb.out (by decide)) (fun _ hk => hk.2) _) (fun _ hk => hk.2) _) (fun _ hk => trivial)⟩, ⟨by (with_reducible repeat (first | refine blk_drewN ?_ _ | refine blk_drew ?_ | refine blk_alloc ?_ _)); refine blk_far ?_ Zh.out _; (with_reducible repeat (first | refine blk_drewN ?_ _ | refine blk_drew ?_ | refine blk_alloc ?_ _)); refine blk_far ?_ Zh.out _; (with_reducible repeat (first | refine blk_drewN ?_ _ | refine blk_drew ?_ | refine blk_alloc ?_ _)); exact Zd.out⟩, ⟨by (with_reducible repeat (first | refine blk_drewN ?_ _ | refine blk_drew ?_ | refine blk_alloc ?_ _)); refine blk_far ?_ Zi.out _; (with_reducible repeat (first | refine blk_drewN ?_ _ | refine blk_drew ?_ | refine blk_alloc ?_ _)); refine blk_far ?_ Zi.out _; (with_reducible repeat (first | refine blk_drewN ?_ _ | refine blk_drew ?_ | refine blk_alloc ?_ _)); exact Ze.out⟩, ⟨by (with_reducible repeat (first | refine blk_drewN ?_ _ | refine blk_drew ?_ | refine blk_alloc ?_ _)); refine blk_put (cs := #[.slice Ao32 t286.length co32, .slice Ao30 x284001_1.length co30]) ?_ 1 _ rfl; (with_reducible repeat (first | refine blk_drewN ?_ _ | refine blk_drew ?_ | refine blk_alloc ?_ _)); refine blk_put (cs := #[.slice Ao29 x284000_1.length co29, .slice Ao30 x284001_1.length co30]) ?_ 0 _ rfl; (with_reducible repeat (first | refine blk_drewN ?_ _ | refine blk_drew ?_ | refine blk_alloc ?_ _)); exact Zb.out⟩, ⟨zg_6 HB.out Zg.out Zm.out Zn.out Zt.out⟩⟩
      ·rw [if_neg c19] at H
       have c19b0 : (((rd_T52 l2 x14_1).f0) == 2) = false := beq_eq_false_iff_ne.mpr c19
       have c19b1 : (((rd_T52 l2 x14_1).f0) != 2) = true := bne_iff_ne.mpr c19
       by_cases c35 : x284001_1.length < 4398046511104
       ·rw [if_pos c35] at H
        have LMc35 := zm c35; clear c35
        obtain ⟨y292, hy292⟩ : ∃ y_ : List (S75), y_ = (x284001_1 ++ [(⟨a1, (rd_T52 l2 x14_1).f1, (rd_T52 l2 x14_1).f2⟩ : S75)]) := ⟨_, rfl⟩
        replace H : (impl_Disk_moved.l0 k1 a1 l2 (l2.length : Int) (wrap64 (x14_1 + 1)) x284000_1 y292) = some (r1, r2) := by first | (rw [hy292]; with_reducible exact H) | (have H2_ := (Option.bind_some _ _).symm.trans H; rw [hy292]; with_reducible exact H2_) | (have H2_ := (Option.bind_some _ _).symm.trans H; with_reducible exact H2_) | with_reducible exact H | (rw [hy292]; exact H) | exact H
        have Ny292 := zm hy292; clear hy292
        have H' := zm H
        clear H
        have p284 : 0 ≤ (x14_1 : Int) := zd
        have q284 : x14_1 < (l2.length : Int) := zd
        obtain ⟨ad284, e284, hx284_0, hx284_1, hx284_2⟩ := at_T52 HR2.out x14_1 p284 q284
        cases e284; replace hx284_0 := (HB.out.cell (World.block_lt_of_cell? w _ hx284_0)).trans hx284_0; replace hx284_1 := (HB.out.cell (World.block_lt_of_cell? w _ hx284_1)).trans hx284_1; replace hx284_2 := (HB.out.cell (World.block_lt_of_cell? w _ hx284_2)).trans hx284_2; replace p284 := eq_true p284; replace q284 := eq_true q284
        go_wp2_with (first | ((with_reducible refine gate_dst (N := 9) rfl ?_); refine box_event ?hg (N := 9) ?hd (cs := #[.int .i64 0, .int .i64 0, .string (⟨#[]⟩ : ByteArray)]) (t := 52) ?hr ?_; (case hd => rfl); (case hg => rfl); (case hr => first | (go_simp; done) | (go_simp; rfl)); intro gb285 hg w36 hbox hb; have n0_ := zm (Kd.R_below (zg_2 Zc.out) hb); have n1_ := zm (Kd.R_below (zg_2 Za.out) hb); have n2_ := zm (blk_below (g := gb275) (o := .cells #[.slice A0_0 l0_0.length c0_0, .slice A0_1 l0_1.length c0_1] 32 (0, 0)) (zg_3 Zd.out) hb); have n3_ := zm (blk_below (g := gb276) (o := .cells #[.slice none 0 0, .slice none 0 0] 32 (0, 0)) (zg_3 Ze.out) hb); have n4_ := zm (blk_below (g := gb283) (o := .cells #[u284000, u284001] 32 (0, 0)) (zg_3 Zb.out) hb); have n5_ := zm (below_step (zg_5 HB.out Zg.out Zm.out Zn.out) hb); have n6_ := zm (hbox); have n7_ := zm ((by rw [hg]; exact (below_size (zg_5 HB.out Zg.out Zm.out Zn.out)) : w.heap.size ≤ gb285)); have n8_ := zm ((by rw [hg]; exact (below_size (zg_5 HB.out Zg.out Zm.out Zn.out)) : w.heap.size ≤ gb285)); have n9_ := zm ((by rw [hg]; exact Nat.ne_of_lt (blk_lt (g := gb275) (o := .cells #[.slice A0_0 l0_0.length c0_0, .slice A0_1 l0_1.length c0_1] 32 (0, 0)) (zg_3 Zd.out)) : gb275 ≠ gb285)); have n10_ := zm ((by rw [hg]; exact Nat.ne_of_gt (blk_lt (g := gb275) (o := .cells #[.slice A0_0 l0_0.length c0_0, .slice A0_1 l0_1.length c0_1] 32 (0, 0)) (zg_3 Zd.out)) : gb285 ≠ gb275)); have n11_ := zm ((by rw [hg]; exact Nat.ne_of_lt (blk_lt (g := gb276) (o := .cells #[.slice none 0 0, .slice none 0 0] 32 (0, 0)) (zg_3 Ze.out)) : gb276 ≠ gb285)); have n12_ := zm ((by rw [hg]; exact Nat.ne_of_gt (blk_lt (g := gb276) (o := .cells #[.slice none 0 0, .slice none 0 0] 32 (0, 0)) (zg_3 Ze.out)) : gb285 ≠ gb276)); have n13_ := zm ((by rw [hg]; exact Nat.ne_of_lt (blk_lt (g := gb283) (o := .cells #[u284000, u284001] 32 (0, 0)) (zg_3 Zb.out)) : gb283 ≠ gb285)); have n14_ := zm ((by rw [hg]; exact Nat.ne_of_gt (blk_lt (g := gb283) (o := .cells #[u284000, u284001] 32 (0, 0)) (zg_3 Zb.out)) : gb285 ≠ gb283)); replace Zc := n0_; replace Za := n1_; replace Zd := n2_; replace Ze := n3_; replace Zb := n4_; replace HB := n5_; have Zf := n6_; have ZF := n7_; have Zt := n8_; have Zj := n9_; have Zq := n10_; have Zk := n11_; have Zr := n12_; have Zl := n13_; have Zs := n14_; clear n0_ n1_ n2_ n3_ n4_ n5_ n6_ n7_ n8_ n9_ n10_ n11_ n12_ n13_ n14_; clear hb hbox hg; have hnb37 := Zq.out; have hnc37 := Zj.out; have hnb38 := Zr.out; have hnc38 := Zk.out; have hnb39 := Zs.out; have hnc39 := Zl.out; obtain ⟨hcz40_0, hcz40_1, hcz40_2, hfz40_0, hfz40_1, hfz40_2⟩ := zb3 Zf.out; have hnb41 := Zo.out; have hnc41 := Zh.out; have hnb42 := Zp.out; have hnc42 := Zi.out; obtain ⟨hcz43_0, hcz43_1, hfz43_0, hfz43_1⟩ := zb2 Zb.out) | ((with_reducible refine gate_builtin (b := .append) (xs := #[.tmp 25, .tmp 32]) rfl ?_); at_builtin; refine Kd.R_append k75 (w0 := w) w.heap.size rfl (.tmp 25) (.tmp 32) 30 75 (.agg #[(.int .i64 0), (.int .i64 0), (.string ⟨#[]⟩)]) 32 rfl Try.underlying30 info75 rfl (by decide) (by omega) u284001 x284001_1 (⟨a1, (rd_T52 l2 x14_1).f1, (rd_T52 l2 x14_1).f2⟩ : S75) [.int .i64 a1, .int .i64 ((rd_T52 l2 x14_1).f1), .string ((rd_T52 l2 x14_1).f2)] (fun _ => True) (fun _ => False) rfl (by first | (go_simp; done) | (go_simp; rfl)) ?aP (fun _ hk => hk.elim) ?aF ?aO ?aB ?aS ?aL ?_; (case aP => exact k75_mkM _ _ _ (⟨a1, (rd_T52 l2 x14_1).f1, (rd_T52 l2 x14_1).f2⟩ : S75)); (case aB => exact (zg_6 HB.out Zg.out Zm.out Zn.out Zt.out)); (case aF => exact (fun _ _ => trivial)); (case aO => exact (by (with_reducible repeat (first | apply Kd.R_alloc | apply Kd.R_drewN | apply Kd.R_drew)); exact Kd.R_mono (Kd.R_far (Kd.R_far (Kd.R_far (Kd.R_types Za.out Zf.out (by decide)) (fun _ hk => hk.2) (.int .i64 ((rd_T52 l2 x14_1).f0))) (fun _ hk => hk.2) (.int .i64 ((rd_T52 l2 x14_1).f1))) (fun _ hk => hk.2) (.string ((rd_T52 l2 x14_1).f2))) (fun _ hk => trivial))); (case aS => exact (below_size (zg_6 HB.out Zg.out Zm.out Zn.out Zt.out))); (case aL => have := LMc35.out; omega); intro v293 w44 ho hb hg hat; rw [← Ny292.out] at ho; have n0_ := zm (Kd.R_over' (by (with_reducible repeat (first | apply Kd.R_alloc | apply Kd.R_drewN | apply Kd.R_drew)); exact (Kd.R_mono (Kd.R_far (Kd.R_far (Kd.R_far (Kd.R_types Zc.out Zf.out (by decide)) (fun _ hk => hk.2) (.int .i64 ((rd_T52 l2 x14_1).f0))) (fun _ hk => hk.2) (.int .i64 ((rd_T52 l2 x14_1).f1))) (fun _ hk => hk.2) (.string ((rd_T52 l2 x14_1).f2))) (fun _ h_ => h_.1))) (Kd.R_typed (by (with_reducible repeat (first | apply Kd.R_alloc | apply Kd.R_drewN | apply Kd.R_drew)); exact (Kd.R_mono (Kd.R_far (Kd.R_far (Kd.R_far (Kd.R_types Za.out Zf.out (by decide)) (fun _ hk => hk.2) (.int .i64 ((rd_T52 l2 x14_1).f0))) (fun _ hk => hk.2) (.int .i64 ((rd_T52 l2 x14_1).f1))) (fun _ hk => hk.2) (.string ((rd_T52 l2 x14_1).f2))) (fun _ h_ => h_.1)))) (by decide) hg); have n1_ := zm (blk_grown (g := gb275) (o := .cells #[.slice A0_0 l0_0.length c0_0, .slice A0_1 l0_1.length c0_1] 32 (0, 0)) (by (with_reducible repeat (first | refine blk_drewN ?_ _ | refine blk_drew ?_ | refine blk_alloc ?_ _)); refine blk_far ?_ Zj.out _; (with_reducible repeat (first | refine blk_drewN ?_ _ | refine blk_drew ?_ | refine blk_alloc ?_ _)); refine blk_far ?_ Zj.out _; (with_reducible repeat (first | refine blk_drewN ?_ _ | refine blk_drew ?_ | refine blk_alloc ?_ _)); refine blk_far ?_ Zj.out _; (with_reducible repeat (first | refine blk_drewN ?_ _ | refine blk_drew ?_ | refine blk_alloc ?_ _)); exact Zd.out) hg (Kd.R_ne Za.out Zd.out (by decide))); have n2_ := zm (blk_grown (g := gb276) (o := .cells #[.slice none 0 0, .slice none 0 0] 32 (0, 0)) (by (with_reducible repeat (first | refine blk_drewN ?_ _ | refine blk_drew ?_ | refine blk_alloc ?_ _)); refine blk_far ?_ Zk.out _; (with_reducible repeat (first | refine blk_drewN ?_ _ | refine blk_drew ?_ | refine blk_alloc ?_ _)); refine blk_far ?_ Zk.out _; (with_reducible repeat (first | refine blk_drewN ?_ _ | refine blk_drew ?_ | refine blk_alloc ?_ _)); refine blk_far ?_ Zk.out _; (with_reducible repeat (first | refine blk_drewN ?_ _ | refine blk_drew ?_ | refine blk_alloc ?_ _)); exact Ze.out) hg (Kd.R_ne Za.out Ze.out (by decide))); have n3_ := zm (blk_grown (g := gb283) (o := .cells #[u284000, u284001] 32 (0, 0)) (by (with_reducible repeat (first | refine blk_drewN ?_ _ | refine blk_drew ?_ | refine blk_alloc ?_ _)); refine blk_far ?_ Zl.out _; (with_reducible repeat (first | refine blk_drewN ?_ _ | refine blk_drew ?_ | refine blk_alloc ?_ _)); refine blk_far ?_ Zl.out _; (with_reducible repeat (first | refine blk_drewN ?_ _ | refine blk_drew ?_ | refine blk_alloc ?_ _)); refine blk_far ?_ Zl.out _; (with_reducible repeat (first | refine blk_drewN ?_ _ | refine blk_drew ?_ | refine blk_alloc ?_ _)); exact Zb.out) hg (Kd.R_ne Za.out Zb.out (by decide))); have n4_ := zm (blk_grown (g := gb285) (o := .cells #[.int .i64 ((rd_T52 l2 x14_1).f0), .int .i64 ((rd_T52 l2 x14_1).f1), .string ((rd_T52 l2 x14_1).f2)] 52 (0, 0)) (by (with_reducible repeat (first | refine blk_drewN ?_ _ | refine blk_drew ?_ | refine blk_alloc ?_ _)); refine blk_put (cs := #[.int .i64 ((rd_T52 l2 x14_1).f0), .int .i64 ((rd_T52 l2 x14_1).f1), .string (⟨#[]⟩ : ByteArray)]) ?_ 2 _ rfl; (with_reducible repeat (first | refine blk_drewN ?_ _ | refine blk_drew ?_ | refine blk_alloc ?_ _)); refine blk_put (cs := #[.int .i64 ((rd_T52 l2 x14_1).f0), .int .i64 0, .string (⟨#[]⟩ : ByteArray)]) ?_ 1 _ rfl; (with_reducible repeat (first | refine blk_drewN ?_ _ | refine blk_drew ?_ | refine blk_alloc ?_ _)); refine blk_put (cs := #[.int .i64 0, .int .i64 0, .string (⟨#[]⟩ : ByteArray)]) ?_ 0 _ rfl; (with_reducible repeat (first | refine blk_drewN ?_ _ | refine blk_drew ?_ | refine blk_alloc ?_ _)); exact Zf.out) hg (Kd.R_ne Za.out Zf.out (by decide))); have n5_ := zm (hb); have n6_ := zm (ho); clear Za; replace Zc := n0_; replace Zd := n1_; replace Ze := n2_; replace Zb := n3_; replace Zf := n4_; replace HB := n5_; have ZA := n6_; clear n0_ n1_ n2_ n3_ n4_ n5_ n6_; clear ho hb hg hat; obtain ⟨Ao45, co45, eo45⟩ := Kd.R_slice ZA.out; subst eo45; obtain ⟨hcz46_0, hcz46_1, hfz46_0, hfz46_1⟩ := zb2 Zb.out))
        go_roundg k1
        case measure => have := HK1.out; omega
        case rel => exact ⟨(wrap64 (x14_1 + 1)), (x284000_1), (y292), (u284000), (.slice Ao45 y292.length co45), zr, H', ⟨by have := HK1.out; omega⟩, ⟨by (with_reducible repeat (first | apply Kd.R_alloc | apply Kd.R_drewN | apply Kd.R_drew)); exact Kd.R_mono (Kd.R_far (Kd.R_types Zc.out Zb.out (by decide)) (fun _ hk => hk.2) _) (fun _ hk => trivial)⟩, ⟨by (with_reducible repeat (first | apply Kd.R_alloc | apply Kd.R_drewN | apply Kd.R_drew)); exact Kd.R_mono (Kd.R_far (Kd.R_types ZA.out Zb.out (by decide)) (fun _ hk => hk.2) _) (fun _ hk => trivial)⟩, ⟨by (with_reducible repeat (first | refine blk_drewN ?_ _ | refine blk_drew ?_ | refine blk_alloc ?_ _)); refine blk_far ?_ Zh.out _; (with_reducible repeat (first | refine blk_drewN ?_ _ | refine blk_drew ?_ | refine blk_alloc ?_ _)); exact Zd.out⟩, ⟨by (with_reducible repeat (first | refine blk_drewN ?_ _ | refine blk_drew ?_ | refine blk_alloc ?_ _)); refine blk_far ?_ Zi.out _; (with_reducible repeat (first | refine blk_drewN ?_ _ | refine blk_drew ?_ | refine blk_alloc ?_ _)); exact Ze.out⟩, ⟨by (with_reducible repeat (first | refine blk_drewN ?_ _ | refine blk_drew ?_ | refine blk_alloc ?_ _)); refine blk_put (cs := #[u284000, u284001]) ?_ 1 _ rfl; (with_reducible repeat (first | refine blk_drewN ?_ _ | refine blk_drew ?_ | refine blk_alloc ?_ _)); exact Zb.out⟩, ⟨zg_6 HB.out Zg.out Zm.out Zn.out Zt.out⟩⟩
       ·rw [if_neg c35] at H
        exact absurd H (by simp)
     ·rw [if_neg c18] at H
      exact absurd H (by simp)
    ·rw [if_neg c17] at H
     exact absurd H (by simp)
   ·rw [if_neg c16] at H
    have c16b0 := decide_eq_false c16; clear c16
    simp only [Option.some.injEq, Prod.mk.injEq] at H
    obtain ⟨rfl, rfl⟩ := H
    have hnb47 := Zo.out; have hnc47 := Zh.out; have hnb48 := Zp.out; have hnc48 := Zi.out
    obtain ⟨hcz49_0, hcz49_1, hfz49_0, hfz49_1⟩ := zb2 Zb.out
    obtain ⟨Ao50, co50, eo50⟩ := Kd.R_slice Zc.out
    subst eo50; have hnb51 := Zv.out; have hnc51 := Zu.out
    obtain ⟨hcz52_0, hcz52_1, hfz52_0, hfz52_1⟩ := zb2 Ze.out
    obtain ⟨Ao53, co53, eo53⟩ := Kd.R_slice Za.out
    subst eo53
    go_wp2
    refine bodyPost_ret (results_cell_row rfl _ _ gb276 32 #[.slice Ao50 x284000_1.length co50, .slice Ao53 x284001_1.length co53] (0, 0) _ rfl (by (with_reducible repeat (first | refine blk_drewN ?_ _ | refine blk_drew ?_ | refine blk_alloc ?_ _)); refine blk_put (cs := #[.slice Ao50 x284000_1.length co50, .slice none 0 0]) ?_ 1 _ rfl; (with_reducible repeat (first | refine blk_drewN ?_ _ | refine blk_drew ?_ | refine blk_alloc ?_ _)); refine blk_put (cs := #[.slice none 0 0, .slice none 0 0]) ?_ 0 _ rfl; (with_reducible repeat (first | refine blk_drewN ?_ _ | refine blk_drew ?_ | refine blk_alloc ?_ _)); exact Ze.out) Try.underlying32 rfl (by kernel_rfl)) rfl ?_
    exact ⟨_, _, ze, by (with_reducible repeat (first | apply Kd.R_alloc | apply Kd.R_drewN | apply Kd.R_drew)); exact Kd.R_mono (Kd.R_far (Kd.R_far (Kd.R_types Zc.out Ze.out (by decide)) (fun _ hk => hk.2) _) (fun _ hk => hk.2) _) (fun _ hk => trivial), by (with_reducible repeat (first | apply Kd.R_alloc | apply Kd.R_drewN | apply Kd.R_drew)); exact Kd.R_mono (Kd.R_far (Kd.R_far (Kd.R_types Za.out Ze.out (by decide)) (fun _ hk => hk.2) _) (fun _ hk => hk.2) _) (fun _ hk => trivial), zg_5 HB.out Zg.out Zm.out Zn.out⟩
def impl_Move_20.f (l0 : List (S52)) : Option (Bool) := some (decide ((l0.length : Int) > 4096))
set_option maxHeartbeats 8000000 in
set_option maxRecDepth 100000 in
theorem impl_Move_20.calls (A0 : Option Addr) (c0 : Nat) (l0 : List (S52)) (r : Bool) (w : World) (hr0 : Kd.C k52 w A0 l0.length l0) (hc0 : l0.length ≤ c0) (h : impl_Move_20.f l0 = some r) :
    Calls Try.prog 20 #[.slice A0 l0.length c0] w fun e w' => e = .returned (.bool r) ∧ Drawn0 w w' := by
  have HR0 := zm hr0; have HC0 := zm hc0; clear hr0 hc0
  have H : (some (decide ((l0.length : Int) > 4096))) = some r := h
  clear h; obtain rfl := Option.some.inj H
  go_enter Try.func20, Try.ntmps20
  go_wp2
  go_ret
  exact ⟨zr, by repeat (first | exact Drawn0.refl _ | apply Drawn0.step)⟩
def impl_MovesDo.f (k : Nat) (l0_0 : List ByteArray) (l0_1 : List (S75)) (a1 : Int) (l2 : List (S52)) : Option (List ByteArray × (List (S75)) × Int) := (impl_Move_20.f l2).bind fun t297 => ((impl_Disk_codes.f l0_0 l0_1 a1).bind fun t298 => ((impl_Disk_codes.f l0_0 l0_1 a1).bind fun t299 => ((all22_impl_moveOK.f l2 ()).bind fun t300 => ((impl_first.f (([Any.b t297, Any.n 2, Any.b (t298 != 0), Any.n t299, Any.b (!t300), Any.n 1] : List Any))).bind fun t304 => (if t304 = 0 then (if (wrap64 ((l0_1.length : Int) + (l2.length : Int))) > 200 then ((impl_Disk_copied.f l0_0 l0_1).bind fun bt305 => (some (bt305.1, bt305.2, 7))) else ((impl_Disk_moved.f k l0_0 l0_1 a1 l2).bind fun bt311 => (some (bt311.1, bt311.2, 0)))) else (some (([] : List ByteArray), ([] : List (S75)), t304)))))))
theorem impl_MovesDo.mono : ∀ a0 a1 a2 a3 k, LeO (impl_MovesDo.f k a0 a1 a2 a3) (impl_MovesDo.f (k + 1) a0 a1 a2 a3) := by
  intro a0 a1 a2 a3 k
  unfold impl_MovesDo.f
  repeat' first| (with_reducible first | exact impl_Disk_moved.mono _ _ _ _ _ | exact LeO.refl _ | exact LeO.none _ | refine LeO.ite ?_ ?_ | refine LeO.bind ?_ (fun _ => ?_)) | exact impl_Disk_moved.mono _ _ _ _ _ | exact LeO.none _ | refine LeO.ite ?_ ?_ | refine LeO.bind ?_ (fun _ => ?_)
def impl_MovesDo.T1 : Bool × List (List Nat × List Nat) := (true, [([], []), ([0], [0]), ([1], [1]), ([], []), ([], []), ([], []), ([4, 5, 1], [4, 5]), ([6], [6]), ([7], [7]), ([], []), ([], []), ([9, 10, 6], [9, 10]), ([11], [11]), ([], []), ([13, 11], [13]), ([14], [14]), ([15], [15]), ([], []), ([2, 3, 8, 12, 16, 17], [2, 3, 8, 12, 16, 17]), ([18, 14], [18]), ([19, 19, 0, 1, 2, 3, 4, 5, 6, 7, 8, 9, 10, 11, 12, 13, 14, 15, 16, 17, 18, 19], [19])])
def impl_MovesDo.B1 : List Nat := [0, 1, 3, 0, 0, 0, 51, 115, 243, 0, 0, 1651, 3699, 0, 11891, 28275, 61043, 0, 262143, 524287, 1048575]
theorem impl_MovesDo.tab1 : rtab .any (opsOf Try.f7 1) = impl_MovesDo.T1 := by kernel_rfl
theorem impl_MovesDo.bits1 : waitsOk impl_MovesDo.T1.2 impl_MovesDo.B1 = true := by kernel_rfl
set_option maxHeartbeats 8000000 in
set_option maxRecDepth 100000 in
theorem impl_MovesDo.calls (k : Nat) (A0_0 : Option Addr) (c0_0 : Nat) (l0_0 : List ByteArray) (A0_1 : Option Addr) (c0_1 : Nat) (l0_1 : List (S75)) (a1 : Int) (A2 : Option Addr) (c2 : Nat) (l2 : List (S52)) (r1 : List ByteArray) (r2 : List (S75)) (r3 : Int) (w : World) (hr0_0 : Kd.C Kd.string w A0_0 l0_0.length l0_0) (hc0_0 : l0_0.length ≤ c0_0) (hr0_1 : Kd.C k75 w A0_1 l0_1.length l0_1) (hc0_1 : l0_1.length ≤ c0_1) (hr2 : Kd.C k52 w A2 l2.length l2) (hc2 : l2.length ≤ c2) (h : impl_MovesDo.f k l0_0 l0_1 a1 l2 = some (r1, r2, r3)) :
    Calls Try.prog 7 #[.agg #[.slice A0_0 l0_0.length c0_0, .slice A0_1 l0_1.length c0_1], .int .i64 a1, .slice A2 l2.length c2] w fun e w' => ∃ v0_ v1_ : Value, e = .returned (.tuple #[.agg #[v0_, v1_], .int .i64 r3]) ∧ Kd.R Kd.string 9 w' w.heap.size (fun _ => True) v0_ r1 ∧ Kd.R k75 75 w' w.heap.size (fun _ => True) v1_ r2 ∧ Below w.heap.size w w' := by
 have hu32 := Try.underlying32; have Zh := zm hr0_0; have Zi := zm hc0_0; clear hr0_0 hc0_0; have Zj := zm hr0_1; have Zk := zm hc0_1; clear hr0_1 hc0_1; have HR2 := zm hr2; have HC2 := zm hc2; clear hr2 hc2; have HB := zm (Below.refl w.heap.size w); have H := h
 unfold impl_MovesDo.f at H
 clear h; replace H := Option.bind_eq_some_iff.mp H
 obtain ⟨t297, A40, H⟩ := H
 try dsimp only at H
 have A4 := zm A40; clear A40; replace H := Option.bind_eq_some_iff.mp H
 obtain ⟨t298, A50, H⟩ := H
 try dsimp only at H
 have A5 := zm A50; clear A50; replace H := Option.bind_eq_some_iff.mp H
 obtain ⟨t299, A60, H⟩ := H
 try dsimp only at H
 have A6 := zm A60; clear A60; replace H := Option.bind_eq_some_iff.mp H
 obtain ⟨t300, A70, H⟩ := H
 try dsimp only at H
 have A7 := zm A70; clear A70
 obtain ⟨y301, hy301⟩ : ∃ y_ : List Any, y_ = (([Any.b t297, Any.n 2, Any.b (t298 != 0), Any.n t299, Any.b (!t300), Any.n 1] : List Any)) := ⟨_, rfl⟩
 replace H : ((impl_first.f y301).bind fun t304 => (if t304 = 0 then (if (wrap64 ((l0_1.length : Int) + (l2.length : Int))) > 200 then ((impl_Disk_copied.f l0_0 l0_1).bind fun bt305 => (some (bt305.1, bt305.2, 7))) else ((impl_Disk_moved.f k l0_0 l0_1 a1 l2).bind fun bt311 => (some (bt311.1, bt311.2, 0)))) else (some (([] : List ByteArray), ([] : List (S75)), t304)))) = some (r1, r2, r3) := by first | (rw [hy301]; with_reducible exact H) | (have H2_ := (Option.bind_some _ _).symm.trans H; rw [hy301]; with_reducible exact H2_) | (have H2_ := (Option.bind_some _ _).symm.trans H; with_reducible exact H2_) | with_reducible exact H | (rw [hy301]; exact H) | exact H
 have Ny301 := zm hy301; clear hy301; replace H := Option.bind_eq_some_iff.mp H
 obtain ⟨t304, A80, H⟩ := H
 try dsimp only at H
 have A8 := zm A80; clear A80
 by_cases c9 : t304 = 0
 ·rw [if_pos c9] at H
  have c9b0 : (t304 == 0) = true := beq_iff_eq.mpr c9
  have c9b1 : (t304 != 0) = false := bne_eq_false_iff_eq.mpr c9
  clear c9
  by_cases c10 : (wrap64 ((l0_1.length : Int) + (l2.length : Int))) > 200
  ·rw [if_pos c10] at H
   have c10b0 := decide_eq_true c10; clear c10; replace H := Option.bind_eq_some_iff.mp H
   obtain ⟨⟨t305, t308⟩, A110, H⟩ := H
   try dsimp only at H
   have A11 := zm A110; clear A110
   simp only [Option.some.injEq, Prod.mk.injEq] at H
   obtain ⟨rfl, rfl, rfl⟩ := H
   go_enter Try.func7, Try.ntmps7
   try go_wp2_with (first | ((with_reducible refine gate_dst (N := 3) rfl ?_); refine box_event ?hg (N := 3) ?hd (cs := #[.slice A0_0 l0_0.length c0_0, .slice A0_1 l0_1.length c0_1]) (t := 32) ?hr ?_; (case hd => rfl); (case hg => rfl); (case hr => first | (go_simp; done) | (go_simp; rfl)); intro gb295 hg w12 hbox hb; have n0_ := zm (below_step (zg_0 HB.out) hb); have n1_ := zm (hbox); have n2_ := zm ((by rw [hg]; exact (below_size (zg_0 HB.out)) : w.heap.size ≤ gb295)); have n3_ := zm ((by rw [hg]; exact (below_size (zg_0 HB.out)) : w.heap.size ≤ gb295)); replace HB := n0_; have Za := n1_; have Zl := n2_; have Zc := n3_; clear n0_ n1_ n2_ n3_; clear hb hbox hg) | ((with_reducible refine gate_dst (N := 6) rfl ?_); refine box_event ?hg (N := 6) ?hd (cs := #[.slice none 0 0, .slice none 0 0]) (t := 32) ?hr ?_; (case hd => rfl); (case hg => rfl); (case hr => first | (go_simp; done) | (go_simp; rfl)); intro gb296 hg w13 hbox hb; have n0_ := zm (blk_below (g := gb295) (o := .cells #[.slice A0_0 l0_0.length c0_0, .slice A0_1 l0_1.length c0_1] 32 (0, 0)) (zg_3 Za.out) hb); have n1_ := zm (below_step (zg_1 HB.out Zc.out) hb); have n2_ := zm (hbox); have n3_ := zm ((by rw [hg]; exact (below_size (zg_1 HB.out Zc.out)) : w.heap.size ≤ gb296)); have n4_ := zm ((by rw [hg]; exact (below_size (zg_1 HB.out Zc.out)) : w.heap.size ≤ gb296)); have n5_ := zm ((by rw [hg]; exact Nat.ne_of_lt (blk_lt (g := gb295) (o := .cells #[.slice A0_0 l0_0.length c0_0, .slice A0_1 l0_1.length c0_1] 32 (0, 0)) (zg_3 Za.out)) : gb295 ≠ gb296)); have n6_ := zm ((by rw [hg]; exact Nat.ne_of_gt (blk_lt (g := gb295) (o := .cells #[.slice A0_0 l0_0.length c0_0, .slice A0_1 l0_1.length c0_1] 32 (0, 0)) (zg_3 Za.out)) : gb296 ≠ gb295)); replace Za := n0_; replace HB := n1_; have Zb := n2_; have Zm := n3_; have Zd := n4_; have Zf := n5_; have Zg := n6_; clear n0_ n1_ n2_ n3_ n4_ n5_ n6_; clear hb hbox hg))
   have n0_ := zm (blk_drew Za.out); have n1_ := zm (blk_drew Zb.out); have n2_ := zm (below_drew1 HB.out); clear Za; clear Zb; clear HB; have Za := n0_; have Zb := n1_; have HB := n2_; clear n0_ n1_ n2_
   refine start_ (n := 21) (S := fun w' => w'.cell? ⟨gb295, 0, none⟩ = some (.slice A0_0 l0_0.length c0_0) ∧ w'.cell? ⟨gb295, 1, none⟩ = some (.slice A0_1 l0_1.length c0_1)) (ds := []) #[false, false, false, false, false, false, false, false, false, false, false, false, false, false, false, false, false, false, false, false, false] (by kernel_rfl) rfl rfl ⟨(blk_cell Za.out 0).trans rfl, (blk_cell Za.out 1).trans rfl⟩ (fun hHeld => ?_); refine with_tabW impl_MovesDo.tab1 impl_MovesDo.bits1 (fun HT_ HW_ => ?_)
   generalize w13.drew = w14 at Za Zb HB hHeld ⊢
   refine pure_ (i := 0) (N := some 9) (v := ?_) (a' := ?_) #[true, false, false, false, false, false, false, false, false, false, false, false, false, false, false, false, false, false, false, false, false] rfl rfl (any_of HT_.out (by kernel_rfl)) (fun _ _ _ h => h) (Or.inl ⟨by rfl, ?_⟩) ?_ ?_
   rotate_left
   ·intro w'
    go_simp
    with_reducible rfl
   rotate_left
   ·simp only [Act.put, zs, zz, zt, i64_w, i32_w]
    rfl
   refine pure_ (i := 3) (N := some 12) (v := ?_) (a' := ?_) #[true, false, false, true, false, false, false, false, false, false, false, false, false, false, false, false, false, false, false, false, false] rfl rfl (any_of HT_.out (by kernel_rfl)) (fun _ _ _ h => h) (Or.inl ⟨by rfl, ?_⟩) ?_ ?_
   rotate_left
   ·intro w'
    go_simp
    with_reducible rfl
   rotate_left
   ·simp only [Act.put, zs, zz, zt, i64_w, i32_w]
    rfl
   refine pure_ (i := 5) (N := some 14) (v := ?_) (a' := ?_) #[true, false, false, true, false, true, false, false, false, false, false, false, false, false, false, false, false, false, false, false, false] rfl rfl (any_of HT_.out (by kernel_rfl)) (fun _ _ _ h => h) (Or.inl ⟨by rfl, ?_⟩) ?_ ?_
   rotate_left
   ·intro w'
    go_simp
    with_reducible rfl
   rotate_left
   ·simp only [Act.put, zs, zz, zt, i64_w, i32_w]
    rfl
   refine pure_ (i := 10) (N := some 19) (v := ?_) (a' := ?_) #[true, false, false, true, false, true, false, false, false, false, true, false, false, false, false, false, false, false, false, false, false] rfl rfl (any_of HT_.out (by kernel_rfl)) (fun _ _ _ h => h) (Or.inl ⟨by rfl, ?_⟩) ?_ ?_
   rotate_left
   ·intro w'
    go_simp
    with_reducible rfl
   rotate_left
   ·simp only [Act.put, zs, zz, zt, i64_w, i32_w]
    rfl
   refine pure_ (i := 13) (N := some 22) (v := ?_) (a' := ?_) #[true, false, false, true, false, true, false, false, false, false, true, false, false, true, false, false, false, false, false, false, false] rfl rfl (any_of HT_.out (by kernel_rfl)) (fun _ _ _ h => h) (Or.inl ⟨by rfl, ?_⟩) ?_ ?_
   rotate_left
   ·intro w'
    go_simp
    with_reducible rfl
   rotate_left
   ·simp only [Act.put, zs, zz, zt, i64_w, i32_w]
    rfl
   refine pure_ (i := 17) (N := some 26) (v := ?_) (a' := ?_) #[true, false, false, true, false, true, false, false, false, false, true, false, false, true, false, false, false, true, false, false, false] rfl rfl (any_of HT_.out (by kernel_rfl)) (fun _ _ _ h => h) (Or.inl ⟨by rfl, ?_⟩) ?_ ?_
   rotate_left
   ·intro w'
    go_simp
    with_reducible rfl
   rotate_left
   ·simp only [Act.put, zs, zz, zt, i64_w, i32_w]
    rfl
   refine take_ (i := 4) (N := some 13) (v := ?_) (a' := ?_) #[true, false, false, true, true, true, false, false, false, false, true, false, false, true, false, false, false, true, false, false, false] rfl rfl (take_ofW HT_.out HW_.out (by kernel_rfl)) (fun _ _ _ h => h) (Or.inl ⟨by rfl, ?_⟩) hHeld ?_ ?_
   rotate_left
   ·rintro w' ⟨s0, s1⟩
    go_simp
    with_reducible rfl
   rotate_left
   ·simp only [Act.put, zs, zz, zt, i64_w, i32_w]
    rfl
   refine take_ (i := 9) (N := some 18) (v := ?_) (a' := ?_) #[true, false, false, true, true, true, false, false, false, true, true, false, false, true, false, false, false, true, false, false, false] rfl rfl (take_ofW HT_.out HW_.out (by kernel_rfl)) (fun _ _ _ h => h) (Or.inl ⟨by rfl, ?_⟩) hHeld ?_ ?_
   rotate_left
   ·rintro w' ⟨s0, s1⟩
    go_simp
    with_reducible rfl
   rotate_left
   ·simp only [Act.put, zs, zz, zt, i64_w, i32_w]
    rfl
   refine one_ (i := 1) (N := some 10) #[true, true, false, true, true, true, false, false, false, true, true, false, false, true, false, false, false, true, false, false, false] rfl rfl (one_of HT_.out (by kernel_rfl)) (by decide) (fun K hK => ?_)
   refine goes_ Try.func20 (by kernel_rfl) rfl #[.slice A2 l2.length c2] (by rfl) rfl rfl zq ?_
   with_reducible refine (impl_Move_20.calls _ _ l2 t297 _ ?side1 ?side2 A4.out).mono ?_
   (case side1 => exact zC (Kd.C_below HR2.out HB.out))
   (case side2 => exact HC2.out)
   rintro e w' ⟨rfl, ⟨nd, rfl⟩⟩
   refine ⟨_, rfl, ?_⟩
   refine hK.out _ _ ⟨(blk_cell Za.out 0).trans rfl, (blk_cell Za.out 1).trans rfl⟩ (fun hHeld => ?_)
   clear hK K
   refine norm_ (a' := ?_) ?_ ?_
   rotate_left
   ·show Act.put _ (some 10) _ = _
    simp only [Act.put, zs, zz, zt, i64_w, i32_w]
    rfl
   refine pure_ (i := 2) (N := some 11) (v := ?_) (a' := ?_) #[true, true, true, true, true, true, false, false, false, true, true, false, false, true, false, false, false, true, false, false, false] rfl rfl (any_of HT_.out (by kernel_rfl)) (fun _ _ _ h => h) (Or.inl ⟨by rfl, ?_⟩) ?_ ?_
   rotate_left
   ·intro w'
    go_simp
    with_reducible rfl
   rotate_left
   ·simp only [Act.put, zs, zz, zt, i64_w, i32_w]
    rfl
   refine one_ (i := 6) (N := some 15) #[true, true, true, true, true, true, true, false, false, true, true, false, false, true, false, false, false, true, false, false, false] rfl rfl (one_of HT_.out (by kernel_rfl)) (by decide) (fun K hK => ?_)
   refine goes_ Try.func21 (by kernel_rfl) rfl #[.agg #[.slice A0_0 l0_0.length c0_0, .slice A0_1 l0_1.length c0_1], .int .i64 a1] (by rfl) rfl rfl zq ?_
   with_reducible refine (impl_Disk_codes.calls _ _ l0_0 _ _ l0_1 a1 t298 _ ?side1 ?side2 ?side3 ?side4 A5.out).mono ?_
   (case side1 => exact zC (Kd.C_below Zh.out (zg_4 HB.out Zc.out Zd.out)))
   (case side2 => exact Zi.out)
   (case side3 => exact zC (Kd.C_below Zj.out (zg_4 HB.out Zc.out Zd.out)))
   (case side4 => exact Zk.out)
   rintro e w15 ⟨rfl, hb⟩
   refine ⟨_, rfl, ?_⟩
   have n0_ := zm (blk_below (g := gb295) (o := .cells #[.slice A0_0 l0_0.length c0_0, .slice A0_1 l0_1.length c0_1] 32 (0, 0)) (zg_3 Za.out) hb); have n1_ := zm (blk_below (g := gb296) (o := .cells #[.slice none 0 0, .slice none 0 0] 32 (0, 0)) (zg_3 Zb.out) hb); have n2_ := zm (below_step (zg_4 HB.out Zc.out Zd.out) hb); clear Za; clear Zb; clear HB; have Za := n0_; have Zb := n1_; have HB := n2_; clear n0_ n1_ n2_
   (try clear hb)
   (try clear hb2)
   (try clear hk)
   (try clear hi)
   refine hK.out _ _ ⟨(blk_cell Za.out 0).trans rfl, (blk_cell Za.out 1).trans rfl⟩ (fun hHeld => ?_)
   clear hK K
   refine norm_ (a' := ?_) ?_ ?_
   rotate_left
   ·show Act.put _ (some 15) _ = _
    simp only [Act.put, zs, zz, zt, i64_w, i32_w]
    rfl
   refine pure_ (i := 7) (N := some 16) (v := ?_) (a' := ?_) #[true, true, true, true, true, true, true, true, false, true, true, false, false, true, false, false, false, true, false, false, false] rfl rfl (any_of HT_.out (by kernel_rfl)) (fun _ _ _ h => h) (Or.inl ⟨by rfl, ?_⟩) ?_ ?_
   rotate_left
   ·intro w'
    go_simp
    with_reducible rfl
   rotate_left
   ·simp only [Act.put, zs, zz, zt, i64_w, i32_w]
    rfl
   refine pure_ (i := 8) (N := some 17) (v := ?_) (a' := ?_) #[true, true, true, true, true, true, true, true, true, true, true, false, false, true, false, false, false, true, false, false, false] rfl rfl (any_of HT_.out (by kernel_rfl)) (fun _ _ _ h => h) (Or.inl ⟨by rfl, ?_⟩) ?_ ?_
   rotate_left
   ·intro w'
    go_simp
    with_reducible rfl
   rotate_left
   ·simp only [Act.put, zs, zz, zt, i64_w, i32_w]
    rfl
   refine one_ (i := 11) (N := some 20) #[true, true, true, true, true, true, true, true, true, true, true, true, false, true, false, false, false, true, false, false, false] rfl rfl (one_of HT_.out (by kernel_rfl)) (by decide) (fun K hK => ?_)
   refine goes_ Try.func21 (by kernel_rfl) rfl #[.agg #[.slice A0_0 l0_0.length c0_0, .slice A0_1 l0_1.length c0_1], .int .i64 a1] (by rfl) rfl rfl zq ?_
   with_reducible refine (impl_Disk_codes.calls _ _ l0_0 _ _ l0_1 a1 t299 _ ?side1 ?side2 ?side3 ?side4 A6.out).mono ?_
   (case side1 => exact zC (Kd.C_below Zh.out HB.out))
   (case side2 => exact Zi.out)
   (case side3 => exact zC (Kd.C_below Zj.out HB.out))
   (case side4 => exact Zk.out)
   rintro e w16 ⟨rfl, hb⟩
   refine ⟨_, rfl, ?_⟩
   have n0_ := zm (blk_below (g := gb295) (o := .cells #[.slice A0_0 l0_0.length c0_0, .slice A0_1 l0_1.length c0_1] 32 (0, 0)) (zg_3 Za.out) hb); have n1_ := zm (blk_below (g := gb296) (o := .cells #[.slice none 0 0, .slice none 0 0] 32 (0, 0)) (zg_3 Zb.out) hb); have n2_ := zm (below_step (zg_4 HB.out Zc.out Zd.out) hb); clear Za; clear Zb; clear HB; have Za := n0_; have Zb := n1_; have HB := n2_; clear n0_ n1_ n2_
   (try clear hb)
   (try clear hb2)
   (try clear hk)
   (try clear hi)
   refine hK.out _ _ ⟨(blk_cell Za.out 0).trans rfl, (blk_cell Za.out 1).trans rfl⟩ (fun hHeld => ?_)
   clear hK K
   refine norm_ (a' := ?_) ?_ ?_
   rotate_left
   ·show Act.put _ (some 20) _ = _
    simp only [Act.put, zs, zz, zt, i64_w, i32_w]
    rfl
   refine pure_ (i := 12) (N := some 21) (v := ?_) (a' := ?_) #[true, true, true, true, true, true, true, true, true, true, true, true, true, true, false, false, false, true, false, false, false] rfl rfl (any_of HT_.out (by kernel_rfl)) (fun _ _ _ h => h) (Or.inl ⟨by rfl, ?_⟩) ?_ ?_
   rotate_left
   ·intro w'
    go_simp
    with_reducible rfl
   rotate_left
   ·simp only [Act.put, zs, zz, zt, i64_w, i32_w]
    rfl
   refine one_ (i := 14) (N := some 23) #[true, true, true, true, true, true, true, true, true, true, true, true, true, true, true, false, false, true, false, false, false] rfl rfl (one_of HT_.out (by kernel_rfl)) (by decide) (fun K hK => ?_)
   refine goes_ Try.func22 (by kernel_rfl) rfl #[.slice A2 l2.length c2, .func (.func 23) #[] #[]] (by rfl) rfl rfl zq ?_
   with_reducible refine (all22_impl_moveOK.calls _ _ l2 () t300 _ ?side1 ?side2 A7.out).mono ?_
   (case side1 => exact zC (Kd.C_below HR2.out HB.out))
   (case side2 => exact HC2.out)
   rintro e w17 ⟨rfl, hb⟩
   refine ⟨_, rfl, ?_⟩
   have n0_ := zm (blk_below (g := gb295) (o := .cells #[.slice A0_0 l0_0.length c0_0, .slice A0_1 l0_1.length c0_1] 32 (0, 0)) (zg_3 Za.out) hb); have n1_ := zm (blk_below (g := gb296) (o := .cells #[.slice none 0 0, .slice none 0 0] 32 (0, 0)) (zg_3 Zb.out) hb); have n2_ := zm (below_step (zg_4 HB.out Zc.out Zd.out) hb); clear Za; clear Zb; clear HB; have Za := n0_; have Zb := n1_; have HB := n2_; clear n0_ n1_ n2_
   (try clear hb)
   (try clear hb2)
   (try clear hk)
   (try clear hi)
   refine hK.out _ _ ⟨(blk_cell Za.out 0).trans rfl, (blk_cell Za.out 1).trans rfl⟩ (fun hHeld => ?_)
   clear hK K
   refine norm_ (a' := ?_) ?_ ?_
   rotate_left
   ·show Act.put _ (some 23) _ = _
    simp only [Act.put, zs, zz, zt, i64_w, i32_w]
    rfl
   refine pure_ (i := 15) (N := some 24) (v := ?_) (a' := ?_) #[true, true, true, true, true, true, true, true, true, true, true, true, true, true, true, true, false, true, false, false, false] rfl rfl (any_of HT_.out (by kernel_rfl)) (fun _ _ _ h => h) (Or.inl ⟨by rfl, ?_⟩) ?_ ?_
   rotate_left
   ·intro w'
    go_simp
    with_reducible rfl
   rotate_left
   ·simp only [Act.put, zs, zz, zt, i64_w, i32_w]
    rfl
   refine pure_ (i := 16) (N := some 25) (v := ?_) (a' := ?_) #[true, true, true, true, true, true, true, true, true, true, true, true, true, true, true, true, true, true, false, false, false] rfl rfl (any_of HT_.out (by kernel_rfl)) (fun _ _ _ h => h) (Or.inl ⟨by rfl, ?_⟩) ?_ ?_
   rotate_left
   ·intro w'
    go_simp
    with_reducible rfl
   rotate_left
   ·simp only [Act.put, zs, zz, zt, i64_w, i32_w]
    rfl
   refine one_ (i := 18) (N := some 27) #[true, true, true, true, true, true, true, true, true, true, true, true, true, true, true, true, true, true, true, false, false] rfl rfl (one_of HT_.out (by kernel_rfl)) (by decide) (fun K hK => ?_)
   refine Kd.R_lit_step kAny _ 20 ?hg (N := 27) ?hd (xs := ([Any.b t297, Any.n 2, Any.b (t298 != 0), Any.n t299, Any.b (!t300), Any.n 1] : List Any)) (inner := [.iface 4 (.bool t297), .iface 3 (.int .i64 2), .iface 4 (.bool (t298 != 0)), .iface 3 (.int .i64 t299), .iface 4 (.bool (!t300)), .iface 3 (.int .i64 1)]) (ok := fun _ => True) (okp := fun _ => True) ?hr ?hp (fun _ hk => hk) trivial (Below.refl _ _) (Nat.le_refl _) (by simp) ?_; (case hd => rfl); (case hg => rfl); (case hr => first | (go_simp; done) | (go_simp; rfl)); (case hp => exact (Reps.one (show Kd.M kAny _ _ _ (Any.b t297) [.iface 4 (.bool t297)] from rfl) (Reps.one (show Kd.M kAny _ _ _ (Any.n 2) [.iface 3 (.int .i64 2)] from rfl) (Reps.one (show Kd.M kAny _ _ _ (Any.b (t298 != 0)) [.iface 4 (.bool (t298 != 0))] from rfl) (Reps.one (show Kd.M kAny _ _ _ (Any.n t299) [.iface 3 (.int .i64 t299)] from rfl) (Reps.one (show Kd.M kAny _ _ _ (Any.b (!t300)) [.iface 4 (.bool (!t300))] from rfl) (Reps.one (show Kd.M kAny _ _ _ (Any.n 1) [.iface 3 (.int .i64 1)] from rfl) (Reps.none _ _))))))))
   intro v302 w18 ho19 hb hg_ hnew_
   clear hg_ hnew_
   (first | rw [← Ny301.out] at ho19 | (simp only [Int.reduceToNat] at ho19; rw [← Ny301.out] at ho19))
   have n0_ := zm (Kd.R_lower ho19 (below_size (zg_4 HB.out Zc.out Zd.out))); have n1_ := zm (blk_below (g := gb295) (o := .cells #[.slice A0_0 l0_0.length c0_0, .slice A0_1 l0_1.length c0_1] 32 (0, 0)) (zg_3 Za.out) hb); have n2_ := zm (blk_below (g := gb296) (o := .cells #[.slice none 0 0, .slice none 0 0] 32 (0, 0)) (zg_3 Zb.out) hb); have n3_ := zm (below_step (zg_4 HB.out Zc.out Zd.out) hb); clear Za; clear Zb; clear HB; have Ze := n0_; have Za := n1_; have Zb := n2_; have HB := n3_; clear n0_ n1_ n2_ n3_; clear hb ho19
   obtain ⟨Ao20, co20, eo20⟩ := Kd.R_slice Ze.out
   (first | subst eo20 | (injection eo20 with f1_ f2_ f3_; have f4_ := f1_.symm; have f5_ := f3_.symm; clear f1_ f2_ f3_; subst f4_; subst f5_))
   refine hK.out _ _ ⟨(blk_cell Za.out 0).trans rfl, (blk_cell Za.out 1).trans rfl⟩ (fun hHeld => ?_)
   clear hK K
   refine norm_ (a' := ?_) ?_ ?_
   rotate_left
   ·show Act.put _ (some 27) _ = _
    simp only [Act.put, zs, zz, zt, i64_w, i32_w]
    rfl
   refine one_ (i := 19) (N := some 28) #[true, true, true, true, true, true, true, true, true, true, true, true, true, true, true, true, true, true, true, true, false] rfl rfl (one_of HT_.out (by kernel_rfl)) (by decide) (fun K hK => ?_)
   refine goes_ Try.func13 (by kernel_rfl) rfl #[.slice Ao20 y301.length co20] (by rfl) rfl rfl zq ?_
   with_reducible refine (impl_first.calls _ _ y301 t304 _ ?side1 ?side2 A8.out).mono ?_
   (case side1 => exact zC ((Kd.R_reads' Ze.out).2.2))
   (case side2 => exact (Kd.R_reads' Ze.out).2.1)
   rintro e w' ⟨rfl, ⟨nd, rfl⟩⟩
   refine ⟨_, rfl, ?_⟩
   refine hK.out _ _ ⟨(blk_cell Za.out 0).trans rfl, (blk_cell Za.out 1).trans rfl⟩ (fun hHeld => ?_)
   clear hK K
   refine norm_ (a' := ?_) ?_ ?_
   rotate_left
   ·show Act.put _ (some 28) _ = _
    simp only [Act.put, zs, zz, zt, i64_w, i32_w]
    rfl
   refine pure_ (i := 20) (N := some 8) (v := ?_) (a' := ?_) #[true, true, true, true, true, true, true, true, true, true, true, true, true, true, true, true, true, true, true, true, true] rfl rfl (any_of HT_.out (by kernel_rfl)) (fun _ _ _ h => h) (Or.inl ⟨by rfl, ?_⟩) ?_ ?_
   rotate_left
   ·intro w'
    go_simp
    with_reducible rfl
   rotate_left
   ·simp only [Act.put, zs, zz, zt, i64_w, i32_w]
    rfl
   refine done_ (done_of HT_.out (by kernel_rfl)) ?_
   have hnb21 := Zf.out; have hnc21 := Zg.out
   obtain ⟨hcz22_0, hcz22_1, hfz22_0, hfz22_1⟩ := zb2 Za.out
   try go_wp2_with (first | ((with_reducible refine gate_callee (f := 24) rfl ?_); refine goesL_ (some 41) rfl rfl Try.func24 (by kernel_rfl) rfl #[.agg #[.slice A0_0 l0_0.length c0_0, .slice A0_1 l0_1.length c0_1]] rfl zq ?_; (with_reducible refine (impl_Disk_copied.calls _ _ l0_0 _ _ l0_1 t305 t308 _ ?side1 ?side2 ?side3 ?side4 A11.out).mono ?_); (case side1 => exact zC (Kd.C_below Zh.out (zg_4 HB.out Zc.out Zd.out))); (case side2 => exact Zi.out); (case side3 => exact zC (Kd.C_below Zj.out (zg_4 HB.out Zc.out Zd.out))); (case side4 => exact Zk.out); rintro e w23 ⟨v306, v309, rfl, ho0, ho1, hb⟩; refine ⟨_, rfl, ?_⟩; have n0_ := zm (Kd.R_below (zg_2 Ze.out) hb); have n1_ := zm (Kd.R_lower ho0 (below_size (zg_4 HB.out Zc.out Zd.out))); have n2_ := zm (Kd.R_lower ho1 (below_size (zg_4 HB.out Zc.out Zd.out))); have n3_ := zm (blk_below (g := gb295) (o := .cells #[.slice A0_0 l0_0.length c0_0, .slice A0_1 l0_1.length c0_1] 32 (0, 0)) (zg_3 Za.out) hb); have n4_ := zm (blk_below (g := gb296) (o := .cells #[.slice none 0 0, .slice none 0 0] 32 (0, 0)) (zg_3 Zb.out) hb); have n5_ := zm (below_step (zg_4 HB.out Zc.out Zd.out) hb); replace Ze := n0_; have Zn := n1_; have Zo := n2_; replace Za := n3_; replace Zb := n4_; replace HB := n5_; clear n0_ n1_ n2_ n3_ n4_ n5_; (try clear hb); (try clear hb2); (try clear hk); (try clear hi); (try clear ho0); (try clear ho1); obtain ⟨Ao24, co24, eo24⟩ := Kd.R_slice Zn.out; subst eo24; obtain ⟨hcz25_0, hcz25_1, hfz25_0, hfz25_1⟩ := zb2 Zb.out; obtain ⟨Ao26, co26, eo26⟩ := Kd.R_slice Zo.out; subst eo26))
   refine bodyPost_ret (results_ct rfl _ _ gb296 32 #[.slice Ao24 t305.length co24, .slice Ao26 t308.length co26] (0, 0) _ rfl (by (with_reducible repeat (first | refine blk_drewN ?_ _ | refine blk_drew ?_ | refine blk_alloc ?_ _)); refine blk_put (cs := #[.slice Ao24 t305.length co24, .slice none 0 0]) ?_ 1 _ rfl; (with_reducible repeat (first | refine blk_drewN ?_ _ | refine blk_drew ?_ | refine blk_alloc ?_ _)); refine blk_put (cs := #[.slice none 0 0, .slice none 0 0]) ?_ 0 _ rfl; (with_reducible repeat (first | refine blk_drewN ?_ _ | refine blk_drew ?_ | refine blk_alloc ?_ _)); exact Zb.out) Try.underlying32 rfl (by kernel_rfl)) rfl ?_
   exact ⟨_, _, ze, by (with_reducible repeat (first | apply Kd.R_alloc | apply Kd.R_drewN | apply Kd.R_drew)); exact Kd.R_mono (Kd.R_far (Kd.R_far (Kd.R_types Zn.out Zb.out (by decide)) (fun _ hk => hk.2) _) (fun _ hk => hk.2) _) (fun _ hk => trivial), by (with_reducible repeat (first | apply Kd.R_alloc | apply Kd.R_drewN | apply Kd.R_drew)); exact Kd.R_mono (Kd.R_far (Kd.R_far (Kd.R_types Zo.out Zb.out (by decide)) (fun _ hk => hk.2) _) (fun _ hk => hk.2) _) (fun _ hk => trivial), zg_4 HB.out Zc.out Zd.out⟩
  ·rw [if_neg c10] at H
   have c10b0 := decide_eq_false c10; clear c10; replace H := Option.bind_eq_some_iff.mp H
   obtain ⟨⟨t311, t314⟩, A270, H⟩ := H
   try dsimp only at H
   have A27 := zm A270; clear A270
   simp only [Option.some.injEq, Prod.mk.injEq] at H
   obtain ⟨rfl, rfl, rfl⟩ := H
   go_enter Try.func7, Try.ntmps7
   try go_wp2_with (first | ((with_reducible refine gate_dst (N := 3) rfl ?_); refine box_event ?hg (N := 3) ?hd (cs := #[.slice A0_0 l0_0.length c0_0, .slice A0_1 l0_1.length c0_1]) (t := 32) ?hr ?_; (case hd => rfl); (case hg => rfl); (case hr => first | (go_simp; done) | (go_simp; rfl)); intro gb295 hg w28 hbox hb; have n0_ := zm (below_step (zg_0 HB.out) hb); have n1_ := zm (hbox); have n2_ := zm ((by rw [hg]; exact (below_size (zg_0 HB.out)) : w.heap.size ≤ gb295)); have n3_ := zm ((by rw [hg]; exact (below_size (zg_0 HB.out)) : w.heap.size ≤ gb295)); replace HB := n0_; have Za := n1_; have Zl := n2_; have Zc := n3_; clear n0_ n1_ n2_ n3_; clear hb hbox hg) | ((with_reducible refine gate_dst (N := 6) rfl ?_); refine box_event ?hg (N := 6) ?hd (cs := #[.slice none 0 0, .slice none 0 0]) (t := 32) ?hr ?_; (case hd => rfl); (case hg => rfl); (case hr => first | (go_simp; done) | (go_simp; rfl)); intro gb296 hg w29 hbox hb; have n0_ := zm (blk_below (g := gb295) (o := .cells #[.slice A0_0 l0_0.length c0_0, .slice A0_1 l0_1.length c0_1] 32 (0, 0)) (zg_3 Za.out) hb); have n1_ := zm (below_step (zg_1 HB.out Zc.out) hb); have n2_ := zm (hbox); have n3_ := zm ((by rw [hg]; exact (below_size (zg_1 HB.out Zc.out)) : w.heap.size ≤ gb296)); have n4_ := zm ((by rw [hg]; exact (below_size (zg_1 HB.out Zc.out)) : w.heap.size ≤ gb296)); have n5_ := zm ((by rw [hg]; exact Nat.ne_of_lt (blk_lt (g := gb295) (o := .cells #[.slice A0_0 l0_0.length c0_0, .slice A0_1 l0_1.length c0_1] 32 (0, 0)) (zg_3 Za.out)) : gb295 ≠ gb296)); have n6_ := zm ((by rw [hg]; exact Nat.ne_of_gt (blk_lt (g := gb295) (o := .cells #[.slice A0_0 l0_0.length c0_0, .slice A0_1 l0_1.length c0_1] 32 (0, 0)) (zg_3 Za.out)) : gb296 ≠ gb295)); replace Za := n0_; replace HB := n1_; have Zb := n2_; have Zm := n3_; have Zd := n4_; have Zf := n5_; have Zg := n6_; clear n0_ n1_ n2_ n3_ n4_ n5_ n6_; clear hb hbox hg))
   have n0_ := zm (blk_drew Za.out); have n1_ := zm (blk_drew Zb.out); have n2_ := zm (below_drew1 HB.out); clear Za; clear Zb; clear HB; have Za := n0_; have Zb := n1_; have HB := n2_; clear n0_ n1_ n2_
   refine start_ (n := 21) (S := fun w' => w'.cell? ⟨gb295, 0, none⟩ = some (.slice A0_0 l0_0.length c0_0) ∧ w'.cell? ⟨gb295, 1, none⟩ = some (.slice A0_1 l0_1.length c0_1)) (ds := []) #[false, false, false, false, false, false, false, false, false, false, false, false, false, false, false, false, false, false, false, false, false] (by kernel_rfl) rfl rfl ⟨(blk_cell Za.out 0).trans rfl, (blk_cell Za.out 1).trans rfl⟩ (fun hHeld => ?_); refine with_tabW impl_MovesDo.tab1 impl_MovesDo.bits1 (fun HT_ HW_ => ?_)
   generalize w29.drew = w30 at Za Zb HB hHeld ⊢
   refine pure_ (i := 0) (N := some 9) (v := ?_) (a' := ?_) #[true, false, false, false, false, false, false, false, false, false, false, false, false, false, false, false, false, false, false, false, false] rfl rfl (any_of HT_.out (by kernel_rfl)) (fun _ _ _ h => h) (Or.inl ⟨by rfl, ?_⟩) ?_ ?_
   rotate_left
   ·intro w'
    go_simp
    with_reducible rfl
   rotate_left
   ·simp only [Act.put, zs, zz, zt, i64_w, i32_w]
    rfl
   refine pure_ (i := 3) (N := some 12) (v := ?_) (a' := ?_) #[true, false, false, true, false, false, false, false, false, false, false, false, false, false, false, false, false, false, false, false, false] rfl rfl (any_of HT_.out (by kernel_rfl)) (fun _ _ _ h => h) (Or.inl ⟨by rfl, ?_⟩) ?_ ?_
   rotate_left
   ·intro w'
    go_simp
    with_reducible rfl
   rotate_left
   ·simp only [Act.put, zs, zz, zt, i64_w, i32_w]
    rfl
   refine pure_ (i := 5) (N := some 14) (v := ?_) (a' := ?_) #[true, false, false, true, false, true, false, false, false, false, false, false, false, false, false, false, false, false, false, false, false] rfl rfl (any_of HT_.out (by kernel_rfl)) (fun _ _ _ h => h) (Or.inl ⟨by rfl, ?_⟩) ?_ ?_
   rotate_left
   ·intro w'
    go_simp
    with_reducible rfl
   rotate_left
   ·simp only [Act.put, zs, zz, zt, i64_w, i32_w]
    rfl
   refine pure_ (i := 10) (N := some 19) (v := ?_) (a' := ?_) #[true, false, false, true, false, true, false, false, false, false, true, false, false, false, false, false, false, false, false, false, false] rfl rfl (any_of HT_.out (by kernel_rfl)) (fun _ _ _ h => h) (Or.inl ⟨by rfl, ?_⟩) ?_ ?_
   rotate_left
   ·intro w'
    go_simp
    with_reducible rfl
   rotate_left
   ·simp only [Act.put, zs, zz, zt, i64_w, i32_w]
    rfl
   refine pure_ (i := 13) (N := some 22) (v := ?_) (a' := ?_) #[true, false, false, true, false, true, false, false, false, false, true, false, false, true, false, false, false, false, false, false, false] rfl rfl (any_of HT_.out (by kernel_rfl)) (fun _ _ _ h => h) (Or.inl ⟨by rfl, ?_⟩) ?_ ?_
   rotate_left
   ·intro w'
    go_simp
    with_reducible rfl
   rotate_left
   ·simp only [Act.put, zs, zz, zt, i64_w, i32_w]
    rfl
   refine pure_ (i := 17) (N := some 26) (v := ?_) (a' := ?_) #[true, false, false, true, false, true, false, false, false, false, true, false, false, true, false, false, false, true, false, false, false] rfl rfl (any_of HT_.out (by kernel_rfl)) (fun _ _ _ h => h) (Or.inl ⟨by rfl, ?_⟩) ?_ ?_
   rotate_left
   ·intro w'
    go_simp
    with_reducible rfl
   rotate_left
   ·simp only [Act.put, zs, zz, zt, i64_w, i32_w]
    rfl
   refine take_ (i := 4) (N := some 13) (v := ?_) (a' := ?_) #[true, false, false, true, true, true, false, false, false, false, true, false, false, true, false, false, false, true, false, false, false] rfl rfl (take_ofW HT_.out HW_.out (by kernel_rfl)) (fun _ _ _ h => h) (Or.inl ⟨by rfl, ?_⟩) hHeld ?_ ?_
   rotate_left
   ·rintro w' ⟨s0, s1⟩
    go_simp
    with_reducible rfl
   rotate_left
   ·simp only [Act.put, zs, zz, zt, i64_w, i32_w]
    rfl
   refine take_ (i := 9) (N := some 18) (v := ?_) (a' := ?_) #[true, false, false, true, true, true, false, false, false, true, true, false, false, true, false, false, false, true, false, false, false] rfl rfl (take_ofW HT_.out HW_.out (by kernel_rfl)) (fun _ _ _ h => h) (Or.inl ⟨by rfl, ?_⟩) hHeld ?_ ?_
   rotate_left
   ·rintro w' ⟨s0, s1⟩
    go_simp
    with_reducible rfl
   rotate_left
   ·simp only [Act.put, zs, zz, zt, i64_w, i32_w]
    rfl
   refine one_ (i := 1) (N := some 10) #[true, true, false, true, true, true, false, false, false, true, true, false, false, true, false, false, false, true, false, false, false] rfl rfl (one_of HT_.out (by kernel_rfl)) (by decide) (fun K hK => ?_)
   refine goes_ Try.func20 (by kernel_rfl) rfl #[.slice A2 l2.length c2] (by rfl) rfl rfl zq ?_
   with_reducible refine (impl_Move_20.calls _ _ l2 t297 _ ?side1 ?side2 A4.out).mono ?_
   (case side1 => exact zC (Kd.C_below HR2.out HB.out))
   (case side2 => exact HC2.out)
   rintro e w' ⟨rfl, ⟨nd, rfl⟩⟩
   refine ⟨_, rfl, ?_⟩
   refine hK.out _ _ ⟨(blk_cell Za.out 0).trans rfl, (blk_cell Za.out 1).trans rfl⟩ (fun hHeld => ?_)
   clear hK K
   refine norm_ (a' := ?_) ?_ ?_
   rotate_left
   ·show Act.put _ (some 10) _ = _
    simp only [Act.put, zs, zz, zt, i64_w, i32_w]
    rfl
   refine pure_ (i := 2) (N := some 11) (v := ?_) (a' := ?_) #[true, true, true, true, true, true, false, false, false, true, true, false, false, true, false, false, false, true, false, false, false] rfl rfl (any_of HT_.out (by kernel_rfl)) (fun _ _ _ h => h) (Or.inl ⟨by rfl, ?_⟩) ?_ ?_
   rotate_left
   ·intro w'
    go_simp
    with_reducible rfl
   rotate_left
   ·simp only [Act.put, zs, zz, zt, i64_w, i32_w]
    rfl
   refine one_ (i := 6) (N := some 15) #[true, true, true, true, true, true, true, false, false, true, true, false, false, true, false, false, false, true, false, false, false] rfl rfl (one_of HT_.out (by kernel_rfl)) (by decide) (fun K hK => ?_)
   refine goes_ Try.func21 (by kernel_rfl) rfl #[.agg #[.slice A0_0 l0_0.length c0_0, .slice A0_1 l0_1.length c0_1], .int .i64 a1] (by rfl) rfl rfl zq ?_
   with_reducible refine (impl_Disk_codes.calls _ _ l0_0 _ _ l0_1 a1 t298 _ ?side1 ?side2 ?side3 ?side4 A5.out).mono ?_
   (case side1 => exact zC (Kd.C_below Zh.out (zg_4 HB.out Zc.out Zd.out)))
   (case side2 => exact Zi.out)
   (case side3 => exact zC (Kd.C_below Zj.out (zg_4 HB.out Zc.out Zd.out)))
   (case side4 => exact Zk.out)
   rintro e w31 ⟨rfl, hb⟩
   refine ⟨_, rfl, ?_⟩
   have n0_ := zm (blk_below (g := gb295) (o := .cells #[.slice A0_0 l0_0.length c0_0, .slice A0_1 l0_1.length c0_1] 32 (0, 0)) (zg_3 Za.out) hb); have n1_ := zm (blk_below (g := gb296) (o := .cells #[.slice none 0 0, .slice none 0 0] 32 (0, 0)) (zg_3 Zb.out) hb); have n2_ := zm (below_step (zg_4 HB.out Zc.out Zd.out) hb); clear Za; clear Zb; clear HB; have Za := n0_; have Zb := n1_; have HB := n2_; clear n0_ n1_ n2_
   (try clear hb)
   (try clear hb2)
   (try clear hk)
   (try clear hi)
   refine hK.out _ _ ⟨(blk_cell Za.out 0).trans rfl, (blk_cell Za.out 1).trans rfl⟩ (fun hHeld => ?_)
   clear hK K
   refine norm_ (a' := ?_) ?_ ?_
   rotate_left
   ·show Act.put _ (some 15) _ = _
    simp only [Act.put, zs, zz, zt, i64_w, i32_w]
    rfl
   refine pure_ (i := 7) (N := some 16) (v := ?_) (a' := ?_) #[true, true, true, true, true, true, true, true, false, true, true, false, false, true, false, false, false, true, false, false, false] rfl rfl (any_of HT_.out (by kernel_rfl)) (fun _ _ _ h => h) (Or.inl ⟨by rfl, ?_⟩) ?_ ?_
   rotate_left
   ·intro w'
    go_simp
    with_reducible rfl
   rotate_left
   ·simp only [Act.put, zs, zz, zt, i64_w, i32_w]
    rfl
   refine pure_ (i := 8) (N := some 17) (v := ?_) (a' := ?_) #[true, true, true, true, true, true, true, true, true, true, true, false, false, true, false, false, false, true, false, false, false] rfl rfl (any_of HT_.out (by kernel_rfl)) (fun _ _ _ h => h) (Or.inl ⟨by rfl, ?_⟩) ?_ ?_
   rotate_left
   ·intro w'
    go_simp
    with_reducible rfl
   rotate_left
   ·simp only [Act.put, zs, zz, zt, i64_w, i32_w]
    rfl
   refine one_ (i := 11) (N := some 20) #[true, true, true, true, true, true, true, true, true, true, true, true, false, true, false, false, false, true, false, false, false] rfl rfl (one_of HT_.out (by kernel_rfl)) (by decide) (fun K hK => ?_)
   refine goes_ Try.func21 (by kernel_rfl) rfl #[.agg #[.slice A0_0 l0_0.length c0_0, .slice A0_1 l0_1.length c0_1], .int .i64 a1] (by rfl) rfl rfl zq ?_
   with_reducible refine (impl_Disk_codes.calls _ _ l0_0 _ _ l0_1 a1 t299 _ ?side1 ?side2 ?side3 ?side4 A6.out).mono ?_
   (case side1 => exact zC (Kd.C_below Zh.out HB.out))
   (case side2 => exact Zi.out)
   (case side3 => exact zC (Kd.C_below Zj.out HB.out))
   (case side4 => exact Zk.out)
   rintro e w32 ⟨rfl, hb⟩
   refine ⟨_, rfl, ?_⟩
   have n0_ := zm (blk_below (g := gb295) (o := .cells #[.slice A0_0 l0_0.length c0_0, .slice A0_1 l0_1.length c0_1] 32 (0, 0)) (zg_3 Za.out) hb); have n1_ := zm (blk_below (g := gb296) (o := .cells #[.slice none 0 0, .slice none 0 0] 32 (0, 0)) (zg_3 Zb.out) hb); have n2_ := zm (below_step (zg_4 HB.out Zc.out Zd.out) hb); clear Za; clear Zb; clear HB; have Za := n0_; have Zb := n1_; have HB := n2_; clear n0_ n1_ n2_
   (try clear hb)
   (try clear hb2)
   (try clear hk)
   (try clear hi)
   refine hK.out _ _ ⟨(blk_cell Za.out 0).trans rfl, (blk_cell Za.out 1).trans rfl⟩ (fun hHeld => ?_)
   clear hK K
   refine norm_ (a' := ?_) ?_ ?_
   rotate_left
   ·show Act.put _ (some 20) _ = _
    simp only [Act.put, zs, zz, zt, i64_w, i32_w]
    rfl
   refine pure_ (i := 12) (N := some 21) (v := ?_) (a' := ?_) #[true, true, true, true, true, true, true, true, true, true, true, true, true, true, false, false, false, true, false, false, false] rfl rfl (any_of HT_.out (by kernel_rfl)) (fun _ _ _ h => h) (Or.inl ⟨by rfl, ?_⟩) ?_ ?_
   rotate_left
   ·intro w'
    go_simp
    with_reducible rfl
   rotate_left
   ·simp only [Act.put, zs, zz, zt, i64_w, i32_w]
    rfl
   refine one_ (i := 14) (N := some 23) #[true, true, true, true, true, true, true, true, true, true, true, true, true, true, true, false, false, true, false, false, false] rfl rfl (one_of HT_.out (by kernel_rfl)) (by decide) (fun K hK => ?_)
   refine goes_ Try.func22 (by kernel_rfl) rfl #[.slice A2 l2.length c2, .func (.func 23) #[] #[]] (by rfl) rfl rfl zq ?_
   with_reducible refine (all22_impl_moveOK.calls _ _ l2 () t300 _ ?side1 ?side2 A7.out).mono ?_
   (case side1 => exact zC (Kd.C_below HR2.out HB.out))
   (case side2 => exact HC2.out)
   rintro e w33 ⟨rfl, hb⟩
   refine ⟨_, rfl, ?_⟩
   have n0_ := zm (blk_below (g := gb295) (o := .cells #[.slice A0_0 l0_0.length c0_0, .slice A0_1 l0_1.length c0_1] 32 (0, 0)) (zg_3 Za.out) hb); have n1_ := zm (blk_below (g := gb296) (o := .cells #[.slice none 0 0, .slice none 0 0] 32 (0, 0)) (zg_3 Zb.out) hb); have n2_ := zm (below_step (zg_4 HB.out Zc.out Zd.out) hb); clear Za; clear Zb; clear HB; have Za := n0_; have Zb := n1_; have HB := n2_; clear n0_ n1_ n2_
   (try clear hb)
   (try clear hb2)
   (try clear hk)
   (try clear hi)
   refine hK.out _ _ ⟨(blk_cell Za.out 0).trans rfl, (blk_cell Za.out 1).trans rfl⟩ (fun hHeld => ?_)
   clear hK K
   refine norm_ (a' := ?_) ?_ ?_
   rotate_left
   ·show Act.put _ (some 23) _ = _
    simp only [Act.put, zs, zz, zt, i64_w, i32_w]
    rfl
   refine pure_ (i := 15) (N := some 24) (v := ?_) (a' := ?_) #[true, true, true, true, true, true, true, true, true, true, true, true, true, true, true, true, false, true, false, false, false] rfl rfl (any_of HT_.out (by kernel_rfl)) (fun _ _ _ h => h) (Or.inl ⟨by rfl, ?_⟩) ?_ ?_
   rotate_left
   ·intro w'
    go_simp
    with_reducible rfl
   rotate_left
   ·simp only [Act.put, zs, zz, zt, i64_w, i32_w]
    rfl
   refine pure_ (i := 16) (N := some 25) (v := ?_) (a' := ?_) #[true, true, true, true, true, true, true, true, true, true, true, true, true, true, true, true, true, true, false, false, false] rfl rfl (any_of HT_.out (by kernel_rfl)) (fun _ _ _ h => h) (Or.inl ⟨by rfl, ?_⟩) ?_ ?_
   rotate_left
   ·intro w'
    go_simp
    with_reducible rfl
   rotate_left
   ·simp only [Act.put, zs, zz, zt, i64_w, i32_w]
    rfl
   refine one_ (i := 18) (N := some 27) #[true, true, true, true, true, true, true, true, true, true, true, true, true, true, true, true, true, true, true, false, false] rfl rfl (one_of HT_.out (by kernel_rfl)) (by decide) (fun K hK => ?_)
   refine Kd.R_lit_step kAny _ 20 ?hg (N := 27) ?hd (xs := ([Any.b t297, Any.n 2, Any.b (t298 != 0), Any.n t299, Any.b (!t300), Any.n 1] : List Any)) (inner := [.iface 4 (.bool t297), .iface 3 (.int .i64 2), .iface 4 (.bool (t298 != 0)), .iface 3 (.int .i64 t299), .iface 4 (.bool (!t300)), .iface 3 (.int .i64 1)]) (ok := fun _ => True) (okp := fun _ => True) ?hr ?hp (fun _ hk => hk) trivial (Below.refl _ _) (Nat.le_refl _) (by simp) ?_; (case hd => rfl); (case hg => rfl); (case hr => first | (go_simp; done) | (go_simp; rfl)); (case hp => exact (Reps.one (show Kd.M kAny _ _ _ (Any.b t297) [.iface 4 (.bool t297)] from rfl) (Reps.one (show Kd.M kAny _ _ _ (Any.n 2) [.iface 3 (.int .i64 2)] from rfl) (Reps.one (show Kd.M kAny _ _ _ (Any.b (t298 != 0)) [.iface 4 (.bool (t298 != 0))] from rfl) (Reps.one (show Kd.M kAny _ _ _ (Any.n t299) [.iface 3 (.int .i64 t299)] from rfl) (Reps.one (show Kd.M kAny _ _ _ (Any.b (!t300)) [.iface 4 (.bool (!t300))] from rfl) (Reps.one (show Kd.M kAny _ _ _ (Any.n 1) [.iface 3 (.int .i64 1)] from rfl) (Reps.none _ _))))))))
   intro v302 w34 ho35 hb hg_ hnew_
   clear hg_ hnew_
   (first | rw [← Ny301.out] at ho35 | (simp only [Int.reduceToNat] at ho35; rw [← Ny301.out] at ho35))
   have n0_ := zm (Kd.R_lower ho35 (below_size (zg_4 HB.out Zc.out Zd.out))); have n1_ := zm (blk_below (g := gb295) (o := .cells #[.slice A0_0 l0_0.length c0_0, .slice A0_1 l0_1.length c0_1] 32 (0, 0)) (zg_3 Za.out) hb); have n2_ := zm (blk_below (g := gb296) (o := .cells #[.slice none 0 0, .slice none 0 0] 32 (0, 0)) (zg_3 Zb.out) hb); have n3_ := zm (below_step (zg_4 HB.out Zc.out Zd.out) hb); clear Za; clear Zb; clear HB; have Ze := n0_; have Za := n1_; have Zb := n2_; have HB := n3_; clear n0_ n1_ n2_ n3_; clear hb ho35
   obtain ⟨Ao36, co36, eo36⟩ := Kd.R_slice Ze.out
   (first | subst eo36 | (injection eo36 with f1_ f2_ f3_; have f4_ := f1_.symm; have f5_ := f3_.symm; clear f1_ f2_ f3_; subst f4_; subst f5_))
   refine hK.out _ _ ⟨(blk_cell Za.out 0).trans rfl, (blk_cell Za.out 1).trans rfl⟩ (fun hHeld => ?_)
   clear hK K
   refine norm_ (a' := ?_) ?_ ?_
   rotate_left
   ·show Act.put _ (some 27) _ = _
    simp only [Act.put, zs, zz, zt, i64_w, i32_w]
    rfl
   refine one_ (i := 19) (N := some 28) #[true, true, true, true, true, true, true, true, true, true, true, true, true, true, true, true, true, true, true, true, false] rfl rfl (one_of HT_.out (by kernel_rfl)) (by decide) (fun K hK => ?_)
   refine goes_ Try.func13 (by kernel_rfl) rfl #[.slice Ao36 y301.length co36] (by rfl) rfl rfl zq ?_
   with_reducible refine (impl_first.calls _ _ y301 t304 _ ?side1 ?side2 A8.out).mono ?_
   (case side1 => exact zC ((Kd.R_reads' Ze.out).2.2))
   (case side2 => exact (Kd.R_reads' Ze.out).2.1)
   rintro e w' ⟨rfl, ⟨nd, rfl⟩⟩
   refine ⟨_, rfl, ?_⟩
   refine hK.out _ _ ⟨(blk_cell Za.out 0).trans rfl, (blk_cell Za.out 1).trans rfl⟩ (fun hHeld => ?_)
   clear hK K
   refine norm_ (a' := ?_) ?_ ?_
   rotate_left
   ·show Act.put _ (some 28) _ = _
    simp only [Act.put, zs, zz, zt, i64_w, i32_w]
    rfl
   refine pure_ (i := 20) (N := some 8) (v := ?_) (a' := ?_) #[true, true, true, true, true, true, true, true, true, true, true, true, true, true, true, true, true, true, true, true, true] rfl rfl (any_of HT_.out (by kernel_rfl)) (fun _ _ _ h => h) (Or.inl ⟨by rfl, ?_⟩) ?_ ?_
   rotate_left
   ·intro w'
    go_simp
    with_reducible rfl
   rotate_left
   ·simp only [Act.put, zs, zz, zt, i64_w, i32_w]
    rfl
   refine done_ (done_of HT_.out (by kernel_rfl)) ?_
   have hnb37 := Zf.out; have hnc37 := Zg.out
   obtain ⟨hcz38_0, hcz38_1, hfz38_0, hfz38_1⟩ := zb2 Za.out
   try go_wp2_with (first | ((with_reducible refine gate_callee (f := 25) rfl ?_); refine goesL_ (some 45) rfl rfl Try.func25 (by kernel_rfl) rfl #[.agg #[.slice A0_0 l0_0.length c0_0, .slice A0_1 l0_1.length c0_1], .int .i64 a1, .slice A2 l2.length c2] rfl zq ?_; (with_reducible refine (impl_Disk_moved.calls k _ _ l0_0 _ _ l0_1 a1 _ _ l2 t311 t314 _ ?side1 ?side2 ?side3 ?side4 ?side5 ?side6 A27.out).mono ?_); (case side1 => exact zC (Kd.C_below Zh.out (zg_4 HB.out Zc.out Zd.out))); (case side2 => exact Zi.out); (case side3 => exact zC (Kd.C_below Zj.out (zg_4 HB.out Zc.out Zd.out))); (case side4 => exact Zk.out); (case side5 => exact zC (Kd.C_below HR2.out (zg_4 HB.out Zc.out Zd.out))); (case side6 => exact HC2.out); rintro e w39 ⟨v312, v315, rfl, ho0, ho1, hb⟩; refine ⟨_, rfl, ?_⟩; have n0_ := zm (Kd.R_below (zg_2 Ze.out) hb); have n1_ := zm (Kd.R_lower ho0 (below_size (zg_4 HB.out Zc.out Zd.out))); have n2_ := zm (Kd.R_lower ho1 (below_size (zg_4 HB.out Zc.out Zd.out))); have n3_ := zm (blk_below (g := gb295) (o := .cells #[.slice A0_0 l0_0.length c0_0, .slice A0_1 l0_1.length c0_1] 32 (0, 0)) (zg_3 Za.out) hb); have n4_ := zm (blk_below (g := gb296) (o := .cells #[.slice none 0 0, .slice none 0 0] 32 (0, 0)) (zg_3 Zb.out) hb); have n5_ := zm (below_step (zg_4 HB.out Zc.out Zd.out) hb); replace Ze := n0_; have Zp := n1_; have Zq := n2_; replace Za := n3_; replace Zb := n4_; replace HB := n5_; clear n0_ n1_ n2_ n3_ n4_ n5_; (try clear hb); (try clear hb2); (try clear hk); (try clear hi); (try clear ho0); (try clear ho1); obtain ⟨Ao40, co40, eo40⟩ := Kd.R_slice Zp.out; subst eo40; obtain ⟨hcz41_0, hcz41_1, hfz41_0, hfz41_1⟩ := zb2 Zb.out; obtain ⟨Ao42, co42, eo42⟩ := Kd.R_slice Zq.out; subst eo42))
   refine bodyPost_ret (results_ct rfl _ _ gb296 32 #[.slice Ao40 t311.length co40, .slice Ao42 t314.length co42] (0, 0) _ rfl (by (with_reducible repeat (first | refine blk_drewN ?_ _ | refine blk_drew ?_ | refine blk_alloc ?_ _)); refine blk_put (cs := #[.slice Ao40 t311.length co40, .slice none 0 0]) ?_ 1 _ rfl; (with_reducible repeat (first | refine blk_drewN ?_ _ | refine blk_drew ?_ | refine blk_alloc ?_ _)); refine blk_put (cs := #[.slice none 0 0, .slice none 0 0]) ?_ 0 _ rfl; (with_reducible repeat (first | refine blk_drewN ?_ _ | refine blk_drew ?_ | refine blk_alloc ?_ _)); exact Zb.out) Try.underlying32 rfl (by kernel_rfl)) rfl ?_
   exact ⟨_, _, ze, by (with_reducible repeat (first | apply Kd.R_alloc | apply Kd.R_drewN | apply Kd.R_drew)); exact Kd.R_mono (Kd.R_far (Kd.R_far (Kd.R_types Zp.out Zb.out (by decide)) (fun _ hk => hk.2) _) (fun _ hk => hk.2) _) (fun _ hk => trivial), by (with_reducible repeat (first | apply Kd.R_alloc | apply Kd.R_drewN | apply Kd.R_drew)); exact Kd.R_mono (Kd.R_far (Kd.R_far (Kd.R_types Zq.out Zb.out (by decide)) (fun _ hk => hk.2) _) (fun _ hk => hk.2) _) (fun _ hk => trivial), zg_4 HB.out Zc.out Zd.out⟩
 ·rw [if_neg c9] at H
  have c9b0 : (t304 == 0) = false := beq_eq_false_iff_ne.mpr c9
  have c9b1 : (t304 != 0) = true := bne_iff_ne.mpr c9
  simp only [Option.some.injEq, Prod.mk.injEq] at H
  obtain ⟨rfl, rfl, rfl⟩ := H
  go_enter Try.func7, Try.ntmps7
  try go_wp2_with (first | ((with_reducible refine gate_dst (N := 3) rfl ?_); refine box_event ?hg (N := 3) ?hd (cs := #[.slice A0_0 l0_0.length c0_0, .slice A0_1 l0_1.length c0_1]) (t := 32) ?hr ?_; (case hd => rfl); (case hg => rfl); (case hr => first | (go_simp; done) | (go_simp; rfl)); intro gb295 hg w43 hbox hb; have n0_ := zm (below_step (zg_0 HB.out) hb); have n1_ := zm (hbox); have n2_ := zm ((by rw [hg]; exact (below_size (zg_0 HB.out)) : w.heap.size ≤ gb295)); have n3_ := zm ((by rw [hg]; exact (below_size (zg_0 HB.out)) : w.heap.size ≤ gb295)); replace HB := n0_; have Za := n1_; have Zl := n2_; have Zc := n3_; clear n0_ n1_ n2_ n3_; clear hb hbox hg) | ((with_reducible refine gate_dst (N := 6) rfl ?_); refine box_event ?hg (N := 6) ?hd (cs := #[.slice none 0 0, .slice none 0 0]) (t := 32) ?hr ?_; (case hd => rfl); (case hg => rfl); (case hr => first | (go_simp; done) | (go_simp; rfl)); intro gb296 hg w44 hbox hb; have n0_ := zm (blk_below (g := gb295) (o := .cells #[.slice A0_0 l0_0.length c0_0, .slice A0_1 l0_1.length c0_1] 32 (0, 0)) (zg_3 Za.out) hb); have n1_ := zm (below_step (zg_1 HB.out Zc.out) hb); have n2_ := zm (hbox); have n3_ := zm ((by rw [hg]; exact (below_size (zg_1 HB.out Zc.out)) : w.heap.size ≤ gb296)); have n4_ := zm ((by rw [hg]; exact (below_size (zg_1 HB.out Zc.out)) : w.heap.size ≤ gb296)); have n5_ := zm ((by rw [hg]; exact Nat.ne_of_lt (blk_lt (g := gb295) (o := .cells #[.slice A0_0 l0_0.length c0_0, .slice A0_1 l0_1.length c0_1] 32 (0, 0)) (zg_3 Za.out)) : gb295 ≠ gb296)); have n6_ := zm ((by rw [hg]; exact Nat.ne_of_gt (blk_lt (g := gb295) (o := .cells #[.slice A0_0 l0_0.length c0_0, .slice A0_1 l0_1.length c0_1] 32 (0, 0)) (zg_3 Za.out)) : gb296 ≠ gb295)); replace Za := n0_; replace HB := n1_; have Zb := n2_; have Zm := n3_; have Zd := n4_; have Zf := n5_; have Zg := n6_; clear n0_ n1_ n2_ n3_ n4_ n5_ n6_; clear hb hbox hg))
  have n0_ := zm (blk_drew Za.out); have n1_ := zm (blk_drew Zb.out); have n2_ := zm (below_drew1 HB.out); clear Za; clear Zb; clear HB; have Za := n0_; have Zb := n1_; have HB := n2_; clear n0_ n1_ n2_
  refine start_ (n := 21) (S := fun w' => w'.cell? ⟨gb295, 0, none⟩ = some (.slice A0_0 l0_0.length c0_0) ∧ w'.cell? ⟨gb295, 1, none⟩ = some (.slice A0_1 l0_1.length c0_1)) (ds := []) #[false, false, false, false, false, false, false, false, false, false, false, false, false, false, false, false, false, false, false, false, false] (by kernel_rfl) rfl rfl ⟨(blk_cell Za.out 0).trans rfl, (blk_cell Za.out 1).trans rfl⟩ (fun hHeld => ?_); refine with_tabW impl_MovesDo.tab1 impl_MovesDo.bits1 (fun HT_ HW_ => ?_)
  generalize w44.drew = w45 at Za Zb HB hHeld ⊢
  refine pure_ (i := 0) (N := some 9) (v := ?_) (a' := ?_) #[true, false, false, false, false, false, false, false, false, false, false, false, false, false, false, false, false, false, false, false, false] rfl rfl (any_of HT_.out (by kernel_rfl)) (fun _ _ _ h => h) (Or.inl ⟨by rfl, ?_⟩) ?_ ?_
  rotate_left
  ·intro w'
   go_simp
   with_reducible rfl
  rotate_left
  ·simp only [Act.put, zs, zz, zt, i64_w, i32_w]
   rfl
  refine pure_ (i := 3) (N := some 12) (v := ?_) (a' := ?_) #[true, false, false, true, false, false, false, false, false, false, false, false, false, false, false, false, false, false, false, false, false] rfl rfl (any_of HT_.out (by kernel_rfl)) (fun _ _ _ h => h) (Or.inl ⟨by rfl, ?_⟩) ?_ ?_
  rotate_left
  ·intro w'
   go_simp
   with_reducible rfl
  rotate_left
  ·simp only [Act.put, zs, zz, zt, i64_w, i32_w]
   rfl
  refine pure_ (i := 5) (N := some 14) (v := ?_) (a' := ?_) #[true, false, false, true, false, true, false, false, false, false, false, false, false, false, false, false, false, false, false, false, false] rfl rfl (any_of HT_.out (by kernel_rfl)) (fun _ _ _ h => h) (Or.inl ⟨by rfl, ?_⟩) ?_ ?_
  rotate_left
  ·intro w'
   go_simp
   with_reducible rfl
  rotate_left
  ·simp only [Act.put, zs, zz, zt, i64_w, i32_w]
   rfl
  refine pure_ (i := 10) (N := some 19) (v := ?_) (a' := ?_) #[true, false, false, true, false, true, false, false, false, false, true, false, false, false, false, false, false, false, false, false, false] rfl rfl (any_of HT_.out (by kernel_rfl)) (fun _ _ _ h => h) (Or.inl ⟨by rfl, ?_⟩) ?_ ?_
  rotate_left
  ·intro w'
   go_simp
   with_reducible rfl
  rotate_left
  ·simp only [Act.put, zs, zz, zt, i64_w, i32_w]
   rfl
  refine pure_ (i := 13) (N := some 22) (v := ?_) (a' := ?_) #[true, false, false, true, false, true, false, false, false, false, true, false, false, true, false, false, false, false, false, false, false] rfl rfl (any_of HT_.out (by kernel_rfl)) (fun _ _ _ h => h) (Or.inl ⟨by rfl, ?_⟩) ?_ ?_
  rotate_left
  ·intro w'
   go_simp
   with_reducible rfl
  rotate_left
  ·simp only [Act.put, zs, zz, zt, i64_w, i32_w]
   rfl
  refine pure_ (i := 17) (N := some 26) (v := ?_) (a' := ?_) #[true, false, false, true, false, true, false, false, false, false, true, false, false, true, false, false, false, true, false, false, false] rfl rfl (any_of HT_.out (by kernel_rfl)) (fun _ _ _ h => h) (Or.inl ⟨by rfl, ?_⟩) ?_ ?_
  rotate_left
  ·intro w'
   go_simp
   with_reducible rfl
  rotate_left
  ·simp only [Act.put, zs, zz, zt, i64_w, i32_w]
   rfl
  refine take_ (i := 4) (N := some 13) (v := ?_) (a' := ?_) #[true, false, false, true, true, true, false, false, false, false, true, false, false, true, false, false, false, true, false, false, false] rfl rfl (take_ofW HT_.out HW_.out (by kernel_rfl)) (fun _ _ _ h => h) (Or.inl ⟨by rfl, ?_⟩) hHeld ?_ ?_
  rotate_left
  ·rintro w' ⟨s0, s1⟩
   go_simp
   with_reducible rfl
  rotate_left
  ·simp only [Act.put, zs, zz, zt, i64_w, i32_w]
   rfl
  refine take_ (i := 9) (N := some 18) (v := ?_) (a' := ?_) #[true, false, false, true, true, true, false, false, false, true, true, false, false, true, false, false, false, true, false, false, false] rfl rfl (take_ofW HT_.out HW_.out (by kernel_rfl)) (fun _ _ _ h => h) (Or.inl ⟨by rfl, ?_⟩) hHeld ?_ ?_
  rotate_left
  ·rintro w' ⟨s0, s1⟩
   go_simp
   with_reducible rfl
  rotate_left
  ·simp only [Act.put, zs, zz, zt, i64_w, i32_w]
   rfl
  refine one_ (i := 1) (N := some 10) #[true, true, false, true, true, true, false, false, false, true, true, false, false, true, false, false, false, true, false, false, false] rfl rfl (one_of HT_.out (by kernel_rfl)) (by decide) (fun K hK => ?_)
  refine goes_ Try.func20 (by kernel_rfl) rfl #[.slice A2 l2.length c2] (by rfl) rfl rfl zq ?_
  with_reducible refine (impl_Move_20.calls _ _ l2 t297 _ ?side1 ?side2 A4.out).mono ?_
  (case side1 => exact zC (Kd.C_below HR2.out HB.out))
  (case side2 => exact HC2.out)
  rintro e w' ⟨rfl, ⟨nd, rfl⟩⟩
  refine ⟨_, rfl, ?_⟩
  refine hK.out _ _ ⟨(blk_cell Za.out 0).trans rfl, (blk_cell Za.out 1).trans rfl⟩ (fun hHeld => ?_)
  clear hK K
  refine norm_ (a' := ?_) ?_ ?_
  rotate_left
  ·show Act.put _ (some 10) _ = _
   simp only [Act.put, zs, zz, zt, i64_w, i32_w]
   rfl
  refine pure_ (i := 2) (N := some 11) (v := ?_) (a' := ?_) #[true, true, true, true, true, true, false, false, false, true, true, false, false, true, false, false, false, true, false, false, false] rfl rfl (any_of HT_.out (by kernel_rfl)) (fun _ _ _ h => h) (Or.inl ⟨by rfl, ?_⟩) ?_ ?_
  rotate_left
  ·intro w'
   go_simp
   with_reducible rfl
  rotate_left
  ·simp only [Act.put, zs, zz, zt, i64_w, i32_w]
   rfl
  refine one_ (i := 6) (N := some 15) #[true, true, true, true, true, true, true, false, false, true, true, false, false, true, false, false, false, true, false, false, false] rfl rfl (one_of HT_.out (by kernel_rfl)) (by decide) (fun K hK => ?_)
  refine goes_ Try.func21 (by kernel_rfl) rfl #[.agg #[.slice A0_0 l0_0.length c0_0, .slice A0_1 l0_1.length c0_1], .int .i64 a1] (by rfl) rfl rfl zq ?_
  with_reducible refine (impl_Disk_codes.calls _ _ l0_0 _ _ l0_1 a1 t298 _ ?side1 ?side2 ?side3 ?side4 A5.out).mono ?_
  (case side1 => exact zC (Kd.C_below Zh.out (zg_4 HB.out Zc.out Zd.out)))
  (case side2 => exact Zi.out)
  (case side3 => exact zC (Kd.C_below Zj.out (zg_4 HB.out Zc.out Zd.out)))
  (case side4 => exact Zk.out)
  rintro e w46 ⟨rfl, hb⟩
  refine ⟨_, rfl, ?_⟩
  have n0_ := zm (blk_below (g := gb295) (o := .cells #[.slice A0_0 l0_0.length c0_0, .slice A0_1 l0_1.length c0_1] 32 (0, 0)) (zg_3 Za.out) hb); have n1_ := zm (blk_below (g := gb296) (o := .cells #[.slice none 0 0, .slice none 0 0] 32 (0, 0)) (zg_3 Zb.out) hb); have n2_ := zm (below_step (zg_4 HB.out Zc.out Zd.out) hb); clear Za; clear Zb; clear HB; have Za := n0_; have Zb := n1_; have HB := n2_; clear n0_ n1_ n2_
  (try clear hb)
  (try clear hb2)
  (try clear hk)
  (try clear hi)
  refine hK.out _ _ ⟨(blk_cell Za.out 0).trans rfl, (blk_cell Za.out 1).trans rfl⟩ (fun hHeld => ?_)
  clear hK K
  refine norm_ (a' := ?_) ?_ ?_
  rotate_left
  ·show Act.put _ (some 15) _ = _
   simp only [Act.put, zs, zz, zt, i64_w, i32_w]
   rfl
  refine pure_ (i := 7) (N := some 16) (v := ?_) (a' := ?_) #[true, true, true, true, true, true, true, true, false, true, true, false, false, true, false, false, false, true, false, false, false] rfl rfl (any_of HT_.out (by kernel_rfl)) (fun _ _ _ h => h) (Or.inl ⟨by rfl, ?_⟩) ?_ ?_
  rotate_left
  ·intro w'
   go_simp
   with_reducible rfl
  rotate_left
  ·simp only [Act.put, zs, zz, zt, i64_w, i32_w]
   rfl
  refine pure_ (i := 8) (N := some 17) (v := ?_) (a' := ?_) #[true, true, true, true, true, true, true, true, true, true, true, false, false, true, false, false, false, true, false, false, false] rfl rfl (any_of HT_.out (by kernel_rfl)) (fun _ _ _ h => h) (Or.inl ⟨by rfl, ?_⟩) ?_ ?_
  rotate_left
  ·intro w'
   go_simp
   with_reducible rfl
  rotate_left
  ·simp only [Act.put, zs, zz, zt, i64_w, i32_w]
   rfl
  refine one_ (i := 11) (N := some 20) #[true, true, true, true, true, true, true, true, true, true, true, true, false, true, false, false, false, true, false, false, false] rfl rfl (one_of HT_.out (by kernel_rfl)) (by decide) (fun K hK => ?_)
  refine goes_ Try.func21 (by kernel_rfl) rfl #[.agg #[.slice A0_0 l0_0.length c0_0, .slice A0_1 l0_1.length c0_1], .int .i64 a1] (by rfl) rfl rfl zq ?_
  with_reducible refine (impl_Disk_codes.calls _ _ l0_0 _ _ l0_1 a1 t299 _ ?side1 ?side2 ?side3 ?side4 A6.out).mono ?_
  (case side1 => exact zC (Kd.C_below Zh.out HB.out))
  (case side2 => exact Zi.out)
  (case side3 => exact zC (Kd.C_below Zj.out HB.out))
  (case side4 => exact Zk.out)
  rintro e w47 ⟨rfl, hb⟩
  refine ⟨_, rfl, ?_⟩
  have n0_ := zm (blk_below (g := gb295) (o := .cells #[.slice A0_0 l0_0.length c0_0, .slice A0_1 l0_1.length c0_1] 32 (0, 0)) (zg_3 Za.out) hb); have n1_ := zm (blk_below (g := gb296) (o := .cells #[.slice none 0 0, .slice none 0 0] 32 (0, 0)) (zg_3 Zb.out) hb); have n2_ := zm (below_step (zg_4 HB.out Zc.out Zd.out) hb); clear Za; clear Zb; clear HB; have Za := n0_; have Zb := n1_; have HB := n2_; clear n0_ n1_ n2_
  (try clear hb)
  (try clear hb2)
  (try clear hk)
  (try clear hi)
  refine hK.out _ _ ⟨(blk_cell Za.out 0).trans rfl, (blk_cell Za.out 1).trans rfl⟩ (fun hHeld => ?_)
  clear hK K
  refine norm_ (a' := ?_) ?_ ?_
  rotate_left
  ·show Act.put _ (some 20) _ = _
   simp only [Act.put, zs, zz, zt, i64_w, i32_w]
   rfl
  refine pure_ (i := 12) (N := some 21) (v := ?_) (a' := ?_) #[true, true, true, true, true, true, true, true, true, true, true, true, true, true, false, false, false, true, false, false, false] rfl rfl (any_of HT_.out (by kernel_rfl)) (fun _ _ _ h => h) (Or.inl ⟨by rfl, ?_⟩) ?_ ?_
  rotate_left
  ·intro w'
   go_simp
   with_reducible rfl
  rotate_left
  ·simp only [Act.put, zs, zz, zt, i64_w, i32_w]
   rfl
  refine one_ (i := 14) (N := some 23) #[true, true, true, true, true, true, true, true, true, true, true, true, true, true, true, false, false, true, false, false, false] rfl rfl (one_of HT_.out (by kernel_rfl)) (by decide) (fun K hK => ?_)
  refine goes_ Try.func22 (by kernel_rfl) rfl #[.slice A2 l2.length c2, .func (.func 23) #[] #[]] (by rfl) rfl rfl zq ?_
  with_reducible refine (all22_impl_moveOK.calls _ _ l2 () t300 _ ?side1 ?side2 A7.out).mono ?_
  (case side1 => exact zC (Kd.C_below HR2.out HB.out))
  (case side2 => exact HC2.out)
  rintro e w48 ⟨rfl, hb⟩
  refine ⟨_, rfl, ?_⟩
  have n0_ := zm (blk_below (g := gb295) (o := .cells #[.slice A0_0 l0_0.length c0_0, .slice A0_1 l0_1.length c0_1] 32 (0, 0)) (zg_3 Za.out) hb); have n1_ := zm (blk_below (g := gb296) (o := .cells #[.slice none 0 0, .slice none 0 0] 32 (0, 0)) (zg_3 Zb.out) hb); have n2_ := zm (below_step (zg_4 HB.out Zc.out Zd.out) hb); clear Za; clear Zb; clear HB; have Za := n0_; have Zb := n1_; have HB := n2_; clear n0_ n1_ n2_
  (try clear hb)
  (try clear hb2)
  (try clear hk)
  (try clear hi)
  refine hK.out _ _ ⟨(blk_cell Za.out 0).trans rfl, (blk_cell Za.out 1).trans rfl⟩ (fun hHeld => ?_)
  clear hK K
  refine norm_ (a' := ?_) ?_ ?_
  rotate_left
  ·show Act.put _ (some 23) _ = _
   simp only [Act.put, zs, zz, zt, i64_w, i32_w]
   rfl
  refine pure_ (i := 15) (N := some 24) (v := ?_) (a' := ?_) #[true, true, true, true, true, true, true, true, true, true, true, true, true, true, true, true, false, true, false, false, false] rfl rfl (any_of HT_.out (by kernel_rfl)) (fun _ _ _ h => h) (Or.inl ⟨by rfl, ?_⟩) ?_ ?_
  rotate_left
  ·intro w'
   go_simp
   with_reducible rfl
  rotate_left
  ·simp only [Act.put, zs, zz, zt, i64_w, i32_w]
   rfl
  refine pure_ (i := 16) (N := some 25) (v := ?_) (a' := ?_) #[true, true, true, true, true, true, true, true, true, true, true, true, true, true, true, true, true, true, false, false, false] rfl rfl (any_of HT_.out (by kernel_rfl)) (fun _ _ _ h => h) (Or.inl ⟨by rfl, ?_⟩) ?_ ?_
  rotate_left
  ·intro w'
   go_simp
   with_reducible rfl
  rotate_left
  ·simp only [Act.put, zs, zz, zt, i64_w, i32_w]
   rfl
  refine one_ (i := 18) (N := some 27) #[true, true, true, true, true, true, true, true, true, true, true, true, true, true, true, true, true, true, true, false, false] rfl rfl (one_of HT_.out (by kernel_rfl)) (by decide) (fun K hK => ?_)
  refine Kd.R_lit_step kAny _ 20 ?hg (N := 27) ?hd (xs := ([Any.b t297, Any.n 2, Any.b (t298 != 0), Any.n t299, Any.b (!t300), Any.n 1] : List Any)) (inner := [.iface 4 (.bool t297), .iface 3 (.int .i64 2), .iface 4 (.bool (t298 != 0)), .iface 3 (.int .i64 t299), .iface 4 (.bool (!t300)), .iface 3 (.int .i64 1)]) (ok := fun _ => True) (okp := fun _ => True) ?hr ?hp (fun _ hk => hk) trivial (Below.refl _ _) (Nat.le_refl _) (by simp) ?_; (case hd => rfl); (case hg => rfl); (case hr => first | (go_simp; done) | (go_simp; rfl)); (case hp => exact (Reps.one (show Kd.M kAny _ _ _ (Any.b t297) [.iface 4 (.bool t297)] from rfl) (Reps.one (show Kd.M kAny _ _ _ (Any.n 2) [.iface 3 (.int .i64 2)] from rfl) (Reps.one (show Kd.M kAny _ _ _ (Any.b (t298 != 0)) [.iface 4 (.bool (t298 != 0))] from rfl) (Reps.one (show Kd.M kAny _ _ _ (Any.n t299) [.iface 3 (.int .i64 t299)] from rfl) (Reps.one (show Kd.M kAny _ _ _ (Any.b (!t300)) [.iface 4 (.bool (!t300))] from rfl) (Reps.one (show Kd.M kAny _ _ _ (Any.n 1) [.iface 3 (.int .i64 1)] from rfl) (Reps.none _ _))))))))
  intro v302 w49 ho50 hb hg_ hnew_
  clear hg_ hnew_
  (first | rw [← Ny301.out] at ho50 | (simp only [Int.reduceToNat] at ho50; rw [← Ny301.out] at ho50))
  have n0_ := zm (Kd.R_lower ho50 (below_size (zg_4 HB.out Zc.out Zd.out))); have n1_ := zm (blk_below (g := gb295) (o := .cells #[.slice A0_0 l0_0.length c0_0, .slice A0_1 l0_1.length c0_1] 32 (0, 0)) (zg_3 Za.out) hb); have n2_ := zm (blk_below (g := gb296) (o := .cells #[.slice none 0 0, .slice none 0 0] 32 (0, 0)) (zg_3 Zb.out) hb); have n3_ := zm (below_step (zg_4 HB.out Zc.out Zd.out) hb); clear Za; clear Zb; clear HB; have Ze := n0_; have Za := n1_; have Zb := n2_; have HB := n3_; clear n0_ n1_ n2_ n3_; clear hb ho50
  obtain ⟨Ao51, co51, eo51⟩ := Kd.R_slice Ze.out
  (first | subst eo51 | (injection eo51 with f1_ f2_ f3_; have f4_ := f1_.symm; have f5_ := f3_.symm; clear f1_ f2_ f3_; subst f4_; subst f5_))
  refine hK.out _ _ ⟨(blk_cell Za.out 0).trans rfl, (blk_cell Za.out 1).trans rfl⟩ (fun hHeld => ?_)
  clear hK K
  refine norm_ (a' := ?_) ?_ ?_
  rotate_left
  ·show Act.put _ (some 27) _ = _
   simp only [Act.put, zs, zz, zt, i64_w, i32_w]
   rfl
  refine one_ (i := 19) (N := some 28) #[true, true, true, true, true, true, true, true, true, true, true, true, true, true, true, true, true, true, true, true, false] rfl rfl (one_of HT_.out (by kernel_rfl)) (by decide) (fun K hK => ?_)
  refine goes_ Try.func13 (by kernel_rfl) rfl #[.slice Ao51 y301.length co51] (by rfl) rfl rfl zq ?_
  with_reducible refine (impl_first.calls _ _ y301 t304 _ ?side1 ?side2 A8.out).mono ?_
  (case side1 => exact zC ((Kd.R_reads' Ze.out).2.2))
  (case side2 => exact (Kd.R_reads' Ze.out).2.1)
  rintro e w' ⟨rfl, ⟨nd, rfl⟩⟩
  refine ⟨_, rfl, ?_⟩
  refine hK.out _ _ ⟨(blk_cell Za.out 0).trans rfl, (blk_cell Za.out 1).trans rfl⟩ (fun hHeld => ?_)
  clear hK K
  refine norm_ (a' := ?_) ?_ ?_
  rotate_left
  ·show Act.put _ (some 28) _ = _
   simp only [Act.put, zs, zz, zt, i64_w, i32_w]
   rfl
  refine pure_ (i := 20) (N := some 8) (v := ?_) (a' := ?_) #[true, true, true, true, true, true, true, true, true, true, true, true, true, true, true, true, true, true, true, true, true] rfl rfl (any_of HT_.out (by kernel_rfl)) (fun _ _ _ h => h) (Or.inl ⟨by rfl, ?_⟩) ?_ ?_
  rotate_left
  ·intro w'
   go_simp
   with_reducible rfl
  rotate_left
  ·simp only [Act.put, zs, zz, zt, i64_w, i32_w]
   rfl
  refine done_ (done_of HT_.out (by kernel_rfl)) ?_
  have hnb52 := Zg.out; have hnc52 := Zf.out
  obtain ⟨hcz53_0, hcz53_1, hfz53_0, hfz53_1⟩ := zb2 Zb.out
  try go_wp2
  refine bodyPost_ret (results_ct rfl _ _ gb296 32 #[.slice none 0 0, .slice none 0 0] (0, 0) _ rfl (by (with_reducible repeat (first | refine blk_drewN ?_ _ | refine blk_drew ?_ | refine blk_alloc ?_ _)); refine blk_put (cs := #[.slice none 0 0, .slice none 0 0]) ?_ 1 _ rfl; (with_reducible repeat (first | refine blk_drewN ?_ _ | refine blk_drew ?_ | refine blk_alloc ?_ _)); refine blk_put (cs := #[.slice none 0 0, .slice none 0 0]) ?_ 0 _ rfl; (with_reducible repeat (first | refine blk_drewN ?_ _ | refine blk_drew ?_ | refine blk_alloc ?_ _)); exact Zb.out) Try.underlying32 rfl (by kernel_rfl)) rfl ?_
  exact ⟨_, _, ze, by first | exact Kd.R_nil _ _ _ _ _ | exact Kd.N_nil _ _ _ _ _ | exact Kd.V_nil _ _ _ _ _ | exact Kd.Q_nil _ _ _ _ _ | exact Kd.S_nil _ _ _ _ _, by first | exact Kd.R_nil _ _ _ _ _ | exact Kd.N_nil _ _ _ _ _ | exact Kd.V_nil _ _ _ _ _ | exact Kd.Q_nil _ _ _ _ _ | exact Kd.S_nil _ _ _ _ _, zg_4 HB.out Zc.out Zd.out⟩
end Go.Proofs.Ytfmfbmcdikkijaa.Q
