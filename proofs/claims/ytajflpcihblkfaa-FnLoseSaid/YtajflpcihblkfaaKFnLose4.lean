/- What laws.FnLose reaches, part 4: the functions as Lean functions, the proofs that the program's functions answer so, and plain laws about them. -/
import Derived.Test.YtajflpcihblkfaaKFnLose1
import Derived.Test.YtajflpcihblkfaaKFnLose3
namespace Go.Proofs.Ytajflpcihblkfaa.Q
open Go.RowKit Go.Proofs.Ytajflpcihblkfaa.Ext Go.Proofs.YtajflpcihblkfaaW.PrintWords Go.Proofs.YtajflpcihblkfaaW.PrintLast Go.Proofs.YtajflpcihblkfaaW.PrintMore
attribute [local go_sem] max2_int min2_int max_two min_two max_three min_three max_four min_four   -- for this text's walks alone
set_option linter.unusedVariables false
set_option linter.unusedSimpArgs false

set_option linter.unusedVariables false
set_option linter.unusedSimpArgs false
/-! ### spec_l01Land: function 73 -/
def spec_l01Land.l0 : Nat → Int → Int → Bool → List (S92) → Int → List ByteArray → List (S92) → Option (List ByteArray × (List (S92)))
  | 0, _, _, _, _, _, _, _ => none
  | k + 1, x1, x2, x3, x9, x10, x434000, x434001 => if x10 < (x434001.length : Int) then (if 0 ≤ x10 then (if ((rd_T92 x434001 x10).f0) = x1 then (if x2 > 0 then (if 0 ≤ ((rd_T92 x434001 x10).f1) then (if ((rd_T92 x434001 x10).f1) < (x434000.length : Int) then (spec_l01Land.l0 k x1 (wrap64 (x2 - 1)) x3 x9 (wrap64 (x10 + 1)) (x434000.set (((rd_T92 x434001 x10).f1) : Int).toNat ((rd_T92 x434001 x10).f2)) x434001) else (none)) else (none)) else (if x3 = true then (spec_l01Land.l0 k x1 x2 x3 x9 (wrap64 (x10 + 1)) x434000 x434001) else (if x9.length < 4398046511104 then (spec_l01Land.l0 k x1 x2 x3 (x9 ++ [(⟨(rd_T92 x434001 x10).f0, (rd_T92 x434001 x10).f1, (rd_T92 x434001 x10).f2⟩ : S92)]) (wrap64 (x10 + 1)) x434000 x434001) else (none)))) else (if x9.length < 4398046511104 then (spec_l01Land.l0 k x1 x2 x3 (x9 ++ [(⟨(rd_T92 x434001 x10).f0, (rd_T92 x434001 x10).f1, (rd_T92 x434001 x10).f2⟩ : S92)]) (wrap64 (x10 + 1)) x434000 x434001) else (none))) else (none)) else (some (x434000, x9))
def spec_l01Land.f (k : Nat) (l0_0 : List ByteArray) (l0_1 : List (S92)) (a1 : Int) (a2 : Int) (a3 : Bool) : Option (List ByteArray × (List (S92))) := (spec_l01Own.f l0_0 l0_1).bind fun bt435 => (spec_l01Land.l0 k a1 a2 a3 (([] : List (S92))) 0 bt435.1 bt435.2)
theorem spec_l01Land.mono_l : ∀ k, (∀ y0 y1 y2 y3 y4 y5 y6, LeO (spec_l01Land.l0 k y0 y1 y2 y3 y4 y5 y6) (spec_l01Land.l0 (k + 1) y0 y1 y2 y3 y4 y5 y6))
  | 0 => fun _ _ _ _ _ _ _ r h => by simp [spec_l01Land.l0] at h
  | k + 1 => by
    have ih0 := spec_l01Land.mono_l k
    · intro y0 y1 y2 y3 y4 y5 y6
      unfold spec_l01Land.l0
      repeat' first
      | (with_reducible exact ih0 _ _ _ _ _ _ _)
      | (with_reducible exact LeO.refl _)
      | (with_reducible exact LeO.none _)
      | (with_reducible refine LeO.ite ?_ ?_)
      | (with_reducible refine LeO.bind ?_ (fun _ => ?_))
      | exact ih0 _ _ _ _ _ _ _
      | exact LeO.none _
      | refine LeO.ite ?_ ?_
      | refine LeO.bind ?_ (fun _ => ?_)
theorem spec_l01Land.mono : ∀ a0 a1 a2 a3 a4 k, LeO (spec_l01Land.f k a0 a1 a2 a3 a4) (spec_l01Land.f (k + 1) a0 a1 a2 a3 a4) := by
  intro a0 a1 a2 a3 a4 k
  have ih0 := spec_l01Land.mono_l k
  unfold spec_l01Land.f
  repeat' first
      | (with_reducible exact ih0 _ _ _ _ _ _ _)
      | (with_reducible exact LeO.refl _)
      | (with_reducible exact LeO.none _)
      | (with_reducible refine LeO.ite ?_ ?_)
      | (with_reducible refine LeO.bind ?_ (fun _ => ?_))
      | exact ih0 _ _ _ _ _ _ _
      | exact LeO.none _
      | refine LeO.ite ?_ ?_
      | refine LeO.bind ?_ (fun _ => ?_)
set_option maxHeartbeats 8000000 in
set_option maxRecDepth 100000 in
theorem spec_l01Land.calls (k : Nat) (A0_0 : Option Addr) (c0_0 : Nat) (l0_0 : List ByteArray) (A0_1 : Option Addr) (c0_1 : Nat) (l0_1 : List (S92)) (a1 : Int) (a2 : Int) (a3 : Bool) (r1 : List ByteArray) (r2 : List (S92)) (w : World) (hr0_0 : Kd.C Kd.string w A0_0 l0_0.length l0_0) (hc0_0 : l0_0.length ≤ c0_0) (hr0_1 : Kd.C k92 w A0_1 l0_1.length l0_1) (hc0_1 : l0_1.length ≤ c0_1) (h : spec_l01Land.f k l0_0 l0_1 a1 a2 a3 = some (r1, r2)) :
    Calls Try.prog 73 #[.agg #[.slice A0_0 l0_0.length c0_0, .slice A0_1 l0_1.length c0_1], .int .i64 a1, .int .i64 a2, .bool a3] w fun e w' => ∃ v0_ v1_ : Value, e = .returned (.agg #[v0_, v1_]) ∧ Kd.R Kd.string 9 w' w.heap.size (fun _ => True) v0_ r1 ∧ Kd.R k92 92 w' w.heap.size (fun _ => True) v1_ r2 ∧ Below w.heap.size w w' := by
 have hu48 := Try.underlying48
 have hu92 := Try.underlying92
 have Zt := zm hr0_0
 have Zu := zm hc0_0
 clear hr0_0 hc0_0
 have Zv := zm hr0_1
 have Zw := zm hc0_1
 clear hr0_1 hc0_1
 have HB := zm (Below.refl w.heap.size w)
 have H : ((spec_l01Own.f l0_0 l0_1).bind fun bt435 => (spec_l01Land.l0 k a1 a2 a3 (([] : List (S92))) 0 bt435.1 bt435.2)) = some (r1, r2) := h
 clear h
 replace H := Option.bind_eq_some_iff.mp H
 obtain ⟨⟨t435, t438⟩, A50, H⟩ := H
 replace H : (spec_l01Land.l0 k a1 a2 a3 (([] : List (S92))) 0 t435 t438) = some (r1, r2) := H
 have A5 := zm A50
 clear A50
 obtain ⟨y441, hy441⟩ : ∃ y_ : List (S92), y_ = (([] : List (S92))) := ⟨_, rfl⟩
 replace H : (spec_l01Land.l0 k a1 a2 a3 y441 0 t435 t438) = some (r1, r2) := by first | (rw [hy441]; with_reducible exact H) | (have H2_ := (Option.bind_some _ _).symm.trans H; rw [hy441]; with_reducible exact H2_) | (have H2_ := (Option.bind_some _ _).symm.trans H; with_reducible exact H2_) | with_reducible exact H | (rw [hy441]; exact H) | exact H
 have Ny441 := zm hy441
 clear hy441
 have H' := zm H
 clear H
 go_enter Try.func73, Try.ntmps73
 go_wp2_with (first | ((with_reducible refine gate_dst (N := 4) rfl ?_); refine box_event ?hg (N := 4) ?hd (cs := #[.slice A0_0 l0_0.length c0_0, .slice A0_1 l0_1.length c0_1]) (t := 48) ?hr ?_; (case hd => rfl); (case hg => rfl); (case hr => first | (go_simp; done) | (go_simp; rfl)); intro gb433 hg w6 hbox hb; have n0_ := zm (below_step (zg_0 HB.out) hb); have n1_ := zm (hbox); have n2_ := zm ((by rw [hg]; exact (below_size (zg_0 HB.out)) : w.heap.size ≤ gb433)); have n3_ := zm ((by rw [hg]; exact (below_size (zg_0 HB.out)) : w.heap.size ≤ gb433)); clear HB; have HB := n0_; have Zb := n1_; have ZA := n2_; have Zh := n3_; clear n0_ n1_ n2_ n3_; clear hb hbox hg) | ((with_reducible refine gate_dst (N := 8) rfl ?_); refine box_event ?hg (N := 8) ?hd (cs := #[.slice none 0 0, .slice none 0 0]) (t := 48) ?hr ?_; (case hd => rfl); (case hg => rfl); (case hr => first | (go_simp; done) | (go_simp; rfl)); intro gb434 hg w7 hbox hb; have n0_ := zm (blk_below (g := gb433) (o := .cells #[.slice A0_0 l0_0.length c0_0, .slice A0_1 l0_1.length c0_1] 48 (0, 0)) (zg_2 Zb.out) hb); have n1_ := zm (below_step (zg_1 HB.out Zh.out) hb); have n2_ := zm (hbox); have n3_ := zm ((by rw [hg]; exact (below_size (zg_1 HB.out Zh.out)) : w.heap.size ≤ gb434)); have n4_ := zm ((by rw [hg]; exact (below_size (zg_1 HB.out Zh.out)) : w.heap.size ≤ gb434)); have n5_ := zm ((by rw [hg]; exact Nat.ne_of_lt (blk_lt (g := gb433) (o := .cells #[.slice A0_0 l0_0.length c0_0, .slice A0_1 l0_1.length c0_1] 48 (0, 0)) (zg_2 Zb.out)) : gb433 ≠ gb434)); have n6_ := zm ((by rw [hg]; exact Nat.ne_of_gt (blk_lt (g := gb433) (o := .cells #[.slice A0_0 l0_0.length c0_0, .slice A0_1 l0_1.length c0_1] 48 (0, 0)) (zg_2 Zb.out)) : gb434 ≠ gb433)); clear Zb; clear HB; have Zb := n0_; have HB := n1_; have Zd := n2_; have ZB := n3_; have Zi := n4_; have Zn := n5_; have Zj := n6_; clear n0_ n1_ n2_ n3_ n4_ n5_ n6_; clear hb hbox hg; have hnb8 := Zn.out; have hnc8 := Zj.out; have hcz9_0 : w7.cell? ⟨gb433, 0, none⟩ = some (.slice A0_0 l0_0.length c0_0) := (blk_cell Zb.out 0).trans rfl; have hcz9_1 : w7.cell? ⟨gb433, 1, none⟩ = some (.slice A0_1 l0_1.length c0_1) := (blk_cell Zb.out 1).trans rfl; have hfz9_0 := blk_frozen Zb.out 0; have hfz9_1 := blk_frozen Zb.out 1) | ((with_reducible refine gate_callee (f := 113) rfl ?_); refine goesL_ (some 13) rfl rfl Try.func113 (by kernel_rfl) rfl #[.agg #[.slice A0_0 l0_0.length c0_0, .slice A0_1 l0_1.length c0_1]] rfl zq ?_; (with_reducible refine (spec_l01Own.calls _ _ l0_0 _ _ l0_1 t435 t438 _ ?side1 ?side2 ?side3 ?side4 A5.out).mono ?_); (case side1 => repeat (first | exact (Kd.C_below Zt.out HB.out) | (with_reducible refine Kd.C_alloc ?_ _) | (with_reducible refine Kd.C_drewN ?_ _) | (with_reducible refine Kd.C_drew ?_))); (case side2 => exact Zu.out); (case side3 => repeat (first | exact (Kd.C_below Zv.out HB.out) | (with_reducible refine Kd.C_alloc ?_ _) | (with_reducible refine Kd.C_drewN ?_ _) | (with_reducible refine Kd.C_drew ?_))); (case side4 => exact Zw.out); rintro e w10 ⟨v436, v439, rfl, ho0, ho1, hb⟩; refine ⟨_, rfl, ?_⟩; have n0_ := zm (Kd.R_lower ho0 (below_size (zg_3 HB.out Zh.out Zi.out))); have n1_ := zm (Kd.R_lower ho1 (below_size (zg_3 HB.out Zh.out Zi.out))); have n2_ := zm (blk_below (g := gb433) (o := .cells #[.slice A0_0 l0_0.length c0_0, .slice A0_1 l0_1.length c0_1] 48 (0, 0)) (zg_2 Zb.out) hb); have n3_ := zm (blk_below (g := gb434) (o := .cells #[.slice none 0 0, .slice none 0 0] 48 (0, 0)) (zg_2 Zd.out) hb); have n4_ := zm (below_step (zg_3 HB.out Zh.out Zi.out) hb); clear Zb; clear Zd; clear HB; have Zq := n0_; have Zp := n1_; have Zb := n2_; have Zd := n3_; have HB := n4_; clear n0_ n1_ n2_ n3_ n4_; (try clear hb); (try clear hb2); (try clear hk); (try clear hi); (try clear ho0); (try clear ho1); obtain ⟨Ao11, co11, eo11⟩ := Kd.R_slice Zq.out; subst eo11; have hcz12_0 : w10.cell? ⟨gb433, 0, none⟩ = some (.slice A0_0 l0_0.length c0_0) := (blk_cell Zb.out 0).trans rfl; have hcz12_1 : w10.cell? ⟨gb433, 1, none⟩ = some (.slice A0_1 l0_1.length c0_1) := (blk_cell Zb.out 1).trans rfl; have hfz12_0 := blk_frozen Zb.out 0; have hfz12_1 := blk_frozen Zb.out 1; obtain ⟨Ao13, co13, eo13⟩ := Kd.R_slice Zp.out; subst eo13) | ((with_reducible refine gate_dst (N := 14) rfl ?_); refine Kd.R_lit k92 _ 92 ?hg (N := 14) ?hd (xs := ([] : List (S92))) (inner := []) (ok := fun _ => True) (okp := fun _ => True) ?hr ?hp (fun _ hk => hk) trivial (Below.refl _ _) (Nat.le_refl _) (by simp) ?_; (case hd => rfl); (case hg => rfl); (case hr => first | (go_simp; done) | (go_simp; rfl)); (case hp => exact (Reps.none _ _)); intro v442 w14 ho15 hb hg_ hnew_; clear hg_ hnew_; (first | rw [← Ny441.out] at ho15 | (simp only [Int.reduceToNat] at ho15; rw [← Ny441.out] at ho15)); have n0_ := zm (Kd.R_below (by (with_reducible repeat (first | apply Kd.R_alloc | apply Kd.R_drewN | apply Kd.R_drew)); exact (Kd.R_mono (Kd.R_far (p := ⟨gb433, 1, none⟩) (Kd.R_far (p := ⟨gb433, 0, none⟩) (Kd.R_types Zq.out Zb.out (by decide)) (fun _ hk => hk.2) (.slice Ao11 t435.length co11)) (fun _ hk => hk.2) (.slice Ao13 t438.length co13)) (fun _ h_ => h_.1))) hb); have n1_ := zm (Kd.R_elder' (by (with_reducible repeat (first | apply Kd.R_alloc | apply Kd.R_drewN | apply Kd.R_drew)); exact (Kd.R_mono (Kd.R_far (p := ⟨gb433, 1, none⟩) (Kd.R_far (p := ⟨gb433, 0, none⟩) (Kd.R_types Zp.out Zb.out (by decide)) (fun _ hk => hk.2) (.slice Ao11 t435.length co11)) (fun _ hk => hk.2) (.slice Ao13 t438.length co13)) (fun _ h_ => h_.1))) (Kd.R_base ho15) hb); have n2_ := zm (Kd.R_lower (Kd.R_new' ho15 (Kd.R_lt (by (with_reducible repeat (first | apply Kd.R_alloc | apply Kd.R_drewN | apply Kd.R_drew)); exact (Kd.R_mono (Kd.R_far (p := ⟨gb433, 1, none⟩) (Kd.R_far (p := ⟨gb433, 0, none⟩) (Kd.R_types Zp.out Zb.out (by decide)) (fun _ hk => hk.2) (.slice Ao11 t435.length co11)) (fun _ hk => hk.2) (.slice Ao13 t438.length co13)) (fun _ h_ => h_.1))))) (below_size (zg_3 HB.out Zh.out Zi.out))); have n3_ := zm (blk_below (g := gb433) (o := .cells #[.slice Ao11 t435.length co11, .slice Ao13 t438.length co13] 48 (0, 0)) (by (with_reducible repeat (first | refine blk_drewN ?_ _ | refine blk_drew ?_ | refine blk_alloc ?_ _)); refine blk_put (cs := #[.slice Ao11 t435.length co11, .slice A0_1 l0_1.length c0_1]) ?_ 1 _ rfl; (with_reducible repeat (first | refine blk_drewN ?_ _ | refine blk_drew ?_ | refine blk_alloc ?_ _)); refine blk_put (cs := #[.slice A0_0 l0_0.length c0_0, .slice A0_1 l0_1.length c0_1]) ?_ 0 _ rfl; (with_reducible repeat (first | refine blk_drewN ?_ _ | refine blk_drew ?_ | refine blk_alloc ?_ _)); exact Zb.out) hb); have n4_ := zm (blk_below (g := gb434) (o := .cells #[.slice none 0 0, .slice none 0 0] 48 (0, 0)) (by (with_reducible repeat (first | refine blk_drewN ?_ _ | refine blk_drew ?_ | refine blk_alloc ?_ _)); refine blk_far ?_ Zj.out _; (with_reducible repeat (first | refine blk_drewN ?_ _ | refine blk_drew ?_ | refine blk_alloc ?_ _)); refine blk_far ?_ Zj.out _; (with_reducible repeat (first | refine blk_drewN ?_ _ | refine blk_drew ?_ | refine blk_alloc ?_ _)); exact Zd.out) hb); have n5_ := zm (below_step (zg_3 HB.out Zh.out Zi.out) hb); clear Zq; clear Zp; clear Zb; clear Zd; clear HB; have Zq := n0_; have Zp := n1_; have Zx := n2_; have Zb := n3_; have Zd := n4_; have HB := n5_; clear n0_ n1_ n2_ n3_ n4_ n5_; clear hb ho15))
 go_loopg [2, 9, 10] k (fun kq v2 v9 v10 w' => ∃ (x2_1 : Int) (x9_1 : List (S92)) (x10_1 : Int) (x434000_1 : List ByteArray) (u434000 : Value), v2 = .int .i64 x2_1 ∧ v10 = .int .i64 x10_1 ∧ Aside0 (spec_l01Land.l0 kq a1 x2_1 a3 x9_1 x10_1 x434000_1 t438 = some (r1, r2)) ∧ Aside0 (kq ≤ k) ∧ Aside0 (Kd.R k92 92 w' w.heap.size (fun k_ => some k_ ≠ ((.slice Ao13 t438.length co13) : Value).ownBlock) v9 x9_1) ∧ Aside0 (Kd.R Kd.string 9 w' w.heap.size (fun _ => True) u434000 x434000_1) ∧ Aside0 (Kd.R k92 92 w' w.heap.size (fun k_ => some k_ ≠ (v9 : Value).ownBlock) (.slice Ao13 t438.length co13) t438) ∧ Aside0 (w'.heap[gb433]? = some (.cells #[u434000, (.slice Ao13 t438.length co13)] 48 (0, 0))) ∧ Aside0 (w'.heap[gb434]? = some (.cells #[(.slice none 0 0), (.slice none 0 0)] 48 (0, 0))) ∧ Aside0 (Below w.heap.size w w'))
 case atStart => exact ⟨(a2), (y441), (0), (t435), (.slice Ao11 t435.length co11), zr, zr, H', ⟨Nat.le_refl _⟩, ⟨by (with_reducible repeat (first | apply Kd.R_alloc | apply Kd.R_drewN | apply Kd.R_drew)); exact Kd.R_mono Zx.out (fun _ hk => hk.2)⟩, ⟨by (with_reducible repeat (first | apply Kd.R_alloc | apply Kd.R_drewN | apply Kd.R_drew)); exact Zq.out⟩, ⟨by (with_reducible repeat (first | apply Kd.R_alloc | apply Kd.R_drewN | apply Kd.R_drew)); exact Kd.R_mono Zp.out (fun _ hk => hk.2)⟩, ⟨by (with_reducible repeat (first | refine blk_drewN ?_ _ | refine blk_drew ?_ | refine blk_alloc ?_ _)); exact Zb.out⟩, ⟨by (with_reducible repeat (first | refine blk_drewN ?_ _ | refine blk_drew ?_ | refine blk_alloc ?_ _)); exact Zd.out⟩, ⟨zg_3 HB.out Zh.out Zi.out⟩⟩
 case round =>
  clear H'
  try clear c1
  try clear p2
  try clear c7
  try clear c8
  try clear c11
  try clear hcz12_0
  try clear hcz12_1
  try clear hcz9_0
  try clear hcz9_1
  try clear hfz12_0
  try clear hfz12_1
  try clear hfz9_0
  try clear hfz9_1
  obtain ⟨x2_1, x9_1, x10_1, x434000_1, u434000, rfl, rfl, HA, HK1, Zk, Za, Zc, Zb, Zd, HB⟩ := hrel
  cases gk with
  | zero => exact absurd HA.out (by simp [spec_l01Land.l0])
  | succ k1 =>
   have H := HA.out
   clear HA
   simp only [spec_l01Land.l0] at H
   by_cases c16 : x10_1 < (t438.length : Int)
   ·rw [if_pos c16] at H
    have c16b0 : decide (x10_1 < (t438.length : Int)) = true := decide_eq_true c16
    clear c16
    by_cases c17 : 0 ≤ x10_1
    ·rw [if_pos c17] at H
     have c17b0 : decide (0 ≤ x10_1) = true := decide_eq_true c17
     clear c17
     by_cases c18 : ((rd_T92 t438 x10_1).f0) = a1
     ·rw [if_pos c18] at H
      have c18b0 : (((rd_T92 t438 x10_1).f0) == a1) = true := beq_iff_eq.mpr c18
      have c18b1 : (((rd_T92 t438 x10_1).f0) != a1) = false := bne_eq_false_iff_eq.mpr c18
      clear c18
      by_cases c19 : x2_1 > 0
      ·rw [if_pos c19] at H
       have c19b0 : decide (0 < x2_1) = true := decide_eq_true c19
       clear c19
       by_cases c20 : 0 ≤ ((rd_T92 t438 x10_1).f1)
       ·rw [if_pos c20] at H
        have c20b0 : decide (0 ≤ ((rd_T92 t438 x10_1).f1)) = true := decide_eq_true c20
        clear c20
        by_cases c21 : ((rd_T92 t438 x10_1).f1) < (x434000_1.length : Int)
        ·rw [if_pos c21] at H
         have c21b0 : decide (((rd_T92 t438 x10_1).f1) < (x434000_1.length : Int)) = true := decide_eq_true c21
         clear c21
         obtain ⟨y446, hy446⟩ : ∃ y_ : List ByteArray, y_ = (x434000_1.set (((rd_T92 t438 x10_1).f1) : Int).toNat ((rd_T92 t438 x10_1).f2)) := ⟨_, rfl⟩
         replace H : (spec_l01Land.l0 k1 a1 (wrap64 (x2_1 - 1)) a3 x9_1 (wrap64 (x10_1 + 1)) y446 t438) = some (r1, r2) := by first | (rw [hy446]; with_reducible exact H) | (have H2_ := (Option.bind_some _ _).symm.trans H; rw [hy446]; with_reducible exact H2_) | (have H2_ := (Option.bind_some _ _).symm.trans H; with_reducible exact H2_) | with_reducible exact H | (rw [hy446]; exact H) | exact H
         have Ny446 := zm hy446
         clear hy446
         have H' := zm H
         clear H
         have hnb23 := Zn.out
         have hnc23 := Zj.out
         have hcz24_0 : wr.cell? ⟨gb433, 0, none⟩ = some (u434000) := (blk_cell Zb.out 0).trans rfl
         have hcz24_1 : wr.cell? ⟨gb433, 1, none⟩ = some (.slice Ao13 t438.length co13) := (blk_cell Zb.out 1).trans rfl
         have hfz24_0 := blk_frozen Zb.out 0
         have hfz24_1 := blk_frozen Zb.out 1
         have p444 : 0 ≤ (x10_1 : Int) := of_decide_eq_true (by first | (with_reducible assumption) | assumption)
         have q444 : x10_1 < (t438.length : Int) := of_decide_eq_true (by first | (with_reducible assumption) | assumption)
         obtain ⟨ad444, e444, hx444_0, hx444_1, hx444_2⟩ := at_T92 (Kd.R_reads' Zc.out).2.2 x10_1 p444 q444
         cases e444
         replace p444 := eq_true p444
         replace q444 := eq_true q444
         go_wp2_with (first | ((with_reducible refine gate_dst (N := 11) rfl ?_); refine box_event ?hg (N := 11) ?hd (cs := #[.int .i64 0, .int .i64 0, .string (⟨#[]⟩ : ByteArray)]) (t := 92) ?hr ?_; (case hd => rfl); (case hg => rfl); (case hr => first | (go_simp; done) | (go_simp; rfl)); intro gb445 hg w25 hbox hb; have n0_ := zm (Kd.R_below (Kd.R_elderB (zg_4 Zk.out) gb445 (Nat.le_of_eq hg.symm)) hb); have n1_ := zm (Kd.R_below (zg_4 Za.out) hb); have n2_ := zm (Kd.R_below (Kd.R_elderB (zg_4 Zc.out) gb445 (Nat.le_of_eq hg.symm)) hb); have n3_ := zm (blk_below (g := gb433) (o := .cells #[u434000, .slice (some ad444) t438.length co13] 48 (0, 0)) (zg_2 Zb.out) hb); have n4_ := zm (blk_below (g := gb434) (o := .cells #[.slice none 0 0, .slice none 0 0] 48 (0, 0)) (zg_2 Zd.out) hb); have n5_ := zm (below_step (zg_3 HB.out Zh.out Zi.out) hb); have n6_ := zm (hbox); have n7_ := zm ((by rw [hg]; exact (below_size (zg_3 HB.out Zh.out Zi.out)) : w.heap.size ≤ gb445)); have n8_ := zm ((by rw [hg]; exact (below_size (zg_3 HB.out Zh.out Zi.out)) : w.heap.size ≤ gb445)); have n9_ := zm ((by rw [hg]; exact Nat.ne_of_lt (blk_lt (g := gb433) (o := .cells #[u434000, .slice (some ad444) t438.length co13] 48 (0, 0)) (zg_2 Zb.out)) : gb433 ≠ gb445)); have n10_ := zm ((by rw [hg]; exact Nat.ne_of_gt (blk_lt (g := gb433) (o := .cells #[u434000, .slice (some ad444) t438.length co13] 48 (0, 0)) (zg_2 Zb.out)) : gb445 ≠ gb433)); have n11_ := zm ((by rw [hg]; exact Nat.ne_of_lt (blk_lt (g := gb434) (o := .cells #[.slice none 0 0, .slice none 0 0] 48 (0, 0)) (zg_2 Zd.out)) : gb434 ≠ gb445)); have n12_ := zm ((by rw [hg]; exact Nat.ne_of_gt (blk_lt (g := gb434) (o := .cells #[.slice none 0 0, .slice none 0 0] 48 (0, 0)) (zg_2 Zd.out)) : gb445 ≠ gb434)); clear Zk; clear Za; clear Zc; clear Zb; clear Zd; clear HB; have Zk := n0_; have Za := n1_; have Zc := n2_; have Zb := n3_; have Zd := n4_; have HB := n5_; have Ze := n6_; have Zr := n7_; have Zo := n8_; have Zf := n9_; have Zl := n10_; have Zg := n11_; have Zm := n12_; clear n0_ n1_ n2_ n3_ n4_ n5_ n6_ n7_ n8_ n9_ n10_ n11_ n12_; clear hb hbox hg; have hnb26 := Zl.out; have hnc26 := Zf.out; have hnb27 := Zm.out; have hnc27 := Zg.out; have hcz28_0 : w25.cell? ⟨gb445, 0, none⟩ = some (.int .i64 0) := (blk_cell Ze.out 0).trans rfl; have hcz28_1 : w25.cell? ⟨gb445, 1, none⟩ = some (.int .i64 0) := (blk_cell Ze.out 1).trans rfl; have hcz28_2 : w25.cell? ⟨gb445, 2, none⟩ = some (.string (⟨#[]⟩ : ByteArray)) := (blk_cell Ze.out 2).trans rfl; have hfz28_0 := blk_frozen Ze.out 0; have hfz28_1 := blk_frozen Ze.out 1; have hfz28_2 := blk_frozen Ze.out 2) | ((with_reducible refine gate_store (t := 92) (p := 11) rfl ?_); refine store_event (t := 92) (p := 11) (v := ?vo_w29) (w1 := (((w25.setCell ⟨gb445, 0, none⟩ (.int .i64 ((rd_T92 t438 x10_1).f0))).setCell ⟨gb445, 1, none⟩ (.int .i64 ((rd_T92 t438 x10_1).f1))).setCell ⟨gb445, 2, none⟩ (.string ((rd_T92 t438 x10_1).f2)))) ?hg ?ho ?hn ?hr ?_; (case ho => rfl); (case hg => rfl); (case hn => rfl); (case hr => first | (go_simp; done) | (go_simp; rfl)); intro w29 hw; have n0_ : Aside0 (Kd.R k92 92 w29 w.heap.size (fun k_ => some k_ ≠ (.slice (some ad444) t438.length co13 : Value).ownBlock ∧ k_ ≠ gb445) u9 x9_1) := ⟨(by rw [hw]; exact (by (with_reducible repeat (first | apply Kd.R_alloc | apply Kd.R_drewN | apply Kd.R_drew)); exact Kd.R_mono (Kd.R_far (p := ⟨gb445, 2, none⟩) (Kd.R_far (p := ⟨gb445, 1, none⟩) (Kd.R_far (p := ⟨gb445, 0, none⟩) (Kd.R_mono Zk.out (fun k_ hk => (⟨hk, hk.2⟩ : _ ∧ k_ ≠ gb445))) (fun _ hk => hk.2) (.int .i64 ((rd_T92 t438 x10_1).f0))) (fun _ hk => hk.2) (.int .i64 ((rd_T92 t438 x10_1).f1))) (fun _ hk => hk.2) (.string ((rd_T92 t438 x10_1).f2))) (fun _ hk => ⟨hk.1.1, hk.1.2⟩)))⟩; have n1_ : Aside0 (Kd.R Kd.string 9 w29 w.heap.size (fun _ => True) u434000 x434000_1) := ⟨(by rw [hw]; exact (by (with_reducible repeat (first | apply Kd.R_alloc | apply Kd.R_drewN | apply Kd.R_drew)); exact Kd.R_mono (Kd.R_far (p := ⟨gb445, 2, none⟩) (Kd.R_far (p := ⟨gb445, 1, none⟩) (Kd.R_far (p := ⟨gb445, 0, none⟩) (Kd.R_types Za.out Ze.out (by decide)) (fun _ hk => hk.2) (.int .i64 ((rd_T92 t438 x10_1).f0))) (fun _ hk => hk.2) (.int .i64 ((rd_T92 t438 x10_1).f1))) (fun _ hk => hk.2) (.string ((rd_T92 t438 x10_1).f2))) (fun _ hk => trivial)))⟩; have n2_ : Aside0 (Kd.R k92 92 w29 w.heap.size (fun k_ => some k_ ≠ (u9 : Value).ownBlock ∧ k_ ≠ gb445) (.slice (some ad444) t438.length co13) t438) := ⟨(by rw [hw]; exact (by (with_reducible repeat (first | apply Kd.R_alloc | apply Kd.R_drewN | apply Kd.R_drew)); exact Kd.R_mono (Kd.R_far (p := ⟨gb445, 2, none⟩) (Kd.R_far (p := ⟨gb445, 1, none⟩) (Kd.R_far (p := ⟨gb445, 0, none⟩) (Kd.R_mono Zc.out (fun k_ hk => (⟨hk, hk.2⟩ : _ ∧ k_ ≠ gb445))) (fun _ hk => hk.2) (.int .i64 ((rd_T92 t438 x10_1).f0))) (fun _ hk => hk.2) (.int .i64 ((rd_T92 t438 x10_1).f1))) (fun _ hk => hk.2) (.string ((rd_T92 t438 x10_1).f2))) (fun _ hk => ⟨hk.1.1, hk.1.2⟩)))⟩; have n3_ : Aside0 (w29.heap[gb433]? = some (.cells #[u434000, .slice (some ad444) t438.length co13] 48 (0, 0))) := ⟨(by rw [hw]; exact (by (with_reducible repeat (first | refine blk_drewN ?_ _ | refine blk_drew ?_ | refine blk_alloc ?_ _)); refine blk_far ?_ Zf.out _; (with_reducible repeat (first | refine blk_drewN ?_ _ | refine blk_drew ?_ | refine blk_alloc ?_ _)); refine blk_far ?_ Zf.out _; (with_reducible repeat (first | refine blk_drewN ?_ _ | refine blk_drew ?_ | refine blk_alloc ?_ _)); refine blk_far ?_ Zf.out _; (with_reducible repeat (first | refine blk_drewN ?_ _ | refine blk_drew ?_ | refine blk_alloc ?_ _)); exact Zb.out))⟩; have n4_ : Aside0 (w29.heap[gb434]? = some (.cells #[.slice none 0 0, .slice none 0 0] 48 (0, 0))) := ⟨(by rw [hw]; exact (by (with_reducible repeat (first | refine blk_drewN ?_ _ | refine blk_drew ?_ | refine blk_alloc ?_ _)); refine blk_far ?_ Zg.out _; (with_reducible repeat (first | refine blk_drewN ?_ _ | refine blk_drew ?_ | refine blk_alloc ?_ _)); refine blk_far ?_ Zg.out _; (with_reducible repeat (first | refine blk_drewN ?_ _ | refine blk_drew ?_ | refine blk_alloc ?_ _)); refine blk_far ?_ Zg.out _; (with_reducible repeat (first | refine blk_drewN ?_ _ | refine blk_drew ?_ | refine blk_alloc ?_ _)); exact Zd.out))⟩; have n5_ : Aside0 (w29.heap[gb445]? = some (.cells #[.int .i64 ((rd_T92 t438 x10_1).f0), .int .i64 ((rd_T92 t438 x10_1).f1), .string ((rd_T92 t438 x10_1).f2)] 92 (0, 0))) := ⟨(by rw [hw]; exact (by (with_reducible repeat (first | refine blk_drewN ?_ _ | refine blk_drew ?_ | refine blk_alloc ?_ _)); refine blk_put (cs := #[.int .i64 ((rd_T92 t438 x10_1).f0), .int .i64 ((rd_T92 t438 x10_1).f1), .string (⟨#[]⟩ : ByteArray)]) ?_ 2 _ rfl; (with_reducible repeat (first | refine blk_drewN ?_ _ | refine blk_drew ?_ | refine blk_alloc ?_ _)); refine blk_put (cs := #[.int .i64 ((rd_T92 t438 x10_1).f0), .int .i64 0, .string (⟨#[]⟩ : ByteArray)]) ?_ 1 _ rfl; (with_reducible repeat (first | refine blk_drewN ?_ _ | refine blk_drew ?_ | refine blk_alloc ?_ _)); refine blk_put (cs := #[.int .i64 0, .int .i64 0, .string (⟨#[]⟩ : ByteArray)]) ?_ 0 _ rfl; (with_reducible repeat (first | refine blk_drewN ?_ _ | refine blk_drew ?_ | refine blk_alloc ?_ _)); exact Ze.out))⟩; have n6_ : Aside0 (Below w.heap.size w w29) := ⟨(by rw [hw]; exact (zg_8 HB.out Zh.out Zi.out Zo.out))⟩; clear hw; clear Zk; clear Za; clear Zc; clear Zb; clear Zd; clear Ze; clear HB; have Zk := n0_; have Za := n1_; have Zc := n2_; have Zb := n3_; have Zd := n4_; have Ze := n5_; have HB := n6_; clear n0_ n1_ n2_ n3_ n4_ n5_ n6_; have hcz30_0 : w29.cell? ⟨gb445, 0, none⟩ = some (.int .i64 ((rd_T92 t438 x10_1).f0)) := (blk_cell Ze.out 0).trans rfl; have hcz30_1 : w29.cell? ⟨gb445, 1, none⟩ = some (.int .i64 ((rd_T92 t438 x10_1).f1)) := (blk_cell Ze.out 1).trans rfl; have hcz30_2 : w29.cell? ⟨gb445, 2, none⟩ = some (.string ((rd_T92 t438 x10_1).f2)) := (blk_cell Ze.out 2).trans rfl; have hfz30_0 := blk_frozen Ze.out 0; have hfz30_1 := blk_frozen Ze.out 1; have hfz30_2 := blk_frozen Ze.out 2; have hcz31_0 : w29.cell? ⟨gb433, 0, none⟩ = some (u434000) := (blk_cell Zb.out 0).trans rfl; have hcz31_1 : w29.cell? ⟨gb433, 1, none⟩ = some (.slice (some ad444) t438.length co13) := (blk_cell Zb.out 1).trans rfl; have hfz31_0 := blk_frozen Zb.out 0; have hfz31_1 := blk_frozen Zb.out 1; have p22 : 0 ≤ (((rd_T92 t438 x10_1).f1) : Int) := of_decide_eq_true (by first | (with_reducible assumption) | assumption); have q22 : (((rd_T92 t438 x10_1).f1) : Int) < ((x434000_1.length : Int) : Int) := of_decide_eq_true (by first | (with_reducible assumption) | assumption); obtain ⟨go22, co22, eo22, gb22, gl22, cl22, HG22⟩ := Kd.R_form Za.out (by omega); (first | cases eo22 | (injection eo22 with ea_ en_ ec_; (first | subst ea_ | (injection ea_ with ea_; subst ea_)); subst ec_; clear en_)); have GB22 := zm gb22; have ZC := zm HG22; clear gb22 gl22 HG22; obtain ⟨hx22_0, hf22_0⟩ := Kd.R_celln (⟨#[]⟩ : ByteArray) Za.out (((rd_T92 t438 x10_1).f1) : Int) p22 q22; replace p22 := eq_true p22; replace q22 := eq_true q22; obtain ⟨hy32_, hz32_⟩ := Kd.R_celln (⟨#[]⟩ : ByteArray) Za.out (((rd_T92 t438 x10_1).f1) : Int) (of_decide_eq_true (by first | (with_reducible assumption) | assumption)) (of_decide_eq_true (by first | (with_reducible assumption) | assumption)); have Zs := Kd.R_putg Za.out (((rd_T92 t438 x10_1).f1) : Int) ((rd_T92 t438 x10_1).f2)) | ((with_reducible refine gate_store (t := 9) (p := 45) rfl ?_); refine store_event (t := 9) (p := 45) (v := ?vo_w33) (w1 := (w29.setCell ⟨go22, (((rd_T92 t438 x10_1).f1) : Int).toNat, none⟩ (.string ((rd_T92 t438 x10_1).f2)))) ?hg ?ho ?hn ?hr ?_; (case ho => rfl); (case hg => rfl); (case hn => rfl); (case hr => first | (go_simp; done) | (go_simp; rfl)); intro w33 hw; have hg : w29.grownBy w33 (some go22) := (by rw [hw]; exact Zs.2); have hp_ : Kd.R Kd.string 9 w33 w.heap.size (fun _ => True) (.slice (some ⟨go22, 0, none⟩) x434000_1.length co22) y446 := (by rw [hw, Ny446.out]; exact Zs.1); clear Zs; have n0_ := zm (Kd.R_over' (v := (.slice (some ⟨go22, 0, none⟩) x434000_1.length co22)) (zg_4 Zk.out) (Kd.R_typed Za.out) (by decide) hg); have n1_ := zm (hp_); have n2_ := zm (Kd.R_over' (v := (.slice (some ⟨go22, 0, none⟩) x434000_1.length co22)) (zg_4 Zc.out) (Kd.R_typed Za.out) (by decide) hg); have n3_ := zm (blk_grown (g := gb433) (o := .cells #[.slice (some ⟨go22, 0, none⟩) x434000_1.length co22, .slice (some ad444) t438.length co13] 48 (0, 0)) (zg_2 Zb.out) hg (Kd.R_ne Za.out Zb.out (by decide))); have n4_ := zm (blk_grown (g := gb434) (o := .cells #[.slice none 0 0, .slice none 0 0] 48 (0, 0)) (zg_2 Zd.out) hg (Kd.R_ne Za.out Zd.out (by decide))); have n5_ := zm (blk_grown (g := gb445) (o := .cells #[.int .i64 ((rd_T92 t438 x10_1).f0), .int .i64 ((rd_T92 t438 x10_1).f1), .string ((rd_T92 t438 x10_1).f2)] 92 (0, 0)) (zg_2 Ze.out) hg (Kd.R_ne Za.out Ze.out (by decide))); have n6_ := zm ((by rw [hw]; exact below_set (HB.out) GB22.out : Below w.heap.size w w33)); clear Zk; clear Za; clear Zc; clear Zb; clear Zd; clear Ze; clear HB; have Zk := n0_; have Za := n1_; have Zc := n2_; have Zb := n3_; have Zd := n4_; have Ze := n5_; have HB := n6_; clear n0_ n1_ n2_ n3_ n4_ n5_ n6_; clear hg hw hp_))
         go_roundg k1
         case measure => have := HK1.out; omega
         case rel => exact ⟨(wrap64 (x2_1 - 1)), (x9_1), (wrap64 (x10_1 + 1)), (y446), (.slice (some ⟨go22, 0, none⟩) x434000_1.length co22), zr, zr, H', ⟨by have := HK1.out; omega⟩, ⟨by (with_reducible repeat (first | apply Kd.R_alloc | apply Kd.R_drewN | apply Kd.R_drew)); exact Kd.R_mono Zk.out (fun _ hk => hk.1)⟩, ⟨by (with_reducible repeat (first | apply Kd.R_alloc | apply Kd.R_drewN | apply Kd.R_drew)); exact Za.out⟩, ⟨by (with_reducible repeat (first | apply Kd.R_alloc | apply Kd.R_drewN | apply Kd.R_drew)); exact Kd.R_mono Zc.out (fun _ hk => hk.1)⟩, ⟨by (with_reducible repeat (first | refine blk_drewN ?_ _ | refine blk_drew ?_ | refine blk_alloc ?_ _)); exact Zb.out⟩, ⟨by (with_reducible repeat (first | refine blk_drewN ?_ _ | refine blk_drew ?_ | refine blk_alloc ?_ _)); exact Zd.out⟩, ⟨zg_8 HB.out Zh.out Zi.out Zo.out⟩⟩
        ·rw [if_neg c21] at H
         exact absurd H (by simp)
       ·rw [if_neg c20] at H
        exact absurd H (by simp)
      ·rw [if_neg c19] at H
       have c19b0 : decide (0 < x2_1) = false := decide_eq_false c19
       clear c19
       by_cases c34 : a3 = true
       ·subst c34
        have H1 : (spec_l01Land.l0 k1 a1 x2_1 true x9_1 (wrap64 (x10_1 + 1)) x434000_1 t438) = some (r1, r2) := by rw [if_pos rfl] at H; exact H
        clear H
        have H := H1
        clear H1
        have H' := zm H
        clear H
        have hnb35 := Zn.out
        have hnc35 := Zj.out
        have hcz36_0 : wr.cell? ⟨gb433, 0, none⟩ = some (u434000) := (blk_cell Zb.out 0).trans rfl
        have hcz36_1 : wr.cell? ⟨gb433, 1, none⟩ = some (.slice Ao13 t438.length co13) := (blk_cell Zb.out 1).trans rfl
        have hfz36_0 := blk_frozen Zb.out 0
        have hfz36_1 := blk_frozen Zb.out 1
        have p444 : 0 ≤ (x10_1 : Int) := of_decide_eq_true (by first | (with_reducible assumption) | assumption)
        have q444 : x10_1 < (t438.length : Int) := of_decide_eq_true (by first | (with_reducible assumption) | assumption)
        obtain ⟨ad444, e444, hx444_0, hx444_1, hx444_2⟩ := at_T92 (Kd.R_reads' Zc.out).2.2 x10_1 p444 q444
        cases e444
        replace p444 := eq_true p444
        replace q444 := eq_true q444
        go_wp2_with (first | ((with_reducible refine gate_dst (N := 11) rfl ?_); refine box_event ?hg (N := 11) ?hd (cs := #[.int .i64 0, .int .i64 0, .string (⟨#[]⟩ : ByteArray)]) (t := 92) ?hr ?_; (case hd => rfl); (case hg => rfl); (case hr => first | (go_simp; done) | (go_simp; rfl)); intro gb445 hg w37 hbox hb; have n0_ := zm (Kd.R_below (Kd.R_elderB (zg_4 Zk.out) gb445 (Nat.le_of_eq hg.symm)) hb); have n1_ := zm (Kd.R_below (zg_4 Za.out) hb); have n2_ := zm (Kd.R_below (Kd.R_elderB (zg_4 Zc.out) gb445 (Nat.le_of_eq hg.symm)) hb); have n3_ := zm (blk_below (g := gb433) (o := .cells #[u434000, .slice (some ad444) t438.length co13] 48 (0, 0)) (zg_2 Zb.out) hb); have n4_ := zm (blk_below (g := gb434) (o := .cells #[.slice none 0 0, .slice none 0 0] 48 (0, 0)) (zg_2 Zd.out) hb); have n5_ := zm (below_step (zg_3 HB.out Zh.out Zi.out) hb); have n6_ := zm (hbox); have n7_ := zm ((by rw [hg]; exact (below_size (zg_3 HB.out Zh.out Zi.out)) : w.heap.size ≤ gb445)); have n8_ := zm ((by rw [hg]; exact (below_size (zg_3 HB.out Zh.out Zi.out)) : w.heap.size ≤ gb445)); have n9_ := zm ((by rw [hg]; exact Nat.ne_of_lt (blk_lt (g := gb433) (o := .cells #[u434000, .slice (some ad444) t438.length co13] 48 (0, 0)) (zg_2 Zb.out)) : gb433 ≠ gb445)); have n10_ := zm ((by rw [hg]; exact Nat.ne_of_gt (blk_lt (g := gb433) (o := .cells #[u434000, .slice (some ad444) t438.length co13] 48 (0, 0)) (zg_2 Zb.out)) : gb445 ≠ gb433)); have n11_ := zm ((by rw [hg]; exact Nat.ne_of_lt (blk_lt (g := gb434) (o := .cells #[.slice none 0 0, .slice none 0 0] 48 (0, 0)) (zg_2 Zd.out)) : gb434 ≠ gb445)); have n12_ := zm ((by rw [hg]; exact Nat.ne_of_gt (blk_lt (g := gb434) (o := .cells #[.slice none 0 0, .slice none 0 0] 48 (0, 0)) (zg_2 Zd.out)) : gb445 ≠ gb434)); clear Zk; clear Za; clear Zc; clear Zb; clear Zd; clear HB; have Zk := n0_; have Za := n1_; have Zc := n2_; have Zb := n3_; have Zd := n4_; have HB := n5_; have Ze := n6_; have Zr := n7_; have Zo := n8_; have Zf := n9_; have Zl := n10_; have Zg := n11_; have Zm := n12_; clear n0_ n1_ n2_ n3_ n4_ n5_ n6_ n7_ n8_ n9_ n10_ n11_ n12_; clear hb hbox hg; have hnb38 := Zl.out; have hnc38 := Zf.out; have hnb39 := Zm.out; have hnc39 := Zg.out; have hcz40_0 : w37.cell? ⟨gb445, 0, none⟩ = some (.int .i64 0) := (blk_cell Ze.out 0).trans rfl; have hcz40_1 : w37.cell? ⟨gb445, 1, none⟩ = some (.int .i64 0) := (blk_cell Ze.out 1).trans rfl; have hcz40_2 : w37.cell? ⟨gb445, 2, none⟩ = some (.string (⟨#[]⟩ : ByteArray)) := (blk_cell Ze.out 2).trans rfl; have hfz40_0 := blk_frozen Ze.out 0; have hfz40_1 := blk_frozen Ze.out 1; have hfz40_2 := blk_frozen Ze.out 2))
        go_roundg k1
        case measure => have := HK1.out; omega
        case rel => exact ⟨(x2_1), (x9_1), (wrap64 (x10_1 + 1)), (x434000_1), (u434000), zr, zr, H', ⟨by have := HK1.out; omega⟩, ⟨by (with_reducible repeat (first | apply Kd.R_alloc | apply Kd.R_drewN | apply Kd.R_drew)); exact Kd.R_mono (Kd.R_far (p := ⟨gb445, 2, none⟩) (Kd.R_far (p := ⟨gb445, 1, none⟩) (Kd.R_far (p := ⟨gb445, 0, none⟩) (Kd.R_mono Zk.out (fun k_ hk => (⟨hk, hk.2⟩ : _ ∧ k_ ≠ gb445))) (fun _ hk => hk.2) (.int .i64 ((rd_T92 t438 x10_1).f0))) (fun _ hk => hk.2) (.int .i64 ((rd_T92 t438 x10_1).f1))) (fun _ hk => hk.2) (.string ((rd_T92 t438 x10_1).f2))) (fun _ hk => hk.1.1)⟩, ⟨by (with_reducible repeat (first | apply Kd.R_alloc | apply Kd.R_drewN | apply Kd.R_drew)); exact Kd.R_mono (Kd.R_far (p := ⟨gb445, 2, none⟩) (Kd.R_far (p := ⟨gb445, 1, none⟩) (Kd.R_far (p := ⟨gb445, 0, none⟩) (Kd.R_types Za.out Ze.out (by decide)) (fun _ hk => hk.2) (.int .i64 ((rd_T92 t438 x10_1).f0))) (fun _ hk => hk.2) (.int .i64 ((rd_T92 t438 x10_1).f1))) (fun _ hk => hk.2) (.string ((rd_T92 t438 x10_1).f2))) (fun _ hk => trivial)⟩, ⟨by (with_reducible repeat (first | apply Kd.R_alloc | apply Kd.R_drewN | apply Kd.R_drew)); exact Kd.R_mono (Kd.R_far (p := ⟨gb445, 2, none⟩) (Kd.R_far (p := ⟨gb445, 1, none⟩) (Kd.R_far (p := ⟨gb445, 0, none⟩) (Kd.R_mono Zc.out (fun k_ hk => (⟨hk, hk.2⟩ : _ ∧ k_ ≠ gb445))) (fun _ hk => hk.2) (.int .i64 ((rd_T92 t438 x10_1).f0))) (fun _ hk => hk.2) (.int .i64 ((rd_T92 t438 x10_1).f1))) (fun _ hk => hk.2) (.string ((rd_T92 t438 x10_1).f2))) (fun _ hk => hk.1.1)⟩, ⟨by (with_reducible repeat (first | refine blk_drewN ?_ _ | refine blk_drew ?_ | refine blk_alloc ?_ _)); refine blk_far ?_ Zf.out _; (with_reducible repeat (first | refine blk_drewN ?_ _ | refine blk_drew ?_ | refine blk_alloc ?_ _)); refine blk_far ?_ Zf.out _; (with_reducible repeat (first | refine blk_drewN ?_ _ | refine blk_drew ?_ | refine blk_alloc ?_ _)); refine blk_far ?_ Zf.out _; (with_reducible repeat (first | refine blk_drewN ?_ _ | refine blk_drew ?_ | refine blk_alloc ?_ _)); exact Zb.out⟩, ⟨by (with_reducible repeat (first | refine blk_drewN ?_ _ | refine blk_drew ?_ | refine blk_alloc ?_ _)); refine blk_far ?_ Zg.out _; (with_reducible repeat (first | refine blk_drewN ?_ _ | refine blk_drew ?_ | refine blk_alloc ?_ _)); refine blk_far ?_ Zg.out _; (with_reducible repeat (first | refine blk_drewN ?_ _ | refine blk_drew ?_ | refine blk_alloc ?_ _)); refine blk_far ?_ Zg.out _; (with_reducible repeat (first | refine blk_drewN ?_ _ | refine blk_drew ?_ | refine blk_alloc ?_ _)); exact Zd.out⟩, ⟨zg_8 HB.out Zh.out Zi.out Zo.out⟩⟩
       ·replace c34 := Bool.eq_false_iff.mpr c34
        subst c34
        have H1 : (if x9_1.length < 4398046511104 then (spec_l01Land.l0 k1 a1 x2_1 false (x9_1 ++ [(⟨(rd_T92 t438 x10_1).f0, (rd_T92 t438 x10_1).f1, (rd_T92 t438 x10_1).f2⟩ : S92)]) (wrap64 (x10_1 + 1)) x434000_1 t438) else (none)) = some (r1, r2) := by rw [if_neg (show ¬ (false = true) by decide)] at H; exact H
        clear H
        have H := H1
        clear H1
        by_cases c41 : x9_1.length < 4398046511104
        ·rw [if_pos c41] at H
         have LMc41 := zm c41
         clear c41
         obtain ⟨y447, hy447⟩ : ∃ y_ : List (S92), y_ = (x9_1 ++ [(⟨(rd_T92 t438 x10_1).f0, (rd_T92 t438 x10_1).f1, (rd_T92 t438 x10_1).f2⟩ : S92)]) := ⟨_, rfl⟩
         replace H : (spec_l01Land.l0 k1 a1 x2_1 false y447 (wrap64 (x10_1 + 1)) x434000_1 t438) = some (r1, r2) := by first | (rw [hy447]; with_reducible exact H) | (have H2_ := (Option.bind_some _ _).symm.trans H; rw [hy447]; with_reducible exact H2_) | (have H2_ := (Option.bind_some _ _).symm.trans H; with_reducible exact H2_) | with_reducible exact H | (rw [hy447]; exact H) | exact H
         have Ny447 := zm hy447
         clear hy447
         have H' := zm H
         clear H
         have hnb42 := Zn.out
         have hnc42 := Zj.out
         have hcz43_0 : wr.cell? ⟨gb433, 0, none⟩ = some (u434000) := (blk_cell Zb.out 0).trans rfl
         have hcz43_1 : wr.cell? ⟨gb433, 1, none⟩ = some (.slice Ao13 t438.length co13) := (blk_cell Zb.out 1).trans rfl
         have hfz43_0 := blk_frozen Zb.out 0
         have hfz43_1 := blk_frozen Zb.out 1
         have p444 : 0 ≤ (x10_1 : Int) := of_decide_eq_true (by first | (with_reducible assumption) | assumption)
         have q444 : x10_1 < (t438.length : Int) := of_decide_eq_true (by first | (with_reducible assumption) | assumption)
         obtain ⟨ad444, e444, hx444_0, hx444_1, hx444_2⟩ := at_T92 (Kd.R_reads' Zc.out).2.2 x10_1 p444 q444
         cases e444
         replace p444 := eq_true p444
         replace q444 := eq_true q444
         go_wp2_with (first | ((with_reducible refine gate_dst (N := 11) rfl ?_); refine box_event ?hg (N := 11) ?hd (cs := #[.int .i64 0, .int .i64 0, .string (⟨#[]⟩ : ByteArray)]) (t := 92) ?hr ?_; (case hd => rfl); (case hg => rfl); (case hr => first | (go_simp; done) | (go_simp; rfl)); intro gb445 hg w44 hbox hb; have n0_ := zm (Kd.R_below (Kd.R_elderB (zg_4 Zk.out) gb445 (Nat.le_of_eq hg.symm)) hb); have n1_ := zm (Kd.R_below (zg_4 Za.out) hb); have n2_ := zm (Kd.R_below (Kd.R_elderB (zg_4 Zc.out) gb445 (Nat.le_of_eq hg.symm)) hb); have n3_ := zm (blk_below (g := gb433) (o := .cells #[u434000, .slice (some ad444) t438.length co13] 48 (0, 0)) (zg_2 Zb.out) hb); have n4_ := zm (blk_below (g := gb434) (o := .cells #[.slice none 0 0, .slice none 0 0] 48 (0, 0)) (zg_2 Zd.out) hb); have n5_ := zm (below_step (zg_3 HB.out Zh.out Zi.out) hb); have n6_ := zm (hbox); have n7_ := zm ((by rw [hg]; exact (below_size (zg_3 HB.out Zh.out Zi.out)) : w.heap.size ≤ gb445)); have n8_ := zm ((by rw [hg]; exact (below_size (zg_3 HB.out Zh.out Zi.out)) : w.heap.size ≤ gb445)); have n9_ := zm ((by rw [hg]; exact Nat.ne_of_lt (blk_lt (g := gb433) (o := .cells #[u434000, .slice (some ad444) t438.length co13] 48 (0, 0)) (zg_2 Zb.out)) : gb433 ≠ gb445)); have n10_ := zm ((by rw [hg]; exact Nat.ne_of_gt (blk_lt (g := gb433) (o := .cells #[u434000, .slice (some ad444) t438.length co13] 48 (0, 0)) (zg_2 Zb.out)) : gb445 ≠ gb433)); have n11_ := zm ((by rw [hg]; exact Nat.ne_of_lt (blk_lt (g := gb434) (o := .cells #[.slice none 0 0, .slice none 0 0] 48 (0, 0)) (zg_2 Zd.out)) : gb434 ≠ gb445)); have n12_ := zm ((by rw [hg]; exact Nat.ne_of_gt (blk_lt (g := gb434) (o := .cells #[.slice none 0 0, .slice none 0 0] 48 (0, 0)) (zg_2 Zd.out)) : gb445 ≠ gb434)); clear Zk; clear Za; clear Zc; clear Zb; clear Zd; clear HB; have Zk := n0_; have Za := n1_; have Zc := n2_; have Zb := n3_; have Zd := n4_; have HB := n5_; have Ze := n6_; have Zr := n7_; have Zo := n8_; have Zf := n9_; have Zl := n10_; have Zg := n11_; have Zm := n12_; clear n0_ n1_ n2_ n3_ n4_ n5_ n6_ n7_ n8_ n9_ n10_ n11_ n12_; clear hb hbox hg; have hnb45 := Zl.out; have hnc45 := Zf.out; have hnb46 := Zm.out; have hnc46 := Zg.out; have hcz47_0 : w44.cell? ⟨gb445, 0, none⟩ = some (.int .i64 0) := (blk_cell Ze.out 0).trans rfl; have hcz47_1 : w44.cell? ⟨gb445, 1, none⟩ = some (.int .i64 0) := (blk_cell Ze.out 1).trans rfl; have hcz47_2 : w44.cell? ⟨gb445, 2, none⟩ = some (.string (⟨#[]⟩ : ByteArray)) := (blk_cell Ze.out 2).trans rfl; have hfz47_0 := blk_frozen Ze.out 0; have hfz47_1 := blk_frozen Ze.out 1; have hfz47_2 := blk_frozen Ze.out 2) | ((with_reducible refine gate_builtin (b := .append) (xs := #[.tmp 51, .tmp 53]) rfl ?_); at_builtin; refine Kd.R_append k92 (w0 := w) w.heap.size rfl (.tmp 51) (.tmp 53) 46 92 (.agg #[(.int .i64 0), (.int .i64 0), (.string ⟨#[]⟩)]) 32 rfl Try.underlying46 info92 rfl (by decide) (by omega) u9 x9_1 (⟨(rd_T92 t438 x10_1).f0, (rd_T92 t438 x10_1).f1, (rd_T92 t438 x10_1).f2⟩ : S92) [.int .i64 ((rd_T92 t438 x10_1).f0), .int .i64 ((rd_T92 t438 x10_1).f1), .string ((rd_T92 t438 x10_1).f2)] (fun k_ => some k_ ≠ (.slice (some ad444) t438.length co13 : Value).ownBlock ∧ k_ ≠ gb445) (fun _ => False) rfl (by first | (go_simp; done) | (go_simp; rfl)) ?aP (fun _ hk => hk.elim) ?aF ?aO ?aB ?aS ?aL ?_; (case aP => exact k92_mkM _ _ _ (⟨(rd_T92 t438 x10_1).f0, (rd_T92 t438 x10_1).f1, (rd_T92 t438 x10_1).f2⟩ : S92)); (case aB => exact (zg_8 HB.out Zh.out Zi.out Zo.out)); (case aF => exact (fun k_ hk => ⟨Kd.fresh' (Kd.R_lt (by (with_reducible repeat (first | apply Kd.R_alloc | apply Kd.R_drewN | apply Kd.R_drew)); exact (Kd.R_mono (Kd.R_far (p := ⟨gb445, 2, none⟩) (Kd.R_far (p := ⟨gb445, 1, none⟩) (Kd.R_far (p := ⟨gb445, 0, none⟩) (Kd.R_mono Zc.out (fun k_ hk => (⟨hk, hk.2⟩ : _ ∧ k_ ≠ gb445))) (fun _ hk => hk.2) (.int .i64 ((rd_T92 t438 x10_1).f0))) (fun _ hk => hk.2) (.int .i64 ((rd_T92 t438 x10_1).f1))) (fun _ hk => hk.2) (.string ((rd_T92 t438 x10_1).f2))) (fun _ h_ => h_.1)))) k_ hk, Kd.freshB (g := gb445) (o := .cells #[.int .i64 ((rd_T92 t438 x10_1).f0), .int .i64 ((rd_T92 t438 x10_1).f1), .string ((rd_T92 t438 x10_1).f2)] 92 (0, 0)) (by (with_reducible repeat (first | refine blk_drewN ?_ _ | refine blk_drew ?_ | refine blk_alloc ?_ _)); refine blk_put (cs := #[.int .i64 ((rd_T92 t438 x10_1).f0), .int .i64 ((rd_T92 t438 x10_1).f1), .string (⟨#[]⟩ : ByteArray)]) ?_ 2 _ rfl; (with_reducible repeat (first | refine blk_drewN ?_ _ | refine blk_drew ?_ | refine blk_alloc ?_ _)); refine blk_put (cs := #[.int .i64 ((rd_T92 t438 x10_1).f0), .int .i64 0, .string (⟨#[]⟩ : ByteArray)]) ?_ 1 _ rfl; (with_reducible repeat (first | refine blk_drewN ?_ _ | refine blk_drew ?_ | refine blk_alloc ?_ _)); refine blk_put (cs := #[.int .i64 0, .int .i64 0, .string (⟨#[]⟩ : ByteArray)]) ?_ 0 _ rfl; (with_reducible repeat (first | refine blk_drewN ?_ _ | refine blk_drew ?_ | refine blk_alloc ?_ _)); exact Ze.out) k_ hk⟩)); (case aO => exact (by (with_reducible repeat (first | apply Kd.R_alloc | apply Kd.R_drewN | apply Kd.R_drew)); exact Kd.R_mono (Kd.R_far (p := ⟨gb445, 2, none⟩) (Kd.R_far (p := ⟨gb445, 1, none⟩) (Kd.R_far (p := ⟨gb445, 0, none⟩) (Kd.R_mono Zk.out (fun k_ hk => (⟨hk, hk.2⟩ : _ ∧ k_ ≠ gb445))) (fun _ hk => hk.2) (.int .i64 ((rd_T92 t438 x10_1).f0))) (fun _ hk => hk.2) (.int .i64 ((rd_T92 t438 x10_1).f1))) (fun _ hk => hk.2) (.string ((rd_T92 t438 x10_1).f2))) (fun _ hk => ⟨hk.1.1, hk.1.2⟩))); (case aS => exact (below_size (zg_8 HB.out Zh.out Zi.out Zo.out))); (case aL => have := LMc41.out; omega); intro v448 w48 ho hb hg hat; rw [← Ny447.out] at ho; have n0_ := zm (Kd.R_over' (by (with_reducible repeat (first | apply Kd.R_alloc | apply Kd.R_drewN | apply Kd.R_drew)); exact (Kd.R_mono (Kd.R_far (p := ⟨gb445, 2, none⟩) (Kd.R_far (p := ⟨gb445, 1, none⟩) (Kd.R_far (p := ⟨gb445, 0, none⟩) (Kd.R_types Za.out Ze.out (by decide)) (fun _ hk => hk.2) (.int .i64 ((rd_T92 t438 x10_1).f0))) (fun _ hk => hk.2) (.int .i64 ((rd_T92 t438 x10_1).f1))) (fun _ hk => hk.2) (.string ((rd_T92 t438 x10_1).f2))) (fun _ h_ => h_.1))) (Kd.R_typed (by (with_reducible repeat (first | apply Kd.R_alloc | apply Kd.R_drewN | apply Kd.R_drew)); exact (Kd.R_mono (Kd.R_far (p := ⟨gb445, 2, none⟩) (Kd.R_far (p := ⟨gb445, 1, none⟩) (Kd.R_far (p := ⟨gb445, 0, none⟩) (Kd.R_mono Zk.out (fun k_ hk => (⟨hk, hk.2⟩ : _ ∧ k_ ≠ gb445))) (fun _ hk => hk.2) (.int .i64 ((rd_T92 t438 x10_1).f0))) (fun _ hk => hk.2) (.int .i64 ((rd_T92 t438 x10_1).f1))) (fun _ hk => hk.2) (.string ((rd_T92 t438 x10_1).f2))) (fun _ h_ => h_.1)))) (by decide) hg); have n1_ := zm (Kd.R_after (ok := (fun k_ => k_ ≠ gb445)) (by (with_reducible repeat (first | apply Kd.R_alloc | apply Kd.R_drewN | apply Kd.R_drew)); exact Kd.R_mono (Kd.R_far (p := ⟨gb445, 2, none⟩) (Kd.R_far (p := ⟨gb445, 1, none⟩) (Kd.R_far (p := ⟨gb445, 0, none⟩) (Kd.R_mono Zc.out (fun k_ hk => (⟨hk, hk.2⟩ : _ ∧ k_ ≠ gb445))) (fun _ hk => hk.2) (.int .i64 ((rd_T92 t438 x10_1).f0))) (fun _ hk => hk.2) (.int .i64 ((rd_T92 t438 x10_1).f1))) (fun _ hk => hk.2) (.string ((rd_T92 t438 x10_1).f2))) (fun _ hk => ⟨hk.1.2, hk.1.1⟩)) hg hat); have n2_ := zm (blk_grown (g := gb433) (o := .cells #[u434000, .slice (some ad444) t438.length co13] 48 (0, 0)) (by (with_reducible repeat (first | refine blk_drewN ?_ _ | refine blk_drew ?_ | refine blk_alloc ?_ _)); refine blk_far ?_ Zf.out _; (with_reducible repeat (first | refine blk_drewN ?_ _ | refine blk_drew ?_ | refine blk_alloc ?_ _)); refine blk_far ?_ Zf.out _; (with_reducible repeat (first | refine blk_drewN ?_ _ | refine blk_drew ?_ | refine blk_alloc ?_ _)); refine blk_far ?_ Zf.out _; (with_reducible repeat (first | refine blk_drewN ?_ _ | refine blk_drew ?_ | refine blk_alloc ?_ _)); exact Zb.out) hg (Kd.R_ne Zk.out Zb.out (by decide))); have n3_ := zm (blk_grown (g := gb434) (o := .cells #[.slice none 0 0, .slice none 0 0] 48 (0, 0)) (by (with_reducible repeat (first | refine blk_drewN ?_ _ | refine blk_drew ?_ | refine blk_alloc ?_ _)); refine blk_far ?_ Zg.out _; (with_reducible repeat (first | refine blk_drewN ?_ _ | refine blk_drew ?_ | refine blk_alloc ?_ _)); refine blk_far ?_ Zg.out _; (with_reducible repeat (first | refine blk_drewN ?_ _ | refine blk_drew ?_ | refine blk_alloc ?_ _)); refine blk_far ?_ Zg.out _; (with_reducible repeat (first | refine blk_drewN ?_ _ | refine blk_drew ?_ | refine blk_alloc ?_ _)); exact Zd.out) hg (Kd.R_ne Zk.out Zd.out (by decide))); have n4_ := zm (blk_grown (g := gb445) (o := .cells #[.int .i64 ((rd_T92 t438 x10_1).f0), .int .i64 ((rd_T92 t438 x10_1).f1), .string ((rd_T92 t438 x10_1).f2)] 92 (0, 0)) (by (with_reducible repeat (first | refine blk_drewN ?_ _ | refine blk_drew ?_ | refine blk_alloc ?_ _)); refine blk_put (cs := #[.int .i64 ((rd_T92 t438 x10_1).f0), .int .i64 ((rd_T92 t438 x10_1).f1), .string (⟨#[]⟩ : ByteArray)]) ?_ 2 _ rfl; (with_reducible repeat (first | refine blk_drewN ?_ _ | refine blk_drew ?_ | refine blk_alloc ?_ _)); refine blk_put (cs := #[.int .i64 ((rd_T92 t438 x10_1).f0), .int .i64 0, .string (⟨#[]⟩ : ByteArray)]) ?_ 1 _ rfl; (with_reducible repeat (first | refine blk_drewN ?_ _ | refine blk_drew ?_ | refine blk_alloc ?_ _)); refine blk_put (cs := #[.int .i64 0, .int .i64 0, .string (⟨#[]⟩ : ByteArray)]) ?_ 0 _ rfl; (with_reducible repeat (first | refine blk_drewN ?_ _ | refine blk_drew ?_ | refine blk_alloc ?_ _)); exact Ze.out) hg (Kd.R_away Zk.out (fun _ hk => hk.2))); have n5_ := zm (hb); have n6_ := zm (ho); clear Za; clear Zc; clear Zb; clear Zd; clear Ze; clear HB; clear Zk; have Za := n0_; have Zc := n1_; have Zb := n2_; have Zd := n3_; have Ze := n4_; have HB := n5_; have Zy := n6_; clear n0_ n1_ n2_ n3_ n4_ n5_ n6_; clear ho hb hg hat))
         go_roundg k1
         case measure => have := HK1.out; omega
         case rel => exact ⟨(x2_1), (y447), (wrap64 (x10_1 + 1)), (x434000_1), (u434000), zr, zr, H', ⟨by have := HK1.out; omega⟩, ⟨by (with_reducible repeat (first | apply Kd.R_alloc | apply Kd.R_drewN | apply Kd.R_drew)); exact Kd.R_mono Zy.out (fun _ hk => hk.1)⟩, ⟨by (with_reducible repeat (first | apply Kd.R_alloc | apply Kd.R_drewN | apply Kd.R_drew)); exact Za.out⟩, ⟨by (with_reducible repeat (first | apply Kd.R_alloc | apply Kd.R_drewN | apply Kd.R_drew)); exact Kd.R_mono Zc.out (fun _ hk => hk.2)⟩, ⟨by (with_reducible repeat (first | refine blk_drewN ?_ _ | refine blk_drew ?_ | refine blk_alloc ?_ _)); exact Zb.out⟩, ⟨by (with_reducible repeat (first | refine blk_drewN ?_ _ | refine blk_drew ?_ | refine blk_alloc ?_ _)); exact Zd.out⟩, ⟨zg_8 HB.out Zh.out Zi.out Zo.out⟩⟩
        ·rw [if_neg c41] at H
         exact absurd H (by simp)
     ·rw [if_neg c18] at H
      have c18b0 : (((rd_T92 t438 x10_1).f0) == a1) = false := beq_eq_false_iff_ne.mpr c18
      have c18b1 : (((rd_T92 t438 x10_1).f0) != a1) = true := bne_iff_ne.mpr c18
      by_cases c49 : x9_1.length < 4398046511104
      ·rw [if_pos c49] at H
       have LMc49 := zm c49
       clear c49
       obtain ⟨y450, hy450⟩ : ∃ y_ : List (S92), y_ = (x9_1 ++ [(⟨(rd_T92 t438 x10_1).f0, (rd_T92 t438 x10_1).f1, (rd_T92 t438 x10_1).f2⟩ : S92)]) := ⟨_, rfl⟩
       replace H : (spec_l01Land.l0 k1 a1 x2_1 a3 y450 (wrap64 (x10_1 + 1)) x434000_1 t438) = some (r1, r2) := by first | (rw [hy450]; with_reducible exact H) | (have H2_ := (Option.bind_some _ _).symm.trans H; rw [hy450]; with_reducible exact H2_) | (have H2_ := (Option.bind_some _ _).symm.trans H; with_reducible exact H2_) | with_reducible exact H | (rw [hy450]; exact H) | exact H
       have Ny450 := zm hy450
       clear hy450
       have H' := zm H
       clear H
       have hnb50 := Zn.out
       have hnc50 := Zj.out
       have hcz51_0 : wr.cell? ⟨gb433, 0, none⟩ = some (u434000) := (blk_cell Zb.out 0).trans rfl
       have hcz51_1 : wr.cell? ⟨gb433, 1, none⟩ = some (.slice Ao13 t438.length co13) := (blk_cell Zb.out 1).trans rfl
       have hfz51_0 := blk_frozen Zb.out 0
       have hfz51_1 := blk_frozen Zb.out 1
       have p444 : 0 ≤ (x10_1 : Int) := of_decide_eq_true (by first | (with_reducible assumption) | assumption)
       have q444 : x10_1 < (t438.length : Int) := of_decide_eq_true (by first | (with_reducible assumption) | assumption)
       obtain ⟨ad444, e444, hx444_0, hx444_1, hx444_2⟩ := at_T92 (Kd.R_reads' Zc.out).2.2 x10_1 p444 q444
       cases e444
       replace p444 := eq_true p444
       replace q444 := eq_true q444
       go_wp2_with (first | ((with_reducible refine gate_dst (N := 11) rfl ?_); refine box_event ?hg (N := 11) ?hd (cs := #[.int .i64 0, .int .i64 0, .string (⟨#[]⟩ : ByteArray)]) (t := 92) ?hr ?_; (case hd => rfl); (case hg => rfl); (case hr => first | (go_simp; done) | (go_simp; rfl)); intro gb445 hg w52 hbox hb; have n0_ := zm (Kd.R_below (Kd.R_elderB (zg_4 Zk.out) gb445 (Nat.le_of_eq hg.symm)) hb); have n1_ := zm (Kd.R_below (zg_4 Za.out) hb); have n2_ := zm (Kd.R_below (Kd.R_elderB (zg_4 Zc.out) gb445 (Nat.le_of_eq hg.symm)) hb); have n3_ := zm (blk_below (g := gb433) (o := .cells #[u434000, .slice (some ad444) t438.length co13] 48 (0, 0)) (zg_2 Zb.out) hb); have n4_ := zm (blk_below (g := gb434) (o := .cells #[.slice none 0 0, .slice none 0 0] 48 (0, 0)) (zg_2 Zd.out) hb); have n5_ := zm (below_step (zg_3 HB.out Zh.out Zi.out) hb); have n6_ := zm (hbox); have n7_ := zm ((by rw [hg]; exact (below_size (zg_3 HB.out Zh.out Zi.out)) : w.heap.size ≤ gb445)); have n8_ := zm ((by rw [hg]; exact (below_size (zg_3 HB.out Zh.out Zi.out)) : w.heap.size ≤ gb445)); have n9_ := zm ((by rw [hg]; exact Nat.ne_of_lt (blk_lt (g := gb433) (o := .cells #[u434000, .slice (some ad444) t438.length co13] 48 (0, 0)) (zg_2 Zb.out)) : gb433 ≠ gb445)); have n10_ := zm ((by rw [hg]; exact Nat.ne_of_gt (blk_lt (g := gb433) (o := .cells #[u434000, .slice (some ad444) t438.length co13] 48 (0, 0)) (zg_2 Zb.out)) : gb445 ≠ gb433)); have n11_ := zm ((by rw [hg]; exact Nat.ne_of_lt (blk_lt (g := gb434) (o := .cells #[.slice none 0 0, .slice none 0 0] 48 (0, 0)) (zg_2 Zd.out)) : gb434 ≠ gb445)); have n12_ := zm ((by rw [hg]; exact Nat.ne_of_gt (blk_lt (g := gb434) (o := .cells #[.slice none 0 0, .slice none 0 0] 48 (0, 0)) (zg_2 Zd.out)) : gb445 ≠ gb434)); clear Zk; clear Za; clear Zc; clear Zb; clear Zd; clear HB; have Zk := n0_; have Za := n1_; have Zc := n2_; have Zb := n3_; have Zd := n4_; have HB := n5_; have Ze := n6_; have Zr := n7_; have Zo := n8_; have Zf := n9_; have Zl := n10_; have Zg := n11_; have Zm := n12_; clear n0_ n1_ n2_ n3_ n4_ n5_ n6_ n7_ n8_ n9_ n10_ n11_ n12_; clear hb hbox hg; have hnb53 := Zl.out; have hnc53 := Zf.out; have hnb54 := Zm.out; have hnc54 := Zg.out; have hcz55_0 : w52.cell? ⟨gb445, 0, none⟩ = some (.int .i64 0) := (blk_cell Ze.out 0).trans rfl; have hcz55_1 : w52.cell? ⟨gb445, 1, none⟩ = some (.int .i64 0) := (blk_cell Ze.out 1).trans rfl; have hcz55_2 : w52.cell? ⟨gb445, 2, none⟩ = some (.string (⟨#[]⟩ : ByteArray)) := (blk_cell Ze.out 2).trans rfl; have hfz55_0 := blk_frozen Ze.out 0; have hfz55_1 := blk_frozen Ze.out 1; have hfz55_2 := blk_frozen Ze.out 2) | ((with_reducible refine gate_builtin (b := .append) (xs := #[.tmp 32, .tmp 34]) rfl ?_); at_builtin; refine Kd.R_append k92 (w0 := w) w.heap.size rfl (.tmp 32) (.tmp 34) 46 92 (.agg #[(.int .i64 0), (.int .i64 0), (.string ⟨#[]⟩)]) 32 rfl Try.underlying46 info92 rfl (by decide) (by omega) u9 x9_1 (⟨(rd_T92 t438 x10_1).f0, (rd_T92 t438 x10_1).f1, (rd_T92 t438 x10_1).f2⟩ : S92) [.int .i64 ((rd_T92 t438 x10_1).f0), .int .i64 ((rd_T92 t438 x10_1).f1), .string ((rd_T92 t438 x10_1).f2)] (fun k_ => some k_ ≠ (.slice (some ad444) t438.length co13 : Value).ownBlock ∧ k_ ≠ gb445) (fun _ => False) rfl (by first | (go_simp; done) | (go_simp; rfl)) ?aP (fun _ hk => hk.elim) ?aF ?aO ?aB ?aS ?aL ?_; (case aP => exact k92_mkM _ _ _ (⟨(rd_T92 t438 x10_1).f0, (rd_T92 t438 x10_1).f1, (rd_T92 t438 x10_1).f2⟩ : S92)); (case aB => exact (zg_8 HB.out Zh.out Zi.out Zo.out)); (case aF => exact (fun k_ hk => ⟨Kd.fresh' (Kd.R_lt (by (with_reducible repeat (first | apply Kd.R_alloc | apply Kd.R_drewN | apply Kd.R_drew)); exact (Kd.R_mono (Kd.R_far (p := ⟨gb445, 2, none⟩) (Kd.R_far (p := ⟨gb445, 1, none⟩) (Kd.R_far (p := ⟨gb445, 0, none⟩) (Kd.R_mono Zc.out (fun k_ hk => (⟨hk, hk.2⟩ : _ ∧ k_ ≠ gb445))) (fun _ hk => hk.2) (.int .i64 ((rd_T92 t438 x10_1).f0))) (fun _ hk => hk.2) (.int .i64 ((rd_T92 t438 x10_1).f1))) (fun _ hk => hk.2) (.string ((rd_T92 t438 x10_1).f2))) (fun _ h_ => h_.1)))) k_ hk, Kd.freshB (g := gb445) (o := .cells #[.int .i64 ((rd_T92 t438 x10_1).f0), .int .i64 ((rd_T92 t438 x10_1).f1), .string ((rd_T92 t438 x10_1).f2)] 92 (0, 0)) (by (with_reducible repeat (first | refine blk_drewN ?_ _ | refine blk_drew ?_ | refine blk_alloc ?_ _)); refine blk_put (cs := #[.int .i64 ((rd_T92 t438 x10_1).f0), .int .i64 ((rd_T92 t438 x10_1).f1), .string (⟨#[]⟩ : ByteArray)]) ?_ 2 _ rfl; (with_reducible repeat (first | refine blk_drewN ?_ _ | refine blk_drew ?_ | refine blk_alloc ?_ _)); refine blk_put (cs := #[.int .i64 ((rd_T92 t438 x10_1).f0), .int .i64 0, .string (⟨#[]⟩ : ByteArray)]) ?_ 1 _ rfl; (with_reducible repeat (first | refine blk_drewN ?_ _ | refine blk_drew ?_ | refine blk_alloc ?_ _)); refine blk_put (cs := #[.int .i64 0, .int .i64 0, .string (⟨#[]⟩ : ByteArray)]) ?_ 0 _ rfl; (with_reducible repeat (first | refine blk_drewN ?_ _ | refine blk_drew ?_ | refine blk_alloc ?_ _)); exact Ze.out) k_ hk⟩)); (case aO => exact (by (with_reducible repeat (first | apply Kd.R_alloc | apply Kd.R_drewN | apply Kd.R_drew)); exact Kd.R_mono (Kd.R_far (p := ⟨gb445, 2, none⟩) (Kd.R_far (p := ⟨gb445, 1, none⟩) (Kd.R_far (p := ⟨gb445, 0, none⟩) (Kd.R_mono Zk.out (fun k_ hk => (⟨hk, hk.2⟩ : _ ∧ k_ ≠ gb445))) (fun _ hk => hk.2) (.int .i64 ((rd_T92 t438 x10_1).f0))) (fun _ hk => hk.2) (.int .i64 ((rd_T92 t438 x10_1).f1))) (fun _ hk => hk.2) (.string ((rd_T92 t438 x10_1).f2))) (fun _ hk => ⟨hk.1.1, hk.1.2⟩))); (case aS => exact (below_size (zg_8 HB.out Zh.out Zi.out Zo.out))); (case aL => have := LMc49.out; omega); intro v451 w56 ho hb hg hat; rw [← Ny450.out] at ho; have n0_ := zm (Kd.R_over' (by (with_reducible repeat (first | apply Kd.R_alloc | apply Kd.R_drewN | apply Kd.R_drew)); exact (Kd.R_mono (Kd.R_far (p := ⟨gb445, 2, none⟩) (Kd.R_far (p := ⟨gb445, 1, none⟩) (Kd.R_far (p := ⟨gb445, 0, none⟩) (Kd.R_types Za.out Ze.out (by decide)) (fun _ hk => hk.2) (.int .i64 ((rd_T92 t438 x10_1).f0))) (fun _ hk => hk.2) (.int .i64 ((rd_T92 t438 x10_1).f1))) (fun _ hk => hk.2) (.string ((rd_T92 t438 x10_1).f2))) (fun _ h_ => h_.1))) (Kd.R_typed (by (with_reducible repeat (first | apply Kd.R_alloc | apply Kd.R_drewN | apply Kd.R_drew)); exact (Kd.R_mono (Kd.R_far (p := ⟨gb445, 2, none⟩) (Kd.R_far (p := ⟨gb445, 1, none⟩) (Kd.R_far (p := ⟨gb445, 0, none⟩) (Kd.R_mono Zk.out (fun k_ hk => (⟨hk, hk.2⟩ : _ ∧ k_ ≠ gb445))) (fun _ hk => hk.2) (.int .i64 ((rd_T92 t438 x10_1).f0))) (fun _ hk => hk.2) (.int .i64 ((rd_T92 t438 x10_1).f1))) (fun _ hk => hk.2) (.string ((rd_T92 t438 x10_1).f2))) (fun _ h_ => h_.1)))) (by decide) hg); have n1_ := zm (Kd.R_after (ok := (fun k_ => k_ ≠ gb445)) (by (with_reducible repeat (first | apply Kd.R_alloc | apply Kd.R_drewN | apply Kd.R_drew)); exact Kd.R_mono (Kd.R_far (p := ⟨gb445, 2, none⟩) (Kd.R_far (p := ⟨gb445, 1, none⟩) (Kd.R_far (p := ⟨gb445, 0, none⟩) (Kd.R_mono Zc.out (fun k_ hk => (⟨hk, hk.2⟩ : _ ∧ k_ ≠ gb445))) (fun _ hk => hk.2) (.int .i64 ((rd_T92 t438 x10_1).f0))) (fun _ hk => hk.2) (.int .i64 ((rd_T92 t438 x10_1).f1))) (fun _ hk => hk.2) (.string ((rd_T92 t438 x10_1).f2))) (fun _ hk => ⟨hk.1.2, hk.1.1⟩)) hg hat); have n2_ := zm (blk_grown (g := gb433) (o := .cells #[u434000, .slice (some ad444) t438.length co13] 48 (0, 0)) (by (with_reducible repeat (first | refine blk_drewN ?_ _ | refine blk_drew ?_ | refine blk_alloc ?_ _)); refine blk_far ?_ Zf.out _; (with_reducible repeat (first | refine blk_drewN ?_ _ | refine blk_drew ?_ | refine blk_alloc ?_ _)); refine blk_far ?_ Zf.out _; (with_reducible repeat (first | refine blk_drewN ?_ _ | refine blk_drew ?_ | refine blk_alloc ?_ _)); refine blk_far ?_ Zf.out _; (with_reducible repeat (first | refine blk_drewN ?_ _ | refine blk_drew ?_ | refine blk_alloc ?_ _)); exact Zb.out) hg (Kd.R_ne Zk.out Zb.out (by decide))); have n3_ := zm (blk_grown (g := gb434) (o := .cells #[.slice none 0 0, .slice none 0 0] 48 (0, 0)) (by (with_reducible repeat (first | refine blk_drewN ?_ _ | refine blk_drew ?_ | refine blk_alloc ?_ _)); refine blk_far ?_ Zg.out _; (with_reducible repeat (first | refine blk_drewN ?_ _ | refine blk_drew ?_ | refine blk_alloc ?_ _)); refine blk_far ?_ Zg.out _; (with_reducible repeat (first | refine blk_drewN ?_ _ | refine blk_drew ?_ | refine blk_alloc ?_ _)); refine blk_far ?_ Zg.out _; (with_reducible repeat (first | refine blk_drewN ?_ _ | refine blk_drew ?_ | refine blk_alloc ?_ _)); exact Zd.out) hg (Kd.R_ne Zk.out Zd.out (by decide))); have n4_ := zm (blk_grown (g := gb445) (o := .cells #[.int .i64 ((rd_T92 t438 x10_1).f0), .int .i64 ((rd_T92 t438 x10_1).f1), .string ((rd_T92 t438 x10_1).f2)] 92 (0, 0)) (by (with_reducible repeat (first | refine blk_drewN ?_ _ | refine blk_drew ?_ | refine blk_alloc ?_ _)); refine blk_put (cs := #[.int .i64 ((rd_T92 t438 x10_1).f0), .int .i64 ((rd_T92 t438 x10_1).f1), .string (⟨#[]⟩ : ByteArray)]) ?_ 2 _ rfl; (with_reducible repeat (first | refine blk_drewN ?_ _ | refine blk_drew ?_ | refine blk_alloc ?_ _)); refine blk_put (cs := #[.int .i64 ((rd_T92 t438 x10_1).f0), .int .i64 0, .string (⟨#[]⟩ : ByteArray)]) ?_ 1 _ rfl; (with_reducible repeat (first | refine blk_drewN ?_ _ | refine blk_drew ?_ | refine blk_alloc ?_ _)); refine blk_put (cs := #[.int .i64 0, .int .i64 0, .string (⟨#[]⟩ : ByteArray)]) ?_ 0 _ rfl; (with_reducible repeat (first | refine blk_drewN ?_ _ | refine blk_drew ?_ | refine blk_alloc ?_ _)); exact Ze.out) hg (Kd.R_away Zk.out (fun _ hk => hk.2))); have n5_ := zm (hb); have n6_ := zm (ho); clear Za; clear Zc; clear Zb; clear Zd; clear Ze; clear HB; clear Zk; have Za := n0_; have Zc := n1_; have Zb := n2_; have Zd := n3_; have Ze := n4_; have HB := n5_; have Zz := n6_; clear n0_ n1_ n2_ n3_ n4_ n5_ n6_; clear ho hb hg hat))
       go_roundg k1
       case measure => have := HK1.out; omega
       case rel => exact ⟨(x2_1), (y450), (wrap64 (x10_1 + 1)), (x434000_1), (u434000), zr, zr, H', ⟨by have := HK1.out; omega⟩, ⟨by (with_reducible repeat (first | apply Kd.R_alloc | apply Kd.R_drewN | apply Kd.R_drew)); exact Kd.R_mono Zz.out (fun _ hk => hk.1)⟩, ⟨by (with_reducible repeat (first | apply Kd.R_alloc | apply Kd.R_drewN | apply Kd.R_drew)); exact Za.out⟩, ⟨by (with_reducible repeat (first | apply Kd.R_alloc | apply Kd.R_drewN | apply Kd.R_drew)); exact Kd.R_mono Zc.out (fun _ hk => hk.2)⟩, ⟨by (with_reducible repeat (first | refine blk_drewN ?_ _ | refine blk_drew ?_ | refine blk_alloc ?_ _)); exact Zb.out⟩, ⟨by (with_reducible repeat (first | refine blk_drewN ?_ _ | refine blk_drew ?_ | refine blk_alloc ?_ _)); exact Zd.out⟩, ⟨zg_8 HB.out Zh.out Zi.out Zo.out⟩⟩
      ·rw [if_neg c49] at H
       exact absurd H (by simp)
    ·rw [if_neg c17] at H
     exact absurd H (by simp)
   ·rw [if_neg c16] at H
    have c16b0 : decide (x10_1 < (t438.length : Int)) = false := decide_eq_false c16
    clear c16
    simp only [Option.some.injEq, Prod.mk.injEq] at H
    obtain ⟨rfl, rfl⟩ := H
    have hnb57 := Zn.out
    have hnc57 := Zj.out
    have hcz58_0 : wr.cell? ⟨gb433, 0, none⟩ = some (u434000) := (blk_cell Zb.out 0).trans rfl
    have hcz58_1 : wr.cell? ⟨gb433, 1, none⟩ = some (.slice Ao13 t438.length co13) := (blk_cell Zb.out 1).trans rfl
    have hfz58_0 := blk_frozen Zb.out 0
    have hfz58_1 := blk_frozen Zb.out 1
    obtain ⟨Ao59, co59, eo59⟩ := Kd.R_slice Zk.out
    subst eo59
    obtain ⟨Ao60, co60, eo60⟩ := Kd.R_slice Za.out
    subst eo60
    have hcz61_0 : wr.cell? ⟨gb434, 0, none⟩ = some (.slice none 0 0) := (blk_cell Zd.out 0).trans rfl
    have hcz61_1 : wr.cell? ⟨gb434, 1, none⟩ = some (.slice none 0 0) := (blk_cell Zd.out 1).trans rfl
    have hfz61_0 := blk_frozen Zd.out 0
    have hfz61_1 := blk_frozen Zd.out 1
    go_wp2
    refine bodyPost_ret (results_cell_row rfl _ _ gb434 48 #[.slice Ao60 x434000_1.length co60, .slice Ao59 x9_1.length co59] (0, 0) _ rfl (by (with_reducible repeat (first | refine blk_drewN ?_ _ | refine blk_drew ?_ | refine blk_alloc ?_ _)); refine blk_put (cs := #[.slice Ao60 x434000_1.length co60, .slice none 0 0]) ?_ 1 _ rfl; (with_reducible repeat (first | refine blk_drewN ?_ _ | refine blk_drew ?_ | refine blk_alloc ?_ _)); refine blk_put (cs := #[.slice none 0 0, .slice none 0 0]) ?_ 0 _ rfl; (with_reducible repeat (first | refine blk_drewN ?_ _ | refine blk_drew ?_ | refine blk_alloc ?_ _)); refine blk_far ?_ Zj.out _; (with_reducible repeat (first | refine blk_drewN ?_ _ | refine blk_drew ?_ | refine blk_alloc ?_ _)); exact Zd.out) Try.underlying48 rfl (by kernel_rfl)) rfl ?_
    exact ⟨_, _, by first | rfl | (simp [errW_none, errW_some] <;> rfl) | (simp [*, errW_none, errW_some] <;> rfl), by (with_reducible repeat (first | apply Kd.R_alloc | apply Kd.R_drewN | apply Kd.R_drew)); exact Kd.R_mono (Kd.R_far (p := ⟨gb434, 1, none⟩) (Kd.R_far (p := ⟨gb434, 0, none⟩) (Kd.R_far (p := ⟨gb433, 1, none⟩) (Kd.R_types (Kd.R_types Za.out Zb.out (by decide)) Zd.out (by decide)) (fun _ hk => hk.1.2) (.slice Ao59 x9_1.length co59)) (fun _ hk => hk.2) (.slice Ao60 x434000_1.length co60)) (fun _ hk => hk.2) (.slice Ao59 x9_1.length co59)) (fun _ hk => trivial), by (with_reducible repeat (first | apply Kd.R_alloc | apply Kd.R_drewN | apply Kd.R_drew)); exact Kd.R_mono (Kd.R_far (p := ⟨gb434, 1, none⟩) (Kd.R_far (p := ⟨gb434, 0, none⟩) (Kd.R_far (p := ⟨gb433, 1, none⟩) (Kd.R_types (Kd.R_types Zk.out Zb.out (by decide)) Zd.out (by decide)) (fun _ hk => hk.1.2) (.slice Ao59 x9_1.length co59)) (fun _ hk => hk.2) (.slice Ao60 x434000_1.length co60)) (fun _ hk => hk.2) (.slice Ao59 x9_1.length co59)) (fun _ hk => trivial), zg_3 HB.out Zh.out Zi.out⟩
/-! ### spec_l01Flush: function 89 -/
def spec_l01Flush.f (k : Nat) (l0_0 : List ByteArray) (l0_1 : List (S92)) (a1 : Int) : Option (List ByteArray × (List (S92))) := (spec_l01Land.f k l0_0 l0_1 a1 200 false).bind fun bt455 => (some (bt455.1, bt455.2))
theorem spec_l01Flush.mono : ∀ a0 a1 a2 k, LeO (spec_l01Flush.f k a0 a1 a2) (spec_l01Flush.f (k + 1) a0 a1 a2) := by
  intro a0 a1 a2 k
  unfold spec_l01Flush.f
  repeat' first
      | (with_reducible exact spec_l01Land.mono _ _ _ _ _ _)
      | (with_reducible exact LeO.refl _)
      | (with_reducible exact LeO.none _)
      | (with_reducible refine LeO.ite ?_ ?_)
      | (with_reducible refine LeO.bind ?_ (fun _ => ?_))
      | exact spec_l01Land.mono _ _ _ _ _ _
      | exact LeO.none _
      | refine LeO.ite ?_ ?_
      | refine LeO.bind ?_ (fun _ => ?_)
set_option maxHeartbeats 8000000 in
set_option maxRecDepth 100000 in
theorem spec_l01Flush.calls (k : Nat) (A0_0 : Option Addr) (c0_0 : Nat) (l0_0 : List ByteArray) (A0_1 : Option Addr) (c0_1 : Nat) (l0_1 : List (S92)) (a1 : Int) (r1 : List ByteArray) (r2 : List (S92)) (w : World) (hr0_0 : Kd.C Kd.string w A0_0 l0_0.length l0_0) (hc0_0 : l0_0.length ≤ c0_0) (hr0_1 : Kd.C k92 w A0_1 l0_1.length l0_1) (hc0_1 : l0_1.length ≤ c0_1) (h : spec_l01Flush.f k l0_0 l0_1 a1 = some (r1, r2)) :
    Calls Try.prog 89 #[.agg #[.slice A0_0 l0_0.length c0_0, .slice A0_1 l0_1.length c0_1], .int .i64 a1] w fun e w' => ∃ v0_ v1_ : Value, e = .returned (.agg #[v0_, v1_]) ∧ Kd.R Kd.string 9 w' w.heap.size (fun _ => True) v0_ r1 ∧ Kd.R k92 92 w' w.heap.size (fun _ => True) v1_ r2 ∧ Below w.heap.size w w' := by
 have hu48 := Try.underlying48
 have Zi := zm hr0_0
 have Zj := zm hc0_0
 clear hr0_0 hc0_0
 have Zk := zm hr0_1
 have Zl := zm hc0_1
 clear hr0_1 hc0_1
 have HB := zm (Below.refl w.heap.size w)
 have H : ((spec_l01Land.f k l0_0 l0_1 a1 200 false).bind fun bt455 => (some (bt455.1, bt455.2))) = some (r1, r2) := h
 clear h
 replace H := Option.bind_eq_some_iff.mp H
 obtain ⟨⟨t455, t458⟩, A30, H⟩ := H
 replace H : (some (t455, t458)) = some (r1, r2) := H
 have A3 := zm A30
 clear A30
 simp only [Option.some.injEq, Prod.mk.injEq] at H
 obtain ⟨rfl, rfl⟩ := H
 go_enter Try.func89, Try.ntmps89
 go_wp2_with (first | ((with_reducible refine gate_dst (N := 2) rfl ?_); refine box_event ?hg (N := 2) ?hd (cs := #[.slice A0_0 l0_0.length c0_0, .slice A0_1 l0_1.length c0_1]) (t := 48) ?hr ?_; (case hd => rfl); (case hg => rfl); (case hr => first | (go_simp; done) | (go_simp; rfl)); intro gb453 hg w4 hbox hb; have n0_ := zm (below_step (zg_0 HB.out) hb); have n1_ := zm (hbox); have n2_ := zm ((by rw [hg]; exact (below_size (zg_0 HB.out)) : w.heap.size ≤ gb453)); have n3_ := zm ((by rw [hg]; exact (below_size (zg_0 HB.out)) : w.heap.size ≤ gb453)); clear HB; have HB := n0_; have Za := n1_; have Zm := n2_; have Zc := n3_; clear n0_ n1_ n2_ n3_; clear hb hbox hg) | ((with_reducible refine gate_dst (N := 4) rfl ?_); refine box_event ?hg (N := 4) ?hd (cs := #[.slice none 0 0, .slice none 0 0]) (t := 48) ?hr ?_; (case hd => rfl); (case hg => rfl); (case hr => first | (go_simp; done) | (go_simp; rfl)); intro gb454 hg w5 hbox hb; have n0_ := zm (blk_below (g := gb453) (o := .cells #[.slice A0_0 l0_0.length c0_0, .slice A0_1 l0_1.length c0_1] 48 (0, 0)) (zg_2 Za.out) hb); have n1_ := zm (below_step (zg_1 HB.out Zc.out) hb); have n2_ := zm (hbox); have n3_ := zm ((by rw [hg]; exact (below_size (zg_1 HB.out Zc.out)) : w.heap.size ≤ gb454)); have n4_ := zm ((by rw [hg]; exact (below_size (zg_1 HB.out Zc.out)) : w.heap.size ≤ gb454)); have n5_ := zm ((by rw [hg]; exact Nat.ne_of_lt (blk_lt (g := gb453) (o := .cells #[.slice A0_0 l0_0.length c0_0, .slice A0_1 l0_1.length c0_1] 48 (0, 0)) (zg_2 Za.out)) : gb453 ≠ gb454)); have n6_ := zm ((by rw [hg]; exact Nat.ne_of_gt (blk_lt (g := gb453) (o := .cells #[.slice A0_0 l0_0.length c0_0, .slice A0_1 l0_1.length c0_1] 48 (0, 0)) (zg_2 Za.out)) : gb454 ≠ gb453)); clear Za; clear HB; have Za := n0_; have HB := n1_; have Zb := n2_; have Zn := n3_; have Zd := n4_; have Ze := n5_; have Zf := n6_; clear n0_ n1_ n2_ n3_ n4_ n5_ n6_; clear hb hbox hg; have hnb6 := Ze.out; have hnc6 := Zf.out; have hcz7_0 : w5.cell? ⟨gb453, 0, none⟩ = some (.slice A0_0 l0_0.length c0_0) := (blk_cell Za.out 0).trans rfl; have hcz7_1 : w5.cell? ⟨gb453, 1, none⟩ = some (.slice A0_1 l0_1.length c0_1) := (blk_cell Za.out 1).trans rfl; have hfz7_0 := blk_frozen Za.out 0; have hfz7_1 := blk_frozen Za.out 1) | ((with_reducible refine gate_callee (f := 73) rfl ?_); refine goesL_ (some 7) rfl rfl Try.func73 (by kernel_rfl) rfl #[.agg #[.slice A0_0 l0_0.length c0_0, .slice A0_1 l0_1.length c0_1], .int .i64 a1, .int .i64 200, .bool false] rfl zq ?_; (with_reducible refine (spec_l01Land.calls k _ _ l0_0 _ _ l0_1 a1 200 false t455 t458 _ ?side1 ?side2 ?side3 ?side4 A3.out).mono ?_); (case side1 => repeat (first | exact (Kd.C_below Zi.out HB.out) | (with_reducible refine Kd.C_alloc ?_ _) | (with_reducible refine Kd.C_drewN ?_ _) | (with_reducible refine Kd.C_drew ?_))); (case side2 => exact Zj.out); (case side3 => repeat (first | exact (Kd.C_below Zk.out HB.out) | (with_reducible refine Kd.C_alloc ?_ _) | (with_reducible refine Kd.C_drewN ?_ _) | (with_reducible refine Kd.C_drew ?_))); (case side4 => exact Zl.out); rintro e w8 ⟨v456, v459, rfl, ho0, ho1, hb⟩; refine ⟨_, rfl, ?_⟩; have n0_ := zm (Kd.R_lower ho0 (below_size (zg_3 HB.out Zc.out Zd.out))); have n1_ := zm (Kd.R_lower ho1 (below_size (zg_3 HB.out Zc.out Zd.out))); have n2_ := zm (blk_below (g := gb453) (o := .cells #[.slice A0_0 l0_0.length c0_0, .slice A0_1 l0_1.length c0_1] 48 (0, 0)) (zg_2 Za.out) hb); have n3_ := zm (blk_below (g := gb454) (o := .cells #[.slice none 0 0, .slice none 0 0] 48 (0, 0)) (zg_2 Zb.out) hb); have n4_ := zm (below_step (zg_3 HB.out Zc.out Zd.out) hb); clear Za; clear Zb; clear HB; have Zg := n0_; have Zh := n1_; have Za := n2_; have Zb := n3_; have HB := n4_; clear n0_ n1_ n2_ n3_ n4_; (try clear hb); (try clear hb2); (try clear hk); (try clear hi); (try clear ho0); (try clear ho1); obtain ⟨Ao9, co9, eo9⟩ := Kd.R_slice Zg.out; subst eo9; have hcz10_0 : w8.cell? ⟨gb454, 0, none⟩ = some (.slice none 0 0) := (blk_cell Zb.out 0).trans rfl; have hcz10_1 : w8.cell? ⟨gb454, 1, none⟩ = some (.slice none 0 0) := (blk_cell Zb.out 1).trans rfl; have hfz10_0 := blk_frozen Zb.out 0; have hfz10_1 := blk_frozen Zb.out 1; obtain ⟨Ao11, co11, eo11⟩ := Kd.R_slice Zh.out; subst eo11))
 refine bodyPost_ret (results_cell_row rfl _ _ gb454 48 #[.slice Ao9 t455.length co9, .slice Ao11 t458.length co11] (0, 0) _ rfl (by (with_reducible repeat (first | refine blk_drewN ?_ _ | refine blk_drew ?_ | refine blk_alloc ?_ _)); refine blk_put (cs := #[.slice Ao9 t455.length co9, .slice none 0 0]) ?_ 1 _ rfl; (with_reducible repeat (first | refine blk_drewN ?_ _ | refine blk_drew ?_ | refine blk_alloc ?_ _)); refine blk_put (cs := #[.slice none 0 0, .slice none 0 0]) ?_ 0 _ rfl; (with_reducible repeat (first | refine blk_drewN ?_ _ | refine blk_drew ?_ | refine blk_alloc ?_ _)); exact Zb.out) Try.underlying48 rfl (by kernel_rfl)) rfl ?_
 exact ⟨_, _, by first | rfl | (simp [errW_none, errW_some] <;> rfl) | (simp [*, errW_none, errW_some] <;> rfl), by (with_reducible repeat (first | apply Kd.R_alloc | apply Kd.R_drewN | apply Kd.R_drew)); exact Kd.R_mono (Kd.R_far (p := ⟨gb454, 1, none⟩) (Kd.R_far (p := ⟨gb454, 0, none⟩) (Kd.R_types Zg.out Zb.out (by decide)) (fun _ hk => hk.2) (.slice Ao9 t455.length co9)) (fun _ hk => hk.2) (.slice Ao11 t458.length co11)) (fun _ hk => trivial), by (with_reducible repeat (first | apply Kd.R_alloc | apply Kd.R_drewN | apply Kd.R_drew)); exact Kd.R_mono (Kd.R_far (p := ⟨gb454, 1, none⟩) (Kd.R_far (p := ⟨gb454, 0, none⟩) (Kd.R_types Zh.out Zb.out (by decide)) (fun _ hk => hk.2) (.slice Ao9 t455.length co9)) (fun _ hk => hk.2) (.slice Ao11 t458.length co11)) (fun _ hk => trivial), zg_3 HB.out Zc.out Zd.out⟩
/-! ### spec_l01New: function 111 -/
def spec_l01New.f  : Option (List ByteArray × (List (S92))) := if 64 ≤ 17592186044416 then (some ((List.replicate 64 (⟨#[]⟩ : ByteArray)), (([] : List (S92))))) else (none)
set_option maxHeartbeats 8000000 in
set_option maxRecDepth 100000 in
theorem spec_l01New.calls  (r1 : List ByteArray) (r2 : List (S92)) (w : World) (h : spec_l01New.f  = some (r1, r2)) :
    Calls Try.prog 111 #[] w fun e w' => ∃ v0_ v1_ : Value, e = .returned (.agg #[v0_, v1_]) ∧ Kd.R Kd.string 9 w' w.heap.size (fun _ => True) v0_ r1 ∧ Kd.R k92 92 w' w.heap.size (fun _ => True) v1_ r2 ∧ Below w.heap.size w w' := by
 have hu48 := Try.underlying48
 have HB := zm (Below.refl w.heap.size w)
 have H : (if 64 ≤ 17592186044416 then (some ((List.replicate 64 (⟨#[]⟩ : ByteArray)), (([] : List (S92))))) else (none)) = some (r1, r2) := h
 clear h
 by_cases c1 : 64 ≤ 17592186044416
 ·rw [if_pos c1] at H
  have c1b0 := eq_true c1
  have c1b1 : decide (64 ≤ 17592186044416) = true := decide_eq_true c1
  clear c1
  obtain ⟨y462, hy462⟩ : ∃ y_ : List ByteArray, y_ = (List.replicate 64 (⟨#[]⟩ : ByteArray)) := ⟨_, rfl⟩
  replace H : (some (y462, (([] : List (S92))))) = some (r1, r2) := by first | (rw [hy462]; with_reducible exact H) | (have H2_ := (Option.bind_some _ _).symm.trans H; rw [hy462]; with_reducible exact H2_) | (have H2_ := (Option.bind_some _ _).symm.trans H; with_reducible exact H2_) | with_reducible exact H | (rw [hy462]; exact H) | exact H
  have Ny462 := zm hy462
  clear hy462
  obtain ⟨y465, hy465⟩ : ∃ y_ : List (S92), y_ = (([] : List (S92))) := ⟨_, rfl⟩
  replace H : (some (y462, y465)) = some (r1, r2) := by first | (rw [hy465]; with_reducible exact H) | (have H2_ := (Option.bind_some _ _).symm.trans H; rw [hy465]; with_reducible exact H2_) | (have H2_ := (Option.bind_some _ _).symm.trans H; with_reducible exact H2_) | with_reducible exact H | (rw [hy465]; exact H) | exact H
  have Ny465 := zm hy465
  clear hy465
  simp only [Option.some.injEq, Prod.mk.injEq] at H
  obtain ⟨rfl, rfl⟩ := H
  go_enter Try.func111, Try.ntmps111
  go_wp2_with (first | ((with_reducible refine gate_dst (N := 0) rfl ?_); refine box_event ?hg (N := 0) ?hd (cs := #[.slice none 0 0, .slice none 0 0]) (t := 48) ?hr ?_; (case hd => rfl); (case hg => rfl); (case hr => first | (go_simp; done) | (go_simp; rfl)); intro gb461 hg w2 hbox hb; have n0_ := zm (below_step (zg_0 HB.out) hb); have n1_ := zm (hbox); have n2_ := zm ((by rw [hg]; exact (below_size (zg_0 HB.out)) : w.heap.size ≤ gb461)); have n3_ := zm ((by rw [hg]; exact (below_size (zg_0 HB.out)) : w.heap.size ≤ gb461)); clear HB; have HB := n0_; have BK461 := n1_; have GW461 := n2_; have GE461 := n3_; clear n0_ n1_ n2_ n3_; clear hb hbox hg) | ((with_reducible refine gate_dst (N := 1) rfl ?_); refine Kd.R_make Kd.string _ 9 rfl (N := 1) rfl 45 _ _ rfl 64 rfl rfl Try.underlying45 (.string ⟨#[]⟩) 16 info9 rfl (by decide) (by omega) (⟨#[]⟩ : ByteArray) (ok := fun _ => True) (okp := fun _ => True) rfl (fun _ hk => hk) trivial (by omega) (by omega) (Below.refl _ _) (Nat.le_refl _) ?_; intro v463 w3 ho4 hb hg_ hnew_; clear hg_ hnew_; (first | rw [← Ny462.out] at ho4 | (simp only [Int.reduceToNat] at ho4; rw [← Ny462.out] at ho4)); have n0_ := zm (Kd.R_lower ho4 (below_size (zg_1 HB.out GE461.out))); have n1_ := zm (blk_below (g := gb461) (o := .cells #[.slice none 0 0, .slice none 0 0] 48 (0, 0)) (zg_2 BK461.out) hb); have n2_ := zm (below_step (zg_1 HB.out GE461.out) hb); clear BK461; clear HB; have HO464 := n0_; have BK461 := n1_; have HB := n2_; clear n0_ n1_ n2_; clear hb ho4) | ((with_reducible refine gate_dst (N := 2) rfl ?_); refine Kd.R_lit k92 _ 92 ?hg (N := 2) ?hd (xs := ([] : List (S92))) (inner := []) (ok := fun _ => True) (okp := fun _ => True) ?hr ?hp (fun _ hk => hk) trivial (Below.refl _ _) (Nat.le_refl _) (by simp) ?_; (case hd => rfl); (case hg => rfl); (case hr => first | (go_simp; done) | (go_simp; rfl)); (case hp => exact (Reps.none _ _)); intro v466 w5 ho6 hb hg_ hnew_; clear hg_ hnew_; (first | rw [← Ny465.out] at ho6 | (simp only [Int.reduceToNat] at ho6; rw [← Ny465.out] at ho6)); have n0_ := zm (Kd.R_below (zg_4 HO464.out) hb); have n1_ := zm (Kd.R_lower ho6 (below_size (zg_1 HB.out GE461.out))); have n2_ := zm (blk_below (g := gb461) (o := .cells #[.slice none 0 0, .slice none 0 0] 48 (0, 0)) (zg_2 BK461.out) hb); have n3_ := zm (below_step (zg_1 HB.out GE461.out) hb); clear HO464; clear BK461; clear HB; have HO464 := n0_; have HO467 := n1_; have BK461 := n2_; have HB := n3_; clear n0_ n1_ n2_ n3_; clear hb ho6; obtain ⟨Ao7, co7, eo7⟩ := Kd.R_slice HO467.out; subst eo7; obtain ⟨Ao8, co8, eo8⟩ := Kd.R_slice HO464.out; subst eo8; have hcz9_0 : w5.cell? ⟨gb461, 0, none⟩ = some (.slice none 0 0) := (blk_cell BK461.out 0).trans rfl; have hcz9_1 : w5.cell? ⟨gb461, 1, none⟩ = some (.slice none 0 0) := (blk_cell BK461.out 1).trans rfl; have hfz9_0 := blk_frozen BK461.out 0; have hfz9_1 := blk_frozen BK461.out 1))
  refine bodyPost_ret (results_cell_row rfl _ _ gb461 48 #[.slice Ao8 y462.length co8, .slice Ao7 y465.length co7] (0, 0) _ rfl (by (with_reducible repeat (first | refine blk_drewN ?_ _ | refine blk_drew ?_ | refine blk_alloc ?_ _)); refine blk_put (cs := #[.slice Ao8 y462.length co8, .slice none 0 0]) ?_ 1 _ rfl; (with_reducible repeat (first | refine blk_drewN ?_ _ | refine blk_drew ?_ | refine blk_alloc ?_ _)); refine blk_put (cs := #[.slice none 0 0, .slice none 0 0]) ?_ 0 _ rfl; (with_reducible repeat (first | refine blk_drewN ?_ _ | refine blk_drew ?_ | refine blk_alloc ?_ _)); exact BK461.out) Try.underlying48 rfl (by kernel_rfl)) rfl ?_
  exact ⟨_, _, by first | rfl | (simp [errW_none, errW_some] <;> rfl) | (simp [*, errW_none, errW_some] <;> rfl), by (with_reducible repeat (first | apply Kd.R_alloc | apply Kd.R_drewN | apply Kd.R_drew)); exact Kd.R_mono (Kd.R_far (p := ⟨gb461, 1, none⟩) (Kd.R_far (p := ⟨gb461, 0, none⟩) (Kd.R_types HO464.out BK461.out (by decide)) (fun _ hk => hk.2) (.slice Ao8 y462.length co8)) (fun _ hk => hk.2) (.slice Ao7 y465.length co7)) (fun _ hk => trivial), by (with_reducible repeat (first | apply Kd.R_alloc | apply Kd.R_drewN | apply Kd.R_drew)); exact Kd.R_mono (Kd.R_far (p := ⟨gb461, 1, none⟩) (Kd.R_far (p := ⟨gb461, 0, none⟩) (Kd.R_types HO467.out BK461.out (by decide)) (fun _ hk => hk.2) (.slice Ao8 y462.length co8)) (fun _ hk => hk.2) (.slice Ao7 y465.length co7)) (fun _ hk => trivial), zg_1 HB.out GE461.out⟩
 ·rw [if_neg c1] at H
  exact absurd H (by simp)
/-! ### spec_l01Write: function 112 -/
def spec_l01Write.f (l0_0 : List ByteArray) (l0_1 : List (S92)) (a1_0 : Int) (a1_1 : Int) (a1_2 : ByteArray) : Option (List ByteArray × (List (S92))) := (some (([] : List (S92)) : List (S92))).bind fun y471 => (if y471.length + l0_1.length < 4398046511104 then ((some (y471 ++ l0_1 : List (S92))).bind fun y474 => ((some (([(⟨a1_0, a1_1, a1_2⟩ : S92)] : List (S92)) : List (S92))).bind fun y477 => (if y474.length + y477.length < 4398046511104 then (some (l0_0, (y474 ++ y477))) else (none)))) else (none))
def spec_l01Write.T1 : Bool × List (List Nat × List Nat) := (true, [([], []), ([], []), ([1], [1]), ([0, 2], [0, 2]), ([], []), ([4], [4]), ([3, 5, 3], [3, 5]), ([0, 1, 2, 3, 4, 5, 6], []), ([7, 6, 6, 0, 1, 2, 3, 4, 5, 6], [6, 7])])
def spec_l01Write.B1 : List Nat := [0, 0, 2, 7, 0, 16, 63, 127, 255]
theorem spec_l01Write.tab1 : rtab .any (opsOf Try.f112 1) = spec_l01Write.T1 := by kernel_rfl
theorem spec_l01Write.bits1 : waitsOk spec_l01Write.T1.2 spec_l01Write.B1 = true := by kernel_rfl
set_option maxHeartbeats 8000000 in
set_option maxRecDepth 100000 in
theorem spec_l01Write.calls (P0_0_ : Nat → Prop) (u9000_ : Value) (l0_0 : List ByteArray) (A0_1 : Option Addr) (c0_1 : Nat) (l0_1 : List (S92)) (a1_0 : Int) (a1_1 : Int) (a1_2 : ByteArray) (r1 : List ByteArray) (r2 : List (S92)) (w0 w : World) (hB : Below w0.heap.size w0 w) (ho0_0 : Kd.R Kd.string 9 w w0.heap.size P0_0_ u9000_ l0_0) (hr0_1 : ∀ W_, Kept w W_ (fun k_ => P0_0_ k_) → Kd.C k92 W_ A0_1 l0_1.length l0_1) (hc0_1 : l0_1.length ≤ c0_1) (h : spec_l01Write.f l0_0 l0_1 a1_0 a1_1 a1_2 = some (r1, r2)) :
    Calls Try.prog 112 #[.agg #[u9000_, .slice A0_1 l0_1.length c0_1], .agg #[.int .i64 a1_0, .int .i64 a1_1, .string a1_2]] w fun e w' => ∃ v0_ v1_ : Value, e = .returned (.agg #[v0_, v1_]) ∧ Kd.R Kd.string 9 w' w0.heap.size (fun k_ => (P0_0_ k_ ∨ w.heap.size ≤ k_)) v0_ r1 ∧ Kd.R k92 92 w' w0.heap.size (fun k_ => (P0_0_ k_ ∨ w.heap.size ≤ k_)) v1_ r2 ∧ Below w0.heap.size w0 w' ∧ Kept w w' (fun k_ => P0_0_ k_) := by
 have hu48 := Try.underlying48
 have hu92 := Try.underlying92
 have Zc := zm (show Kd.R Kd.string 9 w w0.heap.size (fun k_ => (P0_0_ k_ ∨ w.heap.size ≤ k_)) u9000_ l0_0 from Kd.R_mono ho0_0 (fun k_ hk => (.inl hk)))
 have Zt := zm hr0_1
 have Zv := zm hc0_1
 clear hr0_1 hc0_1
 have HK := zm (Kept.refl w (fun k_ => P0_0_ k_))
 have HW0 := zm hB.size
 have HB := zm hB
 clear hB
 have H : ((some (([] : List (S92)) : List (S92))).bind fun y471 => (if y471.length + l0_1.length < 4398046511104 then ((some (y471 ++ l0_1 : List (S92))).bind fun y474 => ((some (([(⟨a1_0, a1_1, a1_2⟩ : S92)] : List (S92)) : List (S92))).bind fun y477 => (if y474.length + y477.length < 4398046511104 then (some (l0_0, (y474 ++ y477))) else (none)))) else (none))) = some (r1, r2) := h
 clear h
 obtain ⟨y471, hy471⟩ : ∃ y_ : List (S92), y_ = (([] : List (S92))) := ⟨_, rfl⟩
 replace H : (if y471.length + l0_1.length < 4398046511104 then ((some (y471 ++ l0_1 : List (S92))).bind fun y474 => ((some (([(⟨a1_0, a1_1, a1_2⟩ : S92)] : List (S92)) : List (S92))).bind fun y477 => (if y474.length + y477.length < 4398046511104 then (some (l0_0, (y474 ++ y477))) else (none)))) else (none)) = some (r1, r2) := by first | (rw [hy471]; with_reducible exact H) | (have H2_ := (Option.bind_some _ _).symm.trans H; rw [hy471]; with_reducible exact H2_) | (have H2_ := (Option.bind_some _ _).symm.trans H; with_reducible exact H2_) | with_reducible exact H | (rw [hy471]; exact H) | exact H
 have Ny471 := zm hy471
 clear hy471
 by_cases c3 : y471.length + l0_1.length < 4398046511104
 ·rw [if_pos c3] at H
  have LMc3 := zm c3
  clear c3
  obtain ⟨y474, hy474⟩ : ∃ y_ : List (S92), y_ = (y471 ++ l0_1) := ⟨_, rfl⟩
  replace H : ((some (([(⟨a1_0, a1_1, a1_2⟩ : S92)] : List (S92)) : List (S92))).bind fun y477 => (if y474.length + y477.length < 4398046511104 then (some (l0_0, (y474 ++ y477))) else (none))) = some (r1, r2) := by first | (rw [hy474]; with_reducible exact H) | (have H2_ := (Option.bind_some _ _).symm.trans H; rw [hy474]; with_reducible exact H2_) | (have H2_ := (Option.bind_some _ _).symm.trans H; with_reducible exact H2_) | with_reducible exact H | (rw [hy474]; exact H) | exact H
  have Ny474 := zm hy474
  clear hy474
  obtain ⟨y477, hy477⟩ : ∃ y_ : List (S92), y_ = (([(⟨a1_0, a1_1, a1_2⟩ : S92)] : List (S92))) := ⟨_, rfl⟩
  replace H : (if y474.length + y477.length < 4398046511104 then (some (l0_0, (y474 ++ y477))) else (none)) = some (r1, r2) := by first | (rw [hy477]; with_reducible exact H) | (have H2_ := (Option.bind_some _ _).symm.trans H; rw [hy477]; with_reducible exact H2_) | (have H2_ := (Option.bind_some _ _).symm.trans H; with_reducible exact H2_) | with_reducible exact H | (rw [hy477]; exact H) | exact H
  have Ny477 := zm hy477
  clear hy477
  by_cases c4 : y474.length + y477.length < 4398046511104
  ·rw [if_pos c4] at H
   have LMc4 := zm c4
   clear c4
   obtain ⟨y480, hy480⟩ : ∃ y_ : List (S92), y_ = (y474 ++ y477) := ⟨_, rfl⟩
   replace H : (some (l0_0, y480)) = some (r1, r2) := by first | (rw [hy480]; with_reducible exact H) | (have H2_ := (Option.bind_some _ _).symm.trans H; rw [hy480]; with_reducible exact H2_) | (have H2_ := (Option.bind_some _ _).symm.trans H; with_reducible exact H2_) | with_reducible exact H | (rw [hy480]; exact H) | exact H
   have Ny480 := zm hy480
   clear hy480
   simp only [Option.some.injEq, Prod.mk.injEq] at H
   obtain ⟨rfl, rfl⟩ := H
   obtain ⟨Ao5, co5, eo5⟩ := Kd.R_slice Zc.out
   subst eo5
   go_enter Try.func112, Try.ntmps112
   try go_wp2_with (first | ((with_reducible refine gate_dst (N := 2) rfl ?_); refine box_event ?hg (N := 2) ?hd (cs := #[.slice Ao5 l0_0.length co5, .slice A0_1 l0_1.length c0_1]) (t := 48) ?hr ?_; (case hd => rfl); (case hg => rfl); (case hr => first | (go_simp; done) | (go_simp; rfl)); intro gb468 hg w6 hbox hb; have n0_ := zm (Kd.R_below (zg_4 Zc.out) hb); have n1_ := zm (Kept.below (S := (fun k_ => P0_0_ k_)) (zg_9 HK.out) hb); have n2_ := zm (below_step (zg_0 HB.out) hb); have n3_ := zm (hbox); have n4_ := zm ((by rw [hg]; exact (by first | exact HK.out.1 | exact (show Kept w _ (fun k_ => P0_0_ k_) from zg_9 HK.out).1) : w.heap.size ≤ gb468)); have n5_ := zm ((by rw [hg]; exact (below_size (zg_0 HB.out)) : w0.heap.size ≤ gb468)); clear Zc; clear HK; clear HB; have Zc := n0_; have HK := n1_; have HB := n2_; have Zb := n3_; have Ze := n4_; have Zg := n5_; clear n0_ n1_ n2_ n3_ n4_ n5_; clear hb hbox hg) | ((with_reducible refine gate_dst (N := 3) rfl ?_); refine box_event ?hg (N := 3) ?hd (cs := #[.int .i64 a1_0, .int .i64 a1_1, .string a1_2]) (t := 92) ?hr ?_; (case hd => rfl); (case hg => rfl); (case hr => first | (go_simp; done) | (go_simp; rfl)); intro gb469 hg w7 hbox hb; have n0_ := zm (Kd.R_below (zg_4 Zc.out) hb); have n1_ := zm (blk_below (g := gb468) (o := .cells #[.slice Ao5 l0_0.length co5, .slice A0_1 l0_1.length c0_1] 48 (0, 0)) (zg_2 Zb.out) hb); have n2_ := zm (Kept.below (S := (fun k_ => P0_0_ k_)) (zg_10 HK.out Ze.out) hb); have n3_ := zm (below_step (zg_1 HB.out Zg.out) hb); have n4_ := zm (hbox); have n5_ := zm ((by rw [hg]; exact (by first | exact HK.out.1 | exact (show Kept w _ (fun k_ => P0_0_ k_) from zg_10 HK.out Ze.out).1) : w.heap.size ≤ gb469)); have n6_ := zm ((by rw [hg]; exact (below_size (zg_1 HB.out Zg.out)) : w0.heap.size ≤ gb469)); have n7_ := zm ((by rw [hg]; exact Nat.ne_of_lt (blk_lt (g := gb468) (o := .cells #[.slice Ao5 l0_0.length co5, .slice A0_1 l0_1.length c0_1] 48 (0, 0)) (zg_2 Zb.out)) : gb468 ≠ gb469)); have n8_ := zm ((by rw [hg]; exact Nat.ne_of_gt (blk_lt (g := gb468) (o := .cells #[.slice Ao5 l0_0.length co5, .slice A0_1 l0_1.length c0_1] 48 (0, 0)) (zg_2 Zb.out)) : gb469 ≠ gb468)); clear Zc; clear Zb; clear HK; clear HB; have Zc := n0_; have Zb := n1_; have HK := n2_; have HB := n3_; have Za := n4_; have Zf := n5_; have Zj := n6_; have Zo := n7_; have Zp := n8_; clear n0_ n1_ n2_ n3_ n4_ n5_ n6_ n7_ n8_; clear hb hbox hg) | ((with_reducible refine gate_dst (N := 4) rfl ?_); refine box_event ?hg (N := 4) ?hd (cs := #[.slice none 0 0, .slice none 0 0]) (t := 48) ?hr ?_; (case hd => rfl); (case hg => rfl); (case hr => first | (go_simp; done) | (go_simp; rfl)); intro gb470 hg w8 hbox hb; have n0_ := zm (Kd.R_below (zg_4 Zc.out) hb); have n1_ := zm (blk_below (g := gb468) (o := .cells #[.slice Ao5 l0_0.length co5, .slice A0_1 l0_1.length c0_1] 48 (0, 0)) (zg_2 Zb.out) hb); have n2_ := zm (blk_below (g := gb469) (o := .cells #[.int .i64 a1_0, .int .i64 a1_1, .string a1_2] 92 (0, 0)) (zg_2 Za.out) hb); have n3_ := zm (Kept.below (S := (fun k_ => P0_0_ k_)) (zg_11 HK.out Ze.out Zf.out) hb); have n4_ := zm (below_step (zg_3 HB.out Zg.out Zj.out) hb); have n5_ := zm (hbox); have n6_ := zm ((by rw [hg]; exact (by first | exact HK.out.1 | exact (show Kept w _ (fun k_ => P0_0_ k_) from zg_11 HK.out Ze.out Zf.out).1) : w.heap.size ≤ gb470)); have n7_ := zm ((by rw [hg]; exact (below_size (zg_3 HB.out Zg.out Zj.out)) : w0.heap.size ≤ gb470)); have n8_ := zm ((by rw [hg]; exact Nat.ne_of_lt (blk_lt (g := gb468) (o := .cells #[.slice Ao5 l0_0.length co5, .slice A0_1 l0_1.length c0_1] 48 (0, 0)) (zg_2 Zb.out)) : gb468 ≠ gb470)); have n9_ := zm ((by rw [hg]; exact Nat.ne_of_gt (blk_lt (g := gb468) (o := .cells #[.slice Ao5 l0_0.length co5, .slice A0_1 l0_1.length c0_1] 48 (0, 0)) (zg_2 Zb.out)) : gb470 ≠ gb468)); have n10_ := zm ((by rw [hg]; exact Nat.ne_of_lt (blk_lt (g := gb469) (o := .cells #[.int .i64 a1_0, .int .i64 a1_1, .string a1_2] 92 (0, 0)) (zg_2 Za.out)) : gb469 ≠ gb470)); have n11_ := zm ((by rw [hg]; exact Nat.ne_of_gt (blk_lt (g := gb469) (o := .cells #[.int .i64 a1_0, .int .i64 a1_1, .string a1_2] 92 (0, 0)) (zg_2 Za.out)) : gb470 ≠ gb469)); clear Zc; clear Zb; clear Za; clear HK; clear HB; have Zc := n0_; have Zb := n1_; have Za := n2_; have HK := n3_; have HB := n4_; have Zd := n5_; have Zi := n6_; have Zl := n7_; have Zq := n8_; have Zn := n9_; have Zr := n10_; have Zs := n11_; clear n0_ n1_ n2_ n3_ n4_ n5_ n6_ n7_ n8_ n9_ n10_ n11_; clear hb hbox hg))
   have n0_ := zm (Kd.R_drew Zc.out)
   have n1_ := zm (blk_drew Zb.out)
   have n2_ := zm (blk_drew Za.out)
   have n3_ := zm (blk_drew Zd.out)
   have n4_ := zm (Kept.drew HK.out)
   have n5_ := zm (below_drew1 HB.out)
   clear Zc
   clear Zb
   clear Za
   clear Zd
   clear HK
   clear HB
   have Zc := n0_
   have Zb := n1_
   have Za := n2_
   have Zd := n3_
   have HK := n4_
   have HB := n5_
   clear n0_ n1_ n2_ n3_ n4_ n5_
   refine start_ (n := 9) (S := fun w' => w'.cell? ⟨gb468, 0, none⟩ = some (.slice Ao5 l0_0.length co5) ∧ w'.cell? ⟨gb468, 1, none⟩ = some (.slice A0_1 l0_1.length c0_1) ∧ w'.cell? ⟨gb469, 0, none⟩ = some (.int .i64 a1_0) ∧ w'.cell? ⟨gb469, 1, none⟩ = some (.int .i64 a1_1) ∧ w'.cell? ⟨gb469, 2, none⟩ = some (.string a1_2)) (ds := [8]) #[false, false, false, false, false, false, false, false, false] (by kernel_rfl) rfl rfl ⟨(blk_cell Zb.out 0).trans rfl, (blk_cell Zb.out 1).trans rfl, (blk_cell Za.out 0).trans rfl, (blk_cell Za.out 1).trans rfl, (blk_cell Za.out 2).trans rfl⟩ (fun hHeld => ?_); refine with_tabW spec_l01Write.tab1 spec_l01Write.bits1 (fun HT_ HW_ => ?_)
   generalize w8.drew = w9 at Zc Zb Za Zd HK HB hHeld ⊢
   refine pure_ (i := 1) (N := some 6) (v := ?_) (a' := ?_) #[false, true, false, false, false, false, false, false, false] rfl rfl (any_of HT_.out (by kernel_rfl)) (fun _ _ _ h => h) (Or.inl ⟨by rfl, ?_⟩) ?_ ?_
   rotate_left
   ·intro w'
    go_simp
    with_reducible rfl
   rotate_left
   ·simp only [Act.put, zs, zz, zt, i64_w, i32_w]
    rfl
   refine take_ (i := 2) (N := some 7) (v := ?_) (a' := ?_) #[false, true, true, false, false, false, false, false, false] rfl rfl (take_ofW HT_.out HW_.out (by kernel_rfl)) (fun _ _ _ h => h) (Or.inl ⟨by rfl, ?_⟩) hHeld ?_ ?_
   rotate_left
   ·rintro w' ⟨s0, s1, s2, s3, s4⟩
    go_simp
    with_reducible rfl
   rotate_left
   ·simp only [Act.put, zs, zz, zt, i64_w, i32_w]
    rfl
   refine take_ (i := 4) (N := some 9) (v := ?_) (a' := ?_) #[false, true, true, false, true, false, false, false, false] rfl rfl (take_ofW HT_.out HW_.out (by kernel_rfl)) (fun _ _ _ h => h) (Or.inl ⟨by rfl, ?_⟩) hHeld ?_ ?_
   rotate_left
   ·rintro w' ⟨s0, s1, s2, s3, s4⟩
    go_simp
    with_reducible rfl
   rotate_left
   ·simp only [Act.put, zs, zz, zt, i64_w, i32_w]
    rfl
   refine join_ (σ := Value × Value × Value) 3 #[true, true, true, true, true, true, false, false, false] (fun s_ => [(5, s_.1), (8, s_.2.1), (10, s_.2.2)]) (fun s_ w' => (w'.cell? ⟨gb468, 0, none⟩ = some (.slice Ao5 l0_0.length co5) ∧ w'.cell? ⟨gb468, 1, none⟩ = some (.slice A0_1 l0_1.length c0_1) ∧ w'.cell? ⟨gb469, 0, none⟩ = some (.int .i64 a1_0) ∧ w'.cell? ⟨gb469, 1, none⟩ = some (.int .i64 a1_1) ∧ w'.cell? ⟨gb469, 2, none⟩ = some (.string a1_2)) ∧ (Kd.R Kd.string 9 w' w0.heap.size (fun k_ => (P0_0_ k_ ∨ w.heap.size ≤ k_)) (.slice Ao5 l0_0.length co5) l0_0) ∧ (Kd.R k92 92 w' w0.heap.size (fun k_ => (P0_0_ k_ ∨ w.heap.size ≤ k_) ∧ some k_ ≠ (s_.2.2 : Value).ownBlock ∧ k_ ≠ gb469) s_.2.1 y474) ∧ (Kd.R k92 92 w' w0.heap.size (fun k_ => (P0_0_ k_ ∨ w.heap.size ≤ k_) ∧ some k_ ≠ (s_.2.1 : Value).ownBlock ∧ k_ ≠ gb469) s_.2.2 y477) ∧ (w'.heap[gb468]? = some (.cells #[.slice Ao5 l0_0.length co5, .slice A0_1 l0_1.length c0_1] 48 (0, 0))) ∧ (w'.heap[gb469]? = some (.cells #[.int .i64 a1_0, .int .i64 a1_1, .string a1_2] 92 (0, 0))) ∧ (w'.heap[gb470]? = some (.cells #[.slice none 0 0, .slice none 0 0] 48 (0, 0))) ∧ (Kept w w' (fun k_ => P0_0_ k_)) ∧ (Below w0.heap.size w0 w')) ?_ ?_
   rotate_left
   ·intro hCont
    refine two_ (i := 0) (j := 5) (Ni := some 5) (Nj := some 10) #[true, true, true, false, true, false, false, false, false] #[false, true, true, false, true, true, false, false, false] rfl rfl rfl rfl (two_of HT_.out (by kernel_rfl)) (by decide) (by decide) (fun K hK => ?_) (fun K hK => ?_)
    ·skip
     refine Kd.R_lit_step k92 _ 92 ?hg (N := 5) ?hd (xs := ([] : List (S92))) (inner := []) (ok := fun _ => True) (okp := fun _ => True) ?hr ?hp (fun _ hk => hk) trivial (Below.refl _ _) (Nat.le_refl _) (by simp) ?_; (case hd => rfl); (case hg => rfl); (case hr => first | (go_simp; done) | (go_simp; rfl)); (case hp => exact (Reps.none _ _))
     intro v472 w10 ho11 hb hg_ hnew_
     clear hg_ hnew_
     (first | rw [← Ny471.out] at ho11 | (simp only [Int.reduceToNat] at ho11; rw [← Ny471.out] at ho11))
     have n0_ := zm (Kd.R_below (zg_4 Zc.out) hb)
     have n1_ := zm (Kd.R_lower (Kd.R_newB (Kd.R_newM (M := fun k_ => (P0_0_ k_ ∨ w.heap.size ≤ k_)) ho11 (by first | exact HK.out.1 | exact (show Kept w _ (fun k_ => P0_0_ k_) from zg_12 HK.out Ze.out Zf.out Zi.out).1) (fun k_ h_ => .inr h_)) (g := gb469) (o := .cells #[.int .i64 a1_0, .int .i64 a1_1, .string a1_2] 92 (0, 0)) (zg_2 Za.out)) (below_size (zg_8 HB.out Zg.out Zj.out Zl.out)))
     have n2_ := zm (blk_below (g := gb468) (o := .cells #[.slice Ao5 l0_0.length co5, .slice A0_1 l0_1.length c0_1] 48 (0, 0)) (zg_2 Zb.out) hb)
     have n3_ := zm (blk_below (g := gb469) (o := .cells #[.int .i64 a1_0, .int .i64 a1_1, .string a1_2] 92 (0, 0)) (zg_2 Za.out) hb)
     have n4_ := zm (blk_below (g := gb470) (o := .cells #[.slice none 0 0, .slice none 0 0] 48 (0, 0)) (zg_2 Zd.out) hb)
     have n5_ := zm (Kept.below (S := (fun k_ => P0_0_ k_)) (zg_12 HK.out Ze.out Zf.out Zi.out) hb)
     have n6_ := zm (below_step (zg_8 HB.out Zg.out Zj.out Zl.out) hb)
     clear Zc
     clear Zb
     clear Za
     clear Zd
     clear HK
     clear HB
     have Zc := n0_
     have Zh := n1_
     have Zb := n2_
     have Za := n3_
     have Zd := n4_
     have HK := n5_
     have HB := n6_
     clear n0_ n1_ n2_ n3_ n4_ n5_ n6_
     clear hb ho11
     refine hK.out _ _ ⟨(blk_cell Zb.out 0).trans rfl, (blk_cell Zb.out 1).trans rfl, (blk_cell Za.out 0).trans rfl, (blk_cell Za.out 1).trans rfl, (blk_cell Za.out 2).trans rfl⟩ (fun hHeld => ?_)
     clear hK K
     refine norm_ (a' := ?_) ?_ ?_
     rotate_left
     ·show Act.put _ (some 5) _ = _
      simp only [Act.put, zs, zz, zt, i64_w, i32_w]
      rfl
     refine two_ (i := 3) (j := 5) (Ni := some 8) (Nj := some 10) #[true, true, true, true, true, false, false, false, false] #[true, true, true, false, true, true, false, false, false] rfl rfl rfl rfl (two_of HT_.out (by kernel_rfl)) (by decide) (by decide) (fun K hK => ?_) (fun K hK => ?_)
     ·skip
      refine Kd.R_append_rows_step k92 (w0 := w0) w0.heap.size (by rfl) (.tmp 5) (.tmp 7) 46 92 (.agg #[(.int .i64 0), (.int .i64 0), (.string ⟨#[]⟩)]) 32 rfl Try.underlying46 info92 rfl (by decide) (by omega) v472 y471 l0_1 _ _ _ (fun k_ => (P0_0_ k_ ∨ w.heap.size ≤ k_) ∧ k_ ≠ gb469) (fun _ => False) rfl rfl ?aO ?aR (fun _ _ h => h) (fun _ h => h.elim) ?aF ?aB ?aS ?aL ?_
      (case aR => exact Kd.C_kept_now Zt.out (zg_12 HK.out Ze.out Zf.out Zi.out))
      (case aB => exact (zg_8 HB.out Zg.out Zj.out Zl.out))
      (case aF => exact (fun k_ hk => ⟨(.inr (Nat.le_trans (by first | exact HK.out.1 | exact (show Kept w _ (fun k_ => P0_0_ k_) from zg_12 HK.out Ze.out Zf.out Zi.out).1) hk)), Kd.freshB (g := gb469) (o := .cells #[.int .i64 a1_0, .int .i64 a1_1, .string a1_2] 92 (0, 0)) (zg_2 Za.out) k_ hk⟩))
      (case aO => exact (by (with_reducible repeat (first | apply Kd.R_alloc | apply Kd.R_drewN | apply Kd.R_drew)); exact Kd.R_mono Zh.out (fun _ hk => ⟨hk.1.1, hk.2⟩)))
      (case aS => exact (below_size (zg_8 HB.out Zg.out Zj.out Zl.out)))
      (case aL => have := LMc3.out; omega)
      intro v475 w12 ho hb hg hat
      rw [← Ny474.out] at ho
      have n0_ := zm (Kd.R_over' (zg_4 Zc.out) (Kd.R_typed (zg_4 Zh.out)) (by decide) hg)
      have n1_ := zm (blk_grown (g := gb468) (o := .cells #[.slice Ao5 l0_0.length co5, .slice A0_1 l0_1.length c0_1] 48 (0, 0)) (zg_2 Zb.out) hg (Kd.R_ne Zh.out Zb.out (by decide)))
      have n2_ := zm (blk_grown (g := gb469) (o := .cells #[.int .i64 a1_0, .int .i64 a1_1, .string a1_2] 92 (0, 0)) (zg_2 Za.out) hg (Kd.R_away Zh.out (fun _ hk => hk.2)))
      have n3_ := zm (blk_grown (g := gb470) (o := .cells #[.slice none 0 0, .slice none 0 0] 48 (0, 0)) (zg_2 Zd.out) hg (Kd.R_ne Zh.out Zd.out (by decide)))
      have n4_ := zm (hb)
      have n5_ := zm (Kept.of_grown (S := (fun k_ => P0_0_ k_)) hg (zg_12 HK.out Ze.out Zf.out Zi.out) (fun k_ e_ => (Zh.out.1 k_ e_).1.1))
      have n6_ := zm (ho)
      clear Zc
      clear Zb
      clear Za
      clear Zd
      clear HB
      clear HK
      clear Zh
      have Zc := n0_
      have Zb := n1_
      have Za := n2_
      have Zd := n3_
      have HB := n4_
      have HK := n5_
      have Zm := n6_
      clear n0_ n1_ n2_ n3_ n4_ n5_ n6_
      clear ho hb hg hat
      refine hK.out _ _ ⟨(blk_cell Zb.out 0).trans rfl, (blk_cell Zb.out 1).trans rfl, (blk_cell Za.out 0).trans rfl, (blk_cell Za.out 1).trans rfl, (blk_cell Za.out 2).trans rfl⟩ (fun hHeld => ?_)
      clear hK K
      refine norm_ (a' := ?_) ?_ ?_
      rotate_left
      ·show Act.put _ (some 8) _ = _
       simp only [Act.put, zs, zz, zt, i64_w, i32_w]
       rfl
      refine one_ (i := 5) (N := some 10) #[true, true, true, true, true, true, false, false, false] rfl rfl (one_of HT_.out (by kernel_rfl)) (by decide) (fun K hK => ?_)
      refine Kd.R_lit_step k92 _ 92 ?hg (N := 10) ?hd (xs := ([(⟨a1_0, a1_1, a1_2⟩ : S92)] : List (S92))) (inner := [.int .i64 a1_0, .int .i64 a1_1, .string a1_2]) (ok := fun _ => True) (okp := fun _ => True) ?hr ?hp (fun _ hk => hk) trivial (Below.refl _ _) (Nat.le_refl _) (by simp) ?_; (case hd => rfl); (case hg => rfl); (case hr => first | (go_simp; done) | (go_simp; rfl)); (case hp => exact (Reps.c3 (show Kd.M k92 _ _ _ (⟨a1_0, a1_1, a1_2⟩ : S92) [.int .i64 a1_0, .int .i64 a1_1, .string a1_2] from (k92_mkM _ _ _ (⟨a1_0, a1_1, a1_2⟩ : S92) )) (Reps.none _ _)))
      intro v478 w13 ho14 hb hg_ hnew_
      clear hg_ hnew_
      (first | rw [← Ny477.out] at ho14 | (simp only [Int.reduceToNat] at ho14; rw [← Ny477.out] at ho14))
      have n0_ := zm (Kd.R_below (zg_4 Zc.out) hb)
      have n1_ := zm (Kd.R_elder' (zg_4 Zm.out) (Kd.R_base ho14) hb)
      have n2_ := zm (Kd.R_lower (Kd.R_newB (Kd.R_new' (Kd.R_newM (M := fun k_ => (P0_0_ k_ ∨ w.heap.size ≤ k_)) ho14 (by first | exact HK.out.1 | exact (show Kept w _ (fun k_ => P0_0_ k_) from zg_12 HK.out Ze.out Zf.out Zi.out).1) (fun k_ h_ => .inr h_)) (Kd.R_lt (zg_4 Zm.out))) (g := gb469) (o := .cells #[.int .i64 a1_0, .int .i64 a1_1, .string a1_2] 92 (0, 0)) (zg_2 Za.out)) (below_size (zg_8 HB.out Zg.out Zj.out Zl.out)))
      have n3_ := zm (blk_below (g := gb468) (o := .cells #[.slice Ao5 l0_0.length co5, .slice A0_1 l0_1.length c0_1] 48 (0, 0)) (zg_2 Zb.out) hb)
      have n4_ := zm (blk_below (g := gb469) (o := .cells #[.int .i64 a1_0, .int .i64 a1_1, .string a1_2] 92 (0, 0)) (zg_2 Za.out) hb)
      have n5_ := zm (blk_below (g := gb470) (o := .cells #[.slice none 0 0, .slice none 0 0] 48 (0, 0)) (zg_2 Zd.out) hb)
      have n6_ := zm (Kept.below (S := (fun k_ => P0_0_ k_)) (zg_12 HK.out Ze.out Zf.out Zi.out) hb)
      have n7_ := zm (below_step (zg_8 HB.out Zg.out Zj.out Zl.out) hb)
      clear Zc
      clear Zm
      clear Zb
      clear Za
      clear Zd
      clear HK
      clear HB
      have Zc := n0_
      have Zm := n1_
      have Zk := n2_
      have Zb := n3_
      have Za := n4_
      have Zd := n5_
      have HK := n6_
      have HB := n7_
      clear n0_ n1_ n2_ n3_ n4_ n5_ n6_ n7_
      clear hb ho14
      refine hK.out _ _ ⟨(blk_cell Zb.out 0).trans rfl, (blk_cell Zb.out 1).trans rfl, (blk_cell Za.out 0).trans rfl, (blk_cell Za.out 1).trans rfl, (blk_cell Za.out 2).trans rfl⟩ (fun hHeld => ?_)
      clear hK K
      refine norm_ (a' := ?_) ?_ ?_
      rotate_left
      ·show Act.put _ (some 10) _ = _
       simp only [Act.put, zs, zz, zt, i64_w, i32_w]
       rfl
      exact norm_ (by simp only [putAll, Act.put, zs, zz, zt]) (hCont (v472, v475, v478) _ ⟨hHeld, (zg_4 Zc.out), (by (with_reducible repeat (first | apply Kd.R_alloc | apply Kd.R_drewN | apply Kd.R_drew)); exact Kd.R_mono Zm.out (fun _ hk => ⟨hk.1.1, ⟨hk.2, hk.1.2⟩⟩)), (by (with_reducible repeat (first | apply Kd.R_alloc | apply Kd.R_drewN | apply Kd.R_drew)); exact Kd.R_mono Zk.out (fun _ hk => ⟨hk.1.1.1, ⟨hk.1.2, hk.2⟩⟩)), (zg_2 Zb.out), (zg_2 Za.out), (zg_2 Zd.out), (zg_12 HK.out Ze.out Zf.out Zi.out), (zg_8 HB.out Zg.out Zj.out Zl.out)⟩)
     ·skip
      refine Kd.R_lit_step k92 _ 92 ?hg (N := 10) ?hd (xs := ([(⟨a1_0, a1_1, a1_2⟩ : S92)] : List (S92))) (inner := [.int .i64 a1_0, .int .i64 a1_1, .string a1_2]) (ok := fun _ => True) (okp := fun _ => True) ?hr ?hp (fun _ hk => hk) trivial (Below.refl _ _) (Nat.le_refl _) (by simp) ?_; (case hd => rfl); (case hg => rfl); (case hr => first | (go_simp; done) | (go_simp; rfl)); (case hp => exact (Reps.c3 (show Kd.M k92 _ _ _ (⟨a1_0, a1_1, a1_2⟩ : S92) [.int .i64 a1_0, .int .i64 a1_1, .string a1_2] from (k92_mkM _ _ _ (⟨a1_0, a1_1, a1_2⟩ : S92) )) (Reps.none _ _)))
      intro v478 w12 ho13 hb hg_ hnew_
      clear hg_ hnew_
      (first | rw [← Ny477.out] at ho13 | (simp only [Int.reduceToNat] at ho13; rw [← Ny477.out] at ho13))
      have n0_ := zm (Kd.R_below (zg_4 Zc.out) hb)
      have n1_ := zm (Kd.R_elder' (zg_4 Zh.out) (Kd.R_base ho13) hb)
      have n2_ := zm (Kd.R_lower (Kd.R_newB (Kd.R_new' (Kd.R_newM (M := fun k_ => (P0_0_ k_ ∨ w.heap.size ≤ k_)) ho13 (by first | exact HK.out.1 | exact (show Kept w _ (fun k_ => P0_0_ k_) from zg_12 HK.out Ze.out Zf.out Zi.out).1) (fun k_ h_ => .inr h_)) (Kd.R_lt (zg_4 Zh.out))) (g := gb469) (o := .cells #[.int .i64 a1_0, .int .i64 a1_1, .string a1_2] 92 (0, 0)) (zg_2 Za.out)) (below_size (zg_8 HB.out Zg.out Zj.out Zl.out)))
      have n3_ := zm (blk_below (g := gb468) (o := .cells #[.slice Ao5 l0_0.length co5, .slice A0_1 l0_1.length c0_1] 48 (0, 0)) (zg_2 Zb.out) hb)
      have n4_ := zm (blk_below (g := gb469) (o := .cells #[.int .i64 a1_0, .int .i64 a1_1, .string a1_2] 92 (0, 0)) (zg_2 Za.out) hb)
      have n5_ := zm (blk_below (g := gb470) (o := .cells #[.slice none 0 0, .slice none 0 0] 48 (0, 0)) (zg_2 Zd.out) hb)
      have n6_ := zm (Kept.below (S := (fun k_ => P0_0_ k_)) (zg_12 HK.out Ze.out Zf.out Zi.out) hb)
      have n7_ := zm (below_step (zg_8 HB.out Zg.out Zj.out Zl.out) hb)
      clear Zc
      clear Zh
      clear Zb
      clear Za
      clear Zd
      clear HK
      clear HB
      have Zc := n0_
      have Zh := n1_
      have Zk := n2_
      have Zb := n3_
      have Za := n4_
      have Zd := n5_
      have HK := n6_
      have HB := n7_
      clear n0_ n1_ n2_ n3_ n4_ n5_ n6_ n7_
      clear hb ho13
      refine hK.out _ _ ⟨(blk_cell Zb.out 0).trans rfl, (blk_cell Zb.out 1).trans rfl, (blk_cell Za.out 0).trans rfl, (blk_cell Za.out 1).trans rfl, (blk_cell Za.out 2).trans rfl⟩ (fun hHeld => ?_)
      clear hK K
      refine norm_ (a' := ?_) ?_ ?_
      rotate_left
      ·show Act.put _ (some 10) _ = _
       simp only [Act.put, zs, zz, zt, i64_w, i32_w]
       rfl
      refine one_ (i := 3) (N := some 8) #[true, true, true, true, true, true, false, false, false] rfl rfl (one_of HT_.out (by kernel_rfl)) (by decide) (fun K hK => ?_)
      refine Kd.R_append_rows_step k92 (w0 := w0) w0.heap.size (by rfl) (.tmp 5) (.tmp 7) 46 92 (.agg #[(.int .i64 0), (.int .i64 0), (.string ⟨#[]⟩)]) 32 rfl Try.underlying46 info92 rfl (by decide) (by omega) v472 y471 l0_1 _ _ _ (fun k_ => (P0_0_ k_ ∨ w.heap.size ≤ k_) ∧ some k_ ≠ (v478 : Value).ownBlock ∧ k_ ≠ gb469) (fun _ => False) rfl rfl ?aO ?aR (fun _ _ h => h) (fun _ h => h.elim) ?aF ?aB ?aS ?aL ?_
      (case aR => exact Kd.C_kept_now Zt.out (zg_12 HK.out Ze.out Zf.out Zi.out))
      (case aB => exact (zg_8 HB.out Zg.out Zj.out Zl.out))
      (case aF => exact (fun k_ hk => ⟨(.inr (Nat.le_trans (by first | exact HK.out.1 | exact (show Kept w _ (fun k_ => P0_0_ k_) from zg_12 HK.out Ze.out Zf.out Zi.out).1) hk)), Kd.fresh' (Kd.R_lt (zg_4 Zk.out)) k_ hk, Kd.freshB (g := gb469) (o := .cells #[.int .i64 a1_0, .int .i64 a1_1, .string a1_2] 92 (0, 0)) (zg_2 Za.out) k_ hk⟩))
      (case aO => exact (by (with_reducible repeat (first | apply Kd.R_alloc | apply Kd.R_drewN | apply Kd.R_drew)); exact Kd.R_mono Zh.out (fun _ hk => ⟨hk.1.1.1, ⟨hk.2, hk.1.2⟩⟩)))
      (case aS => exact (below_size (zg_8 HB.out Zg.out Zj.out Zl.out)))
      (case aL => have := LMc3.out; omega)
      intro v475 w14 ho hb hg hat
      rw [← Ny474.out] at ho
      have n0_ := zm (Kd.R_over' (zg_4 Zc.out) (Kd.R_typed (zg_4 Zh.out)) (by decide) hg)
      have n1_ := zm (blk_grown (g := gb468) (o := .cells #[.slice Ao5 l0_0.length co5, .slice A0_1 l0_1.length c0_1] 48 (0, 0)) (zg_2 Zb.out) hg (Kd.R_ne Zh.out Zb.out (by decide)))
      have n2_ := zm (blk_grown (g := gb469) (o := .cells #[.int .i64 a1_0, .int .i64 a1_1, .string a1_2] 92 (0, 0)) (zg_2 Za.out) hg (Kd.R_away Zh.out (fun _ hk => hk.1.2)))
      have n3_ := zm (blk_grown (g := gb470) (o := .cells #[.slice none 0 0, .slice none 0 0] 48 (0, 0)) (zg_2 Zd.out) hg (Kd.R_ne Zh.out Zd.out (by decide)))
      have n4_ := zm (Kd.R_after (ok := (fun k_ => (P0_0_ k_ ∨ w.heap.size ≤ k_) ∧ k_ ≠ gb469)) (by (with_reducible repeat (first | apply Kd.R_alloc | apply Kd.R_drewN | apply Kd.R_drew)); exact Kd.R_mono Zk.out (fun _ hk => ⟨⟨hk.1.1.1, hk.2⟩, hk.1.2⟩)) hg hat)
      have n5_ := zm (hb)
      have n6_ := zm (Kept.of_grown (S := (fun k_ => P0_0_ k_)) hg (zg_12 HK.out Ze.out Zf.out Zi.out) (fun k_ e_ => (Zh.out.1 k_ e_).1.1.1))
      have n7_ := zm (ho)
      clear Zc
      clear Zb
      clear Za
      clear Zd
      clear Zk
      clear HB
      clear HK
      clear Zh
      have Zc := n0_
      have Zb := n1_
      have Za := n2_
      have Zd := n3_
      have Zk := n4_
      have HB := n5_
      have HK := n6_
      have Zm := n7_
      clear n0_ n1_ n2_ n3_ n4_ n5_ n6_ n7_
      clear ho hb hg hat
      refine hK.out _ _ ⟨(blk_cell Zb.out 0).trans rfl, (blk_cell Zb.out 1).trans rfl, (blk_cell Za.out 0).trans rfl, (blk_cell Za.out 1).trans rfl, (blk_cell Za.out 2).trans rfl⟩ (fun hHeld => ?_)
      clear hK K
      refine norm_ (a' := ?_) ?_ ?_
      rotate_left
      ·show Act.put _ (some 8) _ = _
       simp only [Act.put, zs, zz, zt, i64_w, i32_w]
       rfl
      exact norm_ (by simp only [putAll, Act.put, zs, zz, zt]) (hCont (v472, v475, v478) _ ⟨hHeld, (zg_4 Zc.out), (zg_4 Zm.out), (by (with_reducible repeat (first | apply Kd.R_alloc | apply Kd.R_drewN | apply Kd.R_drew)); exact Kd.R_mono Zk.out (fun _ hk => ⟨hk.1.1, ⟨hk.2, hk.1.2⟩⟩)), (zg_2 Zb.out), (zg_2 Za.out), (zg_2 Zd.out), (zg_12 HK.out Ze.out Zf.out Zi.out), (zg_8 HB.out Zg.out Zj.out Zl.out)⟩)
    ·skip
     refine Kd.R_lit_step k92 _ 92 ?hg (N := 10) ?hd (xs := ([(⟨a1_0, a1_1, a1_2⟩ : S92)] : List (S92))) (inner := [.int .i64 a1_0, .int .i64 a1_1, .string a1_2]) (ok := fun _ => True) (okp := fun _ => True) ?hr ?hp (fun _ hk => hk) trivial (Below.refl _ _) (Nat.le_refl _) (by simp) ?_; (case hd => rfl); (case hg => rfl); (case hr => first | (go_simp; done) | (go_simp; rfl)); (case hp => exact (Reps.c3 (show Kd.M k92 _ _ _ (⟨a1_0, a1_1, a1_2⟩ : S92) [.int .i64 a1_0, .int .i64 a1_1, .string a1_2] from (k92_mkM _ _ _ (⟨a1_0, a1_1, a1_2⟩ : S92) )) (Reps.none _ _)))
     intro v478 w10 ho11 hb hg_ hnew_
     clear hg_ hnew_
     (first | rw [← Ny477.out] at ho11 | (simp only [Int.reduceToNat] at ho11; rw [← Ny477.out] at ho11))
     have n0_ := zm (Kd.R_below (zg_4 Zc.out) hb)
     have n1_ := zm (Kd.R_lower (Kd.R_newB (Kd.R_newM (M := fun k_ => (P0_0_ k_ ∨ w.heap.size ≤ k_)) ho11 (by first | exact HK.out.1 | exact (show Kept w _ (fun k_ => P0_0_ k_) from zg_12 HK.out Ze.out Zf.out Zi.out).1) (fun k_ h_ => .inr h_)) (g := gb469) (o := .cells #[.int .i64 a1_0, .int .i64 a1_1, .string a1_2] 92 (0, 0)) (zg_2 Za.out)) (below_size (zg_8 HB.out Zg.out Zj.out Zl.out)))
     have n2_ := zm (blk_below (g := gb468) (o := .cells #[.slice Ao5 l0_0.length co5, .slice A0_1 l0_1.length c0_1] 48 (0, 0)) (zg_2 Zb.out) hb)
     have n3_ := zm (blk_below (g := gb469) (o := .cells #[.int .i64 a1_0, .int .i64 a1_1, .string a1_2] 92 (0, 0)) (zg_2 Za.out) hb)
     have n4_ := zm (blk_below (g := gb470) (o := .cells #[.slice none 0 0, .slice none 0 0] 48 (0, 0)) (zg_2 Zd.out) hb)
     have n5_ := zm (Kept.below (S := (fun k_ => P0_0_ k_)) (zg_12 HK.out Ze.out Zf.out Zi.out) hb)
     have n6_ := zm (below_step (zg_8 HB.out Zg.out Zj.out Zl.out) hb)
     clear Zc
     clear Zb
     clear Za
     clear Zd
     clear HK
     clear HB
     have Zc := n0_
     have Zk := n1_
     have Zb := n2_
     have Za := n3_
     have Zd := n4_
     have HK := n5_
     have HB := n6_
     clear n0_ n1_ n2_ n3_ n4_ n5_ n6_
     clear hb ho11
     refine hK.out _ _ ⟨(blk_cell Zb.out 0).trans rfl, (blk_cell Zb.out 1).trans rfl, (blk_cell Za.out 0).trans rfl, (blk_cell Za.out 1).trans rfl, (blk_cell Za.out 2).trans rfl⟩ (fun hHeld => ?_)
     clear hK K
     refine norm_ (a' := ?_) ?_ ?_
     rotate_left
     ·show Act.put _ (some 10) _ = _
      simp only [Act.put, zs, zz, zt, i64_w, i32_w]
      rfl
     refine one_ (i := 0) (N := some 5) #[true, true, true, false, true, true, false, false, false] rfl rfl (one_of HT_.out (by kernel_rfl)) (by decide) (fun K hK => ?_)
     refine Kd.R_lit_step k92 _ 92 ?hg (N := 5) ?hd (xs := ([] : List (S92))) (inner := []) (ok := fun _ => True) (okp := fun _ => True) ?hr ?hp (fun _ hk => hk) trivial (Below.refl _ _) (Nat.le_refl _) (by simp) ?_; (case hd => rfl); (case hg => rfl); (case hr => first | (go_simp; done) | (go_simp; rfl)); (case hp => exact (Reps.none _ _))
     intro v472 w12 ho13 hb hg_ hnew_
     clear hg_ hnew_
     (first | rw [← Ny471.out] at ho13 | (simp only [Int.reduceToNat] at ho13; rw [← Ny471.out] at ho13))
     have n0_ := zm (Kd.R_below (zg_4 Zc.out) hb)
     have n1_ := zm (Kd.R_elder' (zg_4 Zk.out) (Kd.R_base ho13) hb)
     have n2_ := zm (Kd.R_lower (Kd.R_newB (Kd.R_new' (Kd.R_newM (M := fun k_ => (P0_0_ k_ ∨ w.heap.size ≤ k_)) ho13 (by first | exact HK.out.1 | exact (show Kept w _ (fun k_ => P0_0_ k_) from zg_12 HK.out Ze.out Zf.out Zi.out).1) (fun k_ h_ => .inr h_)) (Kd.R_lt (zg_4 Zk.out))) (g := gb469) (o := .cells #[.int .i64 a1_0, .int .i64 a1_1, .string a1_2] 92 (0, 0)) (zg_2 Za.out)) (below_size (zg_8 HB.out Zg.out Zj.out Zl.out)))
     have n3_ := zm (blk_below (g := gb468) (o := .cells #[.slice Ao5 l0_0.length co5, .slice A0_1 l0_1.length c0_1] 48 (0, 0)) (zg_2 Zb.out) hb)
     have n4_ := zm (blk_below (g := gb469) (o := .cells #[.int .i64 a1_0, .int .i64 a1_1, .string a1_2] 92 (0, 0)) (zg_2 Za.out) hb)
     have n5_ := zm (blk_below (g := gb470) (o := .cells #[.slice none 0 0, .slice none 0 0] 48 (0, 0)) (zg_2 Zd.out) hb)
     have n6_ := zm (Kept.below (S := (fun k_ => P0_0_ k_)) (zg_12 HK.out Ze.out Zf.out Zi.out) hb)
     have n7_ := zm (below_step (zg_8 HB.out Zg.out Zj.out Zl.out) hb)
     clear Zc
     clear Zk
     clear Zb
     clear Za
     clear Zd
     clear HK
     clear HB
     have Zc := n0_
     have Zk := n1_
     have Zh := n2_
     have Zb := n3_
     have Za := n4_
     have Zd := n5_
     have HK := n6_
     have HB := n7_
     clear n0_ n1_ n2_ n3_ n4_ n5_ n6_ n7_
     clear hb ho13
     refine hK.out _ _ ⟨(blk_cell Zb.out 0).trans rfl, (blk_cell Zb.out 1).trans rfl, (blk_cell Za.out 0).trans rfl, (blk_cell Za.out 1).trans rfl, (blk_cell Za.out 2).trans rfl⟩ (fun hHeld => ?_)
     clear hK K
     refine norm_ (a' := ?_) ?_ ?_
     rotate_left
     ·show Act.put _ (some 5) _ = _
      simp only [Act.put, zs, zz, zt, i64_w, i32_w]
      rfl
     refine one_ (i := 3) (N := some 8) #[true, true, true, true, true, true, false, false, false] rfl rfl (one_of HT_.out (by kernel_rfl)) (by decide) (fun K hK => ?_)
     refine Kd.R_append_rows_step k92 (w0 := w0) w0.heap.size (by rfl) (.tmp 5) (.tmp 7) 46 92 (.agg #[(.int .i64 0), (.int .i64 0), (.string ⟨#[]⟩)]) 32 rfl Try.underlying46 info92 rfl (by decide) (by omega) v472 y471 l0_1 _ _ _ (fun k_ => (P0_0_ k_ ∨ w.heap.size ≤ k_) ∧ some k_ ≠ (v478 : Value).ownBlock ∧ k_ ≠ gb469) (fun _ => False) rfl rfl ?aO ?aR (fun _ _ h => h) (fun _ h => h.elim) ?aF ?aB ?aS ?aL ?_
     (case aR => exact Kd.C_kept_now Zt.out (zg_12 HK.out Ze.out Zf.out Zi.out))
     (case aB => exact (zg_8 HB.out Zg.out Zj.out Zl.out))
     (case aF => exact (fun k_ hk => ⟨(.inr (Nat.le_trans (by first | exact HK.out.1 | exact (show Kept w _ (fun k_ => P0_0_ k_) from zg_12 HK.out Ze.out Zf.out Zi.out).1) hk)), Kd.fresh' (Kd.R_lt (zg_4 Zk.out)) k_ hk, Kd.freshB (g := gb469) (o := .cells #[.int .i64 a1_0, .int .i64 a1_1, .string a1_2] 92 (0, 0)) (zg_2 Za.out) k_ hk⟩))
     (case aO => exact (by (with_reducible repeat (first | apply Kd.R_alloc | apply Kd.R_drewN | apply Kd.R_drew)); exact Kd.R_mono Zh.out (fun _ hk => ⟨hk.1.1.1, ⟨hk.1.2, hk.2⟩⟩)))
     (case aS => exact (below_size (zg_8 HB.out Zg.out Zj.out Zl.out)))
     (case aL => have := LMc3.out; omega)
     intro v475 w14 ho hb hg hat
     rw [← Ny474.out] at ho
     have n0_ := zm (Kd.R_over' (zg_4 Zc.out) (Kd.R_typed (zg_4 Zh.out)) (by decide) hg)
     have n1_ := zm (blk_grown (g := gb468) (o := .cells #[.slice Ao5 l0_0.length co5, .slice A0_1 l0_1.length c0_1] 48 (0, 0)) (zg_2 Zb.out) hg (Kd.R_ne Zh.out Zb.out (by decide)))
     have n2_ := zm (blk_grown (g := gb469) (o := .cells #[.int .i64 a1_0, .int .i64 a1_1, .string a1_2] 92 (0, 0)) (zg_2 Za.out) hg (Kd.R_away Zh.out (fun _ hk => hk.2)))
     have n3_ := zm (blk_grown (g := gb470) (o := .cells #[.slice none 0 0, .slice none 0 0] 48 (0, 0)) (zg_2 Zd.out) hg (Kd.R_ne Zh.out Zd.out (by decide)))
     have n4_ := zm (Kd.R_after (ok := (fun k_ => (P0_0_ k_ ∨ w.heap.size ≤ k_) ∧ k_ ≠ gb469)) (by (with_reducible repeat (first | apply Kd.R_alloc | apply Kd.R_drewN | apply Kd.R_drew)); exact Kd.R_mono Zk.out (fun _ hk => ⟨⟨hk.1.1.1, hk.1.2⟩, hk.2⟩)) hg hat)
     have n5_ := zm (hb)
     have n6_ := zm (Kept.of_grown (S := (fun k_ => P0_0_ k_)) hg (zg_12 HK.out Ze.out Zf.out Zi.out) (fun k_ e_ => (Zh.out.1 k_ e_).1.1.1))
     have n7_ := zm (ho)
     clear Zc
     clear Zb
     clear Za
     clear Zd
     clear Zk
     clear HB
     clear HK
     clear Zh
     have Zc := n0_
     have Zb := n1_
     have Za := n2_
     have Zd := n3_
     have Zk := n4_
     have HB := n5_
     have HK := n6_
     have Zm := n7_
     clear n0_ n1_ n2_ n3_ n4_ n5_ n6_ n7_
     clear ho hb hg hat
     refine hK.out _ _ ⟨(blk_cell Zb.out 0).trans rfl, (blk_cell Zb.out 1).trans rfl, (blk_cell Za.out 0).trans rfl, (blk_cell Za.out 1).trans rfl, (blk_cell Za.out 2).trans rfl⟩ (fun hHeld => ?_)
     clear hK K
     refine norm_ (a' := ?_) ?_ ?_
     rotate_left
     ·show Act.put _ (some 8) _ = _
      simp only [Act.put, zs, zz, zt, i64_w, i32_w]
      rfl
     exact norm_ (by simp only [putAll, Act.put, zs, zz, zt]) (hCont (v472, v475, v478) _ ⟨hHeld, (zg_4 Zc.out), (zg_4 Zm.out), (by (with_reducible repeat (first | apply Kd.R_alloc | apply Kd.R_drewN | apply Kd.R_drew)); exact Kd.R_mono Zk.out (fun _ hk => ⟨hk.1.1, ⟨hk.2, hk.1.2⟩⟩)), (zg_2 Zb.out), (zg_2 Za.out), (zg_2 Zd.out), (zg_12 HK.out Ze.out Zf.out Zi.out), (zg_8 HB.out Zg.out Zj.out Zl.out)⟩)
   rintro ⟨v472, v475, v478⟩ w15 ⟨hS_, h0_, h1_, h2_, h3_, h4_, h5_, h6_, h7_⟩
   have n0_ : Aside0 (Kd.R Kd.string 9 w15 w0.heap.size (fun k_ => (P0_0_ k_ ∨ w.heap.size ≤ k_)) (.slice Ao5 l0_0.length co5) l0_0) := ⟨h0_⟩
   have n1_ : Aside0 (Kd.R k92 92 w15 w0.heap.size (fun k_ => (P0_0_ k_ ∨ w.heap.size ≤ k_) ∧ some k_ ≠ (v478 : Value).ownBlock ∧ k_ ≠ gb469) v475 y474) := ⟨h1_⟩
   have n2_ : Aside0 (Kd.R k92 92 w15 w0.heap.size (fun k_ => (P0_0_ k_ ∨ w.heap.size ≤ k_) ∧ some k_ ≠ (v475 : Value).ownBlock ∧ k_ ≠ gb469) v478 y477) := ⟨h2_⟩
   have n3_ : Aside0 (w15.heap[gb468]? = some (.cells #[.slice Ao5 l0_0.length co5, .slice A0_1 l0_1.length c0_1] 48 (0, 0))) := ⟨h3_⟩
   have n4_ : Aside0 (w15.heap[gb469]? = some (.cells #[.int .i64 a1_0, .int .i64 a1_1, .string a1_2] 92 (0, 0))) := ⟨h4_⟩
   have n5_ : Aside0 (w15.heap[gb470]? = some (.cells #[.slice none 0 0, .slice none 0 0] 48 (0, 0))) := ⟨h5_⟩
   have n6_ : Aside0 (Kept w w15 (fun k_ => P0_0_ k_)) := ⟨h6_⟩
   have n7_ : Aside0 (Below w0.heap.size w0 w15) := ⟨h7_⟩
   clear Zc
   clear Zb
   clear Za
   clear Zd
   clear HK
   clear HB
   clear h0_ h1_ h2_ h3_ h4_ h5_ h6_ h7_
   have Zc := n0_
   have Zm := n1_
   have Zk := n2_
   have Zb := n3_
   have Za := n4_
   have Zd := n5_
   have HK := n6_
   have HB := n7_
   clear n0_ n1_ n2_ n3_ n4_ n5_ n6_ n7_
   have hHeld : w15.cell? ⟨gb468, 0, none⟩ = some (.slice Ao5 l0_0.length co5) ∧ w15.cell? ⟨gb468, 1, none⟩ = some (.slice A0_1 l0_1.length c0_1) ∧ w15.cell? ⟨gb469, 0, none⟩ = some (.int .i64 a1_0) ∧ w15.cell? ⟨gb469, 1, none⟩ = some (.int .i64 a1_1) ∧ w15.cell? ⟨gb469, 2, none⟩ = some (.string a1_2) := hS_
   obtain ⟨Ao17, co17, eo17⟩ := Kd.R_slice Zk.out
   (first | subst eo17 | (injection eo17 with f1_ f2_ f3_; have f4_ := f1_.symm; have f5_ := f3_.symm; clear f1_ f2_ f3_; subst f4_; subst f5_))
   refine norm_ (a' := ?_) ?_ ?_
   rotate_left
   ·simp only [putAll, Act.put, zs, zz, zt]
    rfl
   refine one_ (i := 6) (N := some 11) #[true, true, true, true, true, true, true, false, false] rfl rfl (one_of HT_.out (by kernel_rfl)) (by decide) (fun K hK => ?_)
   refine Kd.R_append_rows_step k92 (w0 := w0) w0.heap.size (by rfl) (.tmp 8) (.tmp 10) 46 92 (.agg #[(.int .i64 0), (.int .i64 0), (.string ⟨#[]⟩)]) 32 rfl Try.underlying46 info92 rfl (by decide) (by omega) v475 y474 y477 _ _ _ (fun k_ => (P0_0_ k_ ∨ w.heap.size ≤ k_) ∧ some k_ ≠ (.slice Ao17 y477.length co17 : Value).ownBlock ∧ k_ ≠ gb469) (fun _ => False) rfl rfl ?aO ?aR (fun _ _ h => h) (fun _ h => h.elim) ?aF ?aB ?aS ?aL ?_
   (case aR => repeat (first | exact (Kd.R_reads' Zk.out).2.2 | (with_reducible refine Kd.C_alloc ?_ _) | (with_reducible refine Kd.C_drewN ?_ _) | (with_reducible refine Kd.C_drew ?_)))
   (case aB => exact (zg_8 HB.out Zg.out Zj.out Zl.out))
   (case aF => exact (fun k_ hk => ⟨(.inr (Nat.le_trans (by first | exact HK.out.1 | exact (show Kept w _ (fun k_ => P0_0_ k_) from zg_12 HK.out Ze.out Zf.out Zi.out).1) hk)), Kd.fresh' (Kd.R_lt (zg_4 Zk.out)) k_ hk, Kd.freshB (g := gb469) (o := .cells #[.int .i64 a1_0, .int .i64 a1_1, .string a1_2] 92 (0, 0)) (zg_2 Za.out) k_ hk⟩))
   (case aO => exact (zg_4 Zm.out))
   (case aS => exact (below_size (zg_8 HB.out Zg.out Zj.out Zl.out)))
   (case aL => have := LMc4.out; omega)
   intro v481 w16 ho hb hg hat
   rw [← Ny480.out] at ho
   have n0_ := zm (Kd.R_over' (zg_4 Zc.out) (Kd.R_typed (zg_4 Zm.out)) (by decide) hg)
   have n1_ := zm (blk_grown (g := gb468) (o := .cells #[.slice Ao5 l0_0.length co5, .slice A0_1 l0_1.length c0_1] 48 (0, 0)) (zg_2 Zb.out) hg (Kd.R_ne Zm.out Zb.out (by decide)))
   have n2_ := zm (blk_grown (g := gb469) (o := .cells #[.int .i64 a1_0, .int .i64 a1_1, .string a1_2] 92 (0, 0)) (zg_2 Za.out) hg (Kd.R_away Zm.out (fun _ hk => hk.2.2)))
   have n3_ := zm (blk_grown (g := gb470) (o := .cells #[.slice none 0 0, .slice none 0 0] 48 (0, 0)) (zg_2 Zd.out) hg (Kd.R_ne Zm.out Zd.out (by decide)))
   have n4_ := zm (Kd.R_after (ok := (fun k_ => (P0_0_ k_ ∨ w.heap.size ≤ k_) ∧ k_ ≠ gb469)) (by (with_reducible repeat (first | apply Kd.R_alloc | apply Kd.R_drewN | apply Kd.R_drew)); exact Kd.R_mono Zk.out (fun _ hk => ⟨⟨hk.1, hk.2.2⟩, hk.2.1⟩)) hg hat)
   have n5_ := zm (hb)
   have n6_ := zm (Kept.of_grown (S := (fun k_ => P0_0_ k_)) hg (zg_12 HK.out Ze.out Zf.out Zi.out) (fun k_ e_ => (Zm.out.1 k_ e_).1))
   have n7_ := zm (ho)
   clear Zc
   clear Zb
   clear Za
   clear Zd
   clear Zk
   clear HB
   clear HK
   clear Zm
   have Zc := n0_
   have Zb := n1_
   have Za := n2_
   have Zd := n3_
   have Zk := n4_
   have HB := n5_
   have HK := n6_
   have Zu := n7_
   clear n0_ n1_ n2_ n3_ n4_ n5_ n6_ n7_
   clear ho hb hg hat
   obtain ⟨Ao18, co18, eo18⟩ := Kd.R_slice Zu.out
   (first | subst eo18 | (injection eo18 with f1_ f2_ f3_; have f4_ := f1_.symm; have f5_ := f3_.symm; clear f1_ f2_ f3_; subst f4_; subst f5_))
   refine hK.out _ _ ⟨(blk_cell Zb.out 0).trans rfl, (blk_cell Zb.out 1).trans rfl, (blk_cell Za.out 0).trans rfl, (blk_cell Za.out 1).trans rfl, (blk_cell Za.out 2).trans rfl⟩ (fun hHeld => ?_)
   clear hK K
   refine norm_ (a' := ?_) ?_ ?_
   rotate_left
   ·show Act.put _ (some 11) _ = _
    simp only [Act.put, zs, zz, zt, i64_w, i32_w]
    rfl
   refine pure_ (i := 7) (N := some 12) (v := ?_) (a' := ?_) #[true, true, true, true, true, true, true, true, false] rfl rfl (any_of HT_.out (by kernel_rfl)) (fun _ _ _ h => h) (Or.inl ⟨by rfl, ?_⟩) ?_ ?_
   rotate_left
   ·intro w'
    go_simp
    with_reducible rfl
   rotate_left
   ·simp only [Act.put, zs, zz, zt, i64_w, i32_w]
    rfl
   refine last_ (i := 8) (N := none) #[true, true, true, true, true, true, true, true, true] rfl rfl (one_of HT_.out (by kernel_rfl)) (by decide) (fun K hK => ?_)
   have hs19 : w16.cell? ⟨gb468, 1, none⟩ = some (.slice A0_1 l0_1.length c0_1) := (blk_cell Zb.out 1).trans rfl
   have hfs19 := blk_frozen Zb.out 1
   have hns19_1 := Zp.out
   have hns19_2 := Zn.out
   have hms19_1 := Zo.out
   have hms19_2 := Zq.out
   refine skip_ (w1 := ?_) (by rfl) rfl ?_ ?_
   rotate_left
   ·go_simp
    rfl
   refine hK.out _ _ ?_
   clear hK K
   refine done_ (done_of HT_.out (by kernel_rfl)) ?_
   have hnb20 := Zo.out
   have hnc20 := Zp.out
   have hnb21 := Zq.out
   have hnc21 := Zn.out
   have hcz22_0 : w16.cell? ⟨gb468, 0, none⟩ = some (.slice Ao5 l0_0.length co5) := (blk_cell Zb.out 0).trans rfl
   have hcz22_1 : w16.cell? ⟨gb468, 1, none⟩ = some (.slice A0_1 l0_1.length c0_1) := (blk_cell Zb.out 1).trans rfl
   have hfz22_0 := blk_frozen Zb.out 0
   have hfz22_1 := blk_frozen Zb.out 1
   have hnb23 := Zs.out
   have hnc23 := Zr.out
   have hcz24_0 : w16.cell? ⟨gb470, 0, none⟩ = some (.slice none 0 0) := (blk_cell Zd.out 0).trans rfl
   have hcz24_1 : w16.cell? ⟨gb470, 1, none⟩ = some (.slice none 0 0) := (blk_cell Zd.out 1).trans rfl
   have hfz24_0 := blk_frozen Zd.out 0
   have hfz24_1 := blk_frozen Zd.out 1
   try go_wp2
   refine bodyPost_ret (results_cell_row rfl _ _ gb470 48 #[.slice Ao5 l0_0.length co5, .slice Ao18 y480.length co18] (0, 0) _ rfl (by (with_reducible repeat (first | refine blk_drewN ?_ _ | refine blk_drew ?_ | refine blk_alloc ?_ _)); refine blk_put (cs := #[.slice Ao5 l0_0.length co5, .slice none 0 0]) ?_ 1 _ rfl; (with_reducible repeat (first | refine blk_drewN ?_ _ | refine blk_drew ?_ | refine blk_alloc ?_ _)); refine blk_put (cs := #[.slice none 0 0, .slice none 0 0]) ?_ 0 _ rfl; (with_reducible repeat (first | refine blk_drewN ?_ _ | refine blk_drew ?_ | refine blk_alloc ?_ _)); refine blk_far ?_ Zn.out _; (with_reducible repeat (first | refine blk_drewN ?_ _ | refine blk_drew ?_ | refine blk_alloc ?_ _)); exact Zd.out) Try.underlying48 rfl (by kernel_rfl)) rfl ?_
   exact ⟨_, _, by first | rfl | (simp [errW_none, errW_some] <;> rfl) | (simp [*, errW_none, errW_some] <;> rfl), by (with_reducible repeat (first | apply Kd.R_alloc | apply Kd.R_drewN | apply Kd.R_drew)); exact Kd.R_mono (Kd.R_far (p := ⟨gb470, 1, none⟩) (Kd.R_far (p := ⟨gb470, 0, none⟩) (Kd.R_far (p := ⟨gb468, 1, none⟩) (Kd.R_types (Kd.R_types Zc.out Zb.out (by decide)) Zd.out (by decide)) (fun _ hk => hk.1.2) (.slice Ao18 y480.length co18)) (fun _ hk => hk.2) (.slice Ao5 l0_0.length co5)) (fun _ hk => hk.2) (.slice Ao18 y480.length co18)) (fun _ hk => hk.1.1), by (with_reducible repeat (first | apply Kd.R_alloc | apply Kd.R_drewN | apply Kd.R_drew)); exact Kd.R_mono (Kd.R_far (p := ⟨gb470, 1, none⟩) (Kd.R_far (p := ⟨gb470, 0, none⟩) (Kd.R_far (p := ⟨gb468, 1, none⟩) (Kd.R_types (Kd.R_types Zu.out Zb.out (by decide)) Zd.out (by decide)) (fun _ hk => hk.1.2) (.slice Ao18 y480.length co18)) (fun _ hk => hk.2) (.slice Ao5 l0_0.length co5)) (fun _ hk => hk.2) (.slice Ao18 y480.length co18)) (fun _ hk => hk.1.1.1), zg_8 HB.out Zg.out Zj.out Zl.out, zg_12 HK.out Ze.out Zf.out Zi.out⟩
  ·rw [if_neg c4] at H
   exact absurd H (by simp)
 ·rw [if_neg c3] at H
  exact absurd H (by simp)
end Go.Proofs.Ytajflpcihblkfaa.Q
