/- What laws.FnExactReadDelta reaches, part 9: the functions as Lean functions, the proofs that the program's functions answer so, and plain laws about them. -/
import Derived.Test.YtadelojhfepkeaaKFnExactReadDelta1
import Derived.Test.YtadelojhfepkeaaKFnExactReadDelta2
import Derived.Test.YtadelojhfepkeaaKFnExactReadDelta3
import Derived.Test.YtadelojhfepkeaaKFnExactReadDelta4
import Derived.Test.YtadelojhfepkeaaKFnExactReadDelta5
import Derived.Test.YtadelojhfepkeaaKFnExactReadDelta6
import Derived.Test.YtadelojhfepkeaaKFnExactReadDelta7
import Derived.Test.YtadelojhfepkeaaKFnExactReadDelta8
namespace Go.Proofs.Ytadelojhfepkeaa.Q
open Go.RowKit Go.Proofs.Ytadelojhfepkeaa.Ext Go.Proofs.YtadelojhfepkeaaW.PrintWords Go.Proofs.YtadelojhfepkeaaW.PrintLast Go.Proofs.YtadelojhfepkeaaW.PrintMore
attribute [local go_sem] max2_int min2_int max_two min_two max_three min_three max_four min_four   -- for this text's walks alone
set_option linter.unusedVariables false
set_option linter.unusedSimpArgs false

set_option linter.unusedVariables false
set_option linter.unusedSimpArgs false
/-! ### spec_l01Land: function 43 -/
def spec_l01Land.l0 : Nat → Int → Int → Bool → List (S76) → Int → List ByteArray → List (S76) → Option (List ByteArray × (List (S76)))
  | 0, _, _, _, _, _, _, _ => none
  | k + 1, x1, x2, x3, x9, x10, x140000, x140001 => if x10 < (x140001.length : Int) then (if 0 ≤ x10 then (if ((rd_T76 x140001 x10).f0) = x1 then (if x2 > 0 then (if 0 ≤ ((rd_T76 x140001 x10).f1) then (if ((rd_T76 x140001 x10).f1) < (x140000.length : Int) then (spec_l01Land.l0 k x1 (wrap64 (x2 - 1)) x3 x9 (wrap64 (x10 + 1)) (x140000.set (((rd_T76 x140001 x10).f1) : Int).toNat ((rd_T76 x140001 x10).f2)) x140001) else (none)) else (none)) else (if x3 = true then (spec_l01Land.l0 k x1 x2 x3 x9 (wrap64 (x10 + 1)) x140000 x140001) else (if x9.length < 4398046511104 then (spec_l01Land.l0 k x1 x2 x3 (x9 ++ [(⟨(rd_T76 x140001 x10).f0, (rd_T76 x140001 x10).f1, (rd_T76 x140001 x10).f2⟩ : S76)]) (wrap64 (x10 + 1)) x140000 x140001) else (none)))) else (if x9.length < 4398046511104 then (spec_l01Land.l0 k x1 x2 x3 (x9 ++ [(⟨(rd_T76 x140001 x10).f0, (rd_T76 x140001 x10).f1, (rd_T76 x140001 x10).f2⟩ : S76)]) (wrap64 (x10 + 1)) x140000 x140001) else (none))) else (none)) else (some (x140000, x9))
def spec_l01Land.f (k : Nat) (l0_0 : List ByteArray) (l0_1 : List (S76)) (a1 : Int) (a2 : Int) (a3 : Bool) : Option (List ByteArray × (List (S76))) := (spec_l01Own.f l0_0 l0_1).bind fun bt141 => (spec_l01Land.l0 k a1 a2 a3 (([] : List (S76))) 0 bt141.1 bt141.2)
theorem spec_l01Land.mono_l : ∀ k, (∀ y0 y1 y2 y3 y4 y5 y6, LeO (spec_l01Land.l0 k y0 y1 y2 y3 y4 y5 y6) (spec_l01Land.l0 (k + 1) y0 y1 y2 y3 y4 y5 y6))
  | 0 => fun _ _ _ _ _ _ _ r h => by simp [spec_l01Land.l0] at h
  | k + 1 => by
    have ih0 := spec_l01Land.mono_l k
    · intro y0 y1 y2 y3 y4 y5 y6
      unfold spec_l01Land.l0
      repeat' first
      | (with_reducible exact ih0 _ _ _ _ _ _ _)
      | (with_reducible exact LeO.refl _)
      | (with_reducible exact LeO.none _)
      | (with_reducible refine LeO.ite ?_ ?_)
      | (with_reducible refine LeO.bind ?_ (fun _ => ?_))
      | exact ih0 _ _ _ _ _ _ _
      | exact LeO.none _
      | refine LeO.ite ?_ ?_
      | refine LeO.bind ?_ (fun _ => ?_)
theorem spec_l01Land.mono : ∀ a0 a1 a2 a3 a4 k, LeO (spec_l01Land.f k a0 a1 a2 a3 a4) (spec_l01Land.f (k + 1) a0 a1 a2 a3 a4) := by
  intro a0 a1 a2 a3 a4 k
  have ih0 := spec_l01Land.mono_l k
  unfold spec_l01Land.f
  repeat' first
      | (with_reducible exact ih0 _ _ _ _ _ _ _)
      | (with_reducible exact LeO.refl _)
      | (with_reducible exact LeO.none _)
      | (with_reducible refine LeO.ite ?_ ?_)
      | (with_reducible refine LeO.bind ?_ (fun _ => ?_))
      | exact ih0 _ _ _ _ _ _ _
      | exact LeO.none _
      | refine LeO.ite ?_ ?_
      | refine LeO.bind ?_ (fun _ => ?_)
set_option maxHeartbeats 8000000 in
set_option maxRecDepth 100000 in
theorem spec_l01Land.calls (k : Nat) (A0_0 : Option Addr) (c0_0 : Nat) (l0_0 : List ByteArray) (A0_1 : Option Addr) (c0_1 : Nat) (l0_1 : List (S76)) (a1 : Int) (a2 : Int) (a3 : Bool) (r1 : List ByteArray) (r2 : List (S76)) (w : World) (hr0_0 : Kd.C Kd.string w A0_0 l0_0.length l0_0) (hc0_0 : l0_0.length ≤ c0_0) (hr0_1 : Kd.C k76 w A0_1 l0_1.length l0_1) (hc0_1 : l0_1.length ≤ c0_1) (h : spec_l01Land.f k l0_0 l0_1 a1 a2 a3 = some (r1, r2)) :
    Calls Try.prog 43 #[.agg #[.slice A0_0 l0_0.length c0_0, .slice A0_1 l0_1.length c0_1], .int .i64 a1, .int .i64 a2, .bool a3] w fun e w' => ∃ v0_ v1_ : Value, e = .returned (.agg #[v0_, v1_]) ∧ Kd.R Kd.string 9 w' w.heap.size (fun _ => True) v0_ r1 ∧ Kd.R k76 76 w' w.heap.size (fun _ => True) v1_ r2 ∧ Below w.heap.size w w' := by
 have hu29 := Try.underlying29
 have hu76 := Try.underlying76
 have Zt := zm hr0_0
 have Zu := zm hc0_0
 clear hr0_0 hc0_0
 have Zv := zm hr0_1
 have Zw := zm hc0_1
 clear hr0_1 hc0_1
 have HB := zm (Below.refl w.heap.size w)
 have H : ((spec_l01Own.f l0_0 l0_1).bind fun bt141 => (spec_l01Land.l0 k a1 a2 a3 (([] : List (S76))) 0 bt141.1 bt141.2)) = some (r1, r2) := h
 clear h
 replace H := Option.bind_eq_some_iff.mp H
 obtain ⟨⟨t141, t144⟩, A50, H⟩ := H
 replace H : (spec_l01Land.l0 k a1 a2 a3 (([] : List (S76))) 0 t141 t144) = some (r1, r2) := H
 have A5 := zm A50
 clear A50
 obtain ⟨y147, hy147⟩ : ∃ y_ : List (S76), y_ = (([] : List (S76))) := ⟨_, rfl⟩
 replace H : (spec_l01Land.l0 k a1 a2 a3 y147 0 t141 t144) = some (r1, r2) := by first | (rw [hy147]; with_reducible exact H) | (have H2_ := (Option.bind_some _ _).symm.trans H; rw [hy147]; with_reducible exact H2_) | (have H2_ := (Option.bind_some _ _).symm.trans H; with_reducible exact H2_) | with_reducible exact H | (rw [hy147]; exact H) | exact H
 have Ny147 := zm hy147
 clear hy147
 have H' := zm H
 clear H
 go_enter Try.func43, Try.ntmps43
 go_wp2_with (first | ((with_reducible refine gate_dst (N := 4) rfl ?_); refine box_event ?hg (N := 4) ?hd (cs := #[.slice A0_0 l0_0.length c0_0, .slice A0_1 l0_1.length c0_1]) (t := 29) ?hr ?_; (case hd => rfl); (case hg => rfl); (case hr => first | (go_simp; done) | (go_simp; rfl)); intro gb139 hg w6 hbox hb; have n0_ := zm (below_step (zg_0 HB.out) hb); have n1_ := zm (hbox); have n2_ := zm ((by rw [hg]; exact (below_size (zg_0 HB.out)) : w.heap.size ≤ gb139)); have n3_ := zm ((by rw [hg]; exact (below_size (zg_0 HB.out)) : w.heap.size ≤ gb139)); clear HB; have HB := n0_; have Zb := n1_; have ZA := n2_; have Zh := n3_; clear n0_ n1_ n2_ n3_; clear hb hbox hg) | ((with_reducible refine gate_dst (N := 8) rfl ?_); refine box_event ?hg (N := 8) ?hd (cs := #[.slice none 0 0, .slice none 0 0]) (t := 29) ?hr ?_; (case hd => rfl); (case hg => rfl); (case hr => first | (go_simp; done) | (go_simp; rfl)); intro gb140 hg w7 hbox hb; have n0_ := zm (blk_below (g := gb139) (o := .cells #[.slice A0_0 l0_0.length c0_0, .slice A0_1 l0_1.length c0_1] 29 (0, 0)) (zg_2 Zb.out) hb); have n1_ := zm (below_step (zg_1 HB.out Zh.out) hb); have n2_ := zm (hbox); have n3_ := zm ((by rw [hg]; exact (below_size (zg_1 HB.out Zh.out)) : w.heap.size ≤ gb140)); have n4_ := zm ((by rw [hg]; exact (below_size (zg_1 HB.out Zh.out)) : w.heap.size ≤ gb140)); have n5_ := zm ((by rw [hg]; exact Nat.ne_of_lt (blk_lt (g := gb139) (o := .cells #[.slice A0_0 l0_0.length c0_0, .slice A0_1 l0_1.length c0_1] 29 (0, 0)) (zg_2 Zb.out)) : gb139 ≠ gb140)); have n6_ := zm ((by rw [hg]; exact Nat.ne_of_gt (blk_lt (g := gb139) (o := .cells #[.slice A0_0 l0_0.length c0_0, .slice A0_1 l0_1.length c0_1] 29 (0, 0)) (zg_2 Zb.out)) : gb140 ≠ gb139)); clear Zb; clear HB; have Zb := n0_; have HB := n1_; have Zd := n2_; have ZB := n3_; have Zi := n4_; have Zn := n5_; have Zj := n6_; clear n0_ n1_ n2_ n3_ n4_ n5_ n6_; clear hb hbox hg; have hnb8 := Zn.out; have hnc8 := Zj.out; have hcz9_0 : w7.cell? ⟨gb139, 0, none⟩ = some (.slice A0_0 l0_0.length c0_0) := (blk_cell Zb.out 0).trans rfl; have hcz9_1 : w7.cell? ⟨gb139, 1, none⟩ = some (.slice A0_1 l0_1.length c0_1) := (blk_cell Zb.out 1).trans rfl; have hfz9_0 := blk_frozen Zb.out 0; have hfz9_1 := blk_frozen Zb.out 1) | ((with_reducible refine gate_callee (f := 49) rfl ?_); refine goesL_ (some 13) rfl rfl Try.func49 (by kernel_rfl) rfl #[.agg #[.slice A0_0 l0_0.length c0_0, .slice A0_1 l0_1.length c0_1]] rfl zq ?_; (with_reducible refine (spec_l01Own.calls _ _ l0_0 _ _ l0_1 t141 t144 _ ?side1 ?side2 ?side3 ?side4 A5.out).mono ?_); (case side1 => repeat (first | exact (Kd.C_below Zt.out HB.out) | (with_reducible refine Kd.C_alloc ?_ _) | (with_reducible refine Kd.C_drewN ?_ _) | (with_reducible refine Kd.C_drew ?_))); (case side2 => exact Zu.out); (case side3 => repeat (first | exact (Kd.C_below Zv.out HB.out) | (with_reducible refine Kd.C_alloc ?_ _) | (with_reducible refine Kd.C_drewN ?_ _) | (with_reducible refine Kd.C_drew ?_))); (case side4 => exact Zw.out); rintro e w10 ⟨v142, v145, rfl, ho0, ho1, hb⟩; refine ⟨_, rfl, ?_⟩; have n0_ := zm (Kd.R_lower ho0 (below_size (zg_4 HB.out Zh.out Zi.out))); have n1_ := zm (Kd.R_lower ho1 (below_size (zg_4 HB.out Zh.out Zi.out))); have n2_ := zm (blk_below (g := gb139) (o := .cells #[.slice A0_0 l0_0.length c0_0, .slice A0_1 l0_1.length c0_1] 29 (0, 0)) (zg_2 Zb.out) hb); have n3_ := zm (blk_below (g := gb140) (o := .cells #[.slice none 0 0, .slice none 0 0] 29 (0, 0)) (zg_2 Zd.out) hb); have n4_ := zm (below_step (zg_4 HB.out Zh.out Zi.out) hb); clear Zb; clear Zd; clear HB; have Zq := n0_; have Zp := n1_; have Zb := n2_; have Zd := n3_; have HB := n4_; clear n0_ n1_ n2_ n3_ n4_; (try clear hb); (try clear hb2); (try clear hk); (try clear hi); (try clear ho0); (try clear ho1); obtain ⟨Ao11, co11, eo11⟩ := Kd.R_slice Zq.out; subst eo11; have hcz12_0 : w10.cell? ⟨gb139, 0, none⟩ = some (.slice A0_0 l0_0.length c0_0) := (blk_cell Zb.out 0).trans rfl; have hcz12_1 : w10.cell? ⟨gb139, 1, none⟩ = some (.slice A0_1 l0_1.length c0_1) := (blk_cell Zb.out 1).trans rfl; have hfz12_0 := blk_frozen Zb.out 0; have hfz12_1 := blk_frozen Zb.out 1; obtain ⟨Ao13, co13, eo13⟩ := Kd.R_slice Zp.out; subst eo13) | ((with_reducible refine gate_dst (N := 14) rfl ?_); refine Kd.R_lit k76 _ 76 ?hg (N := 14) ?hd (xs := ([] : List (S76))) (inner := []) (ok := fun _ => True) (okp := fun _ => True) ?hr ?hp (fun _ hk => hk) trivial (Below.refl _ _) (Nat.le_refl _) (by simp) ?_; (case hd => rfl); (case hg => rfl); (case hr => first | (go_simp; done) | (go_simp; rfl)); (case hp => exact (Reps.none _ _)); intro v148 w14 ho15 hb hg_ hnew_; clear hg_ hnew_; (first | rw [← Ny147.out] at ho15 | (simp only [Int.reduceToNat] at ho15; rw [← Ny147.out] at ho15)); have n0_ := zm (Kd.R_below (by (with_reducible repeat (first | apply Kd.R_alloc | apply Kd.R_drewN | apply Kd.R_drew)); exact (Kd.R_mono (Kd.R_far (p := ⟨gb139, 1, none⟩) (Kd.R_far (p := ⟨gb139, 0, none⟩) (Kd.R_types Zq.out Zb.out (by decide)) (fun _ hk => hk.2) (.slice Ao11 t141.length co11)) (fun _ hk => hk.2) (.slice Ao13 t144.length co13)) (fun _ h_ => h_.1))) hb); have n1_ := zm (Kd.R_elder' (by (with_reducible repeat (first | apply Kd.R_alloc | apply Kd.R_drewN | apply Kd.R_drew)); exact (Kd.R_mono (Kd.R_far (p := ⟨gb139, 1, none⟩) (Kd.R_far (p := ⟨gb139, 0, none⟩) (Kd.R_types Zp.out Zb.out (by decide)) (fun _ hk => hk.2) (.slice Ao11 t141.length co11)) (fun _ hk => hk.2) (.slice Ao13 t144.length co13)) (fun _ h_ => h_.1))) (Kd.R_base ho15) hb); have n2_ := zm (Kd.R_lower (Kd.R_new' ho15 (Kd.R_lt (by (with_reducible repeat (first | apply Kd.R_alloc | apply Kd.R_drewN | apply Kd.R_drew)); exact (Kd.R_mono (Kd.R_far (p := ⟨gb139, 1, none⟩) (Kd.R_far (p := ⟨gb139, 0, none⟩) (Kd.R_types Zp.out Zb.out (by decide)) (fun _ hk => hk.2) (.slice Ao11 t141.length co11)) (fun _ hk => hk.2) (.slice Ao13 t144.length co13)) (fun _ h_ => h_.1))))) (below_size (zg_4 HB.out Zh.out Zi.out))); have n3_ := zm (blk_below (g := gb139) (o := .cells #[.slice Ao11 t141.length co11, .slice Ao13 t144.length co13] 29 (0, 0)) (by (with_reducible repeat (first | refine blk_drewN ?_ _ | refine blk_drew ?_ | refine blk_alloc ?_ _)); refine blk_put (cs := #[.slice Ao11 t141.length co11, .slice A0_1 l0_1.length c0_1]) ?_ 1 _ rfl; (with_reducible repeat (first | refine blk_drewN ?_ _ | refine blk_drew ?_ | refine blk_alloc ?_ _)); refine blk_put (cs := #[.slice A0_0 l0_0.length c0_0, .slice A0_1 l0_1.length c0_1]) ?_ 0 _ rfl; (with_reducible repeat (first | refine blk_drewN ?_ _ | refine blk_drew ?_ | refine blk_alloc ?_ _)); exact Zb.out) hb); have n4_ := zm (blk_below (g := gb140) (o := .cells #[.slice none 0 0, .slice none 0 0] 29 (0, 0)) (by (with_reducible repeat (first | refine blk_drewN ?_ _ | refine blk_drew ?_ | refine blk_alloc ?_ _)); refine blk_far ?_ Zj.out _; (with_reducible repeat (first | refine blk_drewN ?_ _ | refine blk_drew ?_ | refine blk_alloc ?_ _)); refine blk_far ?_ Zj.out _; (with_reducible repeat (first | refine blk_drewN ?_ _ | refine blk_drew ?_ | refine blk_alloc ?_ _)); exact Zd.out) hb); have n5_ := zm (below_step (zg_4 HB.out Zh.out Zi.out) hb); clear Zq; clear Zp; clear Zb; clear Zd; clear HB; have Zq := n0_; have Zp := n1_; have Zx := n2_; have Zb := n3_; have Zd := n4_; have HB := n5_; clear n0_ n1_ n2_ n3_ n4_ n5_; clear hb ho15))
 go_loopg [2, 9, 10] k (fun kq v2 v9 v10 w' => ∃ (x2_1 : Int) (x9_1 : List (S76)) (x10_1 : Int) (x140000_1 : List ByteArray) (u140000 : Value), v2 = .int .i64 x2_1 ∧ v10 = .int .i64 x10_1 ∧ Aside0 (spec_l01Land.l0 kq a1 x2_1 a3 x9_1 x10_1 x140000_1 t144 = some (r1, r2)) ∧ Aside0 (kq ≤ k) ∧ Aside0 (Kd.R k76 76 w' w.heap.size (fun k_ => some k_ ≠ ((.slice Ao13 t144.length co13) : Value).ownBlock) v9 x9_1) ∧ Aside0 (Kd.R Kd.string 9 w' w.heap.size (fun _ => True) u140000 x140000_1) ∧ Aside0 (Kd.R k76 76 w' w.heap.size (fun k_ => some k_ ≠ (v9 : Value).ownBlock) (.slice Ao13 t144.length co13) t144) ∧ Aside0 (w'.heap[gb139]? = some (.cells #[u140000, (.slice Ao13 t144.length co13)] 29 (0, 0))) ∧ Aside0 (w'.heap[gb140]? = some (.cells #[(.slice none 0 0), (.slice none 0 0)] 29 (0, 0))) ∧ Aside0 (Below w.heap.size w w'))
 case atStart => exact ⟨(a2), (y147), (0), (t141), (.slice Ao11 t141.length co11), zr, zr, H', ⟨Nat.le_refl _⟩, ⟨by (with_reducible repeat (first | apply Kd.R_alloc | apply Kd.R_drewN | apply Kd.R_drew)); exact Kd.R_mono Zx.out (fun _ hk => hk.2)⟩, ⟨by (with_reducible repeat (first | apply Kd.R_alloc | apply Kd.R_drewN | apply Kd.R_drew)); exact Zq.out⟩, ⟨by (with_reducible repeat (first | apply Kd.R_alloc | apply Kd.R_drewN | apply Kd.R_drew)); exact Kd.R_mono Zp.out (fun _ hk => hk.2)⟩, ⟨by (with_reducible repeat (first | refine blk_drewN ?_ _ | refine blk_drew ?_ | refine blk_alloc ?_ _)); exact Zb.out⟩, ⟨by (with_reducible repeat (first | refine blk_drewN ?_ _ | refine blk_drew ?_ | refine blk_alloc ?_ _)); exact Zd.out⟩, ⟨zg_4 HB.out Zh.out Zi.out⟩⟩
 case round =>
  clear H'
  try clear p2
  try clear c4
  try clear c8
  try clear hcz12_0
  try clear hcz12_1
  try clear hcz9_0
  try clear hcz9_1
  try clear hfz12_0
  try clear hfz12_1
  try clear hfz9_0
  try clear hfz9_1
  obtain ⟨x2_1, x9_1, x10_1, x140000_1, u140000, rfl, rfl, HA, HK1, Zk, Za, Zc, Zb, Zd, HB⟩ := hrel
  cases gk with
  | zero => exact absurd HA.out (by simp [spec_l01Land.l0])
  | succ k1 =>
   have H := HA.out
   clear HA
   simp only [spec_l01Land.l0] at H
   by_cases c16 : x10_1 < (t144.length : Int)
   ·rw [if_pos c16] at H
    have c16b0 : decide (x10_1 < (t144.length : Int)) = true := decide_eq_true c16
    clear c16
    by_cases c17 : 0 ≤ x10_1
    ·rw [if_pos c17] at H
     have c17b0 : decide (0 ≤ x10_1) = true := decide_eq_true c17
     clear c17
     by_cases c18 : ((rd_T76 t144 x10_1).f0) = a1
     ·rw [if_pos c18] at H
      have c18b0 : (((rd_T76 t144 x10_1).f0) == a1) = true := beq_iff_eq.mpr c18
      have c18b1 : (((rd_T76 t144 x10_1).f0) != a1) = false := bne_eq_false_iff_eq.mpr c18
      clear c18
      by_cases c19 : x2_1 > 0
      ·rw [if_pos c19] at H
       have c19b0 : decide (0 < x2_1) = true := decide_eq_true c19
       clear c19
       by_cases c20 : 0 ≤ ((rd_T76 t144 x10_1).f1)
       ·rw [if_pos c20] at H
        have c20b0 : decide (0 ≤ ((rd_T76 t144 x10_1).f1)) = true := decide_eq_true c20
        clear c20
        by_cases c21 : ((rd_T76 t144 x10_1).f1) < (x140000_1.length : Int)
        ·rw [if_pos c21] at H
         have c21b0 : decide (((rd_T76 t144 x10_1).f1) < (x140000_1.length : Int)) = true := decide_eq_true c21
         clear c21
         obtain ⟨y152, hy152⟩ : ∃ y_ : List ByteArray, y_ = (x140000_1.set (((rd_T76 t144 x10_1).f1) : Int).toNat ((rd_T76 t144 x10_1).f2)) := ⟨_, rfl⟩
         replace H : (spec_l01Land.l0 k1 a1 (wrap64 (x2_1 - 1)) a3 x9_1 (wrap64 (x10_1 + 1)) y152 t144) = some (r1, r2) := by first | (rw [hy152]; with_reducible exact H) | (have H2_ := (Option.bind_some _ _).symm.trans H; rw [hy152]; with_reducible exact H2_) | (have H2_ := (Option.bind_some _ _).symm.trans H; with_reducible exact H2_) | with_reducible exact H | (rw [hy152]; exact H) | exact H
         have Ny152 := zm hy152
         clear hy152
         have H' := zm H
         clear H
         have hnb23 := Zn.out
         have hnc23 := Zj.out
         have hcz24_0 : wr.cell? ⟨gb139, 0, none⟩ = some (u140000) := (blk_cell Zb.out 0).trans rfl
         have hcz24_1 : wr.cell? ⟨gb139, 1, none⟩ = some (.slice Ao13 t144.length co13) := (blk_cell Zb.out 1).trans rfl
         have hfz24_0 := blk_frozen Zb.out 0
         have hfz24_1 := blk_frozen Zb.out 1
         have p150 : 0 ≤ (x10_1 : Int) := of_decide_eq_true (by first | (with_reducible assumption) | assumption)
         have q150 : x10_1 < (t144.length : Int) := of_decide_eq_true (by first | (with_reducible assumption) | assumption)
         obtain ⟨ad150, e150, hx150_0, hx150_1, hx150_2⟩ := at_T76 (Kd.R_reads' Zc.out).2.2 x10_1 p150 q150
         cases e150
         replace p150 := eq_true p150
         replace q150 := eq_true q150
         go_wp2_with (first | ((with_reducible refine gate_dst (N := 11) rfl ?_); refine box_event ?hg (N := 11) ?hd (cs := #[.int .i64 0, .int .i64 0, .string (⟨#[]⟩ : ByteArray)]) (t := 76) ?hr ?_; (case hd => rfl); (case hg => rfl); (case hr => first | (go_simp; done) | (go_simp; rfl)); intro gb151 hg w25 hbox hb; have n0_ := zm (Kd.R_below (Kd.R_elderB (zg_3 Zk.out) gb151 (Nat.le_of_eq hg.symm)) hb); have n1_ := zm (Kd.R_below (zg_3 Za.out) hb); have n2_ := zm (Kd.R_below (Kd.R_elderB (zg_3 Zc.out) gb151 (Nat.le_of_eq hg.symm)) hb); have n3_ := zm (blk_below (g := gb139) (o := .cells #[u140000, .slice (some ad150) t144.length co13] 29 (0, 0)) (zg_2 Zb.out) hb); have n4_ := zm (blk_below (g := gb140) (o := .cells #[.slice none 0 0, .slice none 0 0] 29 (0, 0)) (zg_2 Zd.out) hb); have n5_ := zm (below_step (zg_4 HB.out Zh.out Zi.out) hb); have n6_ := zm (hbox); have n7_ := zm ((by rw [hg]; exact (below_size (zg_4 HB.out Zh.out Zi.out)) : w.heap.size ≤ gb151)); have n8_ := zm ((by rw [hg]; exact (below_size (zg_4 HB.out Zh.out Zi.out)) : w.heap.size ≤ gb151)); have n9_ := zm ((by rw [hg]; exact Nat.ne_of_lt (blk_lt (g := gb139) (o := .cells #[u140000, .slice (some ad150) t144.length co13] 29 (0, 0)) (zg_2 Zb.out)) : gb139 ≠ gb151)); have n10_ := zm ((by rw [hg]; exact Nat.ne_of_gt (blk_lt (g := gb139) (o := .cells #[u140000, .slice (some ad150) t144.length co13] 29 (0, 0)) (zg_2 Zb.out)) : gb151 ≠ gb139)); have n11_ := zm ((by rw [hg]; exact Nat.ne_of_lt (blk_lt (g := gb140) (o := .cells #[.slice none 0 0, .slice none 0 0] 29 (0, 0)) (zg_2 Zd.out)) : gb140 ≠ gb151)); have n12_ := zm ((by rw [hg]; exact Nat.ne_of_gt (blk_lt (g := gb140) (o := .cells #[.slice none 0 0, .slice none 0 0] 29 (0, 0)) (zg_2 Zd.out)) : gb151 ≠ gb140)); clear Zk; clear Za; clear Zc; clear Zb; clear Zd; clear HB; have Zk := n0_; have Za := n1_; have Zc := n2_; have Zb := n3_; have Zd := n4_; have HB := n5_; have Ze := n6_; have Zr := n7_; have Zo := n8_; have Zf := n9_; have Zl := n10_; have Zg := n11_; have Zm := n12_; clear n0_ n1_ n2_ n3_ n4_ n5_ n6_ n7_ n8_ n9_ n10_ n11_ n12_; clear hb hbox hg; have hnb26 := Zl.out; have hnc26 := Zf.out; have hnb27 := Zm.out; have hnc27 := Zg.out; have hcz28_0 : w25.cell? ⟨gb151, 0, none⟩ = some (.int .i64 0) := (blk_cell Ze.out 0).trans rfl; have hcz28_1 : w25.cell? ⟨gb151, 1, none⟩ = some (.int .i64 0) := (blk_cell Ze.out 1).trans rfl; have hcz28_2 : w25.cell? ⟨gb151, 2, none⟩ = some (.string (⟨#[]⟩ : ByteArray)) := (blk_cell Ze.out 2).trans rfl; have hfz28_0 := blk_frozen Ze.out 0; have hfz28_1 := blk_frozen Ze.out 1; have hfz28_2 := blk_frozen Ze.out 2) | ((with_reducible refine gate_store (t := 76) (p := 11) rfl ?_); refine store_event (t := 76) (p := 11) (v := ?vo_w29) (w1 := (((w25.setCell ⟨gb151, 0, none⟩ (.int .i64 ((rd_T76 t144 x10_1).f0))).setCell ⟨gb151, 1, none⟩ (.int .i64 ((rd_T76 t144 x10_1).f1))).setCell ⟨gb151, 2, none⟩ (.string ((rd_T76 t144 x10_1).f2)))) ?hg ?ho ?hn ?hr ?_; (case ho => rfl); (case hg => rfl); (case hn => rfl); (case hr => first | (go_simp; done) | (go_simp; rfl)); intro w29 hw; have n0_ : Aside0 (Kd.R k76 76 w29 w.heap.size (fun k_ => some k_ ≠ (.slice (some ad150) t144.length co13 : Value).ownBlock ∧ k_ ≠ gb151) u9 x9_1) := ⟨(by rw [hw]; exact (by (with_reducible repeat (first | apply Kd.R_alloc | apply Kd.R_drewN | apply Kd.R_drew)); exact Kd.R_mono (Kd.R_far (p := ⟨gb151, 2, none⟩) (Kd.R_far (p := ⟨gb151, 1, none⟩) (Kd.R_far (p := ⟨gb151, 0, none⟩) (Kd.R_mono Zk.out (fun k_ hk => (⟨hk, hk.2⟩ : _ ∧ k_ ≠ gb151))) (fun _ hk => hk.2) (.int .i64 ((rd_T76 t144 x10_1).f0))) (fun _ hk => hk.2) (.int .i64 ((rd_T76 t144 x10_1).f1))) (fun _ hk => hk.2) (.string ((rd_T76 t144 x10_1).f2))) (fun _ hk => ⟨hk.1.1, hk.1.2⟩)))⟩; have n1_ : Aside0 (Kd.R Kd.string 9 w29 w.heap.size (fun _ => True) u140000 x140000_1) := ⟨(by rw [hw]; exact (by (with_reducible repeat (first | apply Kd.R_alloc | apply Kd.R_drewN | apply Kd.R_drew)); exact Kd.R_mono (Kd.R_far (p := ⟨gb151, 2, none⟩) (Kd.R_far (p := ⟨gb151, 1, none⟩) (Kd.R_far (p := ⟨gb151, 0, none⟩) (Kd.R_types Za.out Ze.out (by decide)) (fun _ hk => hk.2) (.int .i64 ((rd_T76 t144 x10_1).f0))) (fun _ hk => hk.2) (.int .i64 ((rd_T76 t144 x10_1).f1))) (fun _ hk => hk.2) (.string ((rd_T76 t144 x10_1).f2))) (fun _ hk => trivial)))⟩; have n2_ : Aside0 (Kd.R k76 76 w29 w.heap.size (fun k_ => some k_ ≠ (u9 : Value).ownBlock ∧ k_ ≠ gb151) (.slice (some ad150) t144.length co13) t144) := ⟨(by rw [hw]; exact (by (with_reducible repeat (first | apply Kd.R_alloc | apply Kd.R_drewN | apply Kd.R_drew)); exact Kd.R_mono (Kd.R_far (p := ⟨gb151, 2, none⟩) (Kd.R_far (p := ⟨gb151, 1, none⟩) (Kd.R_far (p := ⟨gb151, 0, none⟩) (Kd.R_mono Zc.out (fun k_ hk => (⟨hk, hk.2⟩ : _ ∧ k_ ≠ gb151))) (fun _ hk => hk.2) (.int .i64 ((rd_T76 t144 x10_1).f0))) (fun _ hk => hk.2) (.int .i64 ((rd_T76 t144 x10_1).f1))) (fun _ hk => hk.2) (.string ((rd_T76 t144 x10_1).f2))) (fun _ hk => ⟨hk.1.1, hk.1.2⟩)))⟩; have n3_ : Aside0 (w29.heap[gb139]? = some (.cells #[u140000, .slice (some ad150) t144.length co13] 29 (0, 0))) := ⟨(by rw [hw]; exact (by (with_reducible repeat (first | refine blk_drewN ?_ _ | refine blk_drew ?_ | refine blk_alloc ?_ _)); refine blk_far ?_ Zf.out _; (with_reducible repeat (first | refine blk_drewN ?_ _ | refine blk_drew ?_ | refine blk_alloc ?_ _)); refine blk_far ?_ Zf.out _; (with_reducible repeat (first | refine blk_drewN ?_ _ | refine blk_drew ?_ | refine blk_alloc ?_ _)); refine blk_far ?_ Zf.out _; (with_reducible repeat (first | refine blk_drewN ?_ _ | refine blk_drew ?_ | refine blk_alloc ?_ _)); exact Zb.out))⟩; have n4_ : Aside0 (w29.heap[gb140]? = some (.cells #[.slice none 0 0, .slice none 0 0] 29 (0, 0))) := ⟨(by rw [hw]; exact (by (with_reducible repeat (first | refine blk_drewN ?_ _ | refine blk_drew ?_ | refine blk_alloc ?_ _)); refine blk_far ?_ Zg.out _; (with_reducible repeat (first | refine blk_drewN ?_ _ | refine blk_drew ?_ | refine blk_alloc ?_ _)); refine blk_far ?_ Zg.out _; (with_reducible repeat (first | refine blk_drewN ?_ _ | refine blk_drew ?_ | refine blk_alloc ?_ _)); refine blk_far ?_ Zg.out _; (with_reducible repeat (first | refine blk_drewN ?_ _ | refine blk_drew ?_ | refine blk_alloc ?_ _)); exact Zd.out))⟩; have n5_ : Aside0 (w29.heap[gb151]? = some (.cells #[.int .i64 ((rd_T76 t144 x10_1).f0), .int .i64 ((rd_T76 t144 x10_1).f1), .string ((rd_T76 t144 x10_1).f2)] 76 (0, 0))) := ⟨(by rw [hw]; exact (by (with_reducible repeat (first | refine blk_drewN ?_ _ | refine blk_drew ?_ | refine blk_alloc ?_ _)); refine blk_put (cs := #[.int .i64 ((rd_T76 t144 x10_1).f0), .int .i64 ((rd_T76 t144 x10_1).f1), .string (⟨#[]⟩ : ByteArray)]) ?_ 2 _ rfl; (with_reducible repeat (first | refine blk_drewN ?_ _ | refine blk_drew ?_ | refine blk_alloc ?_ _)); refine blk_put (cs := #[.int .i64 ((rd_T76 t144 x10_1).f0), .int .i64 0, .string (⟨#[]⟩ : ByteArray)]) ?_ 1 _ rfl; (with_reducible repeat (first | refine blk_drewN ?_ _ | refine blk_drew ?_ | refine blk_alloc ?_ _)); refine blk_put (cs := #[.int .i64 0, .int .i64 0, .string (⟨#[]⟩ : ByteArray)]) ?_ 0 _ rfl; (with_reducible repeat (first | refine blk_drewN ?_ _ | refine blk_drew ?_ | refine blk_alloc ?_ _)); exact Ze.out))⟩; have n6_ : Aside0 (Below w.heap.size w w29) := ⟨(by rw [hw]; exact (zg_5 HB.out Zh.out Zi.out Zo.out))⟩; clear hw; clear Zk; clear Za; clear Zc; clear Zb; clear Zd; clear Ze; clear HB; have Zk := n0_; have Za := n1_; have Zc := n2_; have Zb := n3_; have Zd := n4_; have Ze := n5_; have HB := n6_; clear n0_ n1_ n2_ n3_ n4_ n5_ n6_; have hcz30_0 : w29.cell? ⟨gb151, 0, none⟩ = some (.int .i64 ((rd_T76 t144 x10_1).f0)) := (blk_cell Ze.out 0).trans rfl; have hcz30_1 : w29.cell? ⟨gb151, 1, none⟩ = some (.int .i64 ((rd_T76 t144 x10_1).f1)) := (blk_cell Ze.out 1).trans rfl; have hcz30_2 : w29.cell? ⟨gb151, 2, none⟩ = some (.string ((rd_T76 t144 x10_1).f2)) := (blk_cell Ze.out 2).trans rfl; have hfz30_0 := blk_frozen Ze.out 0; have hfz30_1 := blk_frozen Ze.out 1; have hfz30_2 := blk_frozen Ze.out 2; have hcz31_0 : w29.cell? ⟨gb139, 0, none⟩ = some (u140000) := (blk_cell Zb.out 0).trans rfl; have hcz31_1 : w29.cell? ⟨gb139, 1, none⟩ = some (.slice (some ad150) t144.length co13) := (blk_cell Zb.out 1).trans rfl; have hfz31_0 := blk_frozen Zb.out 0; have hfz31_1 := blk_frozen Zb.out 1; have p22 : 0 ≤ (((rd_T76 t144 x10_1).f1) : Int) := of_decide_eq_true (by first | (with_reducible assumption) | assumption); have q22 : (((rd_T76 t144 x10_1).f1) : Int) < ((x140000_1.length : Int) : Int) := of_decide_eq_true (by first | (with_reducible assumption) | assumption); obtain ⟨go22, co22, eo22, gb22, gl22, cl22, HG22⟩ := Kd.R_form Za.out (by omega); (first | cases eo22 | (injection eo22 with ea_ en_ ec_; (first | subst ea_ | (injection ea_ with ea_; subst ea_)); subst ec_; clear en_)); have GB22 := zm gb22; have ZC := zm HG22; clear gb22 gl22 HG22; obtain ⟨hx22_0, hf22_0⟩ := Kd.R_celln (⟨#[]⟩ : ByteArray) Za.out (((rd_T76 t144 x10_1).f1) : Int) p22 q22; replace p22 := eq_true p22; replace q22 := eq_true q22; obtain ⟨hy32_, hz32_⟩ := Kd.R_celln (⟨#[]⟩ : ByteArray) Za.out (((rd_T76 t144 x10_1).f1) : Int) (of_decide_eq_true (by first | (with_reducible assumption) | assumption)) (of_decide_eq_true (by first | (with_reducible assumption) | assumption)); have Zs := Kd.R_putg Za.out (((rd_T76 t144 x10_1).f1) : Int) ((rd_T76 t144 x10_1).f2)) | ((with_reducible refine gate_store (t := 9) (p := 45) rfl ?_); refine store_event (t := 9) (p := 45) (v := ?vo_w33) (w1 := (w29.setCell ⟨go22, (((rd_T76 t144 x10_1).f1) : Int).toNat, none⟩ (.string ((rd_T76 t144 x10_1).f2)))) ?hg ?ho ?hn ?hr ?_; (case ho => rfl); (case hg => rfl); (case hn => rfl); (case hr => first | (go_simp; done) | (go_simp; rfl)); intro w33 hw; have hg : w29.grownBy w33 (some go22) := (by rw [hw]; exact Zs.2); have hp_ : Kd.R Kd.string 9 w33 w.heap.size (fun _ => True) (.slice (some ⟨go22, 0, none⟩) x140000_1.length co22) y152 := (by rw [hw, Ny152.out]; exact Zs.1); clear Zs; have n0_ := zm (Kd.R_over' (v := (.slice (some ⟨go22, 0, none⟩) x140000_1.length co22)) (zg_3 Zk.out) (Kd.R_typed Za.out) (by decide) hg); have n1_ := zm (hp_); have n2_ := zm (Kd.R_over' (v := (.slice (some ⟨go22, 0, none⟩) x140000_1.length co22)) (zg_3 Zc.out) (Kd.R_typed Za.out) (by decide) hg); have n3_ := zm (blk_grown (g := gb139) (o := .cells #[.slice (some ⟨go22, 0, none⟩) x140000_1.length co22, .slice (some ad150) t144.length co13] 29 (0, 0)) (zg_2 Zb.out) hg (Kd.R_ne Za.out Zb.out (by decide))); have n4_ := zm (blk_grown (g := gb140) (o := .cells #[.slice none 0 0, .slice none 0 0] 29 (0, 0)) (zg_2 Zd.out) hg (Kd.R_ne Za.out Zd.out (by decide))); have n5_ := zm (blk_grown (g := gb151) (o := .cells #[.int .i64 ((rd_T76 t144 x10_1).f0), .int .i64 ((rd_T76 t144 x10_1).f1), .string ((rd_T76 t144 x10_1).f2)] 76 (0, 0)) (zg_2 Ze.out) hg (Kd.R_ne Za.out Ze.out (by decide))); have n6_ := zm ((by rw [hw]; exact below_set (HB.out) GB22.out : Below w.heap.size w w33)); clear Zk; clear Za; clear Zc; clear Zb; clear Zd; clear Ze; clear HB; have Zk := n0_; have Za := n1_; have Zc := n2_; have Zb := n3_; have Zd := n4_; have Ze := n5_; have HB := n6_; clear n0_ n1_ n2_ n3_ n4_ n5_ n6_; clear hg hw hp_))
         go_roundg k1
         case measure => have := HK1.out; omega
         case rel => exact ⟨(wrap64 (x2_1 - 1)), (x9_1), (wrap64 (x10_1 + 1)), (y152), (.slice (some ⟨go22, 0, none⟩) x140000_1.length co22), zr, zr, H', ⟨by have := HK1.out; omega⟩, ⟨by (with_reducible repeat (first | apply Kd.R_alloc | apply Kd.R_drewN | apply Kd.R_drew)); exact Kd.R_mono Zk.out (fun _ hk => hk.1)⟩, ⟨by (with_reducible repeat (first | apply Kd.R_alloc | apply Kd.R_drewN | apply Kd.R_drew)); exact Za.out⟩, ⟨by (with_reducible repeat (first | apply Kd.R_alloc | apply Kd.R_drewN | apply Kd.R_drew)); exact Kd.R_mono Zc.out (fun _ hk => hk.1)⟩, ⟨by (with_reducible repeat (first | refine blk_drewN ?_ _ | refine blk_drew ?_ | refine blk_alloc ?_ _)); exact Zb.out⟩, ⟨by (with_reducible repeat (first | refine blk_drewN ?_ _ | refine blk_drew ?_ | refine blk_alloc ?_ _)); exact Zd.out⟩, ⟨zg_5 HB.out Zh.out Zi.out Zo.out⟩⟩
        ·rw [if_neg c21] at H
         exact absurd H (by simp)
       ·rw [if_neg c20] at H
        exact absurd H (by simp)
      ·rw [if_neg c19] at H
       have c19b0 : decide (0 < x2_1) = false := decide_eq_false c19
       clear c19
       by_cases c34 : a3 = true
       ·subst c34
        have H1 : (spec_l01Land.l0 k1 a1 x2_1 true x9_1 (wrap64 (x10_1 + 1)) x140000_1 t144) = some (r1, r2) := by rw [if_pos rfl] at H; exact H
        clear H
        have H := H1
        clear H1
        have H' := zm H
        clear H
        have hnb35 := Zn.out
        have hnc35 := Zj.out
        have hcz36_0 : wr.cell? ⟨gb139, 0, none⟩ = some (u140000) := (blk_cell Zb.out 0).trans rfl
        have hcz36_1 : wr.cell? ⟨gb139, 1, none⟩ = some (.slice Ao13 t144.length co13) := (blk_cell Zb.out 1).trans rfl
        have hfz36_0 := blk_frozen Zb.out 0
        have hfz36_1 := blk_frozen Zb.out 1
        have p150 : 0 ≤ (x10_1 : Int) := of_decide_eq_true (by first | (with_reducible assumption) | assumption)
        have q150 : x10_1 < (t144.length : Int) := of_decide_eq_true (by first | (with_reducible assumption) | assumption)
        obtain ⟨ad150, e150, hx150_0, hx150_1, hx150_2⟩ := at_T76 (Kd.R_reads' Zc.out).2.2 x10_1 p150 q150
        cases e150
        replace p150 := eq_true p150
        replace q150 := eq_true q150
        go_wp2_with (first | ((with_reducible refine gate_dst (N := 11) rfl ?_); refine box_event ?hg (N := 11) ?hd (cs := #[.int .i64 0, .int .i64 0, .string (⟨#[]⟩ : ByteArray)]) (t := 76) ?hr ?_; (case hd => rfl); (case hg => rfl); (case hr => first | (go_simp; done) | (go_simp; rfl)); intro gb151 hg w37 hbox hb; have n0_ := zm (Kd.R_below (Kd.R_elderB (zg_3 Zk.out) gb151 (Nat.le_of_eq hg.symm)) hb); have n1_ := zm (Kd.R_below (zg_3 Za.out) hb); have n2_ := zm (Kd.R_below (Kd.R_elderB (zg_3 Zc.out) gb151 (Nat.le_of_eq hg.symm)) hb); have n3_ := zm (blk_below (g := gb139) (o := .cells #[u140000, .slice (some ad150) t144.length co13] 29 (0, 0)) (zg_2 Zb.out) hb); have n4_ := zm (blk_below (g := gb140) (o := .cells #[.slice none 0 0, .slice none 0 0] 29 (0, 0)) (zg_2 Zd.out) hb); have n5_ := zm (below_step (zg_4 HB.out Zh.out Zi.out) hb); have n6_ := zm (hbox); have n7_ := zm ((by rw [hg]; exact (below_size (zg_4 HB.out Zh.out Zi.out)) : w.heap.size ≤ gb151)); have n8_ := zm ((by rw [hg]; exact (below_size (zg_4 HB.out Zh.out Zi.out)) : w.heap.size ≤ gb151)); have n9_ := zm ((by rw [hg]; exact Nat.ne_of_lt (blk_lt (g := gb139) (o := .cells #[u140000, .slice (some ad150) t144.length co13] 29 (0, 0)) (zg_2 Zb.out)) : gb139 ≠ gb151)); have n10_ := zm ((by rw [hg]; exact Nat.ne_of_gt (blk_lt (g := gb139) (o := .cells #[u140000, .slice (some ad150) t144.length co13] 29 (0, 0)) (zg_2 Zb.out)) : gb151 ≠ gb139)); have n11_ := zm ((by rw [hg]; exact Nat.ne_of_lt (blk_lt (g := gb140) (o := .cells #[.slice none 0 0, .slice none 0 0] 29 (0, 0)) (zg_2 Zd.out)) : gb140 ≠ gb151)); have n12_ := zm ((by rw [hg]; exact Nat.ne_of_gt (blk_lt (g := gb140) (o := .cells #[.slice none 0 0, .slice none 0 0] 29 (0, 0)) (zg_2 Zd.out)) : gb151 ≠ gb140)); clear Zk; clear Za; clear Zc; clear Zb; clear Zd; clear HB; have Zk := n0_; have Za := n1_; have Zc := n2_; have Zb := n3_; have Zd := n4_; have HB := n5_; have Ze := n6_; have Zr := n7_; have Zo := n8_; have Zf := n9_; have Zl := n10_; have Zg := n11_; have Zm := n12_; clear n0_ n1_ n2_ n3_ n4_ n5_ n6_ n7_ n8_ n9_ n10_ n11_ n12_; clear hb hbox hg; have hnb38 := Zl.out; have hnc38 := Zf.out; have hnb39 := Zm.out; have hnc39 := Zg.out; have hcz40_0 : w37.cell? ⟨gb151, 0, none⟩ = some (.int .i64 0) := (blk_cell Ze.out 0).trans rfl; have hcz40_1 : w37.cell? ⟨gb151, 1, none⟩ = some (.int .i64 0) := (blk_cell Ze.out 1).trans rfl; have hcz40_2 : w37.cell? ⟨gb151, 2, none⟩ = some (.string (⟨#[]⟩ : ByteArray)) := (blk_cell Ze.out 2).trans rfl; have hfz40_0 := blk_frozen Ze.out 0; have hfz40_1 := blk_frozen Ze.out 1; have hfz40_2 := blk_frozen Ze.out 2))
        go_roundg k1
        case measure => have := HK1.out; omega
        case rel => exact ⟨(x2_1), (x9_1), (wrap64 (x10_1 + 1)), (x140000_1), (u140000), zr, zr, H', ⟨by have := HK1.out; omega⟩, ⟨by (with_reducible repeat (first | apply Kd.R_alloc | apply Kd.R_drewN | apply Kd.R_drew)); exact Kd.R_mono (Kd.R_far (p := ⟨gb151, 2, none⟩) (Kd.R_far (p := ⟨gb151, 1, none⟩) (Kd.R_far (p := ⟨gb151, 0, none⟩) (Kd.R_mono Zk.out (fun k_ hk => (⟨hk, hk.2⟩ : _ ∧ k_ ≠ gb151))) (fun _ hk => hk.2) (.int .i64 ((rd_T76 t144 x10_1).f0))) (fun _ hk => hk.2) (.int .i64 ((rd_T76 t144 x10_1).f1))) (fun _ hk => hk.2) (.string ((rd_T76 t144 x10_1).f2))) (fun _ hk => hk.1.1)⟩, ⟨by (with_reducible repeat (first | apply Kd.R_alloc | apply Kd.R_drewN | apply Kd.R_drew)); exact Kd.R_mono (Kd.R_far (p := ⟨gb151, 2, none⟩) (Kd.R_far (p := ⟨gb151, 1, none⟩) (Kd.R_far (p := ⟨gb151, 0, none⟩) (Kd.R_types Za.out Ze.out (by decide)) (fun _ hk => hk.2) (.int .i64 ((rd_T76 t144 x10_1).f0))) (fun _ hk => hk.2) (.int .i64 ((rd_T76 t144 x10_1).f1))) (fun _ hk => hk.2) (.string ((rd_T76 t144 x10_1).f2))) (fun _ hk => trivial)⟩, ⟨by (with_reducible repeat (first | apply Kd.R_alloc | apply Kd.R_drewN | apply Kd.R_drew)); exact Kd.R_mono (Kd.R_far (p := ⟨gb151, 2, none⟩) (Kd.R_far (p := ⟨gb151, 1, none⟩) (Kd.R_far (p := ⟨gb151, 0, none⟩) (Kd.R_mono Zc.out (fun k_ hk => (⟨hk, hk.2⟩ : _ ∧ k_ ≠ gb151))) (fun _ hk => hk.2) (.int .i64 ((rd_T76 t144 x10_1).f0))) (fun _ hk => hk.2) (.int .i64 ((rd_T76 t144 x10_1).f1))) (fun _ hk => hk.2) (.string ((rd_T76 t144 x10_1).f2))) (fun _ hk => hk.1.1)⟩, ⟨by (with_reducible repeat (first | refine blk_drewN ?_ _ | refine blk_drew ?_ | refine blk_alloc ?_ _)); refine blk_far ?_ Zf.out _; (with_reducible repeat (first | refine blk_drewN ?_ _ | refine blk_drew ?_ | refine blk_alloc ?_ _)); refine blk_far ?_ Zf.out _; (with_reducible repeat (first | refine blk_drewN ?_ _ | refine blk_drew ?_ | refine blk_alloc ?_ _)); refine blk_far ?_ Zf.out _; (with_reducible repeat (first | refine blk_drewN ?_ _ | refine blk_drew ?_ | refine blk_alloc ?_ _)); exact Zb.out⟩, ⟨by (with_reducible repeat (first | refine blk_drewN ?_ _ | refine blk_drew ?_ | refine blk_alloc ?_ _)); refine blk_far ?_ Zg.out _; (with_reducible repeat (first | refine blk_drewN ?_ _ | refine blk_drew ?_ | refine blk_alloc ?_ _)); refine blk_far ?_ Zg.out _; (with_reducible repeat (first | refine blk_drewN ?_ _ | refine blk_drew ?_ | refine blk_alloc ?_ _)); refine blk_far ?_ Zg.out _; (with_reducible repeat (first | refine blk_drewN ?_ _ | refine blk_drew ?_ | refine blk_alloc ?_ _)); exact Zd.out⟩, ⟨zg_5 HB.out Zh.out Zi.out Zo.out⟩⟩
       ·replace c34 := Bool.eq_false_iff.mpr c34
        subst c34
        have H1 : (if x9_1.length < 4398046511104 then (spec_l01Land.l0 k1 a1 x2_1 false (x9_1 ++ [(⟨(rd_T76 t144 x10_1).f0, (rd_T76 t144 x10_1).f1, (rd_T76 t144 x10_1).f2⟩ : S76)]) (wrap64 (x10_1 + 1)) x140000_1 t144) else (none)) = some (r1, r2) := by rw [if_neg (show ¬ (false = true) by decide)] at H; exact H
        clear H
        have H := H1
        clear H1
        by_cases c41 : x9_1.length < 4398046511104
        ·rw [if_pos c41] at H
         have LMc41 := zm c41
         clear c41
         obtain ⟨y153, hy153⟩ : ∃ y_ : List (S76), y_ = (x9_1 ++ [(⟨(rd_T76 t144 x10_1).f0, (rd_T76 t144 x10_1).f1, (rd_T76 t144 x10_1).f2⟩ : S76)]) := ⟨_, rfl⟩
         replace H : (spec_l01Land.l0 k1 a1 x2_1 false y153 (wrap64 (x10_1 + 1)) x140000_1 t144) = some (r1, r2) := by first | (rw [hy153]; with_reducible exact H) | (have H2_ := (Option.bind_some _ _).symm.trans H; rw [hy153]; with_reducible exact H2_) | (have H2_ := (Option.bind_some _ _).symm.trans H; with_reducible exact H2_) | with_reducible exact H | (rw [hy153]; exact H) | exact H
         have Ny153 := zm hy153
         clear hy153
         have H' := zm H
         clear H
         have hnb42 := Zn.out
         have hnc42 := Zj.out
         have hcz43_0 : wr.cell? ⟨gb139, 0, none⟩ = some (u140000) := (blk_cell Zb.out 0).trans rfl
         have hcz43_1 : wr.cell? ⟨gb139, 1, none⟩ = some (.slice Ao13 t144.length co13) := (blk_cell Zb.out 1).trans rfl
         have hfz43_0 := blk_frozen Zb.out 0
         have hfz43_1 := blk_frozen Zb.out 1
         have p150 : 0 ≤ (x10_1 : Int) := of_decide_eq_true (by first | (with_reducible assumption) | assumption)
         have q150 : x10_1 < (t144.length : Int) := of_decide_eq_true (by first | (with_reducible assumption) | assumption)
         obtain ⟨ad150, e150, hx150_0, hx150_1, hx150_2⟩ := at_T76 (Kd.R_reads' Zc.out).2.2 x10_1 p150 q150
         cases e150
         replace p150 := eq_true p150
         replace q150 := eq_true q150
         go_wp2_with (first | ((with_reducible refine gate_dst (N := 11) rfl ?_); refine box_event ?hg (N := 11) ?hd (cs := #[.int .i64 0, .int .i64 0, .string (⟨#[]⟩ : ByteArray)]) (t := 76) ?hr ?_; (case hd => rfl); (case hg => rfl); (case hr => first | (go_simp; done) | (go_simp; rfl)); intro gb151 hg w44 hbox hb; have n0_ := zm (Kd.R_below (Kd.R_elderB (zg_3 Zk.out) gb151 (Nat.le_of_eq hg.symm)) hb); have n1_ := zm (Kd.R_below (zg_3 Za.out) hb); have n2_ := zm (Kd.R_below (Kd.R_elderB (zg_3 Zc.out) gb151 (Nat.le_of_eq hg.symm)) hb); have n3_ := zm (blk_below (g := gb139) (o := .cells #[u140000, .slice (some ad150) t144.length co13] 29 (0, 0)) (zg_2 Zb.out) hb); have n4_ := zm (blk_below (g := gb140) (o := .cells #[.slice none 0 0, .slice none 0 0] 29 (0, 0)) (zg_2 Zd.out) hb); have n5_ := zm (below_step (zg_4 HB.out Zh.out Zi.out) hb); have n6_ := zm (hbox); have n7_ := zm ((by rw [hg]; exact (below_size (zg_4 HB.out Zh.out Zi.out)) : w.heap.size ≤ gb151)); have n8_ := zm ((by rw [hg]; exact (below_size (zg_4 HB.out Zh.out Zi.out)) : w.heap.size ≤ gb151)); have n9_ := zm ((by rw [hg]; exact Nat.ne_of_lt (blk_lt (g := gb139) (o := .cells #[u140000, .slice (some ad150) t144.length co13] 29 (0, 0)) (zg_2 Zb.out)) : gb139 ≠ gb151)); have n10_ := zm ((by rw [hg]; exact Nat.ne_of_gt (blk_lt (g := gb139) (o := .cells #[u140000, .slice (some ad150) t144.length co13] 29 (0, 0)) (zg_2 Zb.out)) : gb151 ≠ gb139)); have n11_ := zm ((by rw [hg]; exact Nat.ne_of_lt (blk_lt (g := gb140) (o := .cells #[.slice none 0 0, .slice none 0 0] 29 (0, 0)) (zg_2 Zd.out)) : gb140 ≠ gb151)); have n12_ := zm ((by rw [hg]; exact Nat.ne_of_gt (blk_lt (g := gb140) (o := .cells #[.slice none 0 0, .slice none 0 0] 29 (0, 0)) (zg_2 Zd.out)) : gb151 ≠ gb140)); clear Zk; clear Za; clear Zc; clear Zb; clear Zd; clear HB; have Zk := n0_; have Za := n1_; have Zc := n2_; have Zb := n3_; have Zd := n4_; have HB := n5_; have Ze := n6_; have Zr := n7_; have Zo := n8_; have Zf := n9_; have Zl := n10_; have Zg := n11_; have Zm := n12_; clear n0_ n1_ n2_ n3_ n4_ n5_ n6_ n7_ n8_ n9_ n10_ n11_ n12_; clear hb hbox hg; have hnb45 := Zl.out; have hnc45 := Zf.out; have hnb46 := Zm.out; have hnc46 := Zg.out; have hcz47_0 : w44.cell? ⟨gb151, 0, none⟩ = some (.int .i64 0) := (blk_cell Ze.out 0).trans rfl; have hcz47_1 : w44.cell? ⟨gb151, 1, none⟩ = some (.int .i64 0) := (blk_cell Ze.out 1).trans rfl; have hcz47_2 : w44.cell? ⟨gb151, 2, none⟩ = some (.string (⟨#[]⟩ : ByteArray)) := (blk_cell Ze.out 2).trans rfl; have hfz47_0 := blk_frozen Ze.out 0; have hfz47_1 := blk_frozen Ze.out 1; have hfz47_2 := blk_frozen Ze.out 2) | ((with_reducible refine gate_builtin (b := .append) (xs := #[.tmp 51, .tmp 53]) rfl ?_); at_builtin; refine Kd.R_append k76 (w0 := w) w.heap.size rfl (.tmp 51) (.tmp 53) 27 76 (.agg #[(.int .i64 0), (.int .i64 0), (.string ⟨#[]⟩)]) 32 rfl Try.underlying27 info76 rfl (by decide) (by omega) u9 x9_1 (⟨(rd_T76 t144 x10_1).f0, (rd_T76 t144 x10_1).f1, (rd_T76 t144 x10_1).f2⟩ : S76) [.int .i64 ((rd_T76 t144 x10_1).f0), .int .i64 ((rd_T76 t144 x10_1).f1), .string ((rd_T76 t144 x10_1).f2)] (fun k_ => some k_ ≠ (.slice (some ad150) t144.length co13 : Value).ownBlock ∧ k_ ≠ gb151) (fun _ => False) rfl (by first | (go_simp; done) | (go_simp; rfl)) ?aP (fun _ hk => hk.elim) ?aF ?aO ?aB ?aS ?aL ?_; (case aP => exact k76_mkM _ _ _ (⟨(rd_T76 t144 x10_1).f0, (rd_T76 t144 x10_1).f1, (rd_T76 t144 x10_1).f2⟩ : S76)); (case aB => exact (zg_5 HB.out Zh.out Zi.out Zo.out)); (case aF => exact (fun k_ hk => ⟨Kd.fresh' (Kd.R_lt (by (with_reducible repeat (first | apply Kd.R_alloc | apply Kd.R_drewN | apply Kd.R_drew)); exact (Kd.R_mono (Kd.R_far (p := ⟨gb151, 2, none⟩) (Kd.R_far (p := ⟨gb151, 1, none⟩) (Kd.R_far (p := ⟨gb151, 0, none⟩) (Kd.R_mono Zc.out (fun k_ hk => (⟨hk, hk.2⟩ : _ ∧ k_ ≠ gb151))) (fun _ hk => hk.2) (.int .i64 ((rd_T76 t144 x10_1).f0))) (fun _ hk => hk.2) (.int .i64 ((rd_T76 t144 x10_1).f1))) (fun _ hk => hk.2) (.string ((rd_T76 t144 x10_1).f2))) (fun _ h_ => h_.1)))) k_ hk, Kd.freshB (g := gb151) (o := .cells #[.int .i64 ((rd_T76 t144 x10_1).f0), .int .i64 ((rd_T76 t144 x10_1).f1), .string ((rd_T76 t144 x10_1).f2)] 76 (0, 0)) (by (with_reducible repeat (first | refine blk_drewN ?_ _ | refine blk_drew ?_ | refine blk_alloc ?_ _)); refine blk_put (cs := #[.int .i64 ((rd_T76 t144 x10_1).f0), .int .i64 ((rd_T76 t144 x10_1).f1), .string (⟨#[]⟩ : ByteArray)]) ?_ 2 _ rfl; (with_reducible repeat (first | refine blk_drewN ?_ _ | refine blk_drew ?_ | refine blk_alloc ?_ _)); refine blk_put (cs := #[.int .i64 ((rd_T76 t144 x10_1).f0), .int .i64 0, .string (⟨#[]⟩ : ByteArray)]) ?_ 1 _ rfl; (with_reducible repeat (first | refine blk_drewN ?_ _ | refine blk_drew ?_ | refine blk_alloc ?_ _)); refine blk_put (cs := #[.int .i64 0, .int .i64 0, .string (⟨#[]⟩ : ByteArray)]) ?_ 0 _ rfl; (with_reducible repeat (first | refine blk_drewN ?_ _ | refine blk_drew ?_ | refine blk_alloc ?_ _)); exact Ze.out) k_ hk⟩)); (case aO => exact (by (with_reducible repeat (first | apply Kd.R_alloc | apply Kd.R_drewN | apply Kd.R_drew)); exact Kd.R_mono (Kd.R_far (p := ⟨gb151, 2, none⟩) (Kd.R_far (p := ⟨gb151, 1, none⟩) (Kd.R_far (p := ⟨gb151, 0, none⟩) (Kd.R_mono Zk.out (fun k_ hk => (⟨hk, hk.2⟩ : _ ∧ k_ ≠ gb151))) (fun _ hk => hk.2) (.int .i64 ((rd_T76 t144 x10_1).f0))) (fun _ hk => hk.2) (.int .i64 ((rd_T76 t144 x10_1).f1))) (fun _ hk => hk.2) (.string ((rd_T76 t144 x10_1).f2))) (fun _ hk => ⟨hk.1.1, hk.1.2⟩))); (case aS => exact (below_size (zg_5 HB.out Zh.out Zi.out Zo.out))); (case aL => have := LMc41.out; omega); intro v154 w48 ho hb hg hat; rw [← Ny153.out] at ho; have n0_ := zm (Kd.R_over' (by (with_reducible repeat (first | apply Kd.R_alloc | apply Kd.R_drewN | apply Kd.R_drew)); exact (Kd.R_mono (Kd.R_far (p := ⟨gb151, 2, none⟩) (Kd.R_far (p := ⟨gb151, 1, none⟩) (Kd.R_far (p := ⟨gb151, 0, none⟩) (Kd.R_types Za.out Ze.out (by decide)) (fun _ hk => hk.2) (.int .i64 ((rd_T76 t144 x10_1).f0))) (fun _ hk => hk.2) (.int .i64 ((rd_T76 t144 x10_1).f1))) (fun _ hk => hk.2) (.string ((rd_T76 t144 x10_1).f2))) (fun _ h_ => h_.1))) (Kd.R_typed (by (with_reducible repeat (first | apply Kd.R_alloc | apply Kd.R_drewN | apply Kd.R_drew)); exact (Kd.R_mono (Kd.R_far (p := ⟨gb151, 2, none⟩) (Kd.R_far (p := ⟨gb151, 1, none⟩) (Kd.R_far (p := ⟨gb151, 0, none⟩) (Kd.R_mono Zk.out (fun k_ hk => (⟨hk, hk.2⟩ : _ ∧ k_ ≠ gb151))) (fun _ hk => hk.2) (.int .i64 ((rd_T76 t144 x10_1).f0))) (fun _ hk => hk.2) (.int .i64 ((rd_T76 t144 x10_1).f1))) (fun _ hk => hk.2) (.string ((rd_T76 t144 x10_1).f2))) (fun _ h_ => h_.1)))) (by decide) hg); have n1_ := zm (Kd.R_after (ok := (fun k_ => k_ ≠ gb151)) (by (with_reducible repeat (first | apply Kd.R_alloc | apply Kd.R_drewN | apply Kd.R_drew)); exact Kd.R_mono (Kd.R_far (p := ⟨gb151, 2, none⟩) (Kd.R_far (p := ⟨gb151, 1, none⟩) (Kd.R_far (p := ⟨gb151, 0, none⟩) (Kd.R_mono Zc.out (fun k_ hk => (⟨hk, hk.2⟩ : _ ∧ k_ ≠ gb151))) (fun _ hk => hk.2) (.int .i64 ((rd_T76 t144 x10_1).f0))) (fun _ hk => hk.2) (.int .i64 ((rd_T76 t144 x10_1).f1))) (fun _ hk => hk.2) (.string ((rd_T76 t144 x10_1).f2))) (fun _ hk => ⟨hk.1.2, hk.1.1⟩)) hg hat); have n2_ := zm (blk_grown (g := gb139) (o := .cells #[u140000, .slice (some ad150) t144.length co13] 29 (0, 0)) (by (with_reducible repeat (first | refine blk_drewN ?_ _ | refine blk_drew ?_ | refine blk_alloc ?_ _)); refine blk_far ?_ Zf.out _; (with_reducible repeat (first | refine blk_drewN ?_ _ | refine blk_drew ?_ | refine blk_alloc ?_ _)); refine blk_far ?_ Zf.out _; (with_reducible repeat (first | refine blk_drewN ?_ _ | refine blk_drew ?_ | refine blk_alloc ?_ _)); refine blk_far ?_ Zf.out _; (with_reducible repeat (first | refine blk_drewN ?_ _ | refine blk_drew ?_ | refine blk_alloc ?_ _)); exact Zb.out) hg (Kd.R_ne Zk.out Zb.out (by decide))); have n3_ := zm (blk_grown (g := gb140) (o := .cells #[.slice none 0 0, .slice none 0 0] 29 (0, 0)) (by (with_reducible repeat (first | refine blk_drewN ?_ _ | refine blk_drew ?_ | refine blk_alloc ?_ _)); refine blk_far ?_ Zg.out _; (with_reducible repeat (first | refine blk_drewN ?_ _ | refine blk_drew ?_ | refine blk_alloc ?_ _)); refine blk_far ?_ Zg.out _; (with_reducible repeat (first | refine blk_drewN ?_ _ | refine blk_drew ?_ | refine blk_alloc ?_ _)); refine blk_far ?_ Zg.out _; (with_reducible repeat (first | refine blk_drewN ?_ _ | refine blk_drew ?_ | refine blk_alloc ?_ _)); exact Zd.out) hg (Kd.R_ne Zk.out Zd.out (by decide))); have n4_ := zm (blk_grown (g := gb151) (o := .cells #[.int .i64 ((rd_T76 t144 x10_1).f0), .int .i64 ((rd_T76 t144 x10_1).f1), .string ((rd_T76 t144 x10_1).f2)] 76 (0, 0)) (by (with_reducible repeat (first | refine blk_drewN ?_ _ | refine blk_drew ?_ | refine blk_alloc ?_ _)); refine blk_put (cs := #[.int .i64 ((rd_T76 t144 x10_1).f0), .int .i64 ((rd_T76 t144 x10_1).f1), .string (⟨#[]⟩ : ByteArray)]) ?_ 2 _ rfl; (with_reducible repeat (first | refine blk_drewN ?_ _ | refine blk_drew ?_ | refine blk_alloc ?_ _)); refine blk_put (cs := #[.int .i64 ((rd_T76 t144 x10_1).f0), .int .i64 0, .string (⟨#[]⟩ : ByteArray)]) ?_ 1 _ rfl; (with_reducible repeat (first | refine blk_drewN ?_ _ | refine blk_drew ?_ | refine blk_alloc ?_ _)); refine blk_put (cs := #[.int .i64 0, .int .i64 0, .string (⟨#[]⟩ : ByteArray)]) ?_ 0 _ rfl; (with_reducible repeat (first | refine blk_drewN ?_ _ | refine blk_drew ?_ | refine blk_alloc ?_ _)); exact Ze.out) hg (Kd.R_away Zk.out (fun _ hk => hk.2))); have n5_ := zm (hb); have n6_ := zm (ho); clear Za; clear Zc; clear Zb; clear Zd; clear Ze; clear HB; clear Zk; have Za := n0_; have Zc := n1_; have Zb := n2_; have Zd := n3_; have Ze := n4_; have HB := n5_; have Zy := n6_; clear n0_ n1_ n2_ n3_ n4_ n5_ n6_; clear ho hb hg hat))
         go_roundg k1
         case measure => have := HK1.out; omega
         case rel => exact ⟨(x2_1), (y153), (wrap64 (x10_1 + 1)), (x140000_1), (u140000), zr, zr, H', ⟨by have := HK1.out; omega⟩, ⟨by (with_reducible repeat (first | apply Kd.R_alloc | apply Kd.R_drewN | apply Kd.R_drew)); exact Kd.R_mono Zy.out (fun _ hk => hk.1)⟩, ⟨by (with_reducible repeat (first | apply Kd.R_alloc | apply Kd.R_drewN | apply Kd.R_drew)); exact Za.out⟩, ⟨by (with_reducible repeat (first | apply Kd.R_alloc | apply Kd.R_drewN | apply Kd.R_drew)); exact Kd.R_mono Zc.out (fun _ hk => hk.2)⟩, ⟨by (with_reducible repeat (first | refine blk_drewN ?_ _ | refine blk_drew ?_ | refine blk_alloc ?_ _)); exact Zb.out⟩, ⟨by (with_reducible repeat (first | refine blk_drewN ?_ _ | refine blk_drew ?_ | refine blk_alloc ?_ _)); exact Zd.out⟩, ⟨zg_5 HB.out Zh.out Zi.out Zo.out⟩⟩
        ·rw [if_neg c41] at H
         exact absurd H (by simp)
     ·rw [if_neg c18] at H
      have c18b0 : (((rd_T76 t144 x10_1).f0) == a1) = false := beq_eq_false_iff_ne.mpr c18
      have c18b1 : (((rd_T76 t144 x10_1).f0) != a1) = true := bne_iff_ne.mpr c18
      by_cases c49 : x9_1.length < 4398046511104
      ·rw [if_pos c49] at H
       have LMc49 := zm c49
       clear c49
       obtain ⟨y156, hy156⟩ : ∃ y_ : List (S76), y_ = (x9_1 ++ [(⟨(rd_T76 t144 x10_1).f0, (rd_T76 t144 x10_1).f1, (rd_T76 t144 x10_1).f2⟩ : S76)]) := ⟨_, rfl⟩
       replace H : (spec_l01Land.l0 k1 a1 x2_1 a3 y156 (wrap64 (x10_1 + 1)) x140000_1 t144) = some (r1, r2) := by first | (rw [hy156]; with_reducible exact H) | (have H2_ := (Option.bind_some _ _).symm.trans H; rw [hy156]; with_reducible exact H2_) | (have H2_ := (Option.bind_some _ _).symm.trans H; with_reducible exact H2_) | with_reducible exact H | (rw [hy156]; exact H) | exact H
       have Ny156 := zm hy156
       clear hy156
       have H' := zm H
       clear H
       have hnb50 := Zn.out
       have hnc50 := Zj.out
       have hcz51_0 : wr.cell? ⟨gb139, 0, none⟩ = some (u140000) := (blk_cell Zb.out 0).trans rfl
       have hcz51_1 : wr.cell? ⟨gb139, 1, none⟩ = some (.slice Ao13 t144.length co13) := (blk_cell Zb.out 1).trans rfl
       have hfz51_0 := blk_frozen Zb.out 0
       have hfz51_1 := blk_frozen Zb.out 1
       have p150 : 0 ≤ (x10_1 : Int) := of_decide_eq_true (by first | (with_reducible assumption) | assumption)
       have q150 : x10_1 < (t144.length : Int) := of_decide_eq_true (by first | (with_reducible assumption) | assumption)
       obtain ⟨ad150, e150, hx150_0, hx150_1, hx150_2⟩ := at_T76 (Kd.R_reads' Zc.out).2.2 x10_1 p150 q150
       cases e150
       replace p150 := eq_true p150
       replace q150 := eq_true q150
       go_wp2_with (first | ((with_reducible refine gate_dst (N := 11) rfl ?_); refine box_event ?hg (N := 11) ?hd (cs := #[.int .i64 0, .int .i64 0, .string (⟨#[]⟩ : ByteArray)]) (t := 76) ?hr ?_; (case hd => rfl); (case hg => rfl); (case hr => first | (go_simp; done) | (go_simp; rfl)); intro gb151 hg w52 hbox hb; have n0_ := zm (Kd.R_below (Kd.R_elderB (zg_3 Zk.out) gb151 (Nat.le_of_eq hg.symm)) hb); have n1_ := zm (Kd.R_below (zg_3 Za.out) hb); have n2_ := zm (Kd.R_below (Kd.R_elderB (zg_3 Zc.out) gb151 (Nat.le_of_eq hg.symm)) hb); have n3_ := zm (blk_below (g := gb139) (o := .cells #[u140000, .slice (some ad150) t144.length co13] 29 (0, 0)) (zg_2 Zb.out) hb); have n4_ := zm (blk_below (g := gb140) (o := .cells #[.slice none 0 0, .slice none 0 0] 29 (0, 0)) (zg_2 Zd.out) hb); have n5_ := zm (below_step (zg_4 HB.out Zh.out Zi.out) hb); have n6_ := zm (hbox); have n7_ := zm ((by rw [hg]; exact (below_size (zg_4 HB.out Zh.out Zi.out)) : w.heap.size ≤ gb151)); have n8_ := zm ((by rw [hg]; exact (below_size (zg_4 HB.out Zh.out Zi.out)) : w.heap.size ≤ gb151)); have n9_ := zm ((by rw [hg]; exact Nat.ne_of_lt (blk_lt (g := gb139) (o := .cells #[u140000, .slice (some ad150) t144.length co13] 29 (0, 0)) (zg_2 Zb.out)) : gb139 ≠ gb151)); have n10_ := zm ((by rw [hg]; exact Nat.ne_of_gt (blk_lt (g := gb139) (o := .cells #[u140000, .slice (some ad150) t144.length co13] 29 (0, 0)) (zg_2 Zb.out)) : gb151 ≠ gb139)); have n11_ := zm ((by rw [hg]; exact Nat.ne_of_lt (blk_lt (g := gb140) (o := .cells #[.slice none 0 0, .slice none 0 0] 29 (0, 0)) (zg_2 Zd.out)) : gb140 ≠ gb151)); have n12_ := zm ((by rw [hg]; exact Nat.ne_of_gt (blk_lt (g := gb140) (o := .cells #[.slice none 0 0, .slice none 0 0] 29 (0, 0)) (zg_2 Zd.out)) : gb151 ≠ gb140)); clear Zk; clear Za; clear Zc; clear Zb; clear Zd; clear HB; have Zk := n0_; have Za := n1_; have Zc := n2_; have Zb := n3_; have Zd := n4_; have HB := n5_; have Ze := n6_; have Zr := n7_; have Zo := n8_; have Zf := n9_; have Zl := n10_; have Zg := n11_; have Zm := n12_; clear n0_ n1_ n2_ n3_ n4_ n5_ n6_ n7_ n8_ n9_ n10_ n11_ n12_; clear hb hbox hg; have hnb53 := Zl.out; have hnc53 := Zf.out; have hnb54 := Zm.out; have hnc54 := Zg.out; have hcz55_0 : w52.cell? ⟨gb151, 0, none⟩ = some (.int .i64 0) := (blk_cell Ze.out 0).trans rfl; have hcz55_1 : w52.cell? ⟨gb151, 1, none⟩ = some (.int .i64 0) := (blk_cell Ze.out 1).trans rfl; have hcz55_2 : w52.cell? ⟨gb151, 2, none⟩ = some (.string (⟨#[]⟩ : ByteArray)) := (blk_cell Ze.out 2).trans rfl; have hfz55_0 := blk_frozen Ze.out 0; have hfz55_1 := blk_frozen Ze.out 1; have hfz55_2 := blk_frozen Ze.out 2) | ((with_reducible refine gate_builtin (b := .append) (xs := #[.tmp 32, .tmp 34]) rfl ?_); at_builtin; refine Kd.R_append k76 (w0 := w) w.heap.size rfl (.tmp 32) (.tmp 34) 27 76 (.agg #[(.int .i64 0), (.int .i64 0), (.string ⟨#[]⟩)]) 32 rfl Try.underlying27 info76 rfl (by decide) (by omega) u9 x9_1 (⟨(rd_T76 t144 x10_1).f0, (rd_T76 t144 x10_1).f1, (rd_T76 t144 x10_1).f2⟩ : S76) [.int .i64 ((rd_T76 t144 x10_1).f0), .int .i64 ((rd_T76 t144 x10_1).f1), .string ((rd_T76 t144 x10_1).f2)] (fun k_ => some k_ ≠ (.slice (some ad150) t144.length co13 : Value).ownBlock ∧ k_ ≠ gb151) (fun _ => False) rfl (by first | (go_simp; done) | (go_simp; rfl)) ?aP (fun _ hk => hk.elim) ?aF ?aO ?aB ?aS ?aL ?_; (case aP => exact k76_mkM _ _ _ (⟨(rd_T76 t144 x10_1).f0, (rd_T76 t144 x10_1).f1, (rd_T76 t144 x10_1).f2⟩ : S76)); (case aB => exact (zg_5 HB.out Zh.out Zi.out Zo.out)); (case aF => exact (fun k_ hk => ⟨Kd.fresh' (Kd.R_lt (by (with_reducible repeat (first | apply Kd.R_alloc | apply Kd.R_drewN | apply Kd.R_drew)); exact (Kd.R_mono (Kd.R_far (p := ⟨gb151, 2, none⟩) (Kd.R_far (p := ⟨gb151, 1, none⟩) (Kd.R_far (p := ⟨gb151, 0, none⟩) (Kd.R_mono Zc.out (fun k_ hk => (⟨hk, hk.2⟩ : _ ∧ k_ ≠ gb151))) (fun _ hk => hk.2) (.int .i64 ((rd_T76 t144 x10_1).f0))) (fun _ hk => hk.2) (.int .i64 ((rd_T76 t144 x10_1).f1))) (fun _ hk => hk.2) (.string ((rd_T76 t144 x10_1).f2))) (fun _ h_ => h_.1)))) k_ hk, Kd.freshB (g := gb151) (o := .cells #[.int .i64 ((rd_T76 t144 x10_1).f0), .int .i64 ((rd_T76 t144 x10_1).f1), .string ((rd_T76 t144 x10_1).f2)] 76 (0, 0)) (by (with_reducible repeat (first | refine blk_drewN ?_ _ | refine blk_drew ?_ | refine blk_alloc ?_ _)); refine blk_put (cs := #[.int .i64 ((rd_T76 t144 x10_1).f0), .int .i64 ((rd_T76 t144 x10_1).f1), .string (⟨#[]⟩ : ByteArray)]) ?_ 2 _ rfl; (with_reducible repeat (first | refine blk_drewN ?_ _ | refine blk_drew ?_ | refine blk_alloc ?_ _)); refine blk_put (cs := #[.int .i64 ((rd_T76 t144 x10_1).f0), .int .i64 0, .string (⟨#[]⟩ : ByteArray)]) ?_ 1 _ rfl; (with_reducible repeat (first | refine blk_drewN ?_ _ | refine blk_drew ?_ | refine blk_alloc ?_ _)); refine blk_put (cs := #[.int .i64 0, .int .i64 0, .string (⟨#[]⟩ : ByteArray)]) ?_ 0 _ rfl; (with_reducible repeat (first | refine blk_drewN ?_ _ | refine blk_drew ?_ | refine blk_alloc ?_ _)); exact Ze.out) k_ hk⟩)); (case aO => exact (by (with_reducible repeat (first | apply Kd.R_alloc | apply Kd.R_drewN | apply Kd.R_drew)); exact Kd.R_mono (Kd.R_far (p := ⟨gb151, 2, none⟩) (Kd.R_far (p := ⟨gb151, 1, none⟩) (Kd.R_far (p := ⟨gb151, 0, none⟩) (Kd.R_mono Zk.out (fun k_ hk => (⟨hk, hk.2⟩ : _ ∧ k_ ≠ gb151))) (fun _ hk => hk.2) (.int .i64 ((rd_T76 t144 x10_1).f0))) (fun _ hk => hk.2) (.int .i64 ((rd_T76 t144 x10_1).f1))) (fun _ hk => hk.2) (.string ((rd_T76 t144 x10_1).f2))) (fun _ hk => ⟨hk.1.1, hk.1.2⟩))); (case aS => exact (below_size (zg_5 HB.out Zh.out Zi.out Zo.out))); (case aL => have := LMc49.out; omega); intro v157 w56 ho hb hg hat; rw [← Ny156.out] at ho; have n0_ := zm (Kd.R_over' (by (with_reducible repeat (first | apply Kd.R_alloc | apply Kd.R_drewN | apply Kd.R_drew)); exact (Kd.R_mono (Kd.R_far (p := ⟨gb151, 2, none⟩) (Kd.R_far (p := ⟨gb151, 1, none⟩) (Kd.R_far (p := ⟨gb151, 0, none⟩) (Kd.R_types Za.out Ze.out (by decide)) (fun _ hk => hk.2) (.int .i64 ((rd_T76 t144 x10_1).f0))) (fun _ hk => hk.2) (.int .i64 ((rd_T76 t144 x10_1).f1))) (fun _ hk => hk.2) (.string ((rd_T76 t144 x10_1).f2))) (fun _ h_ => h_.1))) (Kd.R_typed (by (with_reducible repeat (first | apply Kd.R_alloc | apply Kd.R_drewN | apply Kd.R_drew)); exact (Kd.R_mono (Kd.R_far (p := ⟨gb151, 2, none⟩) (Kd.R_far (p := ⟨gb151, 1, none⟩) (Kd.R_far (p := ⟨gb151, 0, none⟩) (Kd.R_mono Zk.out (fun k_ hk => (⟨hk, hk.2⟩ : _ ∧ k_ ≠ gb151))) (fun _ hk => hk.2) (.int .i64 ((rd_T76 t144 x10_1).f0))) (fun _ hk => hk.2) (.int .i64 ((rd_T76 t144 x10_1).f1))) (fun _ hk => hk.2) (.string ((rd_T76 t144 x10_1).f2))) (fun _ h_ => h_.1)))) (by decide) hg); have n1_ := zm (Kd.R_after (ok := (fun k_ => k_ ≠ gb151)) (by (with_reducible repeat (first | apply Kd.R_alloc | apply Kd.R_drewN | apply Kd.R_drew)); exact Kd.R_mono (Kd.R_far (p := ⟨gb151, 2, none⟩) (Kd.R_far (p := ⟨gb151, 1, none⟩) (Kd.R_far (p := ⟨gb151, 0, none⟩) (Kd.R_mono Zc.out (fun k_ hk => (⟨hk, hk.2⟩ : _ ∧ k_ ≠ gb151))) (fun _ hk => hk.2) (.int .i64 ((rd_T76 t144 x10_1).f0))) (fun _ hk => hk.2) (.int .i64 ((rd_T76 t144 x10_1).f1))) (fun _ hk => hk.2) (.string ((rd_T76 t144 x10_1).f2))) (fun _ hk => ⟨hk.1.2, hk.1.1⟩)) hg hat); have n2_ := zm (blk_grown (g := gb139) (o := .cells #[u140000, .slice (some ad150) t144.length co13] 29 (0, 0)) (by (with_reducible repeat (first | refine blk_drewN ?_ _ | refine blk_drew ?_ | refine blk_alloc ?_ _)); refine blk_far ?_ Zf.out _; (with_reducible repeat (first | refine blk_drewN ?_ _ | refine blk_drew ?_ | refine blk_alloc ?_ _)); refine blk_far ?_ Zf.out _; (with_reducible repeat (first | refine blk_drewN ?_ _ | refine blk_drew ?_ | refine blk_alloc ?_ _)); refine blk_far ?_ Zf.out _; (with_reducible repeat (first | refine blk_drewN ?_ _ | refine blk_drew ?_ | refine blk_alloc ?_ _)); exact Zb.out) hg (Kd.R_ne Zk.out Zb.out (by decide))); have n3_ := zm (blk_grown (g := gb140) (o := .cells #[.slice none 0 0, .slice none 0 0] 29 (0, 0)) (by (with_reducible repeat (first | refine blk_drewN ?_ _ | refine blk_drew ?_ | refine blk_alloc ?_ _)); refine blk_far ?_ Zg.out _; (with_reducible repeat (first | refine blk_drewN ?_ _ | refine blk_drew ?_ | refine blk_alloc ?_ _)); refine blk_far ?_ Zg.out _; (with_reducible repeat (first | refine blk_drewN ?_ _ | refine blk_drew ?_ | refine blk_alloc ?_ _)); refine blk_far ?_ Zg.out _; (with_reducible repeat (first | refine blk_drewN ?_ _ | refine blk_drew ?_ | refine blk_alloc ?_ _)); exact Zd.out) hg (Kd.R_ne Zk.out Zd.out (by decide))); have n4_ := zm (blk_grown (g := gb151) (o := .cells #[.int .i64 ((rd_T76 t144 x10_1).f0), .int .i64 ((rd_T76 t144 x10_1).f1), .string ((rd_T76 t144 x10_1).f2)] 76 (0, 0)) (by (with_reducible repeat (first | refine blk_drewN ?_ _ | refine blk_drew ?_ | refine blk_alloc ?_ _)); refine blk_put (cs := #[.int .i64 ((rd_T76 t144 x10_1).f0), .int .i64 ((rd_T76 t144 x10_1).f1), .string (⟨#[]⟩ : ByteArray)]) ?_ 2 _ rfl; (with_reducible repeat (first | refine blk_drewN ?_ _ | refine blk_drew ?_ | refine blk_alloc ?_ _)); refine blk_put (cs := #[.int .i64 ((rd_T76 t144 x10_1).f0), .int .i64 0, .string (⟨#[]⟩ : ByteArray)]) ?_ 1 _ rfl; (with_reducible repeat (first | refine blk_drewN ?_ _ | refine blk_drew ?_ | refine blk_alloc ?_ _)); refine blk_put (cs := #[.int .i64 0, .int .i64 0, .string (⟨#[]⟩ : ByteArray)]) ?_ 0 _ rfl; (with_reducible repeat (first | refine blk_drewN ?_ _ | refine blk_drew ?_ | refine blk_alloc ?_ _)); exact Ze.out) hg (Kd.R_away Zk.out (fun _ hk => hk.2))); have n5_ := zm (hb); have n6_ := zm (ho); clear Za; clear Zc; clear Zb; clear Zd; clear Ze; clear HB; clear Zk; have Za := n0_; have Zc := n1_; have Zb := n2_; have Zd := n3_; have Ze := n4_; have HB := n5_; have Zz := n6_; clear n0_ n1_ n2_ n3_ n4_ n5_ n6_; clear ho hb hg hat))
       go_roundg k1
       case measure => have := HK1.out; omega
       case rel => exact ⟨(x2_1), (y156), (wrap64 (x10_1 + 1)), (x140000_1), (u140000), zr, zr, H', ⟨by have := HK1.out; omega⟩, ⟨by (with_reducible repeat (first | apply Kd.R_alloc | apply Kd.R_drewN | apply Kd.R_drew)); exact Kd.R_mono Zz.out (fun _ hk => hk.1)⟩, ⟨by (with_reducible repeat (first | apply Kd.R_alloc | apply Kd.R_drewN | apply Kd.R_drew)); exact Za.out⟩, ⟨by (with_reducible repeat (first | apply Kd.R_alloc | apply Kd.R_drewN | apply Kd.R_drew)); exact Kd.R_mono Zc.out (fun _ hk => hk.2)⟩, ⟨by (with_reducible repeat (first | refine blk_drewN ?_ _ | refine blk_drew ?_ | refine blk_alloc ?_ _)); exact Zb.out⟩, ⟨by (with_reducible repeat (first | refine blk_drewN ?_ _ | refine blk_drew ?_ | refine blk_alloc ?_ _)); exact Zd.out⟩, ⟨zg_5 HB.out Zh.out Zi.out Zo.out⟩⟩
      ·rw [if_neg c49] at H
       exact absurd H (by simp)
    ·rw [if_neg c17] at H
     exact absurd H (by simp)
   ·rw [if_neg c16] at H
    have c16b0 : decide (x10_1 < (t144.length : Int)) = false := decide_eq_false c16
    clear c16
    simp only [Option.some.injEq, Prod.mk.injEq] at H
    obtain ⟨rfl, rfl⟩ := H
    have hnb57 := Zn.out
    have hnc57 := Zj.out
    have hcz58_0 : wr.cell? ⟨gb139, 0, none⟩ = some (u140000) := (blk_cell Zb.out 0).trans rfl
    have hcz58_1 : wr.cell? ⟨gb139, 1, none⟩ = some (.slice Ao13 t144.length co13) := (blk_cell Zb.out 1).trans rfl
    have hfz58_0 := blk_frozen Zb.out 0
    have hfz58_1 := blk_frozen Zb.out 1
    obtain ⟨Ao59, co59, eo59⟩ := Kd.R_slice Zk.out
    subst eo59
    obtain ⟨Ao60, co60, eo60⟩ := Kd.R_slice Za.out
    subst eo60
    have hcz61_0 : wr.cell? ⟨gb140, 0, none⟩ = some (.slice none 0 0) := (blk_cell Zd.out 0).trans rfl
    have hcz61_1 : wr.cell? ⟨gb140, 1, none⟩ = some (.slice none 0 0) := (blk_cell Zd.out 1).trans rfl
    have hfz61_0 := blk_frozen Zd.out 0
    have hfz61_1 := blk_frozen Zd.out 1
    go_wp2
    refine bodyPost_ret (results_cell_row rfl _ _ gb140 29 #[.slice Ao60 x140000_1.length co60, .slice Ao59 x9_1.length co59] (0, 0) _ rfl (by (with_reducible repeat (first | refine blk_drewN ?_ _ | refine blk_drew ?_ | refine blk_alloc ?_ _)); refine blk_put (cs := #[.slice Ao60 x140000_1.length co60, .slice none 0 0]) ?_ 1 _ rfl; (with_reducible repeat (first | refine blk_drewN ?_ _ | refine blk_drew ?_ | refine blk_alloc ?_ _)); refine blk_put (cs := #[.slice none 0 0, .slice none 0 0]) ?_ 0 _ rfl; (with_reducible repeat (first | refine blk_drewN ?_ _ | refine blk_drew ?_ | refine blk_alloc ?_ _)); refine blk_far ?_ Zj.out _; (with_reducible repeat (first | refine blk_drewN ?_ _ | refine blk_drew ?_ | refine blk_alloc ?_ _)); exact Zd.out) Try.underlying29 rfl (by kernel_rfl)) rfl ?_
    exact ⟨_, _, by first | rfl | (simp [errW_none, errW_some] <;> rfl) | (simp [*, errW_none, errW_some] <;> rfl), by (with_reducible repeat (first | apply Kd.R_alloc | apply Kd.R_drewN | apply Kd.R_drew)); exact Kd.R_mono (Kd.R_far (p := ⟨gb140, 1, none⟩) (Kd.R_far (p := ⟨gb140, 0, none⟩) (Kd.R_far (p := ⟨gb139, 1, none⟩) (Kd.R_types (Kd.R_types Za.out Zb.out (by decide)) Zd.out (by decide)) (fun _ hk => hk.1.2) (.slice Ao59 x9_1.length co59)) (fun _ hk => hk.2) (.slice Ao60 x140000_1.length co60)) (fun _ hk => hk.2) (.slice Ao59 x9_1.length co59)) (fun _ hk => trivial), by (with_reducible repeat (first | apply Kd.R_alloc | apply Kd.R_drewN | apply Kd.R_drew)); exact Kd.R_mono (Kd.R_far (p := ⟨gb140, 1, none⟩) (Kd.R_far (p := ⟨gb140, 0, none⟩) (Kd.R_far (p := ⟨gb139, 1, none⟩) (Kd.R_types (Kd.R_types Zk.out Zb.out (by decide)) Zd.out (by decide)) (fun _ hk => hk.1.2) (.slice Ao59 x9_1.length co59)) (fun _ hk => hk.2) (.slice Ao60 x140000_1.length co60)) (fun _ hk => hk.2) (.slice Ao59 x9_1.length co59)) (fun _ hk => trivial), zg_4 HB.out Zh.out Zi.out⟩
/-! ### Settle -/
theorem own_eq (d : List ByteArray) (l : List S76) (hd : d.length ≤ 1000000000) (hl : l.length ≤ 1000000000) : spec_l01Own.f d l = some (d, l) := by
  unfold spec_l01Own.f
  simp only [Option.bind_some, List.length_nil, List.nil_append]
  rw [if_pos (by omega), if_pos (by omega)]
theorem copied_eq (d : List ByteArray) (l : List S76) (hd : d.length ≤ 1000000000) (hl : l.length ≤ 1000000000) : impl_Disk_copied.f d l = some (d, l) := by
  simp only [impl_Disk_copied.f, slices_Clone_string_string.f, impl_Io_71.f]
  rw [if_pos (by omega), if_pos (by omega)]; rfl
theorem go_total (host : Int) (lose : Bool) : ∀ (l : List S76) (keep : Int) (secs : List ByteArray), (∀ x ∈ l, 0 ≤ x.f1 ∧ x.f1 < (secs.length : Int)) → ∃ q, impl_Disk_settle_go host lose l keep secs = some q ∧ q.1.length ≤ l.length ∧ q.2.2.length = secs.length := by
  intro l
  induction l with
  | nil => intro keep secs _; exact ⟨_, rfl, Nat.le_refl _, rfl⟩
  | cons x r ih =>
    intro keep secs h
    have hx := h x (by simp)
    have hs : ∃ b, impl_Disk_settle_stp host lose keep secs x = some b ∧ b.2.2.length = secs.length := by
      unfold impl_Disk_settle_stp
      by_cases c1 : x.f0 = host
      · rw [if_pos c1]
        by_cases c2 : keep > 0
        · rw [if_pos c2, if_pos hx.1, if_pos hx.2]; exact ⟨_, rfl, by simp⟩
        · rw [if_neg c2]; exact ⟨_, rfl, rfl⟩
      · rw [if_neg c1]; exact ⟨_, rfl, rfl⟩
    obtain ⟨⟨b, k1, s1⟩, e1, e2⟩ := hs
    obtain ⟨q, q1, q2, q3⟩ := ih k1 s1 (fun y hy => by have := h y (by simp [hy]); rw [e2]; exact this)
    refine ⟨(if b = true then q.1 else x :: q.1, q.2.1, q.2.2), by simp only [impl_Disk_settle_go, e1, q1, Option.bind_some], ?_, by show q.2.2.length = _; rw [q3]; exact e2⟩
    cases b
    · show (x :: q.1).length ≤ (x :: r).length; simp only [List.length_cons]; omega
    · show q.1.length ≤ (x :: r).length; simp only [List.length_cons]; omega
theorem land_from (host : Int) (lose : Bool) (pend : List S76) (hp : pend.length ≤ 1000000000) : ∀ d i (keep : Int) (secs : List ByteArray) (out : List S76) (q : List S76 × Int × List ByteArray), pend.length - i = d → i ≤ pend.length → out.length ≤ i → impl_Disk_settle_go host lose (pend.drop i) keep secs = some q →
    Ev (fun k => spec_l01Land.l0 k host keep lose out (i : Int) secs pend) (q.2.2, out ++ q.1) := by
  intro d
  induction d with
  | zero =>
    intro i keep secs out q hd hi ho h
    rw [List.drop_of_length_le (by omega)] at h
    simp only [impl_Disk_settle_go, Option.some.injEq] at h
    subst h
    refine Ev.step (f := fun _ => some (secs, out ++ [])) (fun k => ?_) (ev_some _)
    simp only [spec_l01Land.l0, List.append_nil]; rw [if_neg (by omega)]
  | succ d ih =>
    intro i keep secs out q hd hi ho h
    have hlt : i < pend.length := by omega
    rw [List.drop_eq_getElem_cons hlt] at h
    simp only [impl_Disk_settle_go] at h
    obtain ⟨⟨b, k1, s1⟩, e1, h⟩ := Option.bind_eq_some_iff.mp h
    obtain ⟨q1, e2, h⟩ := Option.bind_eq_some_iff.mp h
    simp only [Option.some.injEq] at h
    subst h
    have hap : ∀ x : S76, (⟨x.f0, x.f1, x.f2⟩ : S76) = x := fun _ => rfl
    refine Ev.succ ?_
    simp only [spec_l01Land.l0, rdE_Io pend i hlt, hap]
    refine ev_pos (by omega) (ev_pos (by omega) ?_)
    rw [wnext i (by omega)]
    unfold impl_Disk_settle_stp at e1
    by_cases c1 : pend[i].f0 = host
    · rw [if_pos c1] at e1
      refine ev_pos c1 ?_
      by_cases c2 : keep > 0
      · rw [if_pos c2] at e1
        refine ev_pos c2 ?_
        by_cases c3 : 0 ≤ pend[i].f1
        · rw [if_pos c3] at e1
          by_cases c4 : pend[i].f1 < (secs.length : Int)
          · rw [if_pos c4] at e1
            simp only [Option.some.injEq, Prod.mk.injEq] at e1
            obtain ⟨rfl, rfl, rfl⟩ := e1
            exact ev_pos c3 (ev_pos c4 (ih (i + 1) _ _ out q1 (by omega) (by omega) (by omega) e2))
          · rw [if_neg c4] at e1; cases e1
        · rw [if_neg c3] at e1; cases e1
      · rw [if_neg c2] at e1
        simp only [Option.some.injEq, Prod.mk.injEq] at e1
        obtain ⟨rfl, rfl, rfl⟩ := e1
        refine ev_neg c2 ?_
        cases lose with
        | true => exact ev_pos rfl (ih (i + 1) _ _ out q1 (by omega) (by omega) (by omega) e2)
        | false =>
          refine ev_neg (by decide) (ev_pos (by omega) ?_)
          have := ih (i + 1) _ _ (out ++ [pend[i]]) q1 (by omega) (by omega) (by simp; omega) e2
          simpa using this
    · rw [if_neg c1] at e1
      simp only [Option.some.injEq, Prod.mk.injEq] at e1
      obtain ⟨rfl, rfl, rfl⟩ := e1
      refine ev_neg c1 (ev_pos (by omega) ?_)
      have := ih (i + 1) _ _ (out ++ [pend[i]]) q1 (by omega) (by omega) (by simp; omega) e2
      simpa using this
/-- What settling makes of a sound disk. -/
theorem settled {d : List ByteArray} {l : List S76} (h : diskOK d l = true) (host keep : Int) (lose : Bool) : ∃ q : List ByteArray × List S76, q.1.length ≤ 64 ∧ q.2.length ≤ 200 ∧ impl_Disk_settle.f d l host keep lose = some q ∧ Ev (fun k => spec_l01Land.f k d l host keep lose) q := by
  unfold diskOK at h
  simp only [Bool.and_eq_true, decide_eq_true_eq, List.all_eq_true] at h
  obtain ⟨h1, h2, _, h4⟩ := h
  have hx : ∀ x ∈ l, 0 ≤ x.f1 ∧ x.f1 < (d.length : Int) := fun x hx => by
    have := h4 x hx
    unfold ioOK at this
    simp only [Bool.and_eq_true] at this
    have := inB_iff.1 this.2.1
    omega
  obtain ⟨q, q1, q2, q3⟩ := go_total host lose l keep d hx
  refine ⟨(q.2.2, q.1), by show q.2.2.length ≤ _; omega, by show q.1.length ≤ _; omega, ?_, ?_⟩
  · unfold impl_Disk_settle.f
    rw [copied_eq d l (by omega) (by omega), Option.bind_some]
    show (if l.length ≤ 1000000000 then _ else _) = _
    rw [if_pos (by omega)]
    show (impl_Disk_settle_go host lose l keep d).bind _ = _
    rw [q1]; rfl
  · unfold spec_l01Land.f
    rw [own_eq d l (by omega) (by omega)]
    have := land_from host lose l (by omega) l.length 0 keep d [] q (by omega) (by omega) (by simp) (by simpa using q1)
    simpa using this
theorem ask_ev (d : List ByteArray) (l : List S76) (a : Int) (hd : d.length ≤ 1000000000) (hl : l.length ≤ 1000000000) : Ev (fun k => spec_l01Ask.f k d l a 0) (if diskOK d l = true then (if inB a 0 3 = true then 0 else 4) else 1) := by
  unfold spec_l01Ask.f
  refine ev_bind (spec_DiskOK_ev d l hd hl) ?_
  cases diskOK d l
  · exact ev_some _
  · simp only [l01In_eq, Option.bind_some, if_true]
    cases inB a 0 3
    · exact ev_some _
    · exact ev_some _
theorem codes_eq (d : List ByteArray) (l : List S76) (a : Int) : impl_Disk_codes.f d l a = some (if diskOK d l = true then (if inB a 0 3 = true then 0 else 4) else 1) := by
  simp only [impl_Disk_codes.f, impl_DiskOK_eq, impl_isHost.f, within_eq, Option.bind_some]
  cases diskOK d l
  · simp [impl_first.f, firstO]
  · cases inB a 0 3 <;> simp [impl_first.f, firstO]
/-! ### Read -/
def readP (d : List ByteArray) (l : List S76) (a b : Int) : ByteArray := match l.reverse.find? (fun x => x.f0 == a && x.f1 == b) with | some x => x.f2 | none => rdOf ByteArray.empty d b
theorem impl_read_eq (d : List ByteArray) (l : List S76) (a b : Int) (hl : l.length ≤ 1000000000) (h0 : 0 ≤ b) (h1 : b < (d.length : Int)) : impl_Disk_read.f d l a b = some (readP d l a b) := by
  unfold impl_Disk_read.f readP
  rw [if_pos hl]
  cases l.reverse.find? (fun x => x.f0 == a && x.f1 == b) with
  | some x => rfl
  | none => simp only [if_pos h0, if_pos h1]
theorem spec_read_from (d : List ByteArray) (l : List S76) (a b : Int) (hl : l.length ≤ 1000000000) (h0 : 0 ≤ b) (h1 : b < (d.length : Int)) : ∀ n, n ≤ l.length → Ev (fun k => spec_l01Read.l0 k a b ((n : Int) - 1) d l) (match (l.take n).reverse.find? (fun x => x.f0 == a && x.f1 == b) with | some x => x.f2 | none => rdOf ByteArray.empty d b) := by
  intro n
  induction n with
  | zero =>
    intro _
    refine Ev.step (f := fun _ => some (rdOf ByteArray.empty d b)) (fun k => ?_) (ev_some _)
    simp only [spec_l01Read.l0]
    rw [if_neg (by omega), if_pos h0, if_pos h1]
  | succ n ih =>
    intro hn
    have hlt : n < l.length := by omega
    have e : (((n + 1 : Nat) : Int) - 1) = (n : Int) := by omega
    rw [e, List.take_succ_eq_append_getElem hlt, List.reverse_append, List.reverse_singleton, List.singleton_append, List.find?_cons]
    refine Ev.succ ?_
    simp only [spec_l01Read.l0, rdE_Io l n hlt]
    refine ev_pos (by omega) (ev_pos (by omega) (ev_pos (by omega) ?_))
    rw [w64 (n := (n : Int) - 1) (by omega) (by omega)]
    by_cases c1 : l[n].f0 = a
    · refine ev_pos c1 ?_
      by_cases c2 : l[n].f1 = b
      · refine ev_pos c2 ?_
        rw [show (l[n].f0 == a && l[n].f1 == b) = true by rw [beq_iff_eq.2 c1, beq_iff_eq.2 c2]; rfl]
        exact ev_some _
      · refine ev_neg c2 ?_
        rw [show (l[n].f0 == a && l[n].f1 == b) = false by rw [beq_eq_false_iff_ne.2 c2, Bool.and_false]]
        exact ih (by omega)
    · refine ev_neg c1 ?_
      rw [show (l[n].f0 == a && l[n].f1 == b) = false by rw [beq_eq_false_iff_ne.2 c1, Bool.false_and]]
      exact ih (by omega)
theorem spec_read_ev (d : List ByteArray) (l : List S76) (a b : Int) (hl : l.length ≤ 1000000000) (h0 : 0 ≤ b) (h1 : b < (d.length : Int)) : Ev (fun k => spec_l01Read.f k d l a b) (readP d l a b) := by
  unfold spec_l01Read.f
  have := spec_read_from d l a b hl h0 h1 l.length (Nat.le_refl _)
  rw [w64 (n := (l.length : Int) - 1) (by omega) (by omega)]
  rw [List.take_of_length_le (Nat.le_refl _)] at this
  exact this
theorem readP_size {d : List ByteArray} {l : List S76} (h : diskOK d l = true) (a b : Int) (h0 : 0 ≤ b) (h1 : b < 64) : (readP d l a b).size ≤ 80 := by
  unfold diskOK at h
  simp only [Bool.and_eq_true, decide_eq_true_eq, List.all_eq_true] at h
  obtain ⟨e1, e2, e3, e4⟩ := h
  unfold readP
  cases hf : l.reverse.find? (fun x => x.f0 == a && x.f1 == b) with
  | some x =>
    have := e4 x (by simpa using List.mem_of_find?_eq_some hf)
    unfold ioOK at this
    simp only [Bool.and_eq_true, decide_eq_true_eq] at this
    show x.f2.size ≤ 80
    omega
  | none =>
    have hb : b.toNat < d.length := by omega
    have e : rdOf ByteArray.empty d b = d[b.toNat] := by simp [rdOf, hb]
    have := e3 _ (List.getElem_mem hb)
    unfold secOK at this
    show (rdOf ByteArray.empty d b).size ≤ 80
    rw [e]
    have := of_decide_eq_true this
    omega
theorem disk_len {d : List ByteArray} {l : List S76} (h : diskOK d l = true) : d.length = 64 ∧ l.length ≤ 200 := by
  unfold diskOK at h
  simp only [Bool.and_eq_true, decide_eq_true_eq] at h
  omega
/-! ### Codec -/
/-- The bytes of a number. -/
def quad (n : Int) : List Int := [n % 256, n / 256 % 256, n / 65536 % 256, n / 16777216 % 256]
def packP (l : List Int) : List Int := l.flatMap quad
theorem packP_length (l : List Int) : (packP l).length = 4 * l.length := by
  induction l with
  | nil => rfl
  | cons x xs ih => simp only [packP, List.flatMap_cons, List.length_append] at ih ⊢; rw [ih]; simp [quad]; omega
theorem packP_snoc (l : List Int) (x : Int) : packP (l ++ [x]) = packP l ++ quad x := by simp [packP]
theorem rd_eq (l : List Int) (i : Nat) (h : i < l.length) : rd l (i : Int) = l[i] := by simp [rd, h]
theorem take_next {α : Type} (l : List α) (i : Nat) (h : i < l.length) : l.take (i + 1) = l.take i ++ [l[i]] := by
  rw [List.take_succ_eq_append_getElem h]
theorem spec_pack_in (l out : List Int) (i : Nat) (n : Int) (h : out.length + 4 < 140737488355328) (k : Nat) (hk : 5 ≤ k) :
    spec_l02Pack.l1 k l out i n 0 = spec_l02Pack.l0 (k - 5) l (out ++ quad n) (wrap64 ((i : Int) + 1)) := by
  obtain ⟨k, rfl⟩ : ∃ m, k = m + 5 := ⟨k - 5, by omega⟩
  have e1 : wrap64 (0 + 1) = 1 := by rw [w64 (by omega) (by omega)]; omega
  have e2 : wrap64 (1 + 1) = 2 := by rw [w64 (by omega) (by omega)]; omega
  have e3 : wrap64 (2 + 1) = 3 := by rw [w64 (by omega) (by omega)]; omega
  have e4 : wrap64 (3 + 1) = 4 := by rw [w64 (by omega) (by omega)]; omega
  simp only [spec_l02Pack.l1, e1, e2, e3, e4, List.length_append, List.length_cons, List.length_nil]
  rw [if_pos (by omega), if_pos (by omega), if_pos (by omega), if_pos (by omega), if_pos (by omega), if_pos (by omega), if_pos (by omega), if_pos (by omega), if_neg (by omega)]
  simp only [quad, Nat.add_sub_cancel, List.append_assoc, List.cons_append, List.nil_append]
  rw [Int.ediv_ediv_of_nonneg (by omega), Int.ediv_ediv_of_nonneg (by omega)]
  rfl
theorem spec_pack_from (l : List Int) (hl : l.length ≤ 1000000000) (d : Nat) : ∀ (k i : Nat), i ≤ l.length → l.length - i = d → 6 * d < k →
    spec_l02Pack.l0 k l (packP (l.take i)) i = some (strOfNums (packP l)) := by
  induction d with
  | zero =>
    intro k i hi hd hk
    obtain ⟨k, rfl⟩ : ∃ m, k = m + 1 := ⟨k - 1, by omega⟩
    simp only [spec_l02Pack.l0]
    rw [if_neg (by omega), List.take_of_length_le (by omega)]
  | succ d ih =>
    intro k i hi hd hk
    obtain ⟨k, rfl⟩ : ∃ m, k = m + 1 := ⟨k - 1, by omega⟩
    have hlt : i < l.length := by omega
    have hp := packP_length (l.take i)
    have hl2 : (l.take i).length ≤ i := List.length_take_le _ _
    simp only [spec_l02Pack.l0]
    rw [if_pos (by omega), if_pos (by omega), spec_pack_in _ _ _ _ (by omega) _ (by omega), rd_eq l i hlt, ← packP_snoc, ← take_next l i hlt, w64 (by omega) (by omega)]
    exact ih (k - 5) (i + 1) (by omega) (by omega) (by omega)
theorem spec_pack_ev (l : List Int) (hl : l.length ≤ 1000000000) : Ev (fun k => spec_l02Pack.f k l) (strOfNums (packP l)) :=
  ⟨6 * l.length + 1, fun k hk => by have := spec_pack_from l hl l.length k 0 (by omega) (by omega) (by omega); simpa [spec_l02Pack.f, packP] using this⟩
theorem impl_pack_from (l : List Int) (hl : l.length ≤ 1000000000) (d : Nat) : ∀ (k i : Nat), i ≤ l.length → l.length - i = d → d < k →
    impl_pack.l0 k (packP (l.take i)) l (l.length : Int) i = some (strOfNums (packP l)) := by
  induction d with
  | zero =>
    intro k i hi hd hk
    obtain ⟨k, rfl⟩ : ∃ m, k = m + 1 := ⟨k - 1, by omega⟩
    simp only [impl_pack.l0]
    rw [if_neg (by omega), List.take_of_length_le (by omega)]
  | succ d ih =>
    intro k i hi hd hk
    obtain ⟨k, rfl⟩ : ∃ m, k = m + 1 := ⟨k - 1, by omega⟩
    have hlt : i < l.length := by omega
    have hp := packP_length (l.take i)
    have hl2 : (l.take i).length ≤ i := List.length_take_le _ _
    simp only [impl_pack.l0]
    rw [if_pos (by omega), if_pos (by omega), if_pos (by omega)]
    simp only [Option.bind_some, List.length_cons, List.length_nil]
    rw [if_pos (by omega), rd_eq l i hlt]
    have : packP (l.take i) ++ [l[i] % 256, l[i] / 256 % 256, l[i] / 65536 % 256, l[i] / 16777216 % 256] = packP (l.take (i + 1)) := by
      rw [take_next l i hlt, packP_snoc]; rfl
    rw [this, w64 (by omega) (by omega)]
    exact ih k (i + 1) (by omega) (by omega) (by omega)
theorem impl_pack_ev (l : List Int) (hl : l.length ≤ 1000000000) : Ev (fun k => impl_pack.f k l) (strOfNums (packP l)) :=
  ⟨l.length + 1, fun k hk => by have := impl_pack_from l hl l.length k 0 (by omega) (by omega) (by omega); simpa [impl_pack.f, packP] using this⟩
/-- One step of the sum. -/
def sumStep (t : ByteArray) (n : Int) (i : Nat) : Int := Int.tmod (wrap64 (n + (wrap64 ((wrap64 ((i : Int) + 1)) * (wrap64 ((wrap64 (bt t i)) + 1)))))) 251
def sumP (t : ByteArray) : Int := (List.range t.size).foldl (sumStep t) 0
theorem range_split (i n : Nat) (h : i < n) : List.range' i (n - i) = i :: List.range' (i + 1) (n - (i + 1)) := by
  obtain ⟨d, rfl⟩ : ∃ d, n = i + 1 + d := ⟨n - (i + 1), by omega⟩
  rw [show i + 1 + d - i = d + 1 by omega, show i + 1 + d - (i + 1) = d by omega, List.range'_succ]
theorem spec_sum_from (t : ByteArray) (ht : t.size ≤ 1000000000000) (d : Nat) : ∀ (k i : Nat) (n : Int), i ≤ t.size → t.size - i = d → d < k →
    spec_l02Sum.l0 k t n i = some ((List.range' i (t.size - i)).foldl (sumStep t) n) := by
  induction d with
  | zero =>
    intro k i n hi hd hk
    obtain ⟨k, rfl⟩ : ∃ m, k = m + 1 := ⟨k - 1, by omega⟩
    simp only [spec_l02Sum.l0]
    rw [if_neg (by omega), hd]; rfl
  | succ d ih =>
    intro k i n hi hd hk
    obtain ⟨k, rfl⟩ : ∃ m, k = m + 1 := ⟨k - 1, by omega⟩
    simp only [spec_l02Sum.l0]
    rw [if_pos (by omega), if_pos (by omega), range_split i t.size (by omega)]
    have e : wrap64 ((i : Int) + 1) = ((i + 1 : Nat) : Int) := by rw [w64 (by omega) (by omega)]; rfl
    have := ih k (i + 1) (sumStep t n i) (by omega) (by omega) (by omega)
    rw [List.foldl_cons, ← this]
    simp only [sumStep, e]
theorem spec_sum_ev (t : ByteArray) (ht : t.size ≤ 1000000000000) : Ev (fun k => spec_l02Sum.f k t) (sumP t) :=
  ⟨t.size + 1, fun k hk => by have := spec_sum_from t ht t.size k 0 0 (by omega) (by omega) (by omega); simpa [spec_l02Sum.f, sumP, List.range_eq_range'] using this⟩
theorem impl_sum_from (t : ByteArray) (ht : t.size ≤ 1000000000000) (d : Nat) : ∀ (k i : Nat) (n : Int), i ≤ t.size → t.size - i = d → d < k →
    impl_sumOf.l0 k t n (t.size : Int) i = some ((List.range' i (t.size - i)).foldl (sumStep t) n) := by
  induction d with
  | zero =>
    intro k i n hi hd hk
    obtain ⟨k, rfl⟩ : ∃ m, k = m + 1 := ⟨k - 1, by omega⟩
    simp only [impl_sumOf.l0]
    rw [if_neg (by omega), hd]; rfl
  | succ d ih =>
    intro k i n hi hd hk
    obtain ⟨k, rfl⟩ : ∃ m, k = m + 1 := ⟨k - 1, by omega⟩
    simp only [impl_sumOf.l0]
    rw [if_pos (by omega), if_pos (by omega), if_pos (by omega), range_split i t.size (by omega)]
    have e : wrap64 ((i : Int) + 1) = ((i + 1 : Nat) : Int) := by rw [w64 (by omega) (by omega)]; rfl
    have := ih k (i + 1) (sumStep t n i) (by omega) (by omega) (by omega)
    rw [List.foldl_cons, ← this]
    simp only [sumStep, e]
theorem impl_sum_ev (t : ByteArray) (ht : t.size ≤ 1000000000000) : Ev (fun k => impl_sumOf.f k t) (sumP t) :=
  ⟨t.size + 1, fun k hk => by have := impl_sum_from t ht t.size k 0 0 (by omega) (by omega) (by omega); simpa [impl_sumOf.f, sumP, List.range_eq_range'] using this⟩
/-- A record. -/
def headP (kind : Int) (l : List Int) : ByteArray := strOfNums [kind % 256, (l.length : Int) % 256]
def sealP (kind : Int) (l : List Int) : ByteArray := headP kind l ++ strOfNums [sumP (headP kind l ++ strOfNums (packP l)) % 256, 0] ++ strOfNums (packP l)
theorem headP_size (kind : Int) (l : List Int) : (headP kind l).size = 2 := by simp [headP, strOfNums_size]
theorem sealP_size (kind : Int) (l : List Int) : (sealP kind l).size = 4 + 4 * l.length := by simp [sealP, headP_size, strOfNums_size, packP_length]
theorem spec_seal_ev (kind : Int) (l : List Int) (hl : l.length ≤ 1000000000) : Ev (fun k => spec_l02Seal.f k kind l) (sealP kind l) := by
  have hp : (strOfNums (packP l)).size = 4 * l.length := by rw [strOfNums_size, packP_length]
  have hh := headP_size kind l
  unfold spec_l02Seal.f
  refine ev_bind (spec_pack_ev l hl) ?_
  simp only [Option.bind_some]
  refine ev_pos (by rw [strOfNums_size, hp]; simp; omega) ?_
  refine ev_bind (spec_sum_ev _ (by rw [ba_size_append, strOfNums_size, hp]; simp; omega)) ?_
  refine ev_pos (by simp [strOfNums_size]) ?_
  refine ev_pos (by rw [ba_size_append, hp]; simp [strOfNums_size]; omega) ?_
  exact ev_some _
theorem impl_seal_ev (kind : Int) (l : List Int) (hl : l.length ≤ 1000000000) : Ev (fun k => impl_seal.f k kind l) (sealP kind l) := by
  have hp : (strOfNums (packP l)).size = 4 * l.length := by rw [strOfNums_size, packP_length]
  have hh := headP_size kind l
  unfold impl_seal.f
  simp only [Option.bind_some]
  refine ev_bind (impl_pack_ev l hl) ?_
  refine ev_pos (by rw [strOfNums_size, hp]; simp; omega) ?_
  refine ev_bind (impl_sum_ev _ (by rw [ba_size_append, strOfNums_size, hp]; simp; omega)) ?_
  refine ev_pos (by simp [strOfNums_size]) ?_
  refine ev_pos (by rw [ba_size_append, hp]; simp [strOfNums_size]; omega) ?_
  exact ev_some _
/-! ### Open -/
theorem bt_nn (t : ByteArray) (i : Int) : 0 ≤ bt t i := by unfold bt; split <;> omega
theorem bt_lt (t : ByteArray) (i : Int) : bt t i < 256 := by
  unfold bt; split
  · have := (t[i.toNat]).toNat_lt; omega
  · omega
theorem wraps_i64 (n : Int) (h0 : 0 ≤ n) (h1 : n < 2 ^ 63) : IntKind.i64.wrap n = n := by rw [IntKind.wrap_i64]; omega
theorem or64 (i : Nat) {x y : Int} (hx₀ : 0 ≤ x) (hx : x % 2 ^ i = 0) (hx₁ : x < 2 ^ 63) (h₀ : 0 ≤ y) (h₁ : y < 2 ^ i) (hy : y < 2 ^ 63) : Go.bits .or .i64 x y = x + y :=
  bits_join .i64 63 (by decide) wraps_i64 i x y hx₀ hx hx₁ h₀ h₁ hy
theorem or64' (i : Nat) {x y : Int} (hx₀ : 0 ≤ x) (hx : x % 2 ^ i = 0) (hx₁ : x < 2 ^ 63) (h₀ : 0 ≤ y) (h₁ : y < 2 ^ i) (hy : y < 2 ^ 63) : Go.bits .or .i64 y x = y + x := by
  obtain ⟨a, rfl⟩ := Int.eq_ofNat_of_zero_le hx₀
  obtain ⟨b, rfl⟩ := Int.eq_ofNat_of_zero_le h₀
  have ha : a < 2 ^ 63 := by exact_mod_cast hx₁
  have hb : b < 2 ^ 63 := by exact_mod_cast hy
  have h := or64 i (x := (a : Int)) (y := (b : Int)) hx₀ hx hx₁ h₀ h₁ hy
  rw [(bits_nat .i64 63 (by decide) wraps_i64 a b ha hb).2] at h
  rw [(bits_nat .i64 63 (by decide) wraps_i64 b a hb ha).2, Nat.or_comm, h]; omega
def numAt (t : ByteArray) (i : Nat) : Int := bt t (i : Int) + 256 * bt t ((i + 1 : Nat) : Int) + 65536 * bt t ((i + 2 : Nat) : Int) + 16777216 * bt t ((i + 3 : Nat) : Int)
def numsP (t : ByteArray) : List Int := (List.range (t.size / 4)).map (fun j => numAt t (4 * j))
theorem numsP_length (t : ByteArray) : (numsP t).length = t.size / 4 := by simp [numsP]
theorem numsP_take (t : ByteArray) (j : Nat) (h : j < t.size / 4) : (numsP t).take (j + 1) = (numsP t).take j ++ [numAt t (4 * j)] := by
  rw [take_next _ j (by rw [numsP_length]; exact h)]; simp [numsP]
def intsOK (l : List Int) : Bool := l.all (fun n => inB n 0 2147483647) && decide ((l.length : Int) ≤ 16)
theorem spec_ints_from (l : List Int) (hl : l.length ≤ 1000000000) (d : Nat) : ∀ (k i : Nat), i ≤ l.length → l.length - i = d → d < k →
    spec_l02Ints.l0 k l i = some ((l.drop i).all (fun n => inB n 0 2147483647) && decide ((l.length : Int) ≤ 16)) := by
  induction d with
  | zero =>
    intro k i hi hd hk
    obtain ⟨k, rfl⟩ : ∃ m, k = m + 1 := ⟨k - 1, by omega⟩
    simp only [spec_l02Ints.l0]
    rw [if_neg (by omega), List.drop_of_length_le (by omega)]; simp
  | succ d ih =>
    intro k i hi hd hk
    obtain ⟨k, rfl⟩ : ∃ m, k = m + 1 := ⟨k - 1, by omega⟩
    have hlt : i < l.length := by omega
    simp only [spec_l02Ints.l0, spec_l02Int.f, l01In_eq, Option.bind_some]
    rw [if_pos (by omega), if_pos (by omega), rd_eq l i hlt, List.drop_eq_getElem_cons hlt, List.all_cons, w64 (by omega) (by omega)]
    have := ih k (i + 1) (by omega) (by omega) (by omega)
    cases h : inB l[i] 0 2147483647
    · simp
    · simp only [if_true, Bool.true_and]; exact this
theorem spec_ints_ev (l : List Int) (hl : l.length ≤ 1000000000) : Ev (fun k => spec_l02Ints.f k l) (intsOK l) :=
  ⟨l.length + 1, fun k hk => by have := spec_ints_from l hl l.length k 0 (by omega) (by omega) (by omega); simpa [spec_l02Ints.f, intsOK] using this⟩
theorem mul_wrap {a b c : Int} (h0 : 0 ≤ a) (h1 : a < c) (hb : 0 < b) (h : c * b ≤ 9223372036854775807) : wrap64 (a * b) = a * b := by
  have h2 : a * b ≤ c * b := Int.mul_le_mul_of_nonneg_right (by omega) (by omega)
  have h3 : 0 ≤ a * b := Int.mul_nonneg h0 (by omega)
  exact w64 (by omega) (by omega)
theorem four_up {a b c d : Int} (a0 : 0 ≤ a) (a1 : a < 256) (b0 : 0 ≤ b) (b1 : b < 256) (c0 : 0 ≤ c) (c1 : c < 256) (d0 : 0 ≤ d) (d1 : d < 256) :
    Go.bits .or .i64 (wrap64 (Go.bits .or .i64 (wrap64 (Go.bits .or .i64 (wrap64 (Go.bits .or .i64 (wrap64 (0 * 256)) (wrap64 d) * 256)) (wrap64 c) * 256)) (wrap64 b) * 256)) (wrap64 a) = a + 256 * b + 65536 * c + 16777216 * d := by
  rw [w64 (n := a) (by omega) (by omega), w64 (n := b) (by omega) (by omega), w64 (n := c) (by omega) (by omega), w64 (n := d) (by omega) (by omega)]
  rw [w64 (n := 0 * 256) (by omega) (by omega), or64 8 (x := 0 * 256) (by omega) (by omega) (by omega) d0 (by omega) (by omega)]
  obtain ⟨u, hu⟩ : ∃ u, u = 0 * 256 + d := ⟨_, rfl⟩
  rw [← hu, w64 (n := u * 256) (by omega) (by omega), or64 8 (x := u * 256) (by omega) (by omega) (by omega) c0 (by omega) (by omega)]
  obtain ⟨v, hv⟩ : ∃ v, v = u * 256 + c := ⟨_, rfl⟩
  rw [← hv, w64 (n := v * 256) (by omega) (by omega), or64 8 (x := v * 256) (by omega) (by omega) (by omega) b0 (by omega) (by omega)]
  obtain ⟨x, hx⟩ : ∃ x, x = v * 256 + b := ⟨_, rfl⟩
  rw [← hx, w64 (n := x * 256) (by omega) (by omega), or64 8 (x := x * 256) (by omega) (by omega) (by omega) a0 (by omega) (by omega)]
  omega
theorem four_down {a b c d : Int} (a0 : 0 ≤ a) (a1 : a < 256) (b0 : 0 ≤ b) (b1 : b < 256) (c0 : 0 ≤ c) (c1 : c < 256) (d0 : 0 ≤ d) (d1 : d < 256) :
    Go.bits .or .i64 (Go.bits .or .i64 (Go.bits .or .i64 (wrap64 a) (wrap64 (wrap64 b * 256))) (wrap64 (wrap64 c * 65536))) (wrap64 (wrap64 d * 16777216)) = a + 256 * b + 65536 * c + 16777216 * d := by
  rw [w64 (n := a) (by omega) (by omega), w64 (n := b) (by omega) (by omega), w64 (n := c) (by omega) (by omega), w64 (n := d) (by omega) (by omega)]
  rw [w64 (n := b * 256) (by omega) (by omega), w64 (n := c * 65536) (by omega) (by omega), w64 (n := d * 16777216) (by omega) (by omega)]
  rw [or64' 8 (x := b * 256) (by omega) (by omega) (by omega) a0 (by omega) (by omega)]
  obtain ⟨u, hu⟩ : ∃ u, u = a + b * 256 := ⟨_, rfl⟩
  rw [← hu, or64' 16 (x := c * 65536) (by omega) (by omega) (by omega) (y := u) (by omega) (by omega) (by omega)]
  obtain ⟨v, hv⟩ : ∃ v, v = u + c * 65536 := ⟨_, rfl⟩
  rw [← hv, or64' 24 (x := d * 16777216) (by omega) (by omega) (by omega) (y := v) (by omega) (by omega) (by omega)]
  omega
theorem up_to (i : Nat) (h : i < 1000000000000) (c : Nat) (hc : c ≤ 10) : wrap64 ((i : Int) + (c : Int)) = ((i + c : Nat) : Int) := by rw [w64 (by omega) (by omega)]; omega
theorem spec_unpack_in (t : ByteArray) (ht : t.size ≤ 1000000000000) (out : List Int) (hout : out.length < 1000000000000) (i : Nat) (h : i + 3 < t.size) (k : Nat) (hk : 5 ≤ k) :
    spec_l02Unpack.l1 k t out i 0 3 = spec_l02Unpack.l0 (k - 5) t (out ++ [numAt t i]) ((i + 4 : Nat) : Int) := by
  obtain ⟨k, rfl⟩ : ∃ m, k = m + 5 := ⟨k - 5, by omega⟩
  have hi : i < 1000000000000 := by omega
  have e3 : wrap64 ((i : Int) + 3) = ((i + 3 : Nat) : Int) := up_to i hi 3 (by omega)
  have e2 : wrap64 ((i : Int) + 2) = ((i + 2 : Nat) : Int) := up_to i hi 2 (by omega)
  have e1 : wrap64 ((i : Int) + 1) = ((i + 1 : Nat) : Int) := up_to i hi 1 (by omega)
  have e0 : wrap64 ((i : Int) + 0) = ((i : Nat) : Int) := up_to i hi 0 (by omega)
  have e4 : wrap64 ((i : Int) + 4) = ((i + 4 : Nat) : Int) := up_to i hi 4 (by omega)
  have d3 : wrap64 (3 - 1) = 2 := by rw [w64 (by omega) (by omega)]; omega
  have d2 : wrap64 (2 - 1) = 1 := by rw [w64 (by omega) (by omega)]; omega
  have d1 : wrap64 (1 - 1) = 0 := by rw [w64 (by omega) (by omega)]; omega
  have d0 : wrap64 (0 - 1) = -1 := by rw [w64 (by omega) (by omega)]; omega
  simp only [spec_l02Unpack.l1]
  rw [if_pos (by omega), e3, if_pos (by omega), if_pos (by omega), d3, if_pos (by omega), e2, if_pos (by omega), if_pos (by omega), d2, if_pos (by omega), e1, if_pos (by omega), if_pos (by omega), d1, if_pos (by omega), e0, if_pos (by omega), if_pos (by omega), d0, if_neg (by omega), if_pos (by omega), e4]
  rw [four_up (bt_nn _ _) (bt_lt _ _) (bt_nn _ _) (bt_lt _ _) (bt_nn _ _) (bt_lt _ _) (bt_nn _ _) (bt_lt _ _)]
  rfl
theorem spec_unpack_from (t : ByteArray) (ht : t.size ≤ 1000000000) (h4 : t.size % 4 = 0) (d : Nat) : ∀ (j : Nat), j ≤ t.size / 4 → t.size / 4 - j = d →
    Ev (fun k => spec_l02Unpack.l0 k t ((numsP t).take j) ((4 * j : Nat) : Int)) (numsP t, intsOK (numsP t)) := by
  induction d with
  | zero =>
    intro j hj hd
    refine Ev.step (f := fun k => (spec_l02Ints.f k ((numsP t).take j)).bind fun b => some ((numsP t).take j, b)) (fun k => ?_) ?_
    · simp only [spec_l02Unpack.l0]; rw [if_neg (by omega)]
    · have e : (numsP t).take j = numsP t := List.take_of_length_le (by rw [numsP_length]; omega)
      simp only [e]
      exact ev_bind (spec_ints_ev _ (by rw [numsP_length]; omega)) (ev_some _)
  | succ d ih =>
    intro j hj hd
    obtain ⟨K, hK⟩ := ih (j + 1) (by omega) (by omega)
    have hlen : ((numsP t).take j).length ≤ t.size / 4 := by rw [List.length_take, numsP_length]; omega
    refine ⟨K + 6, fun k hk => ?_⟩
    obtain ⟨k, rfl⟩ : ∃ m, k = m + 1 := ⟨k - 1, by omega⟩
    simp only [spec_l02Unpack.l0]
    rw [if_pos (by omega), spec_unpack_in t (by omega) _ (by omega) (4 * j) (by omega) k (by omega), ← numsP_take t j (by omega)]
    have := hK (k - 5) (by omega)
    rw [show 4 * (j + 1) = 4 * j + 4 by omega] at this
    exact this
theorem spec_unpack_ev (t : ByteArray) (ht : t.size ≤ 1000000000) : Ev (fun k => spec_l02Unpack.f k t) (if t.size % 4 = 0 then (numsP t, intsOK (numsP t)) else ([], false)) := by
  unfold spec_l02Unpack.f
  simp only [Option.bind_some]
  by_cases h : t.size % 4 = 0
  · rw [if_pos h]
    refine ev_pos (by omega) ?_
    have := spec_unpack_from t ht h (t.size / 4) 0 (by omega) (by omega)
    simpa using this
  · rw [if_neg h]
    exact ev_neg (by omega) (ev_some _)
/-- What a record of a kind says, and whether a text is one. -/
def recNums (t : ByteArray) : List Int := numsP (t.extract 4 t.size)
def bodyOK (t : ByteArray) (kind : Int) : Bool := decide ((t.extract 4 t.size).size % 4 = 0 ∧ intsOK (recNums t) = true ∧ sealP kind (recNums t) = t)
theorem bodyOK_iff {t : ByteArray} {kind : Int} : bodyOK t kind = true ↔ (t.extract 4 t.size).size % 4 = 0 ∧ intsOK (recNums t) = true ∧ sealP kind (recNums t) = t := by simp only [bodyOK, decide_eq_true_eq]
def recOK (t : ByteArray) (kind : Int) : Bool := decide (4 ≤ t.size) && (bt t 0 == kind && (inB kind 1 9 && bodyOK t kind))
theorem recOK_iff {t : ByteArray} {kind : Int} : recOK t kind = true ↔ 4 ≤ t.size ∧ bt t 0 = kind ∧ inB kind 1 9 = true ∧ (t.extract 4 t.size).size % 4 = 0 ∧ intsOK (recNums t) = true ∧ sealP kind (recNums t) = t := by
  simp only [recOK, Bool.and_eq_true, decide_eq_true_eq, beq_iff_eq, bodyOK_iff]
theorem recOK_no {t : ByteArray} {kind : Int} (h : ¬ (4 ≤ t.size ∧ bt t 0 = kind ∧ inB kind 1 9 = true ∧ (t.extract 4 t.size).size % 4 = 0 ∧ intsOK (recNums t) = true ∧ sealP kind (recNums t) = t)) : recOK t kind = false := by
  cases hr : recOK t kind with
  | false => rfl
  | true => exact absurd (recOK_iff.1 hr) h
theorem ext_size (t : ByteArray) : (t.extract 4 t.size).size = t.size - 4 := by simp
theorem bt0 (t : ByteArray) : wrap64 (bt t 0) = bt t 0 := by have := bt_nn t 0; have := bt_lt t 0; exact w64 (by omega) (by omega)
theorem spec_open_ev (t : ByteArray) (kind : Int) (ht : t.size ≤ 1000000000) : Ev (fun k => spec_l02Open.f k t kind) (if recOK t kind = true then (recNums t, true) else ([], false)) := by
  unfold spec_l02Open.f
  by_cases h1 : t.size < 4
  · rw [recOK_no (by omega)]
    refine ev_pos (by omega) (Ev.step (f := fun _ => some ([], false)) (fun k => ?_) (ev_some _))
    simp [spec_l02Open.j0]
  · refine ev_neg (by omega) (ev_pos (by omega) ?_)
    rw [bt0]
    by_cases h2 : bt t 0 = kind
    · refine ev_pos h2 ?_
      simp only [spec_l02Kind.f, l01In_eq, Option.bind_some]
      by_cases h3 : inB kind 1 9 = true
      · simp only [h3, Bool.not_true]
        refine Ev.step (f := fun k => (spec_l02Unpack.f k (t.extract 4 t.size)).bind fun bt496 => (if bt496.2 = true then ((spec_l02Seal.f k kind bt496.1).bind fun t500 => (if t500.toList = t.toList then (some (bt496.1, true)) else (some ((([] : List Int)), false)))) else (some ((([] : List Int)), false)))) (fun k => ?_) ?_
        · simp only [spec_l02Open.j0, Bool.false_eq_true, if_false]; rw [if_pos (by omega)]
        · refine ev_bind (spec_unpack_ev _ (by rw [ext_size]; omega)) ?_
          by_cases h4 : (t.extract 4 t.size).size % 4 = 0
          · rw [if_pos h4]
            by_cases h5 : intsOK (recNums t) = true
            · refine ev_pos h5 ?_
              refine ev_bind (spec_seal_ev kind _ (by show (numsP _).length ≤ _; rw [numsP_length, ext_size]; omega)) ?_
              by_cases h6 : sealP kind (recNums t) = t
              · rw [recOK_iff.2 ⟨by omega, h2, h3, h4, h5, h6⟩]
                exact ev_pos (by show (sealP kind (recNums t)).toList = _; rw [h6]) (ev_some _)
              · rw [recOK_no (fun h => h6 h.2.2.2.2.2)]
                exact ev_neg (by rw [toList_inj]; exact h6) (ev_some _)
            · rw [recOK_no (fun h => h5 h.2.2.2.2.1)]
              exact ev_neg h5 (ev_some _)
          · rw [if_neg h4, recOK_no (fun h => h4 h.2.2.2.1)]
            exact ev_neg (by simp) (ev_some _)
      · have h3' : inB kind 1 9 = false := by simpa using h3
        rw [recOK_no (fun h => h3 h.2.2.1)]
        simp only [h3', Bool.not_false]
        refine Ev.step (f := fun _ => some ([], false)) (fun k => ?_) (ev_some _)
        simp [spec_l02Open.j0]
    · rw [recOK_no (fun h => h2 h.2.1)]
      refine ev_neg h2 (Ev.step (f := fun _ => some ([], false)) (fun k => ?_) (ev_some _))
      simp [spec_l02Open.j0]
/-! ### OpenI -/
theorem isNumber_eq (n : Int) : impl_isNumber.f n = some (inB n 0 2147483647) := by simp only [impl_isNumber.f, within_eq, Option.bind_some]
theorem all_number (l : List Int) : all111_impl_isNumber.f l () = some (l.all (fun n => inB n 0 2147483647)) := by
  unfold all111_impl_isNumber.f; exact allO_some _ _ (fun x _ => isNumber_eq x)
theorem impl_areInts_eq (l : List Int) : impl_areInts.f l = some (intsOK l) := by
  unfold impl_areInts.f intsOK
  by_cases h : (l.length : Int) ≤ 16
  · rw [if_pos h, all_number]; simp [h]
  · rw [if_neg h]; simp [h]
theorem intsOK_take (l : List Int) : intsOK (l.take 17) = intsOK l := by
  by_cases h : l.length ≤ 16
  · rw [List.take_of_length_le (by omega)]
  · have h1 : intsOK l = false := by simp [intsOK]; intro _; omega
    have h2 : intsOK (l.take 17) = false := by simp [intsOK]; intro _; omega
    rw [h1, h2]
theorem impl_unpack_end (t : ByteArray) (l : List Int) : (if ((t.size : Int) % 4) = 0 then ((impl_areInts.f l).bind fun t529 => (some (l, t529))) else (some (l, false))) = some (l, decide (t.size % 4 = 0) && intsOK l) := by
  by_cases h : t.size % 4 = 0
  · rw [if_pos (by omega), impl_areInts_eq]; simp [h]
  · rw [if_neg (by omega)]; simp [h]
theorem impl_unpack_from (t : ByteArray) (ht : t.size ≤ 1000000000) (d : Nat) : ∀ (k j : Nat), j ≤ 17 → j ≤ t.size / 4 → 17 - j = d → d < k →
    impl_unpack.l0 k t ((numsP t).take j) ((4 * j : Nat) : Int) = some ((numsP t).take 17, decide (t.size % 4 = 0) && intsOK ((numsP t).take 17)) := by
  induction d with
  | zero =>
    intro k j hj hj2 hd hk
    obtain ⟨k, rfl⟩ : ∃ m, k = m + 1 := ⟨k - 1, by omega⟩
    obtain rfl : j = 17 := by omega
    simp only [impl_unpack.l0]
    by_cases h : wrap64 (((4 * 17 : Nat) : Int) + 4) ≤ (t.size : Int)
    · rw [if_pos h, if_neg (by omega)]; exact impl_unpack_end t _
    · rw [if_neg h]; exact impl_unpack_end t _
  | succ d ih =>
    intro k j hj hj2 hd hk
    obtain ⟨k, rfl⟩ : ∃ m, k = m + 1 := ⟨k - 1, by omega⟩
    have hi : 4 * j < 1000000000000 := by omega
    have hlen : ((numsP t).take j).length ≤ t.size / 4 := by rw [List.length_take, numsP_length]; omega
    have e4 : wrap64 (((4 * j : Nat) : Int) + 4) = ((4 * j + 4 : Nat) : Int) := up_to _ hi 4 (by omega)
    have e3 : wrap64 (((4 * j : Nat) : Int) + 3) = ((4 * j + 3 : Nat) : Int) := up_to _ hi 3 (by omega)
    have e2 : wrap64 (((4 * j : Nat) : Int) + 2) = ((4 * j + 2 : Nat) : Int) := up_to _ hi 2 (by omega)
    have e1 : wrap64 (((4 * j : Nat) : Int) + 1) = ((4 * j + 1 : Nat) : Int) := up_to _ hi 1 (by omega)
    simp only [impl_unpack.l0]
    rw [e4, e3, e2, e1]
    by_cases h : 4 * j + 4 ≤ t.size
    · rw [if_pos (by omega), if_pos (by omega), if_pos (by omega), if_pos (by omega), if_pos (by omega), if_pos (by omega), if_pos (by omega), if_pos (by omega), if_pos (by omega), if_pos (by omega), if_pos (by omega)]
      rw [four_down (bt_nn _ _) (bt_lt _ _) (bt_nn _ _) (bt_lt _ _) (bt_nn _ _) (bt_lt _ _) (bt_nn _ _) (bt_lt _ _)]
      have := ih k (j + 1) (by omega) (by omega) (by omega) (by omega)
      rw [numsP_take t j (by omega)] at this
      exact this
    · rw [if_neg (by omega)]
      have e : (numsP t).take j = (numsP t).take 17 := by
        rw [List.take_of_length_le (by rw [numsP_length]; omega), List.take_of_length_le (by rw [numsP_length]; omega)]
      rw [e]; exact impl_unpack_end t _
theorem impl_unpack_ev (t : ByteArray) (ht : t.size ≤ 1000000000) : Ev (fun k => impl_unpack.f k t) ((numsP t).take 17, decide (t.size % 4 = 0) && intsOK (numsP t)) :=
  ⟨18, fun k hk => by have := impl_unpack_from t ht 17 k 0 (by omega) (by omega) (by omega) (by omega); rw [intsOK_take] at this; simpa [impl_unpack.f] using this⟩
def openL (t : ByteArray) : List Int := if t.size < 4 ∨ t.size > 80 ∨ inB (bt t 0) 1 9 = false then [] else (recNums t).take 17
theorem recOK_openL {t : ByteArray} {kind : Int} (h : recOK t kind = true) : openL t = recNums t := by
  obtain ⟨h1, h2, h3, h4, h5, h6⟩ := recOK_iff.1 h
  have hl : (recNums t).length ≤ 16 := by
    simp only [intsOK, Bool.and_eq_true, decide_eq_true_eq] at h5
    omega
  have hs : t.size ≤ 80 := by
    unfold recNums at hl; rw [numsP_length] at hl; rw [ext_size] at hl h4; omega
  unfold openL
  rw [if_neg (by rw [h2]; simp [h3]; omega), List.take_of_length_le (by omega)]
theorem recOK_long {t : ByteArray} {kind : Int} (h : t.size > 80) : recOK t kind = false := by
  refine recOK_no (fun hr => ?_)
  obtain ⟨h1, h2, h3, h4, h5, h6⟩ := hr
  simp only [intsOK, Bool.and_eq_true, decide_eq_true_eq] at h5
  have := h5.2
  unfold recNums at this
  rw [numsP_length] at this; rw [ext_size] at this h4; omega
theorem impl_open_ev (t : ByteArray) (kind : Int) (ht : t.size ≤ 1000000000) : Ev (fun k => impl_open.f k t kind) (openL t, recOK t kind) := by
  unfold impl_open.f impl_opened.f
  have hbad : ∀ (g : Nat → Option (Int × List Int × Bool)), openL t = [] → recOK t kind = false → Ev g (0, [], false) → Ev (fun k => (g k).bind fun bt537 => (if bt537.2.2 = true then (some (bt537.2.1, (bt537.1 == kind))) else (some (bt537.2.1, false)))) (openL t, recOK t kind) := by
    intro g h1 h2 hg
    rw [h1, h2]
    exact ev_bind hg (ev_neg (by simp) (ev_some _))
  by_cases h1 : t.size < 4
  · refine hbad _ (by simp [openL, h1]) (recOK_no (by omega)) (ev_pos (by omega) (Ev.step (f := fun _ => some (0, [], false)) (fun k => by simp [impl_opened.j0]) (ev_some _)))
  · by_cases h2 : t.size > 80
    · refine hbad _ (by simp [openL, h2]) (recOK_long h2) (ev_neg (by omega) (ev_pos (by omega) (Ev.step (f := fun _ => some (0, [], false)) (fun k => by simp [impl_opened.j0]) (ev_some _))))
    · by_cases h3 : inB (bt t 0) 1 9 = true
      · have hL : openL t = (recNums t).take 17 := by unfold openL; rw [if_neg (by simp [h3]; omega)]
        have hO : Ev (fun k => if (t.size : Int) < 4 then impl_opened.j0 k t true else (if (t.size : Int) > 80 then impl_opened.j0 k t true else (if 0 < (t.size : Int) then ((impl_isKind.f (wrap64 (bt t 0))).bind fun t531 => (impl_opened.j0 k t (!t531))) else none))) (bt t 0, openL t, bodyOK t (bt t 0)) := by
          refine ev_neg (by omega) (ev_neg (by omega) (ev_pos (by omega) ?_))
          rw [bt0]
          simp only [impl_isKind.f, within_eq, Option.bind_some, h3, Bool.not_true]
          refine Ev.step (f := fun k => (impl_unpack.f k (t.extract 4 t.size)).bind fun bt532 => (if bt532.2 = true then ((impl_seal.f k (bt t 0) bt532.1).bind fun t536 => (some (bt t 0, bt532.1, (t536.toList == t.toList)))) else (some (bt t 0, bt532.1, false)))) (fun k => ?_) ?_
          · simp only [impl_opened.j0, Bool.false_eq_true, if_false, bt0]; rw [if_pos (by omega)]
            congr 1; funext b; rw [if_pos (by omega)]
          · refine ev_bind (impl_unpack_ev _ (by rw [ext_size]; omega)) ?_
            show Ev (fun n => if (decide ((t.extract 4 t.size).size % 4 = 0) && intsOK (recNums t)) = true then ((impl_seal.f n (bt t 0) ((recNums t).take 17)).bind fun t536 => (some (bt t 0, (recNums t).take 17, (t536.toList == t.toList)))) else some (bt t 0, (recNums t).take 17, false)) _
            rw [hL]
            by_cases h4 : (t.extract 4 t.size).size % 4 = 0 ∧ intsOK (recNums t) = true
            · have hl : (recNums t).length ≤ 16 := by
                have := h4.2
                simp only [intsOK, Bool.and_eq_true, decide_eq_true_eq] at this
                omega
              have ht17 : (recNums t).take 17 = recNums t := List.take_of_length_le (by omega)
              refine ev_pos (by simp only [h4.1, h4.2, decide_true, Bool.and_self]) ?_
              rw [ht17]
              refine ev_bind (impl_seal_ev (bt t 0) _ (by omega)) ?_
              have e : (((sealP (bt t 0) (recNums t)).toList == t.toList) : Bool) = bodyOK t (bt t 0) := by
                rw [Bool.eq_iff_iff, bodyOK_iff]; simp only [beq_iff_eq, toList_inj]
                exact ⟨fun h => ⟨h4.1, h4.2, h⟩, fun h => h.2.2⟩
              rw [e]
              exact ev_some _
            · refine ev_neg (by simp only [Bool.and_eq_true, decide_eq_true_eq]; exact h4) ?_
              have : bodyOK t (bt t 0) = false := by
                cases hb : bodyOK t (bt t 0) with
                | false => rfl
                | true => have := bodyOK_iff.1 hb; exact absurd ⟨this.1, this.2.1⟩ h4
              rw [this]
              exact ev_some _
        refine ev_bind hO ?_
        show Ev (fun n => if bodyOK t (bt t 0) = true then some (openL t, bt t 0 == kind) else some (openL t, false)) _
        by_cases h5 : bodyOK t (bt t 0) = true
        · refine ev_pos h5 ?_
          by_cases h6 : bt t 0 = kind
          · have hr : recOK t kind = true := recOK_iff.2 ⟨by omega, h6, by rw [← h6]; exact h3, by rw [← h6]; exact bodyOK_iff.1 h5⟩
            rw [hr]
            simp only [h6, beq_self_eq_true]
            exact ev_some _
          · rw [recOK_no (fun h => h6 h.2.1)]
            have : (bt t 0 == kind) = false := by simp [h6]
            rw [this]
            exact ev_some _
        · refine ev_neg h5 ?_
          rw [recOK_no (fun h => h5 (bodyOK_iff.2 (by have := h.2.2.2; rw [← h.2.1] at this; exact this)))]
          exact ev_some _
      · have h3' : inB (bt t 0) 1 9 = false := by simpa using h3
        refine hbad _ (by simp [openL, h3']) (recOK_no (fun h => h3 (by have := h.2.2.1; rw [← h.2.1] at this; exact this))) (ev_neg (by omega) (ev_neg (by omega) (ev_pos (by omega) ?_)))
        rw [bt0]
        simp only [impl_isKind.f, within_eq, Option.bind_some, h3', Bool.not_false]
        exact Ev.step (f := fun _ => some (0, [], false)) (fun k => by simp [impl_opened.j0]) (ev_some _)
/-! ### Delta -/
def deltaOK (a b c : Int) : Bool := inB a 0 3 && (inB b 1 1000000 && inB c 0 10000000)
theorem spec_DeltaOK_eq (a b c : Int) : spec_DeltaOK.f a b c = some (deltaOK a b c) := by
  simp only [spec_DeltaOK.f, spec_l04Host.f, l01In_eq, Option.bind_some]
  exact and_opt (and_opt rfl)
theorem impl_DeltaOK_eq (a b c : Int) : impl_DeltaOK.f a b c = some (deltaOK a b c) := by
  simp only [impl_DeltaOK.f, impl_isHost.f, impl_isGen.f, impl_isStamp.f, within_eq, Option.bind_some]
  exact and_opt (and_opt rfl)
/-! ### DeltaD -/
def isDelta (t : ByteArray) : Bool := recOK t 9 && (decide ((recNums t).length = 3) && deltaOK (rd (recNums t) 0) (rd (recNums t) 1) (rd (recNums t) 2))
def deltaAt (t : ByteArray) : Int × Int × Int × Bool := if isDelta t = true then (rd (recNums t) 0, rd (recNums t) 1, rd (recNums t) 2, true) else (0, 0, 0, false)
theorem spec_l04Decode_ev (t : ByteArray) (ht : t.size ≤ 1000000000) : Ev (fun k => spec_l04Decode.f k t) (deltaAt t) := by
  unfold spec_l04Decode.f
  refine ev_bind (spec_open_ev t 9 ht) ?_
  unfold deltaAt isDelta
  by_cases h1 : recOK t 9 = true
  · simp only [h1, if_true, Bool.true_and]
    by_cases h2 : (recNums t).length = 3
    · have e : (((recNums t).length : Int) != 3) = false := by simp [h2]
      simp only [e, decide_eq_true h2, Bool.true_and]
      refine Ev.step (f := fun _ => if deltaOK (rd (recNums t) 0) (rd (recNums t) 1) (rd (recNums t) 2) = true then some (rd (recNums t) 0, rd (recNums t) 1, rd (recNums t) 2, true) else some (0, 0, 0, false)) (fun k => ?_) ?_
      · simp only [spec_l04Decode.j0, Bool.false_eq_true, if_false, spec_DeltaOK_eq, Option.bind_some]
        rw [if_pos (by omega), if_pos (by omega), if_pos (by omega)]
      · cases deltaOK (rd (recNums t) 0) (rd (recNums t) 1) (rd (recNums t) 2)
        · exact ev_some _
        · exact ev_some _
    · have e : (((recNums t).length : Int) != 3) = true := by simp; omega
      simp only [e, decide_eq_false h2, Bool.false_and, Bool.false_eq_true, if_false]
      exact Ev.step (f := fun _ => some (0, 0, 0, false)) (fun k => by simp [spec_l04Decode.j0]) (ev_some _)
  · have h1' : recOK t 9 = false := by simpa using h1
    simp only [h1', Bool.false_and, Bool.false_eq_true, if_false]
    exact Ev.step (f := fun _ => some (0, 0, 0, false)) (fun k => by simp [spec_l04Decode.j0]) (ev_some _)
theorem impl_deltaOf_ev (t : ByteArray) (ht : t.size ≤ 1000000000) : Ev (fun k => impl_deltaOf.f k t) (deltaAt t) := by
  unfold impl_deltaOf.f
  refine ev_bind (impl_open_ev t 9 ht) ?_
  unfold deltaAt isDelta
  by_cases h1 : recOK t 9 = true
  · simp only [h1, if_true, Bool.true_and, recOK_openL h1]
    by_cases h2 : (recNums t).length = 3
    · refine ev_pos (by omega) (ev_pos (by omega) (ev_pos (by omega) (ev_pos (by omega) ?_)))
      simp only [decide_eq_true h2, Bool.true_and, impl_DeltaOK_eq, Option.bind_some]
      cases deltaOK (rd (recNums t) 0) (rd (recNums t) 1) (rd (recNums t) 2)
      · exact ev_some _
      · exact ev_some _
    · simp only [decide_eq_false h2, Bool.false_and, Bool.false_eq_true, if_false]
      exact ev_neg (by omega) (ev_some _)
  · have h1' : recOK t 9 = false := by simpa using h1
    simp only [h1', Bool.false_and, Bool.false_eq_true, if_false]
    exact ev_some _
end Go.Proofs.Ytadelojhfepkeaa.Q
