/- What laws.FnExactJournalPlan reaches, part 2: the functions as Lean functions, the proofs that the program's functions answer so, and plain laws about them. -/
import Derived.Test.YthlbjmgoibnopaaKFnExactJournalPlan1
namespace Go.Proofs.Ythlbjmgoibnopaa.Q
open Go.RowKit Go.Proofs.Ythlbjmgoibnopaa.Ext Go.Proofs.YthlbjmgoibnopaaW.PrintWords Go.Proofs.YthlbjmgoibnopaaW.PrintLast Go.Proofs.YthlbjmgoibnopaaW.PrintMore
attribute [local go_sem] max2_int min2_int max_two min_two max_three min_three max_four min_four   -- for this text's walks alone
set_option linter.unusedVariables false
set_option linter.unusedSimpArgs false

set_option linter.unusedVariables false
set_option linter.unusedSimpArgs false
/-! ### impl_journal: function 144 -/
def impl_journal.l0 : Nat → Int → Int → List (S23) → List (S132) → List (S23) → Int → Int → Option ((List (S132)))
  | 0, _, _, _, _, _, _, _ => none
  | k + 1, x0, x1, x2, x7, x14, x15, x16 => if x16 < x15 then (if 0 ≤ x16 then (if x16 < (x14.length : Int) then ((impl_slot.f x0).bind fun t1129 => ((impl_Update_text.f k ((rd_T23 x14 x16).f0) ((rd_T23 x14 x16).f1)).bind fun t1130 => (if x7.length < 4398046511104 then (impl_journal.l0 k x0 x1 x2 (x7 ++ [(⟨1, wrap64 ((wrap64 (t1129 + 1)) + x16), t1130⟩ : S132)]) x14 x15 (wrap64 (x16 + 1))) else (none)))) else (none)) else (none)) else ((impl_slot.f x0).bind fun t1134 => ((impl_seal.f k 7 (([(x2.length : Int), x1] : List Int))).bind fun t1138 => ((some (([(⟨2, 0, (⟨#[]⟩ : ByteArray)⟩ : S132), (⟨1, t1134, t1138⟩ : S132), (⟨2, 0, (⟨#[]⟩ : ByteArray)⟩ : S132)] : List (S132)) : List (S132))).bind fun y1139 => (if x7.length + y1139.length < 4398046511104 then ((some (x7 ++ y1139 : List (S132))).bind fun y1142 => ((impl_applied.f k x0 x1 x2).bind fun t1145 => (if y1142.length + t1145.length < 4398046511104 then (some (y1142 ++ t1145)) else (none)))) else (none)))))
def impl_journal.f (k : Nat) (a0 : Int) (a1 : Int) (l2 : List (S23)) : Option ((List (S132))) := if (l2.length : Int) = 0 then (some ([] : List (S132))) else (impl_journal.l0 k a0 a1 l2 (([] : List (S132))) l2 (l2.length : Int) 0)
theorem impl_journal.mono_l : ∀ k, (∀ y0 y1 y2 y3 y4 y5 y6, LeO (impl_journal.l0 k y0 y1 y2 y3 y4 y5 y6) (impl_journal.l0 (k + 1) y0 y1 y2 y3 y4 y5 y6))
  | 0 => fun _ _ _ _ _ _ _ r h => by simp [impl_journal.l0] at h
  | k + 1 => by
    have ih0 := impl_journal.mono_l k
    · intro y0 y1 y2 y3 y4 y5 y6
      unfold impl_journal.l0
      repeat' first
      | (with_reducible exact ih0 _ _ _ _ _ _ _)
      | (with_reducible exact impl_Update_text.mono _ _ _)
      | (with_reducible exact impl_applied.mono _ _ _ _)
      | (with_reducible exact impl_seal.mono _ _ _)
      | (with_reducible exact LeO.refl _)
      | (with_reducible exact LeO.none _)
      | (with_reducible refine LeO.ite ?_ ?_)
      | (with_reducible refine LeO.bind ?_ (fun _ => ?_))
      | exact ih0 _ _ _ _ _ _ _
      | exact impl_Update_text.mono _ _ _
      | exact impl_applied.mono _ _ _ _
      | exact impl_seal.mono _ _ _
      | exact LeO.none _
      | refine LeO.ite ?_ ?_
      | refine LeO.bind ?_ (fun _ => ?_)
theorem impl_journal.mono : ∀ a0 a1 a2 k, LeO (impl_journal.f k a0 a1 a2) (impl_journal.f (k + 1) a0 a1 a2) := by
  intro a0 a1 a2 k
  have ih0 := impl_journal.mono_l k
  unfold impl_journal.f
  repeat' first
      | (with_reducible exact ih0 _ _ _ _ _ _ _)
      | (with_reducible exact impl_Update_text.mono _ _ _)
      | (with_reducible exact impl_applied.mono _ _ _ _)
      | (with_reducible exact impl_seal.mono _ _ _)
      | (with_reducible exact LeO.refl _)
      | (with_reducible exact LeO.none _)
      | (with_reducible refine LeO.ite ?_ ?_)
      | (with_reducible refine LeO.bind ?_ (fun _ => ?_))
      | exact ih0 _ _ _ _ _ _ _
      | exact impl_Update_text.mono _ _ _
      | exact impl_applied.mono _ _ _ _
      | exact impl_seal.mono _ _ _
      | exact LeO.none _
      | refine LeO.ite ?_ ?_
      | refine LeO.bind ?_ (fun _ => ?_)
def impl_journal.T7 : Bool × List (List Nat × List Nat) := (true, [([], []), ([], []), ([1], [1]), ([2], [2]), ([], []), ([3, 4], [3, 4]), ([], []), ([6, 2], [6]), ([5, 7], [5, 7]), ([8], [8]), ([0, 9, 7], [0, 9]), ([10, 10, 0, 1, 2, 3, 4, 5, 6, 7, 8, 9, 10], [0, 10])])
def impl_journal.B7 : List Nat := [0, 0, 2, 6, 0, 30, 0, 70, 254, 510, 1023, 2047]
theorem impl_journal.tab7 : rtab .any (opsOf Try.f144 7) = impl_journal.T7 := by kernel_rfl
theorem impl_journal.bits7 : waitsOk impl_journal.T7.2 impl_journal.B7 = true := by kernel_rfl
set_option maxHeartbeats 8000000 in
set_option maxRecDepth 100000 in
theorem impl_journal.calls (k : Nat) (a0 : Int) (a1 : Int) (A2 : Option Addr) (c2 : Nat) (l2 : List (S23)) (r : List (S132)) (w : World) (hr2 : Kd.C k23 w A2 l2.length l2) (hc2 : l2.length ≤ c2) (h : impl_journal.f k a0 a1 l2 = some r) :
    Calls Try.prog 144 #[.int .i64 a0, .int .i64 a1, .slice A2 l2.length c2] w fun e w' => ∃ v0_ : Value, e = .returned (v0_) ∧ Kd.R k132 132 w' w.heap.size (fun _ => True) v0_ r ∧ Below w.heap.size w w' := by
 have hu23 := Try.underlying23
 have hu132 := Try.underlying132
 have HR2 := Aside0.mk hr2
 have HC2 := Aside0.mk hc2
 clear hr2 hc2
 have HB := Aside0.mk (Below.refl w.heap.size w)
 have H : (if (l2.length : Int) = 0 then (some ([] : List (S132))) else (impl_journal.l0 k a0 a1 l2 (([] : List (S132))) l2 (l2.length : Int) 0)) = some r := h
 clear h
 by_cases c4 : (l2.length : Int) = 0
 ·rw [if_pos c4] at H
  have c4b0 : ((l2.length : Int) == 0) = true := beq_iff_eq.mpr c4
  have c4b1 : ((l2.length : Int) != 0) = false := bne_eq_false_iff_eq.mpr c4
  clear c4
  obtain rfl := Option.some.inj H
  go_enter Try.func144, Try.ntmps144
  go_wp2
  go_ret
  exact ⟨_, by first | rfl | (simp [errW_none, errW_some] <;> rfl) | (simp [*, errW_none, errW_some] <;> rfl), by first | exact Kd.R_nil _ _ _ _ _ | exact Kd.N_nil _ _ _ _ _ | exact Kd.V_nil _ _ _ _ _ | exact Kd.Q_nil _ _ _ _ _ | exact Kd.S_nil _ _ _ _ _, by repeat (first | (with_reducible first | exact HB.out | apply below_alloc | apply pw_below_drewN | apply below_drew1) | exact HB.out)⟩
 ·rw [if_neg c4] at H
  have c4b0 : ((l2.length : Int) == 0) = false := beq_eq_false_iff_ne.mpr c4
  have c4b1 : ((l2.length : Int) != 0) = true := bne_iff_ne.mpr c4
  have c4b2 : ¬ (l2 = []) := fun h_ => c4 (by rw [h_]; rfl)
  obtain ⟨y1124, hy1124⟩ : ∃ y_ : List (S132), y_ = (([] : List (S132))) := ⟨_, rfl⟩
  replace H : (impl_journal.l0 k a0 a1 l2 y1124 l2 (l2.length : Int) 0) = some r := by first | (rw [hy1124]; with_reducible exact H) | (have H2_ := (Option.bind_some _ _).symm.trans H; rw [hy1124]; with_reducible exact H2_) | (have H2_ := (Option.bind_some _ _).symm.trans H; with_reducible exact H2_) | with_reducible exact H | (rw [hy1124]; exact H) | exact H
  have Ny1124 := Aside0.mk hy1124
  clear hy1124
  have H' := Aside0.mk H
  clear H
  go_enter Try.func144, Try.ntmps144
  go_wp2_with (first | ((with_reducible refine gate_dst (N := 13) rfl ?_); refine Kd.R_lit k132 _ 132 ?hg (N := 13) ?hd (xs := ([] : List (S132))) (inner := []) (ok := fun _ => True) (okp := fun _ => True) ?hr ?hp (fun _ hk => hk) trivial (Below.refl _ _) (Nat.le_refl _) (by simp) ?_; (case hd => rfl); (case hg => rfl); (case hr => first | (go_simp; done) | (go_simp; rfl)); (case hp => exact (Reps.none _ _)); intro v1125 w5 ho6 hb hg_ hnew_; clear hg_ hnew_; (first | rw [← Ny1124.out] at ho6 | (simp only [Int.reduceToNat] at ho6; rw [← Ny1124.out] at ho6)); have n0_ := Aside0.mk (Kd.R_lower ho6 (below_size (by repeat (first | (with_reducible first | exact HB.out | apply below_alloc | apply pw_below_drewN | apply below_drew1) | exact HB.out)))); have n1_ := Aside0.mk (below_step (by repeat (first | (with_reducible first | exact HB.out | apply below_alloc | apply pw_below_drewN | apply below_drew1) | exact HB.out)) hb); clear HB; have HO1126 := n0_; have HB := n1_; clear n0_ n1_; clear hb ho6))
  go_loopg [7, 16] k (fun kq v7 v16 w' => ∃ (x7_1 : List (S132)) (x16_1 : Int), v16 = .int .i64 x16_1 ∧ Aside0 (impl_journal.l0 kq a0 a1 l2 x7_1 l2 (l2.length : Int) x16_1 = some r) ∧ Aside0 (kq ≤ k) ∧ Aside0 (Kd.R k132 132 w' w.heap.size (fun _ => True) v7 x7_1) ∧ Aside0 (Below w.heap.size w w'))
  case atStart => exact ⟨(y1124), (0), (by first | rfl | (simp; done) | (simp [*]; done)), H', ⟨Nat.le_refl _⟩, ⟨by (with_reducible repeat (first | apply Kd.R_alloc | apply Kd.R_drewN | apply Kd.R_drew)); exact HO1126.out⟩, ⟨by repeat (first | (with_reducible first | exact HB.out | apply below_alloc | apply pw_below_drewN | apply below_drew1) | exact HB.out)⟩⟩
  case round =>
   clear H'
   try clear c1
   try clear c2
   try clear p2
   try clear c4
   try clear c4b0
   try clear c4b1
   try clear c4b2
   obtain ⟨x7_1, x16_1, rfl, HA, HK1, HO_7, HB⟩ := hrel
   cases gk with
   | zero => exact absurd HA.out (by simp [impl_journal.l0])
   | succ k1 =>
    have H := HA.out
    clear HA
    simp only [impl_journal.l0] at H
    by_cases c7 : x16_1 < (l2.length : Int)
    ·rw [if_pos c7] at H
     have c7b0 : decide (x16_1 < (l2.length : Int)) = true := decide_eq_true c7
     clear c7
     by_cases c8 : 0 ≤ x16_1
     ·rw [if_pos c8] at H
      have c8b0 : decide (0 ≤ x16_1) = true := decide_eq_true c8
      clear c8
      by_cases c9 : x16_1 < (l2.length : Int)
      ·rw [if_pos c9] at H
       have c9b0 : decide (x16_1 < (l2.length : Int)) = true := decide_eq_true c9
       clear c9
       replace H := Option.bind_eq_some_iff.mp H
       obtain ⟨t1129, A100, H⟩ := H
       replace H : ((impl_Update_text.f k1 ((rd_T23 l2 x16_1).f0) ((rd_T23 l2 x16_1).f1)).bind fun t1130 => (if x7_1.length < 4398046511104 then (impl_journal.l0 k1 a0 a1 l2 (x7_1 ++ [(⟨1, wrap64 ((wrap64 (t1129 + 1)) + x16_1), t1130⟩ : S132)]) l2 (l2.length : Int) (wrap64 (x16_1 + 1))) else (none))) = some r := H
       have A10 := Aside0.mk A100
       clear A100
       replace H := Option.bind_eq_some_iff.mp H
       obtain ⟨t1130, A110, H⟩ := H
       replace H : (if x7_1.length < 4398046511104 then (impl_journal.l0 k1 a0 a1 l2 (x7_1 ++ [(⟨1, wrap64 ((wrap64 (t1129 + 1)) + x16_1), t1130⟩ : S132)]) l2 (l2.length : Int) (wrap64 (x16_1 + 1))) else (none)) = some r := H
       have A11 := Aside0.mk A110
       clear A110
       by_cases c12 : x7_1.length < 4398046511104
       ·rw [if_pos c12] at H
        have LMc12 := Aside0.mk c12
        clear c12
        obtain ⟨y1131, hy1131⟩ : ∃ y_ : List (S132), y_ = (x7_1 ++ [(⟨1, wrap64 ((wrap64 (t1129 + 1)) + x16_1), t1130⟩ : S132)]) := ⟨_, rfl⟩
        replace H : (impl_journal.l0 k1 a0 a1 l2 y1131 l2 (l2.length : Int) (wrap64 (x16_1 + 1))) = some r := by first | (rw [hy1131]; with_reducible exact H) | (have H2_ := (Option.bind_some _ _).symm.trans H; rw [hy1131]; with_reducible exact H2_) | (have H2_ := (Option.bind_some _ _).symm.trans H; with_reducible exact H2_) | with_reducible exact H | (rw [hy1131]; exact H) | exact H
        have Ny1131 := Aside0.mk hy1131
        clear hy1131
        have H' := Aside0.mk H
        clear H
        have p1127 : 0 ≤ (x16_1 : Int) := of_decide_eq_true (by first | (with_reducible assumption) | assumption)
        have q1127 : x16_1 < (l2.length : Int) := of_decide_eq_true (by first | (with_reducible assumption) | assumption)
        obtain ⟨ad1127, e1127, hx1127_0, hx1127_1⟩ := at_T23 HR2.out x16_1 p1127 q1127
        cases e1127
        replace hx1127_0 := (HB.out.cell (World.block_lt_of_cell? w _ hx1127_0)).trans hx1127_0
        replace hx1127_1 := (HB.out.cell (World.block_lt_of_cell? w _ hx1127_1)).trans hx1127_1
        replace p1127 := eq_true p1127
        replace q1127 := eq_true q1127
        try go_wp2_with (first | ((with_reducible refine gate_dst (N := 9) rfl ?_); refine box_event ?hg (N := 9) ?hd (cs := #[.int .i64 0, .string (⟨#[]⟩ : ByteArray)]) (t := 23) ?hr ?_; (case hd => rfl); (case hg => rfl); (case hr => first | (go_simp; done) | (go_simp; rfl)); intro gb1128 hg w13 hbox hb; have n0_ := Aside0.mk (Kd.R_below (by (with_reducible repeat (first | apply Kd.R_alloc | apply Kd.R_drewN | apply Kd.R_drew)); exact HO_7.out) hb); have n1_ := Aside0.mk (below_step (by repeat (first | (with_reducible first | exact HB.out | apply below_alloc | apply pw_below_drewN | apply below_drew1) | exact HB.out)) hb); have n2_ := Aside0.mk (hbox); have n3_ := Aside0.mk ((by rw [hg]; exact (below_size (by repeat (first | (with_reducible first | exact HB.out | apply below_alloc | apply pw_below_drewN | apply below_drew1) | exact HB.out))) : w.heap.size ≤ gb1128)); have n4_ := Aside0.mk ((by rw [hg]; exact (below_size (by repeat (first | (with_reducible first | exact HB.out | apply below_alloc | apply pw_below_drewN | apply below_drew1) | exact HB.out))) : w.heap.size ≤ gb1128)); clear HO_7; clear HB; have HO_7 := n0_; have HB := n1_; have BK1128 := n2_; have GW1128 := n3_; have GE1128 := n4_; clear n0_ n1_ n2_ n3_ n4_; clear hb hbox hg; have hcz14_0 : w13.cell? ⟨gb1128, 0, none⟩ = some (.int .i64 0) := (blk_cell BK1128.out 0).trans rfl; have hcz14_1 : w13.cell? ⟨gb1128, 1, none⟩ = some (.string (⟨#[]⟩ : ByteArray)) := (blk_cell BK1128.out 1).trans rfl; have hfz14_0 := blk_frozen BK1128.out 0; have hfz14_1 := blk_frozen BK1128.out 1))
        have n0_ : Aside0 (Kd.R k132 132 ((w13.setCell ⟨gb1128, 0, none⟩ (.int .i64 ((rd_T23 l2 x16_1).f0))).setCell ⟨gb1128, 1, none⟩ (.string ((rd_T23 l2 x16_1).f1))) w.heap.size (fun _ => True) u7 x7_1) := ⟨by (with_reducible repeat (first | apply Kd.R_alloc | apply Kd.R_drewN | apply Kd.R_drew)); exact Kd.R_mono (Kd.R_far (p := ⟨gb1128, 1, none⟩) (Kd.R_far (p := ⟨gb1128, 0, none⟩) (Kd.R_types HO_7.out BK1128.out (by decide)) (fun _ hk => hk.2) (.int .i64 ((rd_T23 l2 x16_1).f0))) (fun _ hk => hk.2) (.string ((rd_T23 l2 x16_1).f1))) (fun _ hk => trivial)⟩
        have n1_ : Aside0 (((w13.setCell ⟨gb1128, 0, none⟩ (.int .i64 ((rd_T23 l2 x16_1).f0))).setCell ⟨gb1128, 1, none⟩ (.string ((rd_T23 l2 x16_1).f1))).heap[gb1128]? = some (.cells #[.int .i64 ((rd_T23 l2 x16_1).f0), .string ((rd_T23 l2 x16_1).f1)] 23 (0, 0))) := ⟨by (with_reducible repeat (first | refine blk_drewN ?_ _ | refine blk_drew ?_ | refine blk_alloc ?_ _)); refine blk_put (cs := #[.int .i64 ((rd_T23 l2 x16_1).f0), .string (⟨#[]⟩ : ByteArray)]) ?_ 1 _ rfl; (with_reducible repeat (first | refine blk_drewN ?_ _ | refine blk_drew ?_ | refine blk_alloc ?_ _)); refine blk_put (cs := #[.int .i64 0, .string (⟨#[]⟩ : ByteArray)]) ?_ 0 _ rfl; (with_reducible repeat (first | refine blk_drewN ?_ _ | refine blk_drew ?_ | refine blk_alloc ?_ _)); exact BK1128.out⟩
        have n2_ : Aside0 (Below w.heap.size w ((w13.setCell ⟨gb1128, 0, none⟩ (.int .i64 ((rd_T23 l2 x16_1).f0))).setCell ⟨gb1128, 1, none⟩ (.string ((rd_T23 l2 x16_1).f1)))) := ⟨by repeat (first | (with_reducible first | exact HB.out | apply below_alloc | apply pw_below_drewN | apply below_drew1 | refine below_set ?_ GE1128.out) | exact HB.out)⟩
        (try clear HO_7)
        (try clear BK1128)
        (try clear HB)
        generalize ((w13.setCell ⟨gb1128, 0, none⟩ (.int .i64 ((rd_T23 l2 x16_1).f0))).setCell ⟨gb1128, 1, none⟩ (.string ((rd_T23 l2 x16_1).f1))) = w15 at n0_ n1_ n2_ ⊢
        have HO_7 := n0_
        have BK1128 := n1_
        have HB := n2_
        clear n0_ n1_ n2_
        have n0_ := Aside0.mk (Kd.R_drew HO_7.out)
        have n1_ := Aside0.mk (blk_drew BK1128.out)
        have n2_ := Aside0.mk (below_drew1 HB.out)
        clear HO_7
        clear BK1128
        clear HB
        have HO_7 := n0_
        have BK1128 := n1_
        have HB := n2_
        clear n0_ n1_ n2_
        refine start_ (n := 12) (S := fun w' => w'.cell? ⟨gb1128, 0, none⟩ = some (.int .i64 ((rd_T23 l2 x16_1).f0)) ∧ w'.cell? ⟨gb1128, 1, none⟩ = some (.string ((rd_T23 l2 x16_1).f1))) (ds := []) #[false, false, false, false, false, false, false, false, false, false, false, false] (by kernel_rfl) rfl rfl ⟨(blk_cell BK1128.out 0).trans rfl, (blk_cell BK1128.out 1).trans rfl⟩ (fun hHeld => ?_); refine with_tabW impl_journal.tab7 impl_journal.bits7 (fun HT_ HW_ => ?_)
        generalize w15.drew = w16 at HO_7 BK1128 HB hHeld ⊢
        refine pure_ (i := 0) (N := some 21) (v := ?_) (a' := ?_) #[true, false, false, false, false, false, false, false, false, false, false, false] rfl rfl (any_of HT_.out (by kernel_rfl)) (fun _ _ _ h => h) (Or.inl ⟨by rfl, ?_⟩) ?_ ?_
        rotate_left
        ·intro w'
         go_simp
         with_reducible rfl
        rotate_left
        ·simp only [Act.put, List.setIfInBounds_toArray, List.set_cons_zero, List.set_cons_succ, i64_w, i32_w]
         rfl
        refine pure_ (i := 1) (N := some 22) (v := ?_) (a' := ?_) #[true, true, false, false, false, false, false, false, false, false, false, false] rfl rfl (any_of HT_.out (by kernel_rfl)) (fun _ _ _ h => h) (Or.inl ⟨by rfl, ?_⟩) ?_ ?_
        rotate_left
        ·intro w'
         go_simp
         with_reducible rfl
        rotate_left
        ·simp only [Act.put, List.setIfInBounds_toArray, List.set_cons_zero, List.set_cons_succ, i64_w, i32_w]
         rfl
        refine pure_ (i := 4) (N := some 25) (v := ?_) (a' := ?_) #[true, true, false, false, true, false, false, false, false, false, false, false] rfl rfl (any_of HT_.out (by kernel_rfl)) (fun _ _ _ h => h) (Or.inl ⟨by rfl, ?_⟩) ?_ ?_
        rotate_left
        ·intro w'
         go_simp
         with_reducible rfl
        rotate_left
        ·simp only [Act.put, List.setIfInBounds_toArray, List.set_cons_zero, List.set_cons_succ, i64_w, i32_w]
         rfl
        refine take_ (i := 6) (N := some 27) (v := ?_) (a' := ?_) #[true, true, false, false, true, false, true, false, false, false, false, false] rfl rfl (take_ofW HT_.out HW_.out (by kernel_rfl)) (fun _ _ _ h => h) (Or.inl ⟨by rfl, ?_⟩) hHeld ?_ ?_
        rotate_left
        ·rintro w' ⟨s0, s1⟩
         go_simp
         with_reducible rfl
        rotate_left
        ·simp only [Act.put, List.setIfInBounds_toArray, List.set_cons_zero, List.set_cons_succ, i64_w, i32_w]
         rfl
        refine one_ (i := 2) (N := some 23) #[true, true, true, false, true, false, true, false, false, false, false, false] rfl rfl (one_of HT_.out (by kernel_rfl)) (by decide) (fun K hK => ?_)
        refine goes_ Try.func94 (by kernel_rfl) rfl #[.int .i64 a0] (by rfl) rfl rfl (by (try simp only [List.map_toArray, List.map_cons, List.map_nil]); first | done | rfl | (simp only [List.length_drop, List.length_take]; rfl)) ?_
        with_reducible refine (impl_slot.calls a0 t1129 _ A10.out).mono ?_
        rintro e w' ⟨rfl, ⟨nd, rfl⟩⟩
        refine ⟨_, rfl, ?_⟩
        refine hK.out _ _ ⟨(blk_cell BK1128.out 0).trans rfl, (blk_cell BK1128.out 1).trans rfl⟩ (fun hHeld => ?_)
        clear hK K
        refine norm_ (a' := ?_) ?_ ?_
        rotate_left
        ·show Act.put _ (some 23) _ = _
         simp only [Act.put, List.setIfInBounds_toArray, List.set_cons_zero, List.set_cons_succ, i64_w, i32_w]
         rfl
        refine pure_ (i := 3) (N := some 24) (v := ?_) (a' := ?_) #[true, true, true, true, true, false, true, false, false, false, false, false] rfl rfl (any_of HT_.out (by kernel_rfl)) (fun _ _ _ h => h) (Or.inl ⟨by rfl, ?_⟩) ?_ ?_
        rotate_left
        ·intro w'
         go_simp
         with_reducible rfl
        rotate_left
        ·simp only [Act.put, List.setIfInBounds_toArray, List.set_cons_zero, List.set_cons_succ, i64_w, i32_w]
         rfl
        refine pure_ (i := 5) (N := some 26) (v := ?_) (a' := ?_) #[true, true, true, true, true, true, true, false, false, false, false, false] rfl rfl (any_of HT_.out (by kernel_rfl)) (fun _ _ _ h => h) (Or.inl ⟨by rfl, ?_⟩) ?_ ?_
        rotate_left
        ·intro w'
         go_simp
         with_reducible rfl
        rotate_left
        ·simp only [Act.put, List.setIfInBounds_toArray, List.set_cons_zero, List.set_cons_succ, i64_w, i32_w]
         rfl
        refine one_ (i := 7) (N := some 28) #[true, true, true, true, true, true, true, true, false, false, false, false] rfl rfl (one_of HT_.out (by kernel_rfl)) (by decide) (fun K hK => ?_)
        refine goes_ Try.func90 (by kernel_rfl) rfl #[.agg #[.int .i64 ((rd_T23 l2 x16_1).f0), .string ((rd_T23 l2 x16_1).f1)]] (by rfl) rfl rfl (by (try simp only [List.map_toArray, List.map_cons, List.map_nil]); first | done | rfl | (simp only [List.length_drop, List.length_take]; rfl)) ?_
        with_reducible refine (impl_Update_text.calls k1 ((rd_T23 l2 x16_1).f0) ((rd_T23 l2 x16_1).f1) t1130 _ A11.out).mono ?_
        rintro e w17 ⟨rfl, hb⟩
        refine ⟨_, rfl, ?_⟩
        have n0_ := Aside0.mk (Kd.R_below (by (with_reducible repeat (first | apply Kd.R_alloc | apply Kd.R_drewN | apply Kd.R_drew)); exact HO_7.out) hb)
        have n1_ := Aside0.mk (blk_below (g := gb1128) (o := .cells #[.int .i64 ((rd_T23 l2 x16_1).f0), .string ((rd_T23 l2 x16_1).f1)] 23 (0, 0)) (by (with_reducible repeat (first | refine blk_drewN ?_ _ | refine blk_drew ?_ | refine blk_alloc ?_ _)); exact BK1128.out) hb)
        have n2_ := Aside0.mk (below_step (by repeat (first | (with_reducible first | exact HB.out | apply below_alloc | apply pw_below_drewN | apply below_drew1 | refine below_set ?_ GE1128.out) | exact HB.out)) hb)
        clear HO_7
        clear BK1128
        clear HB
        have HO_7 := n0_
        have BK1128 := n1_
        have HB := n2_
        clear n0_ n1_ n2_
        (try clear hb)
        (try clear hb2)
        (try clear hk)
        (try clear hi)
        refine hK.out _ _ ⟨(blk_cell BK1128.out 0).trans rfl, (blk_cell BK1128.out 1).trans rfl⟩ (fun hHeld => ?_)
        clear hK K
        refine norm_ (a' := ?_) ?_ ?_
        rotate_left
        ·show Act.put _ (some 28) _ = _
         simp only [Act.put, List.setIfInBounds_toArray, List.set_cons_zero, List.set_cons_succ, i64_w, i32_w]
         rfl
        refine pure_ (i := 8) (N := some 29) (v := ?_) (a' := ?_) #[true, true, true, true, true, true, true, true, true, false, false, false] rfl rfl (any_of HT_.out (by kernel_rfl)) (fun _ _ _ h => h) (Or.inl ⟨by rfl, ?_⟩) ?_ ?_
        rotate_left
        ·intro w'
         go_simp
         with_reducible rfl
        rotate_left
        ·simp only [Act.put, List.setIfInBounds_toArray, List.set_cons_zero, List.set_cons_succ, i64_w, i32_w]
         rfl
        refine one_ (i := 9) (N := some 30) #[true, true, true, true, true, true, true, true, true, true, false, false] rfl rfl (one_of HT_.out (by kernel_rfl)) (by decide) (fun K hK => ?_)
        refine value_ (w1 := ?_) (v := ?_) (by rfl) rfl ?_ ?_
        rotate_left 2
        ·go_simp
         constructor
         ·rfl
         ·rfl
        refine hK.out _ _ ⟨(blk_cell (blk_alloc BK1128.out _) 0).trans rfl, (blk_cell (blk_alloc BK1128.out _) 1).trans rfl⟩ (fun hHeld => ?_)
        clear hK K
        refine norm_ (a' := ?_) ?_ ?_
        rotate_left
        ·show Act.put _ (some 30) _ = _
         simp only [Act.put, List.setIfInBounds_toArray, List.set_cons_zero, List.set_cons_succ, i64_w, i32_w]
         rfl
        refine one_ (i := 10) (N := some 31) #[true, true, true, true, true, true, true, true, true, true, true, false] rfl rfl (one_of HT_.out (by kernel_rfl)) (by decide) (fun K hK => ?_)
        refine Kd.R_append_step k132 (w0 := w) w.heap.size (by rfl) (.tmp 21) (.tmp 30) 70 132 (.agg #[(.int .i64 0), (.int .i64 0), (.string ⟨#[]⟩)]) 32 rfl Try.underlying70 info132 rfl (by decide) (by omega) u7 x7_1 (⟨1, wrap64 ((wrap64 (t1129 + 1)) + x16_1), t1130⟩ : S132) [.int .i64 1, .int .i64 (wrap64 ((wrap64 (t1129 + 1)) + x16_1)), .string t1130] (fun _ => True) (fun _ => False) rfl rfl ?aP (fun _ hk => hk.elim) ?aF ?aO ?aB ?aS ?aL ?_
        (case aP => exact k132_mkM _ _ _ (⟨1, wrap64 ((wrap64 (t1129 + 1)) + x16_1), t1130⟩ : S132))
        (case aB => exact (by repeat (first | (with_reducible first | exact HB.out | apply below_alloc | apply pw_below_drewN | apply below_drew1 | refine below_set ?_ GE1128.out) | exact HB.out)))
        (case aF => exact (fun _ _ => trivial))
        (case aO => exact (by (with_reducible repeat (first | apply Kd.R_alloc | apply Kd.R_drewN | apply Kd.R_drew)); exact HO_7.out))
        (case aS => exact (below_size (by repeat (first | (with_reducible first | exact HB.out | apply below_alloc | apply pw_below_drewN | apply below_drew1 | refine below_set ?_ GE1128.out) | exact HB.out))))
        (case aL => have := LMc12.out; omega)
        intro v1132 w18 ho hb hg hat
        rw [← Ny1131.out] at ho
        have n0_ := Aside0.mk (blk_grown (g := gb1128) (o := .cells #[.int .i64 ((rd_T23 l2 x16_1).f0), .string ((rd_T23 l2 x16_1).f1)] 23 (0, 0)) (by (with_reducible repeat (first | refine blk_drewN ?_ _ | refine blk_drew ?_ | refine blk_alloc ?_ _)); exact BK1128.out) hg (Kd.R_ne HO_7.out BK1128.out (by decide)))
        have n1_ := Aside0.mk (hb)
        have n2_ := Aside0.mk (ho)
        clear BK1128
        clear HB
        clear HO_7
        have BK1128 := n0_
        have HB := n1_
        have HO1133 := n2_
        clear n0_ n1_ n2_
        clear ho hb hg hat
        refine hK.out _ _ ⟨(blk_cell BK1128.out 0).trans rfl, (blk_cell BK1128.out 1).trans rfl⟩ (fun hHeld => ?_)
        clear hK K
        refine norm_ (a' := ?_) ?_ ?_
        rotate_left
        ·show Act.put _ (some 31) _ = _
         simp only [Act.put, List.setIfInBounds_toArray, List.set_cons_zero, List.set_cons_succ, i64_w, i32_w]
         rfl
        refine pure_ (i := 11) (N := some 7) (v := ?_) (a' := ?_) #[true, true, true, true, true, true, true, true, true, true, true, true] rfl rfl (any_of HT_.out (by kernel_rfl)) (fun _ _ _ h => h) (Or.inl ⟨by rfl, ?_⟩) ?_ ?_
        rotate_left
        ·intro w'
         go_simp
         with_reducible rfl
        rotate_left
        ·simp only [Act.put, List.setIfInBounds_toArray, List.set_cons_zero, List.set_cons_succ, i64_w, i32_w]
         rfl
        refine done_ (done_of HT_.out (by kernel_rfl)) ?_
        try go_wp2
        go_roundg k1
        case measure => have := HK1.out; omega
        case rel => exact ⟨(y1131), (wrap64 (x16_1 + 1)), (by first | rfl | (simp; done) | (simp [*]; done)), H', ⟨by have := HK1.out; omega⟩, ⟨by (with_reducible repeat (first | apply Kd.R_alloc | apply Kd.R_drewN | apply Kd.R_drew)); exact HO1133.out⟩, ⟨by repeat (first | (with_reducible first | exact HB.out | apply below_alloc | apply pw_below_drewN | apply below_drew1 | refine below_set ?_ GE1128.out) | exact HB.out)⟩⟩
       ·rw [if_neg c12] at H
        exact absurd H (by simp)
      ·rw [if_neg c9] at H
       exact absurd H (by simp)
     ·rw [if_neg c8] at H
      exact absurd H (by simp)
    ·rw [if_neg c7] at H
     have c7b0 : decide (x16_1 < (l2.length : Int)) = false := decide_eq_false c7
     clear c7
     replace H := Option.bind_eq_some_iff.mp H
     obtain ⟨t1134, A190, H⟩ := H
     replace H : ((impl_seal.f k1 7 (([(l2.length : Int), a1] : List Int))).bind fun t1138 => ((some (([(⟨2, 0, (⟨#[]⟩ : ByteArray)⟩ : S132), (⟨1, t1134, t1138⟩ : S132), (⟨2, 0, (⟨#[]⟩ : ByteArray)⟩ : S132)] : List (S132)) : List (S132))).bind fun y1139 => (if x7_1.length + y1139.length < 4398046511104 then ((some (x7_1 ++ y1139 : List (S132))).bind fun y1142 => ((impl_applied.f k1 a0 a1 l2).bind fun t1145 => (if y1142.length + t1145.length < 4398046511104 then (some (y1142 ++ t1145)) else (none)))) else (none)))) = some r := H
     have A19 := Aside0.mk A190
     clear A190
     obtain ⟨y1135, hy1135⟩ : ∃ y_ : List Int, y_ = (([(l2.length : Int), a1] : List Int)) := ⟨_, rfl⟩
     replace H : ((impl_seal.f k1 7 y1135).bind fun t1138 => ((some (([(⟨2, 0, (⟨#[]⟩ : ByteArray)⟩ : S132), (⟨1, t1134, t1138⟩ : S132), (⟨2, 0, (⟨#[]⟩ : ByteArray)⟩ : S132)] : List (S132)) : List (S132))).bind fun y1139 => (if x7_1.length + y1139.length < 4398046511104 then ((some (x7_1 ++ y1139 : List (S132))).bind fun y1142 => ((impl_applied.f k1 a0 a1 l2).bind fun t1145 => (if y1142.length + t1145.length < 4398046511104 then (some (y1142 ++ t1145)) else (none)))) else (none)))) = some r := by first | (rw [hy1135]; with_reducible exact H) | (have H2_ := (Option.bind_some _ _).symm.trans H; rw [hy1135]; with_reducible exact H2_) | (have H2_ := (Option.bind_some _ _).symm.trans H; with_reducible exact H2_) | with_reducible exact H | (rw [hy1135]; exact H) | exact H
     have Ny1135 := Aside0.mk hy1135
     clear hy1135
     replace H := Option.bind_eq_some_iff.mp H
     obtain ⟨t1138, A200, H⟩ := H
     replace H : ((some (([(⟨2, 0, (⟨#[]⟩ : ByteArray)⟩ : S132), (⟨1, t1134, t1138⟩ : S132), (⟨2, 0, (⟨#[]⟩ : ByteArray)⟩ : S132)] : List (S132)) : List (S132))).bind fun y1139 => (if x7_1.length + y1139.length < 4398046511104 then ((some (x7_1 ++ y1139 : List (S132))).bind fun y1142 => ((impl_applied.f k1 a0 a1 l2).bind fun t1145 => (if y1142.length + t1145.length < 4398046511104 then (some (y1142 ++ t1145)) else (none)))) else (none))) = some r := H
     have A20 := Aside0.mk A200
     clear A200
     obtain ⟨y1139, hy1139⟩ : ∃ y_ : List (S132), y_ = (([(⟨2, 0, (⟨#[]⟩ : ByteArray)⟩ : S132), (⟨1, t1134, t1138⟩ : S132), (⟨2, 0, (⟨#[]⟩ : ByteArray)⟩ : S132)] : List (S132))) := ⟨_, rfl⟩
     replace H : (if x7_1.length + y1139.length < 4398046511104 then ((some (x7_1 ++ y1139 : List (S132))).bind fun y1142 => ((impl_applied.f k1 a0 a1 l2).bind fun t1145 => (if y1142.length + t1145.length < 4398046511104 then (some (y1142 ++ t1145)) else (none)))) else (none)) = some r := by first | (rw [hy1139]; with_reducible exact H) | (have H2_ := (Option.bind_some _ _).symm.trans H; rw [hy1139]; with_reducible exact H2_) | (have H2_ := (Option.bind_some _ _).symm.trans H; with_reducible exact H2_) | with_reducible exact H | (rw [hy1139]; exact H) | exact H
     have Ny1139 := Aside0.mk hy1139
     clear hy1139
     by_cases c21 : x7_1.length + y1139.length < 4398046511104
     ·rw [if_pos c21] at H
      have LMc21 := Aside0.mk c21
      clear c21
      obtain ⟨y1142, hy1142⟩ : ∃ y_ : List (S132), y_ = (x7_1 ++ y1139) := ⟨_, rfl⟩
      replace H : ((impl_applied.f k1 a0 a1 l2).bind fun t1145 => (if y1142.length + t1145.length < 4398046511104 then (some (y1142 ++ t1145)) else (none))) = some r := by first | (rw [hy1142]; with_reducible exact H) | (have H2_ := (Option.bind_some _ _).symm.trans H; rw [hy1142]; with_reducible exact H2_) | (have H2_ := (Option.bind_some _ _).symm.trans H; with_reducible exact H2_) | with_reducible exact H | (rw [hy1142]; exact H) | exact H
      have Ny1142 := Aside0.mk hy1142
      clear hy1142
      replace H := Option.bind_eq_some_iff.mp H
      obtain ⟨t1145, A220, H⟩ := H
      replace H : (if y1142.length + t1145.length < 4398046511104 then (some (y1142 ++ t1145)) else (none)) = some r := H
      have A22 := Aside0.mk A220
      clear A220
      by_cases c23 : y1142.length + t1145.length < 4398046511104
      ·rw [if_pos c23] at H
       have LMc23 := Aside0.mk c23
       clear c23
       obtain ⟨y1148, hy1148⟩ : ∃ y_ : List (S132), y_ = (y1142 ++ t1145) := ⟨_, rfl⟩
       replace H : (some y1148) = some r := by first | (rw [hy1148]; with_reducible exact H) | (have H2_ := (Option.bind_some _ _).symm.trans H; rw [hy1148]; with_reducible exact H2_) | (have H2_ := (Option.bind_some _ _).symm.trans H; with_reducible exact H2_) | with_reducible exact H | (rw [hy1148]; exact H) | exact H
       have Ny1148 := Aside0.mk hy1148
       clear hy1148
       obtain rfl := Option.some.inj H
       go_wp2_with (first | ((with_reducible refine gate_callee (f := 94) rfl ?_); refine goesL_ (some 36) rfl rfl Try.func94 (by kernel_rfl) rfl #[.int .i64 a0] rfl (by (try simp only [List.map_toArray, List.map_cons, List.map_nil]); first | done | rfl | (simp only [List.length_drop, List.length_take]; rfl)) ?_; (with_reducible refine (impl_slot.calls a0 t1134 _ A19.out).mono ?_); rintro e w' ⟨rfl, ⟨nd, rfl⟩⟩; refine ⟨_, rfl, ?_⟩) | ((with_reducible refine gate_dst (N := 40) rfl ?_); refine Kd.R_lit (Kd.int .i64) _ 3 ?hg (N := 40) ?hd (xs := ([(l2.length : Int), a1] : List Int)) (inner := [.int .i64 (l2.length : Int), .int .i64 a1]) (ok := fun _ => True) (okp := fun _ => True) ?hr ?hp (fun _ hk => hk) trivial (Below.refl _ _) (Nat.le_refl _) (by simp) ?_; (case hd => rfl); (case hg => rfl); (case hr => first | (go_simp; done) | (go_simp; rfl)); (case hp => exact (Reps.one (show Kd.M (Kd.int .i64) _ _ _ (l2.length : Int) [.int .i64 (l2.length : Int)] from rfl) (Reps.one (show Kd.M (Kd.int .i64) _ _ _ a1 [.int .i64 a1] from rfl) (Reps.none _ _)))); intro v1136 w24 ho25 hb hg_ hnew_; clear hg_ hnew_; (first | rw [← Ny1135.out] at ho25 | (simp only [Int.reduceToNat] at ho25; rw [← Ny1135.out] at ho25)); have n0_ := Aside0.mk (Kd.R_below (by (with_reducible repeat (first | apply Kd.R_alloc | apply Kd.R_drewN | apply Kd.R_drew)); exact HO_7.out) hb); have n1_ := Aside0.mk (Kd.R_lower ho25 (below_size (by repeat (first | (with_reducible first | exact HB.out | apply below_alloc | apply pw_below_drewN | apply below_drew1) | exact HB.out)))); have n2_ := Aside0.mk (below_step (by repeat (first | (with_reducible first | exact HB.out | apply below_alloc | apply pw_below_drewN | apply below_drew1) | exact HB.out)) hb); clear HO_7; clear HB; have HO_7 := n0_; have HO1137 := n1_; have HB := n2_; clear n0_ n1_ n2_; clear hb ho25; obtain ⟨Ao26, co26, eo26⟩ := Kd.R_slice HO1137.out; subst eo26) | ((with_reducible refine gate_callee (f := 101) rfl ?_); refine goesL_ (some 41) rfl rfl Try.func101 (by kernel_rfl) rfl #[.int .i64 7, .slice Ao26 y1135.length co26] rfl (by (try simp only [List.map_toArray, List.map_cons, List.map_nil]); first | done | rfl | (simp only [List.length_drop, List.length_take]; rfl)) ?_; (with_reducible refine (impl_seal.calls k1 7 _ _ y1135 t1138 _ ?side1 ?side2 A20.out).mono ?_); (case side1 => repeat (first | exact (Kd.R_reads' HO1137.out).2.2 | (with_reducible refine Kd.C_alloc ?_ _) | (with_reducible refine Kd.C_drewN ?_ _) | (with_reducible refine Kd.C_drew ?_))); (case side2 => exact (Kd.R_reads' HO1137.out).2.1); rintro e w27 ⟨rfl, hb⟩; refine ⟨_, rfl, ?_⟩; have n0_ := Aside0.mk (Kd.R_below (by (with_reducible repeat (first | apply Kd.R_alloc | apply Kd.R_drewN | apply Kd.R_drew)); exact HO_7.out) hb); have n1_ := Aside0.mk (Kd.R_below (by (with_reducible repeat (first | apply Kd.R_alloc | apply Kd.R_drewN | apply Kd.R_drew)); exact HO1137.out) hb); have n2_ := Aside0.mk (below_step (by repeat (first | (with_reducible first | exact HB.out | apply below_alloc | apply pw_below_drewN | apply below_drew1) | exact HB.out)) hb); clear HO_7; clear HO1137; clear HB; have HO_7 := n0_; have HO1137 := n1_; have HB := n2_; clear n0_ n1_ n2_; (try clear hb); (try clear hb2); (try clear hk); (try clear hi)) | ((with_reducible refine gate_dst (N := 44) rfl ?_); refine Kd.R_lit k132 _ 132 ?hg (N := 44) ?hd (xs := ([(⟨2, 0, (⟨#[]⟩ : ByteArray)⟩ : S132), (⟨1, t1134, t1138⟩ : S132), (⟨2, 0, (⟨#[]⟩ : ByteArray)⟩ : S132)] : List (S132))) (inner := [.int .i64 2, .int .i64 0, .string (⟨#[]⟩ : ByteArray), .int .i64 1, .int .i64 t1134, .string t1138, .int .i64 2, .int .i64 0, .string (⟨#[]⟩ : ByteArray)]) (ok := fun _ => True) (okp := fun _ => True) ?hr ?hp (fun _ hk => hk) trivial (Below.refl _ _) (Nat.le_refl _) (by simp) ?_; (case hd => rfl); (case hg => rfl); (case hr => first | (go_simp; done) | (go_simp; rfl)); (case hp => exact (Reps.c3 (show Kd.M k132 _ _ _ (⟨2, 0, (⟨#[]⟩ : ByteArray)⟩ : S132) [.int .i64 2, .int .i64 0, .string (⟨#[]⟩ : ByteArray)] from (k132_mkM _ _ _ (⟨2, 0, (⟨#[]⟩ : ByteArray)⟩ : S132) )) (Reps.c3 (show Kd.M k132 _ _ _ (⟨1, t1134, t1138⟩ : S132) [.int .i64 1, .int .i64 t1134, .string t1138] from (k132_mkM _ _ _ (⟨1, t1134, t1138⟩ : S132) )) (Reps.c3 (show Kd.M k132 _ _ _ (⟨2, 0, (⟨#[]⟩ : ByteArray)⟩ : S132) [.int .i64 2, .int .i64 0, .string (⟨#[]⟩ : ByteArray)] from (k132_mkM _ _ _ (⟨2, 0, (⟨#[]⟩ : ByteArray)⟩ : S132) )) (Reps.none _ _))))); intro v1140 w28 ho29 hb hg_ hnew_; clear hg_ hnew_; (first | rw [← Ny1139.out] at ho29 | (simp only [Int.reduceToNat] at ho29; rw [← Ny1139.out] at ho29)); have n0_ := Aside0.mk (Kd.R_elder' (by (with_reducible repeat (first | apply Kd.R_alloc | apply Kd.R_drewN | apply Kd.R_drew)); exact HO_7.out) (Kd.R_base ho29) hb); have n1_ := Aside0.mk (Kd.R_below (by (with_reducible repeat (first | apply Kd.R_alloc | apply Kd.R_drewN | apply Kd.R_drew)); exact HO1137.out) hb); have n2_ := Aside0.mk (Kd.R_lower (Kd.R_new' ho29 (Kd.R_lt (by (with_reducible repeat (first | apply Kd.R_alloc | apply Kd.R_drewN | apply Kd.R_drew)); exact HO_7.out))) (below_size (by repeat (first | (with_reducible first | exact HB.out | apply below_alloc | apply pw_below_drewN | apply below_drew1) | exact HB.out)))); have n3_ := Aside0.mk (below_step (by repeat (first | (with_reducible first | exact HB.out | apply below_alloc | apply pw_below_drewN | apply below_drew1) | exact HB.out)) hb); clear HO_7; clear HO1137; clear HB; have HO_7 := n0_; have HO1137 := n1_; have HO1141 := n2_; have HB := n3_; clear n0_ n1_ n2_ n3_; clear hb ho29; obtain ⟨Ao31, co31, eo31⟩ := Kd.R_slice HO1141.out; subst eo31) | ((with_reducible refine gate_builtin (b := .append) (xs := #[.tmp 33, .tmp 44]) rfl ?_); at_builtin; refine Kd.R_append_rows k132 (w0 := w) w.heap.size rfl (.tmp 33) (.tmp 44) 70 132 (.agg #[(.int .i64 0), (.int .i64 0), (.string ⟨#[]⟩)]) 32 rfl Try.underlying70 info132 rfl (by decide) (by omega) u7 x7_1 y1139 _ _ _ (fun k_ => some k_ ≠ (.slice Ao31 y1139.length co31 : Value).ownBlock) (fun _ => False) rfl rfl ?aO ?aR (fun _ _ h => h) (fun _ h => h.elim) ?aF ?aB ?aS ?aL ?_; (case aR => repeat (first | exact (Kd.R_reads' HO1141.out).2.2 | (with_reducible refine Kd.C_alloc ?_ _) | (with_reducible refine Kd.C_drewN ?_ _) | (with_reducible refine Kd.C_drew ?_))); (case aB => exact (by repeat (first | (with_reducible first | exact HB.out | apply below_alloc | apply pw_below_drewN | apply below_drew1) | exact HB.out))); (case aF => exact (fun k_ hk => Kd.fresh' (Kd.R_lt (by (with_reducible repeat (first | apply Kd.R_alloc | apply Kd.R_drewN | apply Kd.R_drew)); exact HO1141.out)) k_ hk)); (case aO => exact (by (with_reducible repeat (first | apply Kd.R_alloc | apply Kd.R_drewN | apply Kd.R_drew)); exact Kd.R_mono HO_7.out (fun _ hk => hk.2))); (case aS => exact (below_size (by repeat (first | (with_reducible first | exact HB.out | apply below_alloc | apply pw_below_drewN | apply below_drew1) | exact HB.out)))); (case aL => have := LMc21.out; omega); intro v1143 w30 ho hb hg hat; rw [← Ny1142.out] at ho; have n0_ := Aside0.mk (Kd.R_over' (by (with_reducible repeat (first | apply Kd.R_alloc | apply Kd.R_drewN | apply Kd.R_drew)); exact HO1137.out) (Kd.R_typed (by (with_reducible repeat (first | apply Kd.R_alloc | apply Kd.R_drewN | apply Kd.R_drew)); exact HO_7.out)) (by decide) hg); have n1_ := Aside0.mk (Kd.R_after (ok := (fun _ => True)) (by (with_reducible repeat (first | apply Kd.R_alloc | apply Kd.R_drewN | apply Kd.R_drew)); exact HO1141.out) hg hat); have n2_ := Aside0.mk (hb); have n3_ := Aside0.mk (ho); clear HO1137; clear HO1141; clear HB; clear HO_7; have HO1137 := n0_; have HO1141 := n1_; have HB := n2_; have HO1144 := n3_; clear n0_ n1_ n2_ n3_; clear ho hb hg hat) | ((with_reducible refine gate_callee (f := 193) rfl ?_); refine goesL_ (some 50) rfl rfl Try.func193 (by kernel_rfl) rfl #[.int .i64 a0, .int .i64 a1, .slice A2 l2.length c2] rfl (by (try simp only [List.map_toArray, List.map_cons, List.map_nil]); first | done | rfl | (simp only [List.length_drop, List.length_take]; rfl)) ?_; (with_reducible refine (impl_applied.calls k1 a0 a1 _ _ l2 t1145 _ ?side1 ?side2 A22.out).mono ?_); (case side1 => repeat (first | exact (Kd.C_below HR2.out HB.out) | (with_reducible refine Kd.C_alloc ?_ _) | (with_reducible refine Kd.C_drewN ?_ _) | (with_reducible refine Kd.C_drew ?_))); (case side2 => exact HC2.out); rintro e w32 ⟨v1146, rfl, ho0, hb⟩; refine ⟨_, rfl, ?_⟩; have n0_ := Aside0.mk (Kd.R_below (by (with_reducible repeat (first | apply Kd.R_alloc | apply Kd.R_drewN | apply Kd.R_drew)); exact HO1137.out) hb); have n1_ := Aside0.mk (Kd.R_elder' (by (with_reducible repeat (first | apply Kd.R_alloc | apply Kd.R_drewN | apply Kd.R_drew)); exact HO1141.out) (Kd.R_base ho0) hb); have n2_ := Aside0.mk (Kd.R_elder' (by (with_reducible repeat (first | apply Kd.R_alloc | apply Kd.R_drewN | apply Kd.R_drew)); exact HO1144.out) (Kd.R_base ho0) hb); have n3_ := Aside0.mk (Kd.R_lower (Kd.R_new' (Kd.R_new' ho0 (Kd.R_lt (by (with_reducible repeat (first | apply Kd.R_alloc | apply Kd.R_drewN | apply Kd.R_drew)); exact HO1141.out))) (Kd.R_lt (by (with_reducible repeat (first | apply Kd.R_alloc | apply Kd.R_drewN | apply Kd.R_drew)); exact HO1144.out))) (below_size (by repeat (first | (with_reducible first | exact HB.out | apply below_alloc | apply pw_below_drewN | apply below_drew1) | exact HB.out)))); have n4_ := Aside0.mk (below_step (by repeat (first | (with_reducible first | exact HB.out | apply below_alloc | apply pw_below_drewN | apply below_drew1) | exact HB.out)) hb); clear HO1137; clear HO1141; clear HO1144; clear HB; have HO1137 := n0_; have HO1141 := n1_; have HO1144 := n2_; have HO1147 := n3_; have HB := n4_; clear n0_ n1_ n2_ n3_ n4_; (try clear hb); (try clear hb2); (try clear hk); (try clear hi); (try clear ho0); obtain ⟨Ao34, co34, eo34⟩ := Kd.R_slice HO1147.out; subst eo34) | ((with_reducible refine gate_builtin (b := .append) (xs := #[.tmp 46, .tmp 50]) rfl ?_); at_builtin; refine Kd.R_append_rows k132 (w0 := w) w.heap.size rfl (.tmp 46) (.tmp 50) 70 132 (.agg #[(.int .i64 0), (.int .i64 0), (.string ⟨#[]⟩)]) 32 rfl Try.underlying70 info132 rfl (by decide) (by omega) v1143 y1142 t1145 _ _ _ (fun k_ => some k_ ≠ (.slice Ao31 y1139.length co31 : Value).ownBlock ∧ some k_ ≠ (.slice Ao34 t1145.length co34 : Value).ownBlock) (fun _ => False) rfl rfl ?aO ?aR (fun _ _ h => h) (fun _ h => h.elim) ?aF ?aB ?aS ?aL ?_; (case aR => repeat (first | exact (Kd.R_reads' HO1147.out).2.2 | (with_reducible refine Kd.C_alloc ?_ _) | (with_reducible refine Kd.C_drewN ?_ _) | (with_reducible refine Kd.C_drew ?_))); (case aB => exact (by repeat (first | (with_reducible first | exact HB.out | apply below_alloc | apply pw_below_drewN | apply below_drew1) | exact HB.out))); (case aF => exact (fun k_ hk => ⟨Kd.fresh' (Kd.R_lt (by (with_reducible repeat (first | apply Kd.R_alloc | apply Kd.R_drewN | apply Kd.R_drew)); exact HO1141.out)) k_ hk, Kd.fresh' (Kd.R_lt (by (with_reducible repeat (first | apply Kd.R_alloc | apply Kd.R_drewN | apply Kd.R_drew)); exact HO1147.out)) k_ hk⟩)); (case aO => exact (by (with_reducible repeat (first | apply Kd.R_alloc | apply Kd.R_drewN | apply Kd.R_drew)); exact HO1144.out)); (case aS => exact (below_size (by repeat (first | (with_reducible first | exact HB.out | apply below_alloc | apply pw_below_drewN | apply below_drew1) | exact HB.out)))); (case aL => have := LMc23.out; omega); intro v1149 w33 ho hb hg hat; rw [← Ny1148.out] at ho; have n0_ := Aside0.mk (Kd.R_over' (by (with_reducible repeat (first | apply Kd.R_alloc | apply Kd.R_drewN | apply Kd.R_drew)); exact HO1137.out) (Kd.R_typed (by (with_reducible repeat (first | apply Kd.R_alloc | apply Kd.R_drewN | apply Kd.R_drew)); exact HO1144.out)) (by decide) hg); have n1_ := Aside0.mk (Kd.R_after (ok := (fun k_ => some k_ ≠ (.slice Ao34 t1145.length co34 : Value).ownBlock)) (by (with_reducible repeat (first | apply Kd.R_alloc | apply Kd.R_drewN | apply Kd.R_drew)); exact Kd.R_mono HO1141.out (fun _ hk => ⟨hk.2, hk.1.2⟩)) hg hat); have n2_ := Aside0.mk (Kd.R_after (ok := (fun k_ => some k_ ≠ (.slice Ao31 y1139.length co31 : Value).ownBlock)) (by (with_reducible repeat (first | apply Kd.R_alloc | apply Kd.R_drewN | apply Kd.R_drew)); exact Kd.R_mono HO1147.out (fun _ hk => ⟨hk.1.2, hk.2⟩)) hg hat); have n3_ := Aside0.mk (hb); have n4_ := Aside0.mk (ho); clear HO1137; clear HO1141; clear HO1147; clear HB; clear HO1144; have HO1137 := n0_; have HO1141 := n1_; have HO1147 := n2_; have HB := n3_; have HO1150 := n4_; clear n0_ n1_ n2_ n3_ n4_; clear ho hb hg hat))
       go_ret
       exact ⟨_, by first | rfl | (simp [errW_none, errW_some] <;> rfl) | (simp [*, errW_none, errW_some] <;> rfl), by (with_reducible repeat (first | apply Kd.R_alloc | apply Kd.R_drewN | apply Kd.R_drew)); exact Kd.R_mono HO1150.out (fun _ hk => trivial), by repeat (first | (with_reducible first | exact HB.out | apply below_alloc | apply pw_below_drewN | apply below_drew1) | exact HB.out)⟩
      ·rw [if_neg c23] at H
       exact absurd H (by simp)
     ·rw [if_neg c21] at H
      exact absurd H (by simp)
/-! ### impl_JournalPlan: function 63 -/
def impl_JournalPlan.f (k : Nat) (a0 : Int) (a1 : Int) (l2 : List (S23)) : Option ((List (S132)) × Int) := (impl_Update_141.f l2).bind fun t1151 => ((impl_isHost.f a0).bind fun t1152 => (if t1152 = true then ((impl_isNumber.f a1).bind fun t1153 => ((all143_impl_updateOK.f l2 ()).bind fun t1154 => ((impl_first.f (([Any.b t1151, Any.n 2, Any.b (!t1153), Any.n 4, Any.b (decide ((l2.length : Int) > 5)), Any.n 6, Any.b (!t1154), Any.n 1] : List Any))).bind fun t1158 => (if t1158 = 0 then ((impl_journal.f k a0 a1 l2).bind fun t1159 => (some (t1159, 0))) else (some (([] : List (S132)), t1158)))))) else ((all143_impl_updateOK.f l2 ()).bind fun t1162 => ((impl_first.f (([Any.b t1151, Any.n 2, Any.b true, Any.n 4, Any.b (decide ((l2.length : Int) > 5)), Any.n 6, Any.b (!t1162), Any.n 1] : List Any))).bind fun t1166 => (if t1166 = 0 then ((impl_journal.f k a0 a1 l2).bind fun t1167 => (some (t1167, 0))) else (some (([] : List (S132)), t1166)))))))
theorem impl_JournalPlan.mono : ∀ a0 a1 a2 k, LeO (impl_JournalPlan.f k a0 a1 a2) (impl_JournalPlan.f (k + 1) a0 a1 a2) := by
  intro a0 a1 a2 k
  unfold impl_JournalPlan.f
  repeat' first
      | (with_reducible exact impl_journal.mono _ _ _ _)
      | (with_reducible exact LeO.refl _)
      | (with_reducible exact LeO.none _)
      | (with_reducible refine LeO.ite ?_ ?_)
      | (with_reducible refine LeO.bind ?_ (fun _ => ?_))
      | exact impl_journal.mono _ _ _ _
      | exact LeO.none _
      | refine LeO.ite ?_ ?_
      | refine LeO.bind ?_ (fun _ => ?_)
set_option maxHeartbeats 8000000 in
set_option maxRecDepth 100000 in
theorem impl_JournalPlan.calls (k : Nat) (a0 : Int) (a1 : Int) (A2 : Option Addr) (c2 : Nat) (l2 : List (S23)) (r1 : List (S132)) (r2 : Int) (w : World) (hr2 : Kd.C k23 w A2 l2.length l2) (hc2 : l2.length ≤ c2) (h : impl_JournalPlan.f k a0 a1 l2 = some (r1, r2)) :
    Calls Try.prog 63 #[.int .i64 a0, .int .i64 a1, .slice A2 l2.length c2] w fun e w' => ∃ v0_ : Value, e = .returned (.tuple #[v0_, .int .i64 r2]) ∧ Kd.R k132 132 w' w.heap.size (fun _ => True) v0_ r1 ∧ Below w.heap.size w w' := by
 have HR2 := Aside0.mk hr2
 have HC2 := Aside0.mk hc2
 clear hr2 hc2
 have HB := Aside0.mk (Below.refl w.heap.size w)
 have H : ((impl_Update_141.f l2).bind fun t1151 => ((impl_isHost.f a0).bind fun t1152 => (if t1152 = true then ((impl_isNumber.f a1).bind fun t1153 => ((all143_impl_updateOK.f l2 ()).bind fun t1154 => ((impl_first.f (([Any.b t1151, Any.n 2, Any.b (!t1153), Any.n 4, Any.b (decide ((l2.length : Int) > 5)), Any.n 6, Any.b (!t1154), Any.n 1] : List Any))).bind fun t1158 => (if t1158 = 0 then ((impl_journal.f k a0 a1 l2).bind fun t1159 => (some (t1159, 0))) else (some (([] : List (S132)), t1158)))))) else ((all143_impl_updateOK.f l2 ()).bind fun t1162 => ((impl_first.f (([Any.b t1151, Any.n 2, Any.b true, Any.n 4, Any.b (decide ((l2.length : Int) > 5)), Any.n 6, Any.b (!t1162), Any.n 1] : List Any))).bind fun t1166 => (if t1166 = 0 then ((impl_journal.f k a0 a1 l2).bind fun t1167 => (some (t1167, 0))) else (some (([] : List (S132)), t1166)))))))) = some (r1, r2) := h
 clear h
 replace H := Option.bind_eq_some_iff.mp H
 obtain ⟨t1151, A40, H⟩ := H
 replace H : ((impl_isHost.f a0).bind fun t1152 => (if t1152 = true then ((impl_isNumber.f a1).bind fun t1153 => ((all143_impl_updateOK.f l2 ()).bind fun t1154 => ((impl_first.f (([Any.b t1151, Any.n 2, Any.b (!t1153), Any.n 4, Any.b (decide ((l2.length : Int) > 5)), Any.n 6, Any.b (!t1154), Any.n 1] : List Any))).bind fun t1158 => (if t1158 = 0 then ((impl_journal.f k a0 a1 l2).bind fun t1159 => (some (t1159, 0))) else (some (([] : List (S132)), t1158)))))) else ((all143_impl_updateOK.f l2 ()).bind fun t1162 => ((impl_first.f (([Any.b t1151, Any.n 2, Any.b true, Any.n 4, Any.b (decide ((l2.length : Int) > 5)), Any.n 6, Any.b (!t1162), Any.n 1] : List Any))).bind fun t1166 => (if t1166 = 0 then ((impl_journal.f k a0 a1 l2).bind fun t1167 => (some (t1167, 0))) else (some (([] : List (S132)), t1166))))))) = some (r1, r2) := H
 have A4 := Aside0.mk A40
 clear A40
 replace H := Option.bind_eq_some_iff.mp H
 obtain ⟨t1152, A50, H⟩ := H
 replace H : (if t1152 = true then ((impl_isNumber.f a1).bind fun t1153 => ((all143_impl_updateOK.f l2 ()).bind fun t1154 => ((impl_first.f (([Any.b t1151, Any.n 2, Any.b (!t1153), Any.n 4, Any.b (decide ((l2.length : Int) > 5)), Any.n 6, Any.b (!t1154), Any.n 1] : List Any))).bind fun t1158 => (if t1158 = 0 then ((impl_journal.f k a0 a1 l2).bind fun t1159 => (some (t1159, 0))) else (some (([] : List (S132)), t1158)))))) else ((all143_impl_updateOK.f l2 ()).bind fun t1162 => ((impl_first.f (([Any.b t1151, Any.n 2, Any.b true, Any.n 4, Any.b (decide ((l2.length : Int) > 5)), Any.n 6, Any.b (!t1162), Any.n 1] : List Any))).bind fun t1166 => (if t1166 = 0 then ((impl_journal.f k a0 a1 l2).bind fun t1167 => (some (t1167, 0))) else (some (([] : List (S132)), t1166)))))) = some (r1, r2) := H
 have A5 := Aside0.mk A50
 clear A50
 by_cases c6 : t1152 = true
 ·subst c6
  have H1 : ((impl_isNumber.f a1).bind fun t1153 => ((all143_impl_updateOK.f l2 ()).bind fun t1154 => ((impl_first.f (([Any.b t1151, Any.n 2, Any.b (!t1153), Any.n 4, Any.b (decide ((l2.length : Int) > 5)), Any.n 6, Any.b (!t1154), Any.n 1] : List Any))).bind fun t1158 => (if t1158 = 0 then ((impl_journal.f k a0 a1 l2).bind fun t1159 => (some (t1159, 0))) else (some (([] : List (S132)), t1158)))))) = some (r1, r2) := by rw [if_pos rfl] at H; exact H
  clear H
  have H := H1
  clear H1
  replace H := Option.bind_eq_some_iff.mp H
  obtain ⟨t1153, A70, H⟩ := H
  replace H : ((all143_impl_updateOK.f l2 ()).bind fun t1154 => ((impl_first.f (([Any.b t1151, Any.n 2, Any.b (!t1153), Any.n 4, Any.b (decide ((l2.length : Int) > 5)), Any.n 6, Any.b (!t1154), Any.n 1] : List Any))).bind fun t1158 => (if t1158 = 0 then ((impl_journal.f k a0 a1 l2).bind fun t1159 => (some (t1159, 0))) else (some (([] : List (S132)), t1158))))) = some (r1, r2) := H
  have A7 := Aside0.mk A70
  clear A70
  replace H := Option.bind_eq_some_iff.mp H
  obtain ⟨t1154, A80, H⟩ := H
  replace H : ((impl_first.f (([Any.b t1151, Any.n 2, Any.b (!t1153), Any.n 4, Any.b (decide ((l2.length : Int) > 5)), Any.n 6, Any.b (!t1154), Any.n 1] : List Any))).bind fun t1158 => (if t1158 = 0 then ((impl_journal.f k a0 a1 l2).bind fun t1159 => (some (t1159, 0))) else (some (([] : List (S132)), t1158)))) = some (r1, r2) := H
  have A8 := Aside0.mk A80
  clear A80
  obtain ⟨y1155, hy1155⟩ : ∃ y_ : List Any, y_ = (([Any.b t1151, Any.n 2, Any.b (!t1153), Any.n 4, Any.b (decide ((l2.length : Int) > 5)), Any.n 6, Any.b (!t1154), Any.n 1] : List Any)) := ⟨_, rfl⟩
  replace H : ((impl_first.f y1155).bind fun t1158 => (if t1158 = 0 then ((impl_journal.f k a0 a1 l2).bind fun t1159 => (some (t1159, 0))) else (some (([] : List (S132)), t1158)))) = some (r1, r2) := by first | (rw [hy1155]; with_reducible exact H) | (have H2_ := (Option.bind_some _ _).symm.trans H; rw [hy1155]; with_reducible exact H2_) | (have H2_ := (Option.bind_some _ _).symm.trans H; with_reducible exact H2_) | with_reducible exact H | (rw [hy1155]; exact H) | exact H
  have Ny1155 := Aside0.mk hy1155
  clear hy1155
  replace H := Option.bind_eq_some_iff.mp H
  obtain ⟨t1158, A90, H⟩ := H
  replace H : (if t1158 = 0 then ((impl_journal.f k a0 a1 l2).bind fun t1159 => (some (t1159, 0))) else (some (([] : List (S132)), t1158))) = some (r1, r2) := H
  have A9 := Aside0.mk A90
  clear A90
  by_cases c10 : t1158 = 0
  ·rw [if_pos c10] at H
   have c10b0 : (t1158 == 0) = true := beq_iff_eq.mpr c10
   have c10b1 : (t1158 != 0) = false := bne_eq_false_iff_eq.mpr c10
   clear c10
   replace H := Option.bind_eq_some_iff.mp H
   obtain ⟨t1159, A110, H⟩ := H
   replace H : (some (t1159, 0)) = some (r1, r2) := H
   have A11 := Aside0.mk A110
   clear A110
   simp only [Option.some.injEq, Prod.mk.injEq] at H
   obtain ⟨rfl, rfl⟩ := H
   go_enter Try.func63, Try.ntmps63
   go_wp2_with (first | ((with_reducible refine gate_callee (f := 141) rfl ?_); refine goesL_ (some 10) rfl rfl Try.func141 (by kernel_rfl) rfl #[.slice A2 l2.length c2] rfl (by (try simp only [List.map_toArray, List.map_cons, List.map_nil]); first | done | rfl | (simp only [List.length_drop, List.length_take]; rfl)) ?_; (with_reducible refine (impl_Update_141.calls _ _ l2 t1151 _ ?side1 ?side2 A4.out).mono ?_); (case side1 => repeat (first | exact HR2.out | (with_reducible refine Kd.C_alloc ?_ _) | (with_reducible refine Kd.C_drewN ?_ _) | (with_reducible refine Kd.C_drew ?_))); (case side2 => exact HC2.out); rintro e w' ⟨rfl, ⟨nd, rfl⟩⟩; refine ⟨_, rfl, ?_⟩) | ((with_reducible refine gate_callee (f := 93) rfl ?_); refine goesL_ (some 14) rfl rfl Try.func93 (by kernel_rfl) rfl #[.int .i64 a0] rfl (by (try simp only [List.map_toArray, List.map_cons, List.map_nil]); first | done | rfl | (simp only [List.length_drop, List.length_take]; rfl)) ?_; (with_reducible refine (impl_isHost.calls a0 true _ A5.out).mono ?_); rintro e w' ⟨rfl, ⟨nd, rfl⟩⟩; refine ⟨_, rfl, ?_⟩) | (go_at_call 142; (with_reducible refine (impl_isNumber.calls a1 t1153 _ A7.out).mono ?_); rintro e w' ⟨rfl, ⟨nd, rfl⟩⟩) | ((with_reducible refine gate_callee (f := 143) rfl ?_); refine goesL_ (some 29) rfl rfl Try.func143 (by kernel_rfl) rfl #[.slice A2 l2.length c2, .func (.func 89) #[] #[]] rfl (by (try simp only [List.map_toArray, List.map_cons, List.map_nil]); first | done | rfl | (simp only [List.length_drop, List.length_take]; rfl)) ?_; (with_reducible refine (all143_impl_updateOK.calls _ _ l2 () t1154 _ ?side1 ?side2 A8.out).mono ?_); (case side1 => repeat (first | exact HR2.out | (with_reducible refine Kd.C_alloc ?_ _) | (with_reducible refine Kd.C_drewN ?_ _) | (with_reducible refine Kd.C_drew ?_))); (case side2 => exact HC2.out); rintro e w12 ⟨rfl, hb⟩; refine ⟨_, rfl, ?_⟩; have n0_ := Aside0.mk (below_step (by repeat (first | (with_reducible first | exact HB.out | apply below_alloc | apply pw_below_drewN | apply below_drew1) | exact HB.out)) hb); clear HB; have HB := n0_; clear n0_; (try clear hb); (try clear hb2); (try clear hk); (try clear hi)) | ((with_reducible refine gate_dst (N := 33) rfl ?_); refine Kd.R_lit kAny _ 20 ?hg (N := 33) ?hd (xs := ([Any.b t1151, Any.n 2, Any.b (!t1153), Any.n 4, Any.b (decide ((l2.length : Int) > 5)), Any.n 6, Any.b (!t1154), Any.n 1] : List Any)) (inner := [.iface 4 (.bool t1151), .iface 3 (.int .i64 2), .iface 4 (.bool (!t1153)), .iface 3 (.int .i64 4), .iface 4 (.bool (decide ((l2.length : Int) > 5))), .iface 3 (.int .i64 6), .iface 4 (.bool (!t1154)), .iface 3 (.int .i64 1)]) (ok := fun _ => True) (okp := fun _ => True) ?hr ?hp (fun _ hk => hk) trivial (Below.refl _ _) (Nat.le_refl _) (by simp) ?_; (case hd => rfl); (case hg => rfl); (case hr => first | (go_simp; done) | (go_simp; rfl)); (case hp => exact (Reps.one (show Kd.M kAny _ _ _ (Any.b t1151) [.iface 4 (.bool t1151)] from rfl) (Reps.one (show Kd.M kAny _ _ _ (Any.n 2) [.iface 3 (.int .i64 2)] from rfl) (Reps.one (show Kd.M kAny _ _ _ (Any.b (!t1153)) [.iface 4 (.bool (!t1153))] from rfl) (Reps.one (show Kd.M kAny _ _ _ (Any.n 4) [.iface 3 (.int .i64 4)] from rfl) (Reps.one (show Kd.M kAny _ _ _ (Any.b (decide ((l2.length : Int) > 5))) [.iface 4 (.bool (decide ((l2.length : Int) > 5)))] from rfl) (Reps.one (show Kd.M kAny _ _ _ (Any.n 6) [.iface 3 (.int .i64 6)] from rfl) (Reps.one (show Kd.M kAny _ _ _ (Any.b (!t1154)) [.iface 4 (.bool (!t1154))] from rfl) (Reps.one (show Kd.M kAny _ _ _ (Any.n 1) [.iface 3 (.int .i64 1)] from rfl) (Reps.none _ _)))))))))); intro v1156 w13 ho14 hb hg_ hnew_; clear hg_ hnew_; (first | rw [← Ny1155.out] at ho14 | (simp only [Int.reduceToNat] at ho14; rw [← Ny1155.out] at ho14)); have n0_ := Aside0.mk (Kd.R_lower ho14 (below_size (by repeat (first | (with_reducible first | exact HB.out | apply below_alloc | apply pw_below_drewN | apply below_drew1) | exact HB.out)))); have n1_ := Aside0.mk (below_step (by repeat (first | (with_reducible first | exact HB.out | apply below_alloc | apply pw_below_drewN | apply below_drew1) | exact HB.out)) hb); clear HB; have HO1157 := n0_; have HB := n1_; clear n0_ n1_; clear hb ho14; obtain ⟨Ao15, co15, eo15⟩ := Kd.R_slice HO1157.out; subst eo15) | ((with_reducible refine gate_callee (f := 83) rfl ?_); refine goesL_ (some 34) rfl rfl Try.func83 (by kernel_rfl) rfl #[.slice Ao15 y1155.length co15] rfl (by (try simp only [List.map_toArray, List.map_cons, List.map_nil]); first | done | rfl | (simp only [List.length_drop, List.length_take]; rfl)) ?_; (with_reducible refine (impl_first.calls _ _ y1155 t1158 _ ?side1 ?side2 A9.out).mono ?_); (case side1 => repeat (first | exact (Kd.R_reads' HO1157.out).2.2 | (with_reducible refine Kd.C_alloc ?_ _) | (with_reducible refine Kd.C_drewN ?_ _) | (with_reducible refine Kd.C_drew ?_))); (case side2 => exact (Kd.R_reads' HO1157.out).2.1); rintro e w' ⟨rfl, ⟨nd, rfl⟩⟩; refine ⟨_, rfl, ?_⟩) | ((with_reducible refine gate_callee (f := 144) rfl ?_); refine goesL_ (some 41) rfl rfl Try.func144 (by kernel_rfl) rfl #[.int .i64 a0, .int .i64 a1, .slice A2 l2.length c2] rfl (by (try simp only [List.map_toArray, List.map_cons, List.map_nil]); first | done | rfl | (simp only [List.length_drop, List.length_take]; rfl)) ?_; (with_reducible refine (impl_journal.calls k a0 a1 _ _ l2 t1159 _ ?side1 ?side2 A11.out).mono ?_); (case side1 => repeat (first | exact (Kd.C_below HR2.out (by repeat (first | (with_reducible first | exact HB.out | apply below_alloc | apply pw_below_drewN | apply below_drew1) | exact HB.out))) | (with_reducible refine Kd.C_alloc ?_ _) | (with_reducible refine Kd.C_drewN ?_ _) | (with_reducible refine Kd.C_drew ?_))); (case side2 => exact HC2.out); rintro e w16 ⟨v1160, rfl, ho0, hb⟩; refine ⟨_, rfl, ?_⟩; have n0_ := Aside0.mk (Kd.R_below (by (with_reducible repeat (first | apply Kd.R_alloc | apply Kd.R_drewN | apply Kd.R_drew)); exact HO1157.out) hb); have n1_ := Aside0.mk (Kd.R_lower ho0 (below_size (by repeat (first | (with_reducible first | exact HB.out | apply below_alloc | apply pw_below_drewN | apply below_drew1) | exact HB.out)))); have n2_ := Aside0.mk (below_step (by repeat (first | (with_reducible first | exact HB.out | apply below_alloc | apply pw_below_drewN | apply below_drew1) | exact HB.out)) hb); clear HO1157; clear HB; have HO1157 := n0_; have HO1161 := n1_; have HB := n2_; clear n0_ n1_ n2_; (try clear hb); (try clear hb2); (try clear hk); (try clear hi); (try clear ho0)))
   go_ret2
   exact ⟨_, by first | rfl | (simp [errW_none, errW_some] <;> rfl) | (simp [*, errW_none, errW_some] <;> rfl), by (with_reducible repeat (first | apply Kd.R_alloc | apply Kd.R_drewN | apply Kd.R_drew)); exact HO1161.out, by repeat (first | (with_reducible first | exact HB.out | apply below_alloc | apply pw_below_drewN | apply below_drew1) | exact HB.out)⟩
  ·rw [if_neg c10] at H
   have c10b0 : (t1158 == 0) = false := beq_eq_false_iff_ne.mpr c10
   have c10b1 : (t1158 != 0) = true := bne_iff_ne.mpr c10
   simp only [Option.some.injEq, Prod.mk.injEq] at H
   obtain ⟨rfl, rfl⟩ := H
   go_enter Try.func63, Try.ntmps63
   go_wp2_with (first | ((with_reducible refine gate_callee (f := 141) rfl ?_); refine goesL_ (some 10) rfl rfl Try.func141 (by kernel_rfl) rfl #[.slice A2 l2.length c2] rfl (by (try simp only [List.map_toArray, List.map_cons, List.map_nil]); first | done | rfl | (simp only [List.length_drop, List.length_take]; rfl)) ?_; (with_reducible refine (impl_Update_141.calls _ _ l2 t1151 _ ?side1 ?side2 A4.out).mono ?_); (case side1 => repeat (first | exact HR2.out | (with_reducible refine Kd.C_alloc ?_ _) | (with_reducible refine Kd.C_drewN ?_ _) | (with_reducible refine Kd.C_drew ?_))); (case side2 => exact HC2.out); rintro e w' ⟨rfl, ⟨nd, rfl⟩⟩; refine ⟨_, rfl, ?_⟩) | ((with_reducible refine gate_callee (f := 93) rfl ?_); refine goesL_ (some 14) rfl rfl Try.func93 (by kernel_rfl) rfl #[.int .i64 a0] rfl (by (try simp only [List.map_toArray, List.map_cons, List.map_nil]); first | done | rfl | (simp only [List.length_drop, List.length_take]; rfl)) ?_; (with_reducible refine (impl_isHost.calls a0 true _ A5.out).mono ?_); rintro e w' ⟨rfl, ⟨nd, rfl⟩⟩; refine ⟨_, rfl, ?_⟩) | (go_at_call 142; (with_reducible refine (impl_isNumber.calls a1 t1153 _ A7.out).mono ?_); rintro e w' ⟨rfl, ⟨nd, rfl⟩⟩) | ((with_reducible refine gate_callee (f := 143) rfl ?_); refine goesL_ (some 29) rfl rfl Try.func143 (by kernel_rfl) rfl #[.slice A2 l2.length c2, .func (.func 89) #[] #[]] rfl (by (try simp only [List.map_toArray, List.map_cons, List.map_nil]); first | done | rfl | (simp only [List.length_drop, List.length_take]; rfl)) ?_; (with_reducible refine (all143_impl_updateOK.calls _ _ l2 () t1154 _ ?side1 ?side2 A8.out).mono ?_); (case side1 => repeat (first | exact HR2.out | (with_reducible refine Kd.C_alloc ?_ _) | (with_reducible refine Kd.C_drewN ?_ _) | (with_reducible refine Kd.C_drew ?_))); (case side2 => exact HC2.out); rintro e w17 ⟨rfl, hb⟩; refine ⟨_, rfl, ?_⟩; have n0_ := Aside0.mk (below_step (by repeat (first | (with_reducible first | exact HB.out | apply below_alloc | apply pw_below_drewN | apply below_drew1) | exact HB.out)) hb); clear HB; have HB := n0_; clear n0_; (try clear hb); (try clear hb2); (try clear hk); (try clear hi)) | ((with_reducible refine gate_dst (N := 33) rfl ?_); refine Kd.R_lit kAny _ 20 ?hg (N := 33) ?hd (xs := ([Any.b t1151, Any.n 2, Any.b (!t1153), Any.n 4, Any.b (decide ((l2.length : Int) > 5)), Any.n 6, Any.b (!t1154), Any.n 1] : List Any)) (inner := [.iface 4 (.bool t1151), .iface 3 (.int .i64 2), .iface 4 (.bool (!t1153)), .iface 3 (.int .i64 4), .iface 4 (.bool (decide ((l2.length : Int) > 5))), .iface 3 (.int .i64 6), .iface 4 (.bool (!t1154)), .iface 3 (.int .i64 1)]) (ok := fun _ => True) (okp := fun _ => True) ?hr ?hp (fun _ hk => hk) trivial (Below.refl _ _) (Nat.le_refl _) (by simp) ?_; (case hd => rfl); (case hg => rfl); (case hr => first | (go_simp; done) | (go_simp; rfl)); (case hp => exact (Reps.one (show Kd.M kAny _ _ _ (Any.b t1151) [.iface 4 (.bool t1151)] from rfl) (Reps.one (show Kd.M kAny _ _ _ (Any.n 2) [.iface 3 (.int .i64 2)] from rfl) (Reps.one (show Kd.M kAny _ _ _ (Any.b (!t1153)) [.iface 4 (.bool (!t1153))] from rfl) (Reps.one (show Kd.M kAny _ _ _ (Any.n 4) [.iface 3 (.int .i64 4)] from rfl) (Reps.one (show Kd.M kAny _ _ _ (Any.b (decide ((l2.length : Int) > 5))) [.iface 4 (.bool (decide ((l2.length : Int) > 5)))] from rfl) (Reps.one (show Kd.M kAny _ _ _ (Any.n 6) [.iface 3 (.int .i64 6)] from rfl) (Reps.one (show Kd.M kAny _ _ _ (Any.b (!t1154)) [.iface 4 (.bool (!t1154))] from rfl) (Reps.one (show Kd.M kAny _ _ _ (Any.n 1) [.iface 3 (.int .i64 1)] from rfl) (Reps.none _ _)))))))))); intro v1156 w18 ho19 hb hg_ hnew_; clear hg_ hnew_; (first | rw [← Ny1155.out] at ho19 | (simp only [Int.reduceToNat] at ho19; rw [← Ny1155.out] at ho19)); have n0_ := Aside0.mk (Kd.R_lower ho19 (below_size (by repeat (first | (with_reducible first | exact HB.out | apply below_alloc | apply pw_below_drewN | apply below_drew1) | exact HB.out)))); have n1_ := Aside0.mk (below_step (by repeat (first | (with_reducible first | exact HB.out | apply below_alloc | apply pw_below_drewN | apply below_drew1) | exact HB.out)) hb); clear HB; have HO1157 := n0_; have HB := n1_; clear n0_ n1_; clear hb ho19; obtain ⟨Ao20, co20, eo20⟩ := Kd.R_slice HO1157.out; subst eo20) | ((with_reducible refine gate_callee (f := 83) rfl ?_); refine goesL_ (some 34) rfl rfl Try.func83 (by kernel_rfl) rfl #[.slice Ao20 y1155.length co20] rfl (by (try simp only [List.map_toArray, List.map_cons, List.map_nil]); first | done | rfl | (simp only [List.length_drop, List.length_take]; rfl)) ?_; (with_reducible refine (impl_first.calls _ _ y1155 t1158 _ ?side1 ?side2 A9.out).mono ?_); (case side1 => repeat (first | exact (Kd.R_reads' HO1157.out).2.2 | (with_reducible refine Kd.C_alloc ?_ _) | (with_reducible refine Kd.C_drewN ?_ _) | (with_reducible refine Kd.C_drew ?_))); (case side2 => exact (Kd.R_reads' HO1157.out).2.1); rintro e w' ⟨rfl, ⟨nd, rfl⟩⟩; refine ⟨_, rfl, ?_⟩))
   go_ret2
   exact ⟨_, by first | rfl | (simp [errW_none, errW_some] <;> rfl) | (simp [*, errW_none, errW_some] <;> rfl), by first | exact Kd.R_nil _ _ _ _ _ | exact Kd.N_nil _ _ _ _ _ | exact Kd.V_nil _ _ _ _ _ | exact Kd.Q_nil _ _ _ _ _ | exact Kd.S_nil _ _ _ _ _, by repeat (first | (with_reducible first | exact HB.out | apply below_alloc | apply pw_below_drewN | apply below_drew1) | exact HB.out)⟩
 ·replace c6 := Bool.eq_false_iff.mpr c6
  subst c6
  have H1 : ((all143_impl_updateOK.f l2 ()).bind fun t1162 => ((impl_first.f (([Any.b t1151, Any.n 2, Any.b true, Any.n 4, Any.b (decide ((l2.length : Int) > 5)), Any.n 6, Any.b (!t1162), Any.n 1] : List Any))).bind fun t1166 => (if t1166 = 0 then ((impl_journal.f k a0 a1 l2).bind fun t1167 => (some (t1167, 0))) else (some (([] : List (S132)), t1166))))) = some (r1, r2) := by rw [if_neg (show ¬ (false = true) by decide)] at H; exact H
  clear H
  have H := H1
  clear H1
  replace H := Option.bind_eq_some_iff.mp H
  obtain ⟨t1162, A210, H⟩ := H
  replace H : ((impl_first.f (([Any.b t1151, Any.n 2, Any.b true, Any.n 4, Any.b (decide ((l2.length : Int) > 5)), Any.n 6, Any.b (!t1162), Any.n 1] : List Any))).bind fun t1166 => (if t1166 = 0 then ((impl_journal.f k a0 a1 l2).bind fun t1167 => (some (t1167, 0))) else (some (([] : List (S132)), t1166)))) = some (r1, r2) := H
  have A21 := Aside0.mk A210
  clear A210
  obtain ⟨y1163, hy1163⟩ : ∃ y_ : List Any, y_ = (([Any.b t1151, Any.n 2, Any.b true, Any.n 4, Any.b (decide ((l2.length : Int) > 5)), Any.n 6, Any.b (!t1162), Any.n 1] : List Any)) := ⟨_, rfl⟩
  replace H : ((impl_first.f y1163).bind fun t1166 => (if t1166 = 0 then ((impl_journal.f k a0 a1 l2).bind fun t1167 => (some (t1167, 0))) else (some (([] : List (S132)), t1166)))) = some (r1, r2) := by first | (rw [hy1163]; with_reducible exact H) | (have H2_ := (Option.bind_some _ _).symm.trans H; rw [hy1163]; with_reducible exact H2_) | (have H2_ := (Option.bind_some _ _).symm.trans H; with_reducible exact H2_) | with_reducible exact H | (rw [hy1163]; exact H) | exact H
  have Ny1163 := Aside0.mk hy1163
  clear hy1163
  replace H := Option.bind_eq_some_iff.mp H
  obtain ⟨t1166, A220, H⟩ := H
  replace H : (if t1166 = 0 then ((impl_journal.f k a0 a1 l2).bind fun t1167 => (some (t1167, 0))) else (some (([] : List (S132)), t1166))) = some (r1, r2) := H
  have A22 := Aside0.mk A220
  clear A220
  by_cases c23 : t1166 = 0
  ·rw [if_pos c23] at H
   have c23b0 : (t1166 == 0) = true := beq_iff_eq.mpr c23
   have c23b1 : (t1166 != 0) = false := bne_eq_false_iff_eq.mpr c23
   clear c23
   replace H := Option.bind_eq_some_iff.mp H
   obtain ⟨t1167, A240, H⟩ := H
   replace H : (some (t1167, 0)) = some (r1, r2) := H
   have A24 := Aside0.mk A240
   clear A240
   simp only [Option.some.injEq, Prod.mk.injEq] at H
   obtain ⟨rfl, rfl⟩ := H
   go_enter Try.func63, Try.ntmps63
   go_wp2_with (first | ((with_reducible refine gate_callee (f := 141) rfl ?_); refine goesL_ (some 10) rfl rfl Try.func141 (by kernel_rfl) rfl #[.slice A2 l2.length c2] rfl (by (try simp only [List.map_toArray, List.map_cons, List.map_nil]); first | done | rfl | (simp only [List.length_drop, List.length_take]; rfl)) ?_; (with_reducible refine (impl_Update_141.calls _ _ l2 t1151 _ ?side1 ?side2 A4.out).mono ?_); (case side1 => repeat (first | exact HR2.out | (with_reducible refine Kd.C_alloc ?_ _) | (with_reducible refine Kd.C_drewN ?_ _) | (with_reducible refine Kd.C_drew ?_))); (case side2 => exact HC2.out); rintro e w' ⟨rfl, ⟨nd, rfl⟩⟩; refine ⟨_, rfl, ?_⟩) | ((with_reducible refine gate_callee (f := 93) rfl ?_); refine goesL_ (some 14) rfl rfl Try.func93 (by kernel_rfl) rfl #[.int .i64 a0] rfl (by (try simp only [List.map_toArray, List.map_cons, List.map_nil]); first | done | rfl | (simp only [List.length_drop, List.length_take]; rfl)) ?_; (with_reducible refine (impl_isHost.calls a0 false _ A5.out).mono ?_); rintro e w' ⟨rfl, ⟨nd, rfl⟩⟩; refine ⟨_, rfl, ?_⟩) | ((with_reducible refine gate_callee (f := 143) rfl ?_); refine goesL_ (some 29) rfl rfl Try.func143 (by kernel_rfl) rfl #[.slice A2 l2.length c2, .func (.func 89) #[] #[]] rfl (by (try simp only [List.map_toArray, List.map_cons, List.map_nil]); first | done | rfl | (simp only [List.length_drop, List.length_take]; rfl)) ?_; (with_reducible refine (all143_impl_updateOK.calls _ _ l2 () t1162 _ ?side1 ?side2 A21.out).mono ?_); (case side1 => repeat (first | exact HR2.out | (with_reducible refine Kd.C_alloc ?_ _) | (with_reducible refine Kd.C_drewN ?_ _) | (with_reducible refine Kd.C_drew ?_))); (case side2 => exact HC2.out); rintro e w25 ⟨rfl, hb⟩; refine ⟨_, rfl, ?_⟩; have n0_ := Aside0.mk (below_step (by repeat (first | (with_reducible first | exact HB.out | apply below_alloc | apply pw_below_drewN | apply below_drew1) | exact HB.out)) hb); clear HB; have HB := n0_; clear n0_; (try clear hb); (try clear hb2); (try clear hk); (try clear hi)) | ((with_reducible refine gate_dst (N := 33) rfl ?_); refine Kd.R_lit kAny _ 20 ?hg (N := 33) ?hd (xs := ([Any.b t1151, Any.n 2, Any.b true, Any.n 4, Any.b (decide ((l2.length : Int) > 5)), Any.n 6, Any.b (!t1162), Any.n 1] : List Any)) (inner := [.iface 4 (.bool t1151), .iface 3 (.int .i64 2), .iface 4 (.bool true), .iface 3 (.int .i64 4), .iface 4 (.bool (decide ((l2.length : Int) > 5))), .iface 3 (.int .i64 6), .iface 4 (.bool (!t1162)), .iface 3 (.int .i64 1)]) (ok := fun _ => True) (okp := fun _ => True) ?hr ?hp (fun _ hk => hk) trivial (Below.refl _ _) (Nat.le_refl _) (by simp) ?_; (case hd => rfl); (case hg => rfl); (case hr => first | (go_simp; done) | (go_simp; rfl)); (case hp => exact (Reps.one (show Kd.M kAny _ _ _ (Any.b t1151) [.iface 4 (.bool t1151)] from rfl) (Reps.one (show Kd.M kAny _ _ _ (Any.n 2) [.iface 3 (.int .i64 2)] from rfl) (Reps.one (show Kd.M kAny _ _ _ (Any.b true) [.iface 4 (.bool true)] from rfl) (Reps.one (show Kd.M kAny _ _ _ (Any.n 4) [.iface 3 (.int .i64 4)] from rfl) (Reps.one (show Kd.M kAny _ _ _ (Any.b (decide ((l2.length : Int) > 5))) [.iface 4 (.bool (decide ((l2.length : Int) > 5)))] from rfl) (Reps.one (show Kd.M kAny _ _ _ (Any.n 6) [.iface 3 (.int .i64 6)] from rfl) (Reps.one (show Kd.M kAny _ _ _ (Any.b (!t1162)) [.iface 4 (.bool (!t1162))] from rfl) (Reps.one (show Kd.M kAny _ _ _ (Any.n 1) [.iface 3 (.int .i64 1)] from rfl) (Reps.none _ _)))))))))); intro v1164 w26 ho27 hb hg_ hnew_; clear hg_ hnew_; (first | rw [← Ny1163.out] at ho27 | (simp only [Int.reduceToNat] at ho27; rw [← Ny1163.out] at ho27)); have n0_ := Aside0.mk (Kd.R_lower ho27 (below_size (by repeat (first | (with_reducible first | exact HB.out | apply below_alloc | apply pw_below_drewN | apply below_drew1) | exact HB.out)))); have n1_ := Aside0.mk (below_step (by repeat (first | (with_reducible first | exact HB.out | apply below_alloc | apply pw_below_drewN | apply below_drew1) | exact HB.out)) hb); clear HB; have HO1165 := n0_; have HB := n1_; clear n0_ n1_; clear hb ho27; obtain ⟨Ao28, co28, eo28⟩ := Kd.R_slice HO1165.out; subst eo28) | ((with_reducible refine gate_callee (f := 83) rfl ?_); refine goesL_ (some 34) rfl rfl Try.func83 (by kernel_rfl) rfl #[.slice Ao28 y1163.length co28] rfl (by (try simp only [List.map_toArray, List.map_cons, List.map_nil]); first | done | rfl | (simp only [List.length_drop, List.length_take]; rfl)) ?_; (with_reducible refine (impl_first.calls _ _ y1163 t1166 _ ?side1 ?side2 A22.out).mono ?_); (case side1 => repeat (first | exact (Kd.R_reads' HO1165.out).2.2 | (with_reducible refine Kd.C_alloc ?_ _) | (with_reducible refine Kd.C_drewN ?_ _) | (with_reducible refine Kd.C_drew ?_))); (case side2 => exact (Kd.R_reads' HO1165.out).2.1); rintro e w' ⟨rfl, ⟨nd, rfl⟩⟩; refine ⟨_, rfl, ?_⟩) | ((with_reducible refine gate_callee (f := 144) rfl ?_); refine goesL_ (some 41) rfl rfl Try.func144 (by kernel_rfl) rfl #[.int .i64 a0, .int .i64 a1, .slice A2 l2.length c2] rfl (by (try simp only [List.map_toArray, List.map_cons, List.map_nil]); first | done | rfl | (simp only [List.length_drop, List.length_take]; rfl)) ?_; (with_reducible refine (impl_journal.calls k a0 a1 _ _ l2 t1167 _ ?side1 ?side2 A24.out).mono ?_); (case side1 => repeat (first | exact (Kd.C_below HR2.out (by repeat (first | (with_reducible first | exact HB.out | apply below_alloc | apply pw_below_drewN | apply below_drew1) | exact HB.out))) | (with_reducible refine Kd.C_alloc ?_ _) | (with_reducible refine Kd.C_drewN ?_ _) | (with_reducible refine Kd.C_drew ?_))); (case side2 => exact HC2.out); rintro e w29 ⟨v1168, rfl, ho0, hb⟩; refine ⟨_, rfl, ?_⟩; have n0_ := Aside0.mk (Kd.R_below (by (with_reducible repeat (first | apply Kd.R_alloc | apply Kd.R_drewN | apply Kd.R_drew)); exact HO1165.out) hb); have n1_ := Aside0.mk (Kd.R_lower ho0 (below_size (by repeat (first | (with_reducible first | exact HB.out | apply below_alloc | apply pw_below_drewN | apply below_drew1) | exact HB.out)))); have n2_ := Aside0.mk (below_step (by repeat (first | (with_reducible first | exact HB.out | apply below_alloc | apply pw_below_drewN | apply below_drew1) | exact HB.out)) hb); clear HO1165; clear HB; have HO1165 := n0_; have HO1169 := n1_; have HB := n2_; clear n0_ n1_ n2_; (try clear hb); (try clear hb2); (try clear hk); (try clear hi); (try clear ho0)))
   go_ret2
   exact ⟨_, by first | rfl | (simp [errW_none, errW_some] <;> rfl) | (simp [*, errW_none, errW_some] <;> rfl), by (with_reducible repeat (first | apply Kd.R_alloc | apply Kd.R_drewN | apply Kd.R_drew)); exact HO1169.out, by repeat (first | (with_reducible first | exact HB.out | apply below_alloc | apply pw_below_drewN | apply below_drew1) | exact HB.out)⟩
  ·rw [if_neg c23] at H
   have c23b0 : (t1166 == 0) = false := beq_eq_false_iff_ne.mpr c23
   have c23b1 : (t1166 != 0) = true := bne_iff_ne.mpr c23
   simp only [Option.some.injEq, Prod.mk.injEq] at H
   obtain ⟨rfl, rfl⟩ := H
   go_enter Try.func63, Try.ntmps63
   go_wp2_with (first | ((with_reducible refine gate_callee (f := 141) rfl ?_); refine goesL_ (some 10) rfl rfl Try.func141 (by kernel_rfl) rfl #[.slice A2 l2.length c2] rfl (by (try simp only [List.map_toArray, List.map_cons, List.map_nil]); first | done | rfl | (simp only [List.length_drop, List.length_take]; rfl)) ?_; (with_reducible refine (impl_Update_141.calls _ _ l2 t1151 _ ?side1 ?side2 A4.out).mono ?_); (case side1 => repeat (first | exact HR2.out | (with_reducible refine Kd.C_alloc ?_ _) | (with_reducible refine Kd.C_drewN ?_ _) | (with_reducible refine Kd.C_drew ?_))); (case side2 => exact HC2.out); rintro e w' ⟨rfl, ⟨nd, rfl⟩⟩; refine ⟨_, rfl, ?_⟩) | ((with_reducible refine gate_callee (f := 93) rfl ?_); refine goesL_ (some 14) rfl rfl Try.func93 (by kernel_rfl) rfl #[.int .i64 a0] rfl (by (try simp only [List.map_toArray, List.map_cons, List.map_nil]); first | done | rfl | (simp only [List.length_drop, List.length_take]; rfl)) ?_; (with_reducible refine (impl_isHost.calls a0 false _ A5.out).mono ?_); rintro e w' ⟨rfl, ⟨nd, rfl⟩⟩; refine ⟨_, rfl, ?_⟩) | ((with_reducible refine gate_callee (f := 143) rfl ?_); refine goesL_ (some 29) rfl rfl Try.func143 (by kernel_rfl) rfl #[.slice A2 l2.length c2, .func (.func 89) #[] #[]] rfl (by (try simp only [List.map_toArray, List.map_cons, List.map_nil]); first | done | rfl | (simp only [List.length_drop, List.length_take]; rfl)) ?_; (with_reducible refine (all143_impl_updateOK.calls _ _ l2 () t1162 _ ?side1 ?side2 A21.out).mono ?_); (case side1 => repeat (first | exact HR2.out | (with_reducible refine Kd.C_alloc ?_ _) | (with_reducible refine Kd.C_drewN ?_ _) | (with_reducible refine Kd.C_drew ?_))); (case side2 => exact HC2.out); rintro e w30 ⟨rfl, hb⟩; refine ⟨_, rfl, ?_⟩; have n0_ := Aside0.mk (below_step (by repeat (first | (with_reducible first | exact HB.out | apply below_alloc | apply pw_below_drewN | apply below_drew1) | exact HB.out)) hb); clear HB; have HB := n0_; clear n0_; (try clear hb); (try clear hb2); (try clear hk); (try clear hi)) | ((with_reducible refine gate_dst (N := 33) rfl ?_); refine Kd.R_lit kAny _ 20 ?hg (N := 33) ?hd (xs := ([Any.b t1151, Any.n 2, Any.b true, Any.n 4, Any.b (decide ((l2.length : Int) > 5)), Any.n 6, Any.b (!t1162), Any.n 1] : List Any)) (inner := [.iface 4 (.bool t1151), .iface 3 (.int .i64 2), .iface 4 (.bool true), .iface 3 (.int .i64 4), .iface 4 (.bool (decide ((l2.length : Int) > 5))), .iface 3 (.int .i64 6), .iface 4 (.bool (!t1162)), .iface 3 (.int .i64 1)]) (ok := fun _ => True) (okp := fun _ => True) ?hr ?hp (fun _ hk => hk) trivial (Below.refl _ _) (Nat.le_refl _) (by simp) ?_; (case hd => rfl); (case hg => rfl); (case hr => first | (go_simp; done) | (go_simp; rfl)); (case hp => exact (Reps.one (show Kd.M kAny _ _ _ (Any.b t1151) [.iface 4 (.bool t1151)] from rfl) (Reps.one (show Kd.M kAny _ _ _ (Any.n 2) [.iface 3 (.int .i64 2)] from rfl) (Reps.one (show Kd.M kAny _ _ _ (Any.b true) [.iface 4 (.bool true)] from rfl) (Reps.one (show Kd.M kAny _ _ _ (Any.n 4) [.iface 3 (.int .i64 4)] from rfl) (Reps.one (show Kd.M kAny _ _ _ (Any.b (decide ((l2.length : Int) > 5))) [.iface 4 (.bool (decide ((l2.length : Int) > 5)))] from rfl) (Reps.one (show Kd.M kAny _ _ _ (Any.n 6) [.iface 3 (.int .i64 6)] from rfl) (Reps.one (show Kd.M kAny _ _ _ (Any.b (!t1162)) [.iface 4 (.bool (!t1162))] from rfl) (Reps.one (show Kd.M kAny _ _ _ (Any.n 1) [.iface 3 (.int .i64 1)] from rfl) (Reps.none _ _)))))))))); intro v1164 w31 ho32 hb hg_ hnew_; clear hg_ hnew_; (first | rw [← Ny1163.out] at ho32 | (simp only [Int.reduceToNat] at ho32; rw [← Ny1163.out] at ho32)); have n0_ := Aside0.mk (Kd.R_lower ho32 (below_size (by repeat (first | (with_reducible first | exact HB.out | apply below_alloc | apply pw_below_drewN | apply below_drew1) | exact HB.out)))); have n1_ := Aside0.mk (below_step (by repeat (first | (with_reducible first | exact HB.out | apply below_alloc | apply pw_below_drewN | apply below_drew1) | exact HB.out)) hb); clear HB; have HO1165 := n0_; have HB := n1_; clear n0_ n1_; clear hb ho32; obtain ⟨Ao33, co33, eo33⟩ := Kd.R_slice HO1165.out; subst eo33) | ((with_reducible refine gate_callee (f := 83) rfl ?_); refine goesL_ (some 34) rfl rfl Try.func83 (by kernel_rfl) rfl #[.slice Ao33 y1163.length co33] rfl (by (try simp only [List.map_toArray, List.map_cons, List.map_nil]); first | done | rfl | (simp only [List.length_drop, List.length_take]; rfl)) ?_; (with_reducible refine (impl_first.calls _ _ y1163 t1166 _ ?side1 ?side2 A22.out).mono ?_); (case side1 => repeat (first | exact (Kd.R_reads' HO1165.out).2.2 | (with_reducible refine Kd.C_alloc ?_ _) | (with_reducible refine Kd.C_drewN ?_ _) | (with_reducible refine Kd.C_drew ?_))); (case side2 => exact (Kd.R_reads' HO1165.out).2.1); rintro e w' ⟨rfl, ⟨nd, rfl⟩⟩; refine ⟨_, rfl, ?_⟩))
   go_ret2
   exact ⟨_, by first | rfl | (simp [errW_none, errW_some] <;> rfl) | (simp [*, errW_none, errW_some] <;> rfl), by first | exact Kd.R_nil _ _ _ _ _ | exact Kd.N_nil _ _ _ _ _ | exact Kd.V_nil _ _ _ _ _ | exact Kd.Q_nil _ _ _ _ _ | exact Kd.S_nil _ _ _ _ _, by repeat (first | (with_reducible first | exact HB.out | apply below_alloc | apply pw_below_drewN | apply below_drew1) | exact HB.out)⟩
/-! ### laws_eqMove: function 145 -/
def laws_eqMove.f (a0_0 : Int) (a0_1 : Int) (a0_2 : ByteArray) (a1_0 : Int) (a1_1 : Int) (a1_2 : ByteArray) : Option (Bool) := if a0_0 = a1_0 then (if a0_1 = a1_1 then (if a0_2.toList = a1_2.toList then (some true) else (some false)) else (some false)) else (some false)
set_option maxHeartbeats 8000000 in
set_option maxRecDepth 100000 in
theorem laws_eqMove.calls (a0_0 : Int) (a0_1 : Int) (a0_2 : ByteArray) (a1_0 : Int) (a1_1 : Int) (a1_2 : ByteArray) (r : Bool) (w : World) (h : laws_eqMove.f a0_0 a0_1 a0_2 a1_0 a1_1 a1_2 = some r) :
    Calls Try.prog 145 #[.agg #[.int .i64 a0_0, .int .i64 a0_1, .string a0_2], .agg #[.int .i64 a1_0, .int .i64 a1_1, .string a1_2]] w fun e w' => e = .returned (.bool r) ∧ Below w.heap.size w w' := by
 have hu132 := Try.underlying132
 have HB := Aside0.mk (Below.refl w.heap.size w)
 have H : (if a0_0 = a1_0 then (if a0_1 = a1_1 then (if a0_2.toList = a1_2.toList then (some true) else (some false)) else (some false)) else (some false)) = some r := h
 clear h
 by_cases c3 : a0_0 = a1_0
 ·rw [if_pos c3] at H
  have c3b0 : (a0_0 == a1_0) = true := beq_iff_eq.mpr c3
  have c3b1 : (a0_0 != a1_0) = false := bne_eq_false_iff_eq.mpr c3
  clear c3
  by_cases c4 : a0_1 = a1_1
  ·rw [if_pos c4] at H
   have c4b0 : (a0_1 == a1_1) = true := beq_iff_eq.mpr c4
   have c4b1 : (a0_1 != a1_1) = false := bne_eq_false_iff_eq.mpr c4
   clear c4
   by_cases c5 : a0_2.toList = a1_2.toList
   ·rw [if_pos c5] at H
    have c5b0 : (a0_2.toList == a1_2.toList) = true := beq_iff_eq.mpr c5
    have c5b1 : (a0_2.toList != a1_2.toList) = false := bne_eq_false_iff_eq.mpr c5
    clear c5
    obtain rfl := Option.some.inj H
    go_enter Try.func145, Try.ntmps145
    go_wp2_with (first | ((with_reducible refine gate_dst (N := 2) rfl ?_); refine box_event ?hg (N := 2) ?hd (cs := #[.int .i64 a0_0, .int .i64 a0_1, .string a0_2]) (t := 132) ?hr ?_; (case hd => rfl); (case hg => rfl); (case hr => first | (go_simp; done) | (go_simp; rfl)); intro gb1170 hg w6 hbox hb; have n0_ := Aside0.mk (below_step (by repeat (first | (with_reducible first | exact HB.out | apply below_alloc | apply pw_below_drewN | apply below_drew1) | exact HB.out)) hb); have n1_ := Aside0.mk (hbox); have n2_ := Aside0.mk ((by rw [hg]; exact (below_size (by repeat (first | (with_reducible first | exact HB.out | apply below_alloc | apply pw_below_drewN | apply below_drew1) | exact HB.out))) : w.heap.size ≤ gb1170)); have n3_ := Aside0.mk ((by rw [hg]; exact (below_size (by repeat (first | (with_reducible first | exact HB.out | apply below_alloc | apply pw_below_drewN | apply below_drew1) | exact HB.out))) : w.heap.size ≤ gb1170)); clear HB; have HB := n0_; have BK1170 := n1_; have GW1170 := n2_; have GE1170 := n3_; clear n0_ n1_ n2_ n3_; clear hb hbox hg) | ((with_reducible refine gate_dst (N := 3) rfl ?_); refine box_event ?hg (N := 3) ?hd (cs := #[.int .i64 a1_0, .int .i64 a1_1, .string a1_2]) (t := 132) ?hr ?_; (case hd => rfl); (case hg => rfl); (case hr => first | (go_simp; done) | (go_simp; rfl)); intro gb1171 hg w7 hbox hb; have n0_ := Aside0.mk (blk_below (g := gb1170) (o := .cells #[.int .i64 a0_0, .int .i64 a0_1, .string a0_2] 132 (0, 0)) (by (with_reducible repeat (first | refine blk_drewN ?_ _ | refine blk_drew ?_ | refine blk_alloc ?_ _)); exact BK1170.out) hb); have n1_ := Aside0.mk (below_step (by repeat (first | (with_reducible first | exact HB.out | apply below_alloc | apply pw_below_drewN | apply below_drew1 | refine below_set ?_ GE1170.out) | exact HB.out)) hb); have n2_ := Aside0.mk (hbox); have n3_ := Aside0.mk ((by rw [hg]; exact (below_size (by repeat (first | (with_reducible first | exact HB.out | apply below_alloc | apply pw_below_drewN | apply below_drew1 | refine below_set ?_ GE1170.out) | exact HB.out))) : w.heap.size ≤ gb1171)); have n4_ := Aside0.mk ((by rw [hg]; exact (below_size (by repeat (first | (with_reducible first | exact HB.out | apply below_alloc | apply pw_below_drewN | apply below_drew1 | refine below_set ?_ GE1170.out) | exact HB.out))) : w.heap.size ≤ gb1171)); have n5_ := Aside0.mk ((by rw [hg]; exact Nat.ne_of_lt (blk_lt (g := gb1170) (o := .cells #[.int .i64 a0_0, .int .i64 a0_1, .string a0_2] 132 (0, 0)) (by (with_reducible repeat (first | refine blk_drewN ?_ _ | refine blk_drew ?_ | refine blk_alloc ?_ _)); exact BK1170.out)) : gb1170 ≠ gb1171)); have n6_ := Aside0.mk ((by rw [hg]; exact Nat.ne_of_gt (blk_lt (g := gb1170) (o := .cells #[.int .i64 a0_0, .int .i64 a0_1, .string a0_2] 132 (0, 0)) (by (with_reducible repeat (first | refine blk_drewN ?_ _ | refine blk_drew ?_ | refine blk_alloc ?_ _)); exact BK1170.out)) : gb1171 ≠ gb1170)); clear BK1170; clear HB; have BK1170 := n0_; have HB := n1_; have BK1171 := n2_; have GW1171 := n3_; have GE1171 := n4_; have NB1170_1171 := n5_; have NB1171_1170 := n6_; clear n0_ n1_ n2_ n3_ n4_ n5_ n6_; clear hb hbox hg; have hnb8 := NB1170_1171.out; have hnc8 := NB1171_1170.out; have hcz9_0 : w7.cell? ⟨gb1170, 0, none⟩ = some (.int .i64 a0_0) := (blk_cell BK1170.out 0).trans rfl; have hcz9_1 : w7.cell? ⟨gb1170, 1, none⟩ = some (.int .i64 a0_1) := (blk_cell BK1170.out 1).trans rfl; have hcz9_2 : w7.cell? ⟨gb1170, 2, none⟩ = some (.string a0_2) := (blk_cell BK1170.out 2).trans rfl; have hfz9_0 := blk_frozen BK1170.out 0; have hfz9_1 := blk_frozen BK1170.out 1; have hfz9_2 := blk_frozen BK1170.out 2; have hcz10_0 : w7.cell? ⟨gb1171, 0, none⟩ = some (.int .i64 a1_0) := (blk_cell BK1171.out 0).trans rfl; have hcz10_1 : w7.cell? ⟨gb1171, 1, none⟩ = some (.int .i64 a1_1) := (blk_cell BK1171.out 1).trans rfl; have hcz10_2 : w7.cell? ⟨gb1171, 2, none⟩ = some (.string a1_2) := (blk_cell BK1171.out 2).trans rfl; have hfz10_0 := blk_frozen BK1171.out 0; have hfz10_1 := blk_frozen BK1171.out 1; have hfz10_2 := blk_frozen BK1171.out 2))
    go_ret
    exact ⟨by first | rfl | (simp [errW_none, errW_some] <;> rfl) | (simp [*, errW_none, errW_some] <;> rfl), by repeat (first | (with_reducible first | exact HB.out | apply below_alloc | apply pw_below_drewN | apply below_drew1 | refine below_set ?_ GE1170.out | refine below_set ?_ GE1171.out) | exact HB.out)⟩
   ·rw [if_neg c5] at H
    have c5b0 : (a0_2.toList == a1_2.toList) = false := beq_eq_false_iff_ne.mpr c5
    have c5b1 : (a0_2.toList != a1_2.toList) = true := bne_iff_ne.mpr c5
    obtain rfl := Option.some.inj H
    go_enter Try.func145, Try.ntmps145
    go_wp2_with (first | ((with_reducible refine gate_dst (N := 2) rfl ?_); refine box_event ?hg (N := 2) ?hd (cs := #[.int .i64 a0_0, .int .i64 a0_1, .string a0_2]) (t := 132) ?hr ?_; (case hd => rfl); (case hg => rfl); (case hr => first | (go_simp; done) | (go_simp; rfl)); intro gb1170 hg w11 hbox hb; have n0_ := Aside0.mk (below_step (by repeat (first | (with_reducible first | exact HB.out | apply below_alloc | apply pw_below_drewN | apply below_drew1) | exact HB.out)) hb); have n1_ := Aside0.mk (hbox); have n2_ := Aside0.mk ((by rw [hg]; exact (below_size (by repeat (first | (with_reducible first | exact HB.out | apply below_alloc | apply pw_below_drewN | apply below_drew1) | exact HB.out))) : w.heap.size ≤ gb1170)); have n3_ := Aside0.mk ((by rw [hg]; exact (below_size (by repeat (first | (with_reducible first | exact HB.out | apply below_alloc | apply pw_below_drewN | apply below_drew1) | exact HB.out))) : w.heap.size ≤ gb1170)); clear HB; have HB := n0_; have BK1170 := n1_; have GW1170 := n2_; have GE1170 := n3_; clear n0_ n1_ n2_ n3_; clear hb hbox hg) | ((with_reducible refine gate_dst (N := 3) rfl ?_); refine box_event ?hg (N := 3) ?hd (cs := #[.int .i64 a1_0, .int .i64 a1_1, .string a1_2]) (t := 132) ?hr ?_; (case hd => rfl); (case hg => rfl); (case hr => first | (go_simp; done) | (go_simp; rfl)); intro gb1171 hg w12 hbox hb; have n0_ := Aside0.mk (blk_below (g := gb1170) (o := .cells #[.int .i64 a0_0, .int .i64 a0_1, .string a0_2] 132 (0, 0)) (by (with_reducible repeat (first | refine blk_drewN ?_ _ | refine blk_drew ?_ | refine blk_alloc ?_ _)); exact BK1170.out) hb); have n1_ := Aside0.mk (below_step (by repeat (first | (with_reducible first | exact HB.out | apply below_alloc | apply pw_below_drewN | apply below_drew1 | refine below_set ?_ GE1170.out) | exact HB.out)) hb); have n2_ := Aside0.mk (hbox); have n3_ := Aside0.mk ((by rw [hg]; exact (below_size (by repeat (first | (with_reducible first | exact HB.out | apply below_alloc | apply pw_below_drewN | apply below_drew1 | refine below_set ?_ GE1170.out) | exact HB.out))) : w.heap.size ≤ gb1171)); have n4_ := Aside0.mk ((by rw [hg]; exact (below_size (by repeat (first | (with_reducible first | exact HB.out | apply below_alloc | apply pw_below_drewN | apply below_drew1 | refine below_set ?_ GE1170.out) | exact HB.out))) : w.heap.size ≤ gb1171)); have n5_ := Aside0.mk ((by rw [hg]; exact Nat.ne_of_lt (blk_lt (g := gb1170) (o := .cells #[.int .i64 a0_0, .int .i64 a0_1, .string a0_2] 132 (0, 0)) (by (with_reducible repeat (first | refine blk_drewN ?_ _ | refine blk_drew ?_ | refine blk_alloc ?_ _)); exact BK1170.out)) : gb1170 ≠ gb1171)); have n6_ := Aside0.mk ((by rw [hg]; exact Nat.ne_of_gt (blk_lt (g := gb1170) (o := .cells #[.int .i64 a0_0, .int .i64 a0_1, .string a0_2] 132 (0, 0)) (by (with_reducible repeat (first | refine blk_drewN ?_ _ | refine blk_drew ?_ | refine blk_alloc ?_ _)); exact BK1170.out)) : gb1171 ≠ gb1170)); clear BK1170; clear HB; have BK1170 := n0_; have HB := n1_; have BK1171 := n2_; have GW1171 := n3_; have GE1171 := n4_; have NB1170_1171 := n5_; have NB1171_1170 := n6_; clear n0_ n1_ n2_ n3_ n4_ n5_ n6_; clear hb hbox hg; have hnb13 := NB1170_1171.out; have hnc13 := NB1171_1170.out; have hcz14_0 : w12.cell? ⟨gb1170, 0, none⟩ = some (.int .i64 a0_0) := (blk_cell BK1170.out 0).trans rfl; have hcz14_1 : w12.cell? ⟨gb1170, 1, none⟩ = some (.int .i64 a0_1) := (blk_cell BK1170.out 1).trans rfl; have hcz14_2 : w12.cell? ⟨gb1170, 2, none⟩ = some (.string a0_2) := (blk_cell BK1170.out 2).trans rfl; have hfz14_0 := blk_frozen BK1170.out 0; have hfz14_1 := blk_frozen BK1170.out 1; have hfz14_2 := blk_frozen BK1170.out 2; have hcz15_0 : w12.cell? ⟨gb1171, 0, none⟩ = some (.int .i64 a1_0) := (blk_cell BK1171.out 0).trans rfl; have hcz15_1 : w12.cell? ⟨gb1171, 1, none⟩ = some (.int .i64 a1_1) := (blk_cell BK1171.out 1).trans rfl; have hcz15_2 : w12.cell? ⟨gb1171, 2, none⟩ = some (.string a1_2) := (blk_cell BK1171.out 2).trans rfl; have hfz15_0 := blk_frozen BK1171.out 0; have hfz15_1 := blk_frozen BK1171.out 1; have hfz15_2 := blk_frozen BK1171.out 2))
    go_ret
    exact ⟨by first | rfl | (simp [errW_none, errW_some] <;> rfl) | (simp [*, errW_none, errW_some] <;> rfl), by repeat (first | (with_reducible first | exact HB.out | apply below_alloc | apply pw_below_drewN | apply below_drew1 | refine below_set ?_ GE1170.out | refine below_set ?_ GE1171.out) | exact HB.out)⟩
  ·rw [if_neg c4] at H
   have c4b0 : (a0_1 == a1_1) = false := beq_eq_false_iff_ne.mpr c4
   have c4b1 : (a0_1 != a1_1) = true := bne_iff_ne.mpr c4
   obtain rfl := Option.some.inj H
   go_enter Try.func145, Try.ntmps145
   go_wp2_with (first | ((with_reducible refine gate_dst (N := 2) rfl ?_); refine box_event ?hg (N := 2) ?hd (cs := #[.int .i64 a0_0, .int .i64 a0_1, .string a0_2]) (t := 132) ?hr ?_; (case hd => rfl); (case hg => rfl); (case hr => first | (go_simp; done) | (go_simp; rfl)); intro gb1170 hg w16 hbox hb; have n0_ := Aside0.mk (below_step (by repeat (first | (with_reducible first | exact HB.out | apply below_alloc | apply pw_below_drewN | apply below_drew1) | exact HB.out)) hb); have n1_ := Aside0.mk (hbox); have n2_ := Aside0.mk ((by rw [hg]; exact (below_size (by repeat (first | (with_reducible first | exact HB.out | apply below_alloc | apply pw_below_drewN | apply below_drew1) | exact HB.out))) : w.heap.size ≤ gb1170)); have n3_ := Aside0.mk ((by rw [hg]; exact (below_size (by repeat (first | (with_reducible first | exact HB.out | apply below_alloc | apply pw_below_drewN | apply below_drew1) | exact HB.out))) : w.heap.size ≤ gb1170)); clear HB; have HB := n0_; have BK1170 := n1_; have GW1170 := n2_; have GE1170 := n3_; clear n0_ n1_ n2_ n3_; clear hb hbox hg) | ((with_reducible refine gate_dst (N := 3) rfl ?_); refine box_event ?hg (N := 3) ?hd (cs := #[.int .i64 a1_0, .int .i64 a1_1, .string a1_2]) (t := 132) ?hr ?_; (case hd => rfl); (case hg => rfl); (case hr => first | (go_simp; done) | (go_simp; rfl)); intro gb1171 hg w17 hbox hb; have n0_ := Aside0.mk (blk_below (g := gb1170) (o := .cells #[.int .i64 a0_0, .int .i64 a0_1, .string a0_2] 132 (0, 0)) (by (with_reducible repeat (first | refine blk_drewN ?_ _ | refine blk_drew ?_ | refine blk_alloc ?_ _)); exact BK1170.out) hb); have n1_ := Aside0.mk (below_step (by repeat (first | (with_reducible first | exact HB.out | apply below_alloc | apply pw_below_drewN | apply below_drew1 | refine below_set ?_ GE1170.out) | exact HB.out)) hb); have n2_ := Aside0.mk (hbox); have n3_ := Aside0.mk ((by rw [hg]; exact (below_size (by repeat (first | (with_reducible first | exact HB.out | apply below_alloc | apply pw_below_drewN | apply below_drew1 | refine below_set ?_ GE1170.out) | exact HB.out))) : w.heap.size ≤ gb1171)); have n4_ := Aside0.mk ((by rw [hg]; exact (below_size (by repeat (first | (with_reducible first | exact HB.out | apply below_alloc | apply pw_below_drewN | apply below_drew1 | refine below_set ?_ GE1170.out) | exact HB.out))) : w.heap.size ≤ gb1171)); have n5_ := Aside0.mk ((by rw [hg]; exact Nat.ne_of_lt (blk_lt (g := gb1170) (o := .cells #[.int .i64 a0_0, .int .i64 a0_1, .string a0_2] 132 (0, 0)) (by (with_reducible repeat (first | refine blk_drewN ?_ _ | refine blk_drew ?_ | refine blk_alloc ?_ _)); exact BK1170.out)) : gb1170 ≠ gb1171)); have n6_ := Aside0.mk ((by rw [hg]; exact Nat.ne_of_gt (blk_lt (g := gb1170) (o := .cells #[.int .i64 a0_0, .int .i64 a0_1, .string a0_2] 132 (0, 0)) (by (with_reducible repeat (first | refine blk_drewN ?_ _ | refine blk_drew ?_ | refine blk_alloc ?_ _)); exact BK1170.out)) : gb1171 ≠ gb1170)); clear BK1170; clear HB; have BK1170 := n0_; have HB := n1_; have BK1171 := n2_; have GW1171 := n3_; have GE1171 := n4_; have NB1170_1171 := n5_; have NB1171_1170 := n6_; clear n0_ n1_ n2_ n3_ n4_ n5_ n6_; clear hb hbox hg; have hnb18 := NB1170_1171.out; have hnc18 := NB1171_1170.out; have hcz19_0 : w17.cell? ⟨gb1170, 0, none⟩ = some (.int .i64 a0_0) := (blk_cell BK1170.out 0).trans rfl; have hcz19_1 : w17.cell? ⟨gb1170, 1, none⟩ = some (.int .i64 a0_1) := (blk_cell BK1170.out 1).trans rfl; have hcz19_2 : w17.cell? ⟨gb1170, 2, none⟩ = some (.string a0_2) := (blk_cell BK1170.out 2).trans rfl; have hfz19_0 := blk_frozen BK1170.out 0; have hfz19_1 := blk_frozen BK1170.out 1; have hfz19_2 := blk_frozen BK1170.out 2; have hcz20_0 : w17.cell? ⟨gb1171, 0, none⟩ = some (.int .i64 a1_0) := (blk_cell BK1171.out 0).trans rfl; have hcz20_1 : w17.cell? ⟨gb1171, 1, none⟩ = some (.int .i64 a1_1) := (blk_cell BK1171.out 1).trans rfl; have hcz20_2 : w17.cell? ⟨gb1171, 2, none⟩ = some (.string a1_2) := (blk_cell BK1171.out 2).trans rfl; have hfz20_0 := blk_frozen BK1171.out 0; have hfz20_1 := blk_frozen BK1171.out 1; have hfz20_2 := blk_frozen BK1171.out 2))
   go_ret
   exact ⟨by first | rfl | (simp [errW_none, errW_some] <;> rfl) | (simp [*, errW_none, errW_some] <;> rfl), by repeat (first | (with_reducible first | exact HB.out | apply below_alloc | apply pw_below_drewN | apply below_drew1 | refine below_set ?_ GE1170.out | refine below_set ?_ GE1171.out) | exact HB.out)⟩
 ·rw [if_neg c3] at H
  have c3b0 : (a0_0 == a1_0) = false := beq_eq_false_iff_ne.mpr c3
  have c3b1 : (a0_0 != a1_0) = true := bne_iff_ne.mpr c3
  obtain rfl := Option.some.inj H
  go_enter Try.func145, Try.ntmps145
  go_wp2_with (first | ((with_reducible refine gate_dst (N := 2) rfl ?_); refine box_event ?hg (N := 2) ?hd (cs := #[.int .i64 a0_0, .int .i64 a0_1, .string a0_2]) (t := 132) ?hr ?_; (case hd => rfl); (case hg => rfl); (case hr => first | (go_simp; done) | (go_simp; rfl)); intro gb1170 hg w21 hbox hb; have n0_ := Aside0.mk (below_step (by repeat (first | (with_reducible first | exact HB.out | apply below_alloc | apply pw_below_drewN | apply below_drew1) | exact HB.out)) hb); have n1_ := Aside0.mk (hbox); have n2_ := Aside0.mk ((by rw [hg]; exact (below_size (by repeat (first | (with_reducible first | exact HB.out | apply below_alloc | apply pw_below_drewN | apply below_drew1) | exact HB.out))) : w.heap.size ≤ gb1170)); have n3_ := Aside0.mk ((by rw [hg]; exact (below_size (by repeat (first | (with_reducible first | exact HB.out | apply below_alloc | apply pw_below_drewN | apply below_drew1) | exact HB.out))) : w.heap.size ≤ gb1170)); clear HB; have HB := n0_; have BK1170 := n1_; have GW1170 := n2_; have GE1170 := n3_; clear n0_ n1_ n2_ n3_; clear hb hbox hg) | ((with_reducible refine gate_dst (N := 3) rfl ?_); refine box_event ?hg (N := 3) ?hd (cs := #[.int .i64 a1_0, .int .i64 a1_1, .string a1_2]) (t := 132) ?hr ?_; (case hd => rfl); (case hg => rfl); (case hr => first | (go_simp; done) | (go_simp; rfl)); intro gb1171 hg w22 hbox hb; have n0_ := Aside0.mk (blk_below (g := gb1170) (o := .cells #[.int .i64 a0_0, .int .i64 a0_1, .string a0_2] 132 (0, 0)) (by (with_reducible repeat (first | refine blk_drewN ?_ _ | refine blk_drew ?_ | refine blk_alloc ?_ _)); exact BK1170.out) hb); have n1_ := Aside0.mk (below_step (by repeat (first | (with_reducible first | exact HB.out | apply below_alloc | apply pw_below_drewN | apply below_drew1 | refine below_set ?_ GE1170.out) | exact HB.out)) hb); have n2_ := Aside0.mk (hbox); have n3_ := Aside0.mk ((by rw [hg]; exact (below_size (by repeat (first | (with_reducible first | exact HB.out | apply below_alloc | apply pw_below_drewN | apply below_drew1 | refine below_set ?_ GE1170.out) | exact HB.out))) : w.heap.size ≤ gb1171)); have n4_ := Aside0.mk ((by rw [hg]; exact (below_size (by repeat (first | (with_reducible first | exact HB.out | apply below_alloc | apply pw_below_drewN | apply below_drew1 | refine below_set ?_ GE1170.out) | exact HB.out))) : w.heap.size ≤ gb1171)); have n5_ := Aside0.mk ((by rw [hg]; exact Nat.ne_of_lt (blk_lt (g := gb1170) (o := .cells #[.int .i64 a0_0, .int .i64 a0_1, .string a0_2] 132 (0, 0)) (by (with_reducible repeat (first | refine blk_drewN ?_ _ | refine blk_drew ?_ | refine blk_alloc ?_ _)); exact BK1170.out)) : gb1170 ≠ gb1171)); have n6_ := Aside0.mk ((by rw [hg]; exact Nat.ne_of_gt (blk_lt (g := gb1170) (o := .cells #[.int .i64 a0_0, .int .i64 a0_1, .string a0_2] 132 (0, 0)) (by (with_reducible repeat (first | refine blk_drewN ?_ _ | refine blk_drew ?_ | refine blk_alloc ?_ _)); exact BK1170.out)) : gb1171 ≠ gb1170)); clear BK1170; clear HB; have BK1170 := n0_; have HB := n1_; have BK1171 := n2_; have GW1171 := n3_; have GE1171 := n4_; have NB1170_1171 := n5_; have NB1171_1170 := n6_; clear n0_ n1_ n2_ n3_ n4_ n5_ n6_; clear hb hbox hg; have hnb23 := NB1170_1171.out; have hnc23 := NB1171_1170.out; have hcz24_0 : w22.cell? ⟨gb1170, 0, none⟩ = some (.int .i64 a0_0) := (blk_cell BK1170.out 0).trans rfl; have hcz24_1 : w22.cell? ⟨gb1170, 1, none⟩ = some (.int .i64 a0_1) := (blk_cell BK1170.out 1).trans rfl; have hcz24_2 : w22.cell? ⟨gb1170, 2, none⟩ = some (.string a0_2) := (blk_cell BK1170.out 2).trans rfl; have hfz24_0 := blk_frozen BK1170.out 0; have hfz24_1 := blk_frozen BK1170.out 1; have hfz24_2 := blk_frozen BK1170.out 2; have hcz25_0 : w22.cell? ⟨gb1171, 0, none⟩ = some (.int .i64 a1_0) := (blk_cell BK1171.out 0).trans rfl; have hcz25_1 : w22.cell? ⟨gb1171, 1, none⟩ = some (.int .i64 a1_1) := (blk_cell BK1171.out 1).trans rfl; have hcz25_2 : w22.cell? ⟨gb1171, 2, none⟩ = some (.string a1_2) := (blk_cell BK1171.out 2).trans rfl; have hfz25_0 := blk_frozen BK1171.out 0; have hfz25_1 := blk_frozen BK1171.out 1; have hfz25_2 := blk_frozen BK1171.out 2))
  go_ret
  exact ⟨by first | rfl | (simp [errW_none, errW_some] <;> rfl) | (simp [*, errW_none, errW_some] <;> rfl), by repeat (first | (with_reducible first | exact HB.out | apply below_alloc | apply pw_below_drewN | apply below_drew1 | refine below_set ?_ GE1170.out | refine below_set ?_ GE1171.out) | exact HB.out)⟩
/-! ### laws_eqMoveS: function 64 -/
def laws_eqMoveS.l0 : Nat → List (S132) → List (S132) → Int → Option (Bool)
  | 0, _, _, _ => none
  | k + 1, x0, x1, x5 => if x5 < (x0.length : Int) then (if 0 ≤ x5 then (if x5 < (x1.length : Int) then ((laws_eqMove.f ((rd_T132 x0 x5).f0) ((rd_T132 x0 x5).f1) ((rd_T132 x0 x5).f2) ((rd_T132 x1 x5).f0) ((rd_T132 x1 x5).f1) ((rd_T132 x1 x5).f2)).bind fun t1174 => (if t1174 = true then (laws_eqMoveS.l0 k x0 x1 (wrap64 (x5 + 1))) else (some false))) else (none)) else (none)) else (some true)
def laws_eqMoveS.f (k : Nat) (l0 : List (S132)) (l1 : List (S132)) : Option (Bool) := if (l0.length : Int) = (l1.length : Int) then (laws_eqMoveS.l0 k l0 l1 0) else (some false)
theorem laws_eqMoveS.mono_l : ∀ k, (∀ y0 y1 y2, LeO (laws_eqMoveS.l0 k y0 y1 y2) (laws_eqMoveS.l0 (k + 1) y0 y1 y2))
  | 0 => fun _ _ _ r h => by simp [laws_eqMoveS.l0] at h
  | k + 1 => by
    have ih0 := laws_eqMoveS.mono_l k
    · intro y0 y1 y2
      unfold laws_eqMoveS.l0
      repeat' first
      | (with_reducible exact ih0 _ _ _)
      | (with_reducible exact LeO.refl _)
      | (with_reducible exact LeO.none _)
      | (with_reducible refine LeO.ite ?_ ?_)
      | (with_reducible refine LeO.bind ?_ (fun _ => ?_))
      | exact ih0 _ _ _
      | exact LeO.none _
      | refine LeO.ite ?_ ?_
      | refine LeO.bind ?_ (fun _ => ?_)
theorem laws_eqMoveS.mono : ∀ a0 a1 k, LeO (laws_eqMoveS.f k a0 a1) (laws_eqMoveS.f (k + 1) a0 a1) := by
  intro a0 a1 k
  have ih0 := laws_eqMoveS.mono_l k
  unfold laws_eqMoveS.f
  repeat' first
      | (with_reducible exact ih0 _ _ _)
      | (with_reducible exact LeO.refl _)
      | (with_reducible exact LeO.none _)
      | (with_reducible refine LeO.ite ?_ ?_)
      | (with_reducible refine LeO.bind ?_ (fun _ => ?_))
      | exact ih0 _ _ _
      | exact LeO.none _
      | refine LeO.ite ?_ ?_
      | refine LeO.bind ?_ (fun _ => ?_)
def laws_eqMoveS.T6 : Bool × List (List Nat × List Nat) := (true, [([], []), ([], []), ([0, 1], [0, 1]), ([2], [2]), ([], []), ([], []), ([4, 5], [4, 5]), ([6], [6]), ([3, 7], [3, 7]), ([8], [8])])
def laws_eqMoveS.B6 : List Nat := [0, 0, 3, 7, 0, 0, 48, 112, 255, 511]
theorem laws_eqMoveS.tab6 : rtab .any (opsOf Try.f64 6) = laws_eqMoveS.T6 := by kernel_rfl
theorem laws_eqMoveS.bits6 : waitsOk laws_eqMoveS.T6.2 laws_eqMoveS.B6 = true := by kernel_rfl
set_option maxHeartbeats 8000000 in
set_option maxRecDepth 100000 in
theorem laws_eqMoveS.calls (k : Nat) (A0 : Option Addr) (c0 : Nat) (l0 : List (S132)) (A1 : Option Addr) (c1 : Nat) (l1 : List (S132)) (r : Bool) (w : World) (hr0 : Kd.C k132 w A0 l0.length l0) (hc0 : l0.length ≤ c0) (hr1 : Kd.C k132 w A1 l1.length l1) (hc1 : l1.length ≤ c1) (h : laws_eqMoveS.f k l0 l1 = some r) :
    Calls Try.prog 64 #[.slice A0 l0.length c0, .slice A1 l1.length c1] w fun e w' => e = .returned (.bool r) ∧ Below w.heap.size w w' := by
 have hu132 := Try.underlying132
 have HR0 := Aside0.mk hr0
 have HC0 := Aside0.mk hc0
 clear hr0 hc0
 have HR1 := Aside0.mk hr1
 have HC1 := Aside0.mk hc1
 clear hr1 hc1
 have HB := Aside0.mk (Below.refl w.heap.size w)
 have H : (if (l0.length : Int) = (l1.length : Int) then (laws_eqMoveS.l0 k l0 l1 0) else (some false)) = some r := h
 clear h
 by_cases c3 : (l0.length : Int) = (l1.length : Int)
 ·rw [if_pos c3] at H
  have c3b0 : ((l0.length : Int) == (l1.length : Int)) = true := beq_iff_eq.mpr c3
  have c3b1 : ((l0.length : Int) != (l1.length : Int)) = false := bne_eq_false_iff_eq.mpr c3
  have c3b2 : (l0.length == l1.length) = true := by first | simpa using c3 | (simp at c3 ⊢; omega)
  clear c3
  have H' := Aside0.mk H
  clear H
  go_enter Try.func64, Try.ntmps64
  go_wp2
  go_loopg [5] k (fun kq v5 w' => ∃ (x5_1 : Int), v5 = .int .i64 x5_1 ∧ Aside0 (laws_eqMoveS.l0 kq l0 l1 x5_1 = some r) ∧ Aside0 (kq ≤ k) ∧ Aside0 (Below w.heap.size w w'))
  case atStart => exact ⟨(0), (by first | rfl | (simp; done) | (simp [*]; done)), H', ⟨Nat.le_refl _⟩, ⟨by repeat (first | (with_reducible first | exact HB.out | apply below_alloc | apply pw_below_drewN | apply below_drew1) | exact HB.out)⟩⟩
  case round =>
   clear H'
   try clear c1
   try clear p2
   try clear c3
   try clear c3b0
   try clear c3b1
   try clear c3b2
   obtain ⟨x5_1, rfl, HA, HK1, HB⟩ := hrel
   cases gk with
   | zero => exact absurd HA.out (by simp [laws_eqMoveS.l0])
   | succ k1 =>
    have H := HA.out
    clear HA
    simp only [laws_eqMoveS.l0] at H
    by_cases c4 : x5_1 < (l0.length : Int)
    ·rw [if_pos c4] at H
     have c4b0 : decide (x5_1 < (l0.length : Int)) = true := decide_eq_true c4
     clear c4
     by_cases c5 : 0 ≤ x5_1
     ·rw [if_pos c5] at H
      have c5b0 : decide (0 ≤ x5_1) = true := decide_eq_true c5
      clear c5
      by_cases c6 : x5_1 < (l1.length : Int)
      ·rw [if_pos c6] at H
       have c6b0 : decide (x5_1 < (l1.length : Int)) = true := decide_eq_true c6
       clear c6
       replace H := Option.bind_eq_some_iff.mp H
       obtain ⟨t1174, A70, H⟩ := H
       replace H : (if t1174 = true then (laws_eqMoveS.l0 k1 l0 l1 (wrap64 (x5_1 + 1))) else (some false)) = some r := H
       have A7 := Aside0.mk A70
       clear A70
       by_cases c8 : t1174 = true
       ·subst c8
        have H1 : (laws_eqMoveS.l0 k1 l0 l1 (wrap64 (x5_1 + 1))) = some r := by rw [if_pos rfl] at H; exact H
        clear H
        have H := H1
        clear H1
        have H' := Aside0.mk H
        clear H
        try go_wp2
        have n0_ := Aside0.mk (below_drew1 HB.out)
        clear HB
        have HB := n0_
        clear n0_
        have p1172 : 0 ≤ (x5_1 : Int) := of_decide_eq_true (by first | (with_reducible assumption) | assumption)
        have q1172 : x5_1 < (l0.length : Int) := of_decide_eq_true (by first | (with_reducible assumption) | assumption)
        obtain ⟨ad1172, e1172, hx1172_0, hx1172_1, hx1172_2⟩ := at_T132 HR0.out x5_1 p1172 q1172
        have hw1172_2 := hx1172_2
        have hw1172_1 := hx1172_1
        have hw1172_0 := hx1172_0
        cases e1172
        replace hx1172_0 := (HB.out.cell (World.block_lt_of_cell? w _ hx1172_0)).trans hx1172_0
        replace hx1172_1 := (HB.out.cell (World.block_lt_of_cell? w _ hx1172_1)).trans hx1172_1
        replace hx1172_2 := (HB.out.cell (World.block_lt_of_cell? w _ hx1172_2)).trans hx1172_2
        replace p1172 := eq_true p1172
        replace q1172 := eq_true q1172
        have p1173 : 0 ≤ (x5_1 : Int) := of_decide_eq_true (by first | (with_reducible assumption) | assumption)
        have q1173 : x5_1 < (l1.length : Int) := of_decide_eq_true (by first | (with_reducible assumption) | assumption)
        obtain ⟨ad1173, e1173, hx1173_0, hx1173_1, hx1173_2⟩ := at_T132 HR1.out x5_1 p1173 q1173
        have hw1173_2 := hx1173_2
        have hw1173_1 := hx1173_1
        have hw1173_0 := hx1173_0
        cases e1173
        replace hx1173_0 := (HB.out.cell (World.block_lt_of_cell? w _ hx1173_0)).trans hx1173_0
        replace hx1173_1 := (HB.out.cell (World.block_lt_of_cell? w _ hx1173_1)).trans hx1173_1
        replace hx1173_2 := (HB.out.cell (World.block_lt_of_cell? w _ hx1173_2)).trans hx1173_2
        replace p1173 := eq_true p1173
        replace q1173 := eq_true q1173
        refine start_ (n := 10) (S := fun w' => w'.cell? (ad1172.add ((x5_1).toNat * 3)) = some (.int .i64 ((rd_T132 l0 x5_1).f0)) ∧ w'.cell? ⟨(ad1172.add ((x5_1).toNat * 3)).block, (ad1172.add ((x5_1).toNat * 3)).off + 1, none⟩ = some (.int .i64 ((rd_T132 l0 x5_1).f1)) ∧ w'.cell? ⟨(ad1172.add ((x5_1).toNat * 3)).block, (ad1172.add ((x5_1).toNat * 3)).off + 2, none⟩ = some (.string ((rd_T132 l0 x5_1).f2)) ∧ w'.cell? (ad1173.add ((x5_1).toNat * 3)) = some (.int .i64 ((rd_T132 l1 x5_1).f0)) ∧ w'.cell? ⟨(ad1173.add ((x5_1).toNat * 3)).block, (ad1173.add ((x5_1).toNat * 3)).off + 1, none⟩ = some (.int .i64 ((rd_T132 l1 x5_1).f1)) ∧ w'.cell? ⟨(ad1173.add ((x5_1).toNat * 3)).block, (ad1173.add ((x5_1).toNat * 3)).off + 2, none⟩ = some (.string ((rd_T132 l1 x5_1).f2))) (ds := []) #[false, false, false, false, false, false, false, false, false, false] (by kernel_rfl) rfl rfl ⟨((HB.out.cell (World.block_lt_of_cell? w _ hw1172_0)).trans hw1172_0), ((HB.out.cell (World.block_lt_of_cell? w _ hw1172_1)).trans hw1172_1), ((HB.out.cell (World.block_lt_of_cell? w _ hw1172_2)).trans hw1172_2), ((HB.out.cell (World.block_lt_of_cell? w _ hw1173_0)).trans hw1173_0), ((HB.out.cell (World.block_lt_of_cell? w _ hw1173_1)).trans hw1173_1), ((HB.out.cell (World.block_lt_of_cell? w _ hw1173_2)).trans hw1173_2)⟩ (fun hHeld => ?_); refine with_tabW laws_eqMoveS.tab6 laws_eqMoveS.bits6 (fun HT_ HW_ => ?_)
        generalize wr.drew = w9 at HB hx1172_0 hx1172_1 hx1172_2 hx1173_0 hx1173_1 hx1173_2 hHeld ⊢
        refine pure_ (i := 0) (N := some 17) (v := ?_) (a' := ?_) #[true, false, false, false, false, false, false, false, false, false] rfl rfl (any_of HT_.out (by kernel_rfl)) (fun _ _ _ h => h) (Or.inl ⟨by rfl, ?_⟩) ?_ ?_
        rotate_left
        ·intro w'
         go_simp
         with_reducible rfl
        rotate_left
        ·simp only [Act.put, List.setIfInBounds_toArray, List.set_cons_zero, List.set_cons_succ, i64_w, i32_w]
         rfl
        refine pure_ (i := 1) (N := some 18) (v := ?_) (a' := ?_) #[true, true, false, false, false, false, false, false, false, false] rfl rfl (any_of HT_.out (by kernel_rfl)) (fun _ _ _ h => h) (Or.inl ⟨by rfl, ?_⟩) ?_ ?_
        rotate_left
        ·intro w'
         go_simp
         with_reducible rfl
        rotate_left
        ·simp only [Act.put, List.setIfInBounds_toArray, List.set_cons_zero, List.set_cons_succ, i64_w, i32_w]
         rfl
        refine pure_ (i := 2) (N := some 19) (v := ?_) (a' := ?_) #[true, true, true, false, false, false, false, false, false, false] rfl rfl (any_of HT_.out (by kernel_rfl)) (fun _ _ _ h => h) (Or.inl ⟨by rfl, ?_⟩) ?_ ?_
        rotate_left
        ·intro w'
         go_simp
         with_reducible rfl
        rotate_left
        ·simp only [Act.put, List.setIfInBounds_toArray, List.set_cons_zero, List.set_cons_succ, i64_w, i32_w]
         rfl
        refine pure_ (i := 4) (N := some 21) (v := ?_) (a' := ?_) #[true, true, true, false, true, false, false, false, false, false] rfl rfl (any_of HT_.out (by kernel_rfl)) (fun _ _ _ h => h) (Or.inl ⟨by rfl, ?_⟩) ?_ ?_
        rotate_left
        ·intro w'
         go_simp
         with_reducible rfl
        rotate_left
        ·simp only [Act.put, List.setIfInBounds_toArray, List.set_cons_zero, List.set_cons_succ, i64_w, i32_w]
         rfl
        refine pure_ (i := 5) (N := some 22) (v := ?_) (a' := ?_) #[true, true, true, false, true, true, false, false, false, false] rfl rfl (any_of HT_.out (by kernel_rfl)) (fun _ _ _ h => h) (Or.inl ⟨by rfl, ?_⟩) ?_ ?_
        rotate_left
        ·intro w'
         go_simp
         with_reducible rfl
        rotate_left
        ·simp only [Act.put, List.setIfInBounds_toArray, List.set_cons_zero, List.set_cons_succ, i64_w, i32_w]
         rfl
        refine pure_ (i := 6) (N := some 23) (v := ?_) (a' := ?_) #[true, true, true, false, true, true, true, false, false, false] rfl rfl (any_of HT_.out (by kernel_rfl)) (fun _ _ _ h => h) (Or.inl ⟨by rfl, ?_⟩) ?_ ?_
        rotate_left
        ·intro w'
         go_simp
         with_reducible rfl
        rotate_left
        ·simp only [Act.put, List.setIfInBounds_toArray, List.set_cons_zero, List.set_cons_succ, i64_w, i32_w]
         rfl
        refine take_ (i := 3) (N := some 20) (v := ?_) (a' := ?_) #[true, true, true, true, true, true, true, false, false, false] rfl rfl (take_ofW HT_.out HW_.out (by kernel_rfl)) (fun _ _ _ h => h) (Or.inl ⟨by rfl, ?_⟩) hHeld ?_ ?_
        rotate_left
        ·rintro w' ⟨s0, s1, s2, s3, s4, s5⟩
         go_simp
         with_reducible rfl
        rotate_left
        ·simp only [Act.put, List.setIfInBounds_toArray, List.set_cons_zero, List.set_cons_succ, i64_w, i32_w]
         rfl
        refine take_ (i := 7) (N := some 24) (v := ?_) (a' := ?_) #[true, true, true, true, true, true, true, true, false, false] rfl rfl (take_ofW HT_.out HW_.out (by kernel_rfl)) (fun _ _ _ h => h) (Or.inl ⟨by rfl, ?_⟩) hHeld ?_ ?_
        rotate_left
        ·rintro w' ⟨s0, s1, s2, s3, s4, s5⟩
         go_simp
         with_reducible rfl
        rotate_left
        ·simp only [Act.put, List.setIfInBounds_toArray, List.set_cons_zero, List.set_cons_succ, i64_w, i32_w]
         rfl
        refine one_ (i := 8) (N := some 25) #[true, true, true, true, true, true, true, true, true, false] rfl rfl (one_of HT_.out (by kernel_rfl)) (by decide) (fun K hK => ?_)
        refine goes_ Try.func145 (by kernel_rfl) rfl #[.agg #[.int .i64 ((rd_T132 l0 x5_1).f0), .int .i64 ((rd_T132 l0 x5_1).f1), .string ((rd_T132 l0 x5_1).f2)], .agg #[.int .i64 ((rd_T132 l1 x5_1).f0), .int .i64 ((rd_T132 l1 x5_1).f1), .string ((rd_T132 l1 x5_1).f2)]] (by rfl) rfl rfl (by (try simp only [List.map_toArray, List.map_cons, List.map_nil]); first | done | rfl | (simp only [List.length_drop, List.length_take]; rfl)) ?_
        with_reducible refine (laws_eqMove.calls ((rd_T132 l0 x5_1).f0) ((rd_T132 l0 x5_1).f1) ((rd_T132 l0 x5_1).f2) ((rd_T132 l1 x5_1).f0) ((rd_T132 l1 x5_1).f1) ((rd_T132 l1 x5_1).f2) true _ A7.out).mono ?_
        rintro e w10 ⟨rfl, hb⟩
        refine ⟨_, rfl, ?_⟩
        have n0_ := Aside0.mk (below_step (by repeat (first | (with_reducible first | exact HB.out | apply below_alloc | apply pw_below_drewN | apply below_drew1) | exact HB.out)) hb)
        clear HB
        have HB := n0_
        clear n0_
        (try clear hb)
        (try clear hb2)
        (try clear hk)
        (try clear hi)
        refine hK.out _ _ ⟨((HB.out.cell (World.block_lt_of_cell? w _ hw1172_0)).trans hw1172_0), ((HB.out.cell (World.block_lt_of_cell? w _ hw1172_1)).trans hw1172_1), ((HB.out.cell (World.block_lt_of_cell? w _ hw1172_2)).trans hw1172_2), ((HB.out.cell (World.block_lt_of_cell? w _ hw1173_0)).trans hw1173_0), ((HB.out.cell (World.block_lt_of_cell? w _ hw1173_1)).trans hw1173_1), ((HB.out.cell (World.block_lt_of_cell? w _ hw1173_2)).trans hw1173_2)⟩ (fun hHeld => ?_)
        clear hK K
        refine norm_ (a' := ?_) ?_ ?_
        rotate_left
        ·show Act.put _ (some 25) _ = _
         simp only [Act.put, List.setIfInBounds_toArray, List.set_cons_zero, List.set_cons_succ, i64_w, i32_w]
         rfl
        refine pure_ (i := 9) (N := some 26) (v := ?_) (a' := ?_) #[true, true, true, true, true, true, true, true, true, true] rfl rfl (any_of HT_.out (by kernel_rfl)) (fun _ _ _ h => h) (Or.inl ⟨by rfl, ?_⟩) ?_ ?_
        rotate_left
        ·intro w'
         go_simp
         with_reducible rfl
        rotate_left
        ·simp only [Act.put, List.setIfInBounds_toArray, List.set_cons_zero, List.set_cons_succ, i64_w, i32_w]
         rfl
        refine done_ (done_of HT_.out (by kernel_rfl)) ?_
        try go_wp2
        go_roundg k1
        case measure => have := HK1.out; omega
        case rel => exact ⟨(wrap64 (x5_1 + 1)), (by first | rfl | (simp; done) | (simp [*]; done)), H', ⟨by have := HK1.out; omega⟩, ⟨by repeat (first | (with_reducible first | exact HB.out | apply below_alloc | apply pw_below_drewN | apply below_drew1) | exact HB.out)⟩⟩
       ·replace c8 := Bool.eq_false_iff.mpr c8
        subst c8
        have H1 : (some false) = some r := by rw [if_neg (show ¬ (false = true) by decide)] at H; exact H
        clear H
        have H := H1
        clear H1
        obtain rfl := Option.some.inj H
        try go_wp2
        have n0_ := Aside0.mk (below_drew1 HB.out)
        clear HB
        have HB := n0_
        clear n0_
        have p1172 : 0 ≤ (x5_1 : Int) := of_decide_eq_true (by first | (with_reducible assumption) | assumption)
        have q1172 : x5_1 < (l0.length : Int) := of_decide_eq_true (by first | (with_reducible assumption) | assumption)
        obtain ⟨ad1172, e1172, hx1172_0, hx1172_1, hx1172_2⟩ := at_T132 HR0.out x5_1 p1172 q1172
        have hw1172_2 := hx1172_2
        have hw1172_1 := hx1172_1
        have hw1172_0 := hx1172_0
        cases e1172
        replace hx1172_0 := (HB.out.cell (World.block_lt_of_cell? w _ hx1172_0)).trans hx1172_0
        replace hx1172_1 := (HB.out.cell (World.block_lt_of_cell? w _ hx1172_1)).trans hx1172_1
        replace hx1172_2 := (HB.out.cell (World.block_lt_of_cell? w _ hx1172_2)).trans hx1172_2
        replace p1172 := eq_true p1172
        replace q1172 := eq_true q1172
        have p1173 : 0 ≤ (x5_1 : Int) := of_decide_eq_true (by first | (with_reducible assumption) | assumption)
        have q1173 : x5_1 < (l1.length : Int) := of_decide_eq_true (by first | (with_reducible assumption) | assumption)
        obtain ⟨ad1173, e1173, hx1173_0, hx1173_1, hx1173_2⟩ := at_T132 HR1.out x5_1 p1173 q1173
        have hw1173_2 := hx1173_2
        have hw1173_1 := hx1173_1
        have hw1173_0 := hx1173_0
        cases e1173
        replace hx1173_0 := (HB.out.cell (World.block_lt_of_cell? w _ hx1173_0)).trans hx1173_0
        replace hx1173_1 := (HB.out.cell (World.block_lt_of_cell? w _ hx1173_1)).trans hx1173_1
        replace hx1173_2 := (HB.out.cell (World.block_lt_of_cell? w _ hx1173_2)).trans hx1173_2
        replace p1173 := eq_true p1173
        replace q1173 := eq_true q1173
        refine start_ (n := 10) (S := fun w' => w'.cell? (ad1172.add ((x5_1).toNat * 3)) = some (.int .i64 ((rd_T132 l0 x5_1).f0)) ∧ w'.cell? ⟨(ad1172.add ((x5_1).toNat * 3)).block, (ad1172.add ((x5_1).toNat * 3)).off + 1, none⟩ = some (.int .i64 ((rd_T132 l0 x5_1).f1)) ∧ w'.cell? ⟨(ad1172.add ((x5_1).toNat * 3)).block, (ad1172.add ((x5_1).toNat * 3)).off + 2, none⟩ = some (.string ((rd_T132 l0 x5_1).f2)) ∧ w'.cell? (ad1173.add ((x5_1).toNat * 3)) = some (.int .i64 ((rd_T132 l1 x5_1).f0)) ∧ w'.cell? ⟨(ad1173.add ((x5_1).toNat * 3)).block, (ad1173.add ((x5_1).toNat * 3)).off + 1, none⟩ = some (.int .i64 ((rd_T132 l1 x5_1).f1)) ∧ w'.cell? ⟨(ad1173.add ((x5_1).toNat * 3)).block, (ad1173.add ((x5_1).toNat * 3)).off + 2, none⟩ = some (.string ((rd_T132 l1 x5_1).f2))) (ds := []) #[false, false, false, false, false, false, false, false, false, false] (by kernel_rfl) rfl rfl ⟨((HB.out.cell (World.block_lt_of_cell? w _ hw1172_0)).trans hw1172_0), ((HB.out.cell (World.block_lt_of_cell? w _ hw1172_1)).trans hw1172_1), ((HB.out.cell (World.block_lt_of_cell? w _ hw1172_2)).trans hw1172_2), ((HB.out.cell (World.block_lt_of_cell? w _ hw1173_0)).trans hw1173_0), ((HB.out.cell (World.block_lt_of_cell? w _ hw1173_1)).trans hw1173_1), ((HB.out.cell (World.block_lt_of_cell? w _ hw1173_2)).trans hw1173_2)⟩ (fun hHeld => ?_); refine with_tabW laws_eqMoveS.tab6 laws_eqMoveS.bits6 (fun HT_ HW_ => ?_)
        generalize wr.drew = w11 at HB hx1172_0 hx1172_1 hx1172_2 hx1173_0 hx1173_1 hx1173_2 hHeld ⊢
        refine pure_ (i := 0) (N := some 17) (v := ?_) (a' := ?_) #[true, false, false, false, false, false, false, false, false, false] rfl rfl (any_of HT_.out (by kernel_rfl)) (fun _ _ _ h => h) (Or.inl ⟨by rfl, ?_⟩) ?_ ?_
        rotate_left
        ·intro w'
         go_simp
         with_reducible rfl
        rotate_left
        ·simp only [Act.put, List.setIfInBounds_toArray, List.set_cons_zero, List.set_cons_succ, i64_w, i32_w]
         rfl
        refine pure_ (i := 1) (N := some 18) (v := ?_) (a' := ?_) #[true, true, false, false, false, false, false, false, false, false] rfl rfl (any_of HT_.out (by kernel_rfl)) (fun _ _ _ h => h) (Or.inl ⟨by rfl, ?_⟩) ?_ ?_
        rotate_left
        ·intro w'
         go_simp
         with_reducible rfl
        rotate_left
        ·simp only [Act.put, List.setIfInBounds_toArray, List.set_cons_zero, List.set_cons_succ, i64_w, i32_w]
         rfl
        refine pure_ (i := 2) (N := some 19) (v := ?_) (a' := ?_) #[true, true, true, false, false, false, false, false, false, false] rfl rfl (any_of HT_.out (by kernel_rfl)) (fun _ _ _ h => h) (Or.inl ⟨by rfl, ?_⟩) ?_ ?_
        rotate_left
        ·intro w'
         go_simp
         with_reducible rfl
        rotate_left
        ·simp only [Act.put, List.setIfInBounds_toArray, List.set_cons_zero, List.set_cons_succ, i64_w, i32_w]
         rfl
        refine pure_ (i := 4) (N := some 21) (v := ?_) (a' := ?_) #[true, true, true, false, true, false, false, false, false, false] rfl rfl (any_of HT_.out (by kernel_rfl)) (fun _ _ _ h => h) (Or.inl ⟨by rfl, ?_⟩) ?_ ?_
        rotate_left
        ·intro w'
         go_simp
         with_reducible rfl
        rotate_left
        ·simp only [Act.put, List.setIfInBounds_toArray, List.set_cons_zero, List.set_cons_succ, i64_w, i32_w]
         rfl
        refine pure_ (i := 5) (N := some 22) (v := ?_) (a' := ?_) #[true, true, true, false, true, true, false, false, false, false] rfl rfl (any_of HT_.out (by kernel_rfl)) (fun _ _ _ h => h) (Or.inl ⟨by rfl, ?_⟩) ?_ ?_
        rotate_left
        ·intro w'
         go_simp
         with_reducible rfl
        rotate_left
        ·simp only [Act.put, List.setIfInBounds_toArray, List.set_cons_zero, List.set_cons_succ, i64_w, i32_w]
         rfl
        refine pure_ (i := 6) (N := some 23) (v := ?_) (a' := ?_) #[true, true, true, false, true, true, true, false, false, false] rfl rfl (any_of HT_.out (by kernel_rfl)) (fun _ _ _ h => h) (Or.inl ⟨by rfl, ?_⟩) ?_ ?_
        rotate_left
        ·intro w'
         go_simp
         with_reducible rfl
        rotate_left
        ·simp only [Act.put, List.setIfInBounds_toArray, List.set_cons_zero, List.set_cons_succ, i64_w, i32_w]
         rfl
        refine take_ (i := 3) (N := some 20) (v := ?_) (a' := ?_) #[true, true, true, true, true, true, true, false, false, false] rfl rfl (take_ofW HT_.out HW_.out (by kernel_rfl)) (fun _ _ _ h => h) (Or.inl ⟨by rfl, ?_⟩) hHeld ?_ ?_
        rotate_left
        ·rintro w' ⟨s0, s1, s2, s3, s4, s5⟩
         go_simp
         with_reducible rfl
        rotate_left
        ·simp only [Act.put, List.setIfInBounds_toArray, List.set_cons_zero, List.set_cons_succ, i64_w, i32_w]
         rfl
        refine take_ (i := 7) (N := some 24) (v := ?_) (a' := ?_) #[true, true, true, true, true, true, true, true, false, false] rfl rfl (take_ofW HT_.out HW_.out (by kernel_rfl)) (fun _ _ _ h => h) (Or.inl ⟨by rfl, ?_⟩) hHeld ?_ ?_
        rotate_left
        ·rintro w' ⟨s0, s1, s2, s3, s4, s5⟩
         go_simp
         with_reducible rfl
        rotate_left
        ·simp only [Act.put, List.setIfInBounds_toArray, List.set_cons_zero, List.set_cons_succ, i64_w, i32_w]
         rfl
        refine one_ (i := 8) (N := some 25) #[true, true, true, true, true, true, true, true, true, false] rfl rfl (one_of HT_.out (by kernel_rfl)) (by decide) (fun K hK => ?_)
        refine goes_ Try.func145 (by kernel_rfl) rfl #[.agg #[.int .i64 ((rd_T132 l0 x5_1).f0), .int .i64 ((rd_T132 l0 x5_1).f1), .string ((rd_T132 l0 x5_1).f2)], .agg #[.int .i64 ((rd_T132 l1 x5_1).f0), .int .i64 ((rd_T132 l1 x5_1).f1), .string ((rd_T132 l1 x5_1).f2)]] (by rfl) rfl rfl (by (try simp only [List.map_toArray, List.map_cons, List.map_nil]); first | done | rfl | (simp only [List.length_drop, List.length_take]; rfl)) ?_
        with_reducible refine (laws_eqMove.calls ((rd_T132 l0 x5_1).f0) ((rd_T132 l0 x5_1).f1) ((rd_T132 l0 x5_1).f2) ((rd_T132 l1 x5_1).f0) ((rd_T132 l1 x5_1).f1) ((rd_T132 l1 x5_1).f2) false _ A7.out).mono ?_
        rintro e w12 ⟨rfl, hb⟩
        refine ⟨_, rfl, ?_⟩
        have n0_ := Aside0.mk (below_step (by repeat (first | (with_reducible first | exact HB.out | apply below_alloc | apply pw_below_drewN | apply below_drew1) | exact HB.out)) hb)
        clear HB
        have HB := n0_
        clear n0_
        (try clear hb)
        (try clear hb2)
        (try clear hk)
        (try clear hi)
        refine hK.out _ _ ⟨((HB.out.cell (World.block_lt_of_cell? w _ hw1172_0)).trans hw1172_0), ((HB.out.cell (World.block_lt_of_cell? w _ hw1172_1)).trans hw1172_1), ((HB.out.cell (World.block_lt_of_cell? w _ hw1172_2)).trans hw1172_2), ((HB.out.cell (World.block_lt_of_cell? w _ hw1173_0)).trans hw1173_0), ((HB.out.cell (World.block_lt_of_cell? w _ hw1173_1)).trans hw1173_1), ((HB.out.cell (World.block_lt_of_cell? w _ hw1173_2)).trans hw1173_2)⟩ (fun hHeld => ?_)
        clear hK K
        refine norm_ (a' := ?_) ?_ ?_
        rotate_left
        ·show Act.put _ (some 25) _ = _
         simp only [Act.put, List.setIfInBounds_toArray, List.set_cons_zero, List.set_cons_succ, i64_w, i32_w]
         rfl
        refine pure_ (i := 9) (N := some 26) (v := ?_) (a' := ?_) #[true, true, true, true, true, true, true, true, true, true] rfl rfl (any_of HT_.out (by kernel_rfl)) (fun _ _ _ h => h) (Or.inl ⟨by rfl, ?_⟩) ?_ ?_
        rotate_left
        ·intro w'
         go_simp
         with_reducible rfl
        rotate_left
        ·simp only [Act.put, List.setIfInBounds_toArray, List.set_cons_zero, List.set_cons_succ, i64_w, i32_w]
         rfl
        refine done_ (done_of HT_.out (by kernel_rfl)) ?_
        try go_wp2
        go_ret
        exact ⟨by first | rfl | (simp [errW_none, errW_some] <;> rfl) | (simp [*, errW_none, errW_some] <;> rfl), by repeat (first | (with_reducible first | exact HB.out | apply below_alloc | apply pw_below_drewN | apply below_drew1) | exact HB.out)⟩
      ·rw [if_neg c6] at H
       exact absurd H (by simp)
     ·rw [if_neg c5] at H
      exact absurd H (by simp)
    ·rw [if_neg c4] at H
     have c4b0 : decide (x5_1 < (l0.length : Int)) = false := decide_eq_false c4
     clear c4
     obtain rfl := Option.some.inj H
     go_wp2
     go_ret
     exact ⟨by first | rfl | (simp [errW_none, errW_some] <;> rfl) | (simp [*, errW_none, errW_some] <;> rfl), by repeat (first | (with_reducible first | exact HB.out | apply below_alloc | apply pw_below_drewN | apply below_drew1) | exact HB.out)⟩
 ·rw [if_neg c3] at H
  have c3b0 : ((l0.length : Int) == (l1.length : Int)) = false := beq_eq_false_iff_ne.mpr c3
  have c3b1 : ((l0.length : Int) != (l1.length : Int)) = true := bne_iff_ne.mpr c3
  have c3b2 : (l0.length == l1.length) = false := by first | simpa using c3 | (simp at c3 ⊢; omega)
  obtain rfl := Option.some.inj H
  go_enter Try.func64, Try.ntmps64
  go_wp2
  go_ret
  exact ⟨by first | rfl | (simp [errW_none, errW_some] <;> rfl) | (simp [*, errW_none, errW_some] <;> rfl), by repeat (first | (with_reducible first | exact HB.out | apply below_alloc | apply pw_below_drewN | apply below_drew1) | exact HB.out)⟩
/-! ### laws_eqUpdate: function 17 -/
def laws_eqUpdate.f (a0_0 : Int) (a0_1 : ByteArray) (a1_0 : Int) (a1_1 : ByteArray) : Option (Bool) := if a0_0 = a1_0 then (if a0_1.toList = a1_1.toList then (some true) else (some false)) else (some false)
set_option maxHeartbeats 8000000 in
set_option maxRecDepth 100000 in
theorem laws_eqUpdate.calls (a0_0 : Int) (a0_1 : ByteArray) (a1_0 : Int) (a1_1 : ByteArray) (r : Bool) (w : World) (h : laws_eqUpdate.f a0_0 a0_1 a1_0 a1_1 = some r) :
    Calls Try.prog 17 #[.agg #[.int .i64 a0_0, .string a0_1], .agg #[.int .i64 a1_0, .string a1_1]] w fun e w' => e = .returned (.bool r) ∧ Below w.heap.size w w' := by
 have hu23 := Try.underlying23
 have HB := Aside0.mk (Below.refl w.heap.size w)
 have H : (if a0_0 = a1_0 then (if a0_1.toList = a1_1.toList then (some true) else (some false)) else (some false)) = some r := h
 clear h
 by_cases c3 : a0_0 = a1_0
 ·rw [if_pos c3] at H
  have c3b0 : (a0_0 == a1_0) = true := beq_iff_eq.mpr c3
  have c3b1 : (a0_0 != a1_0) = false := bne_eq_false_iff_eq.mpr c3
  clear c3
  by_cases c4 : a0_1.toList = a1_1.toList
  ·rw [if_pos c4] at H
   have c4b0 : (a0_1.toList == a1_1.toList) = true := beq_iff_eq.mpr c4
   have c4b1 : (a0_1.toList != a1_1.toList) = false := bne_eq_false_iff_eq.mpr c4
   clear c4
   obtain rfl := Option.some.inj H
   go_enter Try.func17, Try.ntmps17
   go_wp2_with (first | ((with_reducible refine gate_dst (N := 2) rfl ?_); refine box_event ?hg (N := 2) ?hd (cs := #[.int .i64 a0_0, .string a0_1]) (t := 23) ?hr ?_; (case hd => rfl); (case hg => rfl); (case hr => first | (go_simp; done) | (go_simp; rfl)); intro gb225 hg w5 hbox hb; have n0_ := Aside0.mk (below_step (by repeat (first | (with_reducible first | exact HB.out | apply below_alloc | apply pw_below_drewN | apply below_drew1) | exact HB.out)) hb); have n1_ := Aside0.mk (hbox); have n2_ := Aside0.mk ((by rw [hg]; exact (below_size (by repeat (first | (with_reducible first | exact HB.out | apply below_alloc | apply pw_below_drewN | apply below_drew1) | exact HB.out))) : w.heap.size ≤ gb225)); have n3_ := Aside0.mk ((by rw [hg]; exact (below_size (by repeat (first | (with_reducible first | exact HB.out | apply below_alloc | apply pw_below_drewN | apply below_drew1) | exact HB.out))) : w.heap.size ≤ gb225)); clear HB; have HB := n0_; have BK225 := n1_; have GW225 := n2_; have GE225 := n3_; clear n0_ n1_ n2_ n3_; clear hb hbox hg) | ((with_reducible refine gate_dst (N := 3) rfl ?_); refine box_event ?hg (N := 3) ?hd (cs := #[.int .i64 a1_0, .string a1_1]) (t := 23) ?hr ?_; (case hd => rfl); (case hg => rfl); (case hr => first | (go_simp; done) | (go_simp; rfl)); intro gb226 hg w6 hbox hb; have n0_ := Aside0.mk (blk_below (g := gb225) (o := .cells #[.int .i64 a0_0, .string a0_1] 23 (0, 0)) (by (with_reducible repeat (first | refine blk_drewN ?_ _ | refine blk_drew ?_ | refine blk_alloc ?_ _)); exact BK225.out) hb); have n1_ := Aside0.mk (below_step (by repeat (first | (with_reducible first | exact HB.out | apply below_alloc | apply pw_below_drewN | apply below_drew1 | refine below_set ?_ GE225.out) | exact HB.out)) hb); have n2_ := Aside0.mk (hbox); have n3_ := Aside0.mk ((by rw [hg]; exact (below_size (by repeat (first | (with_reducible first | exact HB.out | apply below_alloc | apply pw_below_drewN | apply below_drew1 | refine below_set ?_ GE225.out) | exact HB.out))) : w.heap.size ≤ gb226)); have n4_ := Aside0.mk ((by rw [hg]; exact (below_size (by repeat (first | (with_reducible first | exact HB.out | apply below_alloc | apply pw_below_drewN | apply below_drew1 | refine below_set ?_ GE225.out) | exact HB.out))) : w.heap.size ≤ gb226)); have n5_ := Aside0.mk ((by rw [hg]; exact Nat.ne_of_lt (blk_lt (g := gb225) (o := .cells #[.int .i64 a0_0, .string a0_1] 23 (0, 0)) (by (with_reducible repeat (first | refine blk_drewN ?_ _ | refine blk_drew ?_ | refine blk_alloc ?_ _)); exact BK225.out)) : gb225 ≠ gb226)); have n6_ := Aside0.mk ((by rw [hg]; exact Nat.ne_of_gt (blk_lt (g := gb225) (o := .cells #[.int .i64 a0_0, .string a0_1] 23 (0, 0)) (by (with_reducible repeat (first | refine blk_drewN ?_ _ | refine blk_drew ?_ | refine blk_alloc ?_ _)); exact BK225.out)) : gb226 ≠ gb225)); clear BK225; clear HB; have BK225 := n0_; have HB := n1_; have BK226 := n2_; have GW226 := n3_; have GE226 := n4_; have NB225_226 := n5_; have NB226_225 := n6_; clear n0_ n1_ n2_ n3_ n4_ n5_ n6_; clear hb hbox hg; have hnb7 := NB225_226.out; have hnc7 := NB226_225.out; have hcz8_0 : w6.cell? ⟨gb225, 0, none⟩ = some (.int .i64 a0_0) := (blk_cell BK225.out 0).trans rfl; have hcz8_1 : w6.cell? ⟨gb225, 1, none⟩ = some (.string a0_1) := (blk_cell BK225.out 1).trans rfl; have hfz8_0 := blk_frozen BK225.out 0; have hfz8_1 := blk_frozen BK225.out 1; have hcz9_0 : w6.cell? ⟨gb226, 0, none⟩ = some (.int .i64 a1_0) := (blk_cell BK226.out 0).trans rfl; have hcz9_1 : w6.cell? ⟨gb226, 1, none⟩ = some (.string a1_1) := (blk_cell BK226.out 1).trans rfl; have hfz9_0 := blk_frozen BK226.out 0; have hfz9_1 := blk_frozen BK226.out 1))
   go_ret
   exact ⟨by first | rfl | (simp [errW_none, errW_some] <;> rfl) | (simp [*, errW_none, errW_some] <;> rfl), by repeat (first | (with_reducible first | exact HB.out | apply below_alloc | apply pw_below_drewN | apply below_drew1 | refine below_set ?_ GE225.out | refine below_set ?_ GE226.out) | exact HB.out)⟩
  ·rw [if_neg c4] at H
   have c4b0 : (a0_1.toList == a1_1.toList) = false := beq_eq_false_iff_ne.mpr c4
   have c4b1 : (a0_1.toList != a1_1.toList) = true := bne_iff_ne.mpr c4
   obtain rfl := Option.some.inj H
   go_enter Try.func17, Try.ntmps17
   go_wp2_with (first | ((with_reducible refine gate_dst (N := 2) rfl ?_); refine box_event ?hg (N := 2) ?hd (cs := #[.int .i64 a0_0, .string a0_1]) (t := 23) ?hr ?_; (case hd => rfl); (case hg => rfl); (case hr => first | (go_simp; done) | (go_simp; rfl)); intro gb225 hg w10 hbox hb; have n0_ := Aside0.mk (below_step (by repeat (first | (with_reducible first | exact HB.out | apply below_alloc | apply pw_below_drewN | apply below_drew1) | exact HB.out)) hb); have n1_ := Aside0.mk (hbox); have n2_ := Aside0.mk ((by rw [hg]; exact (below_size (by repeat (first | (with_reducible first | exact HB.out | apply below_alloc | apply pw_below_drewN | apply below_drew1) | exact HB.out))) : w.heap.size ≤ gb225)); have n3_ := Aside0.mk ((by rw [hg]; exact (below_size (by repeat (first | (with_reducible first | exact HB.out | apply below_alloc | apply pw_below_drewN | apply below_drew1) | exact HB.out))) : w.heap.size ≤ gb225)); clear HB; have HB := n0_; have BK225 := n1_; have GW225 := n2_; have GE225 := n3_; clear n0_ n1_ n2_ n3_; clear hb hbox hg) | ((with_reducible refine gate_dst (N := 3) rfl ?_); refine box_event ?hg (N := 3) ?hd (cs := #[.int .i64 a1_0, .string a1_1]) (t := 23) ?hr ?_; (case hd => rfl); (case hg => rfl); (case hr => first | (go_simp; done) | (go_simp; rfl)); intro gb226 hg w11 hbox hb; have n0_ := Aside0.mk (blk_below (g := gb225) (o := .cells #[.int .i64 a0_0, .string a0_1] 23 (0, 0)) (by (with_reducible repeat (first | refine blk_drewN ?_ _ | refine blk_drew ?_ | refine blk_alloc ?_ _)); exact BK225.out) hb); have n1_ := Aside0.mk (below_step (by repeat (first | (with_reducible first | exact HB.out | apply below_alloc | apply pw_below_drewN | apply below_drew1 | refine below_set ?_ GE225.out) | exact HB.out)) hb); have n2_ := Aside0.mk (hbox); have n3_ := Aside0.mk ((by rw [hg]; exact (below_size (by repeat (first | (with_reducible first | exact HB.out | apply below_alloc | apply pw_below_drewN | apply below_drew1 | refine below_set ?_ GE225.out) | exact HB.out))) : w.heap.size ≤ gb226)); have n4_ := Aside0.mk ((by rw [hg]; exact (below_size (by repeat (first | (with_reducible first | exact HB.out | apply below_alloc | apply pw_below_drewN | apply below_drew1 | refine below_set ?_ GE225.out) | exact HB.out))) : w.heap.size ≤ gb226)); have n5_ := Aside0.mk ((by rw [hg]; exact Nat.ne_of_lt (blk_lt (g := gb225) (o := .cells #[.int .i64 a0_0, .string a0_1] 23 (0, 0)) (by (with_reducible repeat (first | refine blk_drewN ?_ _ | refine blk_drew ?_ | refine blk_alloc ?_ _)); exact BK225.out)) : gb225 ≠ gb226)); have n6_ := Aside0.mk ((by rw [hg]; exact Nat.ne_of_gt (blk_lt (g := gb225) (o := .cells #[.int .i64 a0_0, .string a0_1] 23 (0, 0)) (by (with_reducible repeat (first | refine blk_drewN ?_ _ | refine blk_drew ?_ | refine blk_alloc ?_ _)); exact BK225.out)) : gb226 ≠ gb225)); clear BK225; clear HB; have BK225 := n0_; have HB := n1_; have BK226 := n2_; have GW226 := n3_; have GE226 := n4_; have NB225_226 := n5_; have NB226_225 := n6_; clear n0_ n1_ n2_ n3_ n4_ n5_ n6_; clear hb hbox hg; have hnb12 := NB225_226.out; have hnc12 := NB226_225.out; have hcz13_0 : w11.cell? ⟨gb225, 0, none⟩ = some (.int .i64 a0_0) := (blk_cell BK225.out 0).trans rfl; have hcz13_1 : w11.cell? ⟨gb225, 1, none⟩ = some (.string a0_1) := (blk_cell BK225.out 1).trans rfl; have hfz13_0 := blk_frozen BK225.out 0; have hfz13_1 := blk_frozen BK225.out 1; have hcz14_0 : w11.cell? ⟨gb226, 0, none⟩ = some (.int .i64 a1_0) := (blk_cell BK226.out 0).trans rfl; have hcz14_1 : w11.cell? ⟨gb226, 1, none⟩ = some (.string a1_1) := (blk_cell BK226.out 1).trans rfl; have hfz14_0 := blk_frozen BK226.out 0; have hfz14_1 := blk_frozen BK226.out 1))
   go_ret
   exact ⟨by first | rfl | (simp [errW_none, errW_some] <;> rfl) | (simp [*, errW_none, errW_some] <;> rfl), by repeat (first | (with_reducible first | exact HB.out | apply below_alloc | apply pw_below_drewN | apply below_drew1 | refine below_set ?_ GE225.out | refine below_set ?_ GE226.out) | exact HB.out)⟩
 ·rw [if_neg c3] at H
  have c3b0 : (a0_0 == a1_0) = false := beq_eq_false_iff_ne.mpr c3
  have c3b1 : (a0_0 != a1_0) = true := bne_iff_ne.mpr c3
  obtain rfl := Option.some.inj H
  go_enter Try.func17, Try.ntmps17
  go_wp2_with (first | ((with_reducible refine gate_dst (N := 2) rfl ?_); refine box_event ?hg (N := 2) ?hd (cs := #[.int .i64 a0_0, .string a0_1]) (t := 23) ?hr ?_; (case hd => rfl); (case hg => rfl); (case hr => first | (go_simp; done) | (go_simp; rfl)); intro gb225 hg w15 hbox hb; have n0_ := Aside0.mk (below_step (by repeat (first | (with_reducible first | exact HB.out | apply below_alloc | apply pw_below_drewN | apply below_drew1) | exact HB.out)) hb); have n1_ := Aside0.mk (hbox); have n2_ := Aside0.mk ((by rw [hg]; exact (below_size (by repeat (first | (with_reducible first | exact HB.out | apply below_alloc | apply pw_below_drewN | apply below_drew1) | exact HB.out))) : w.heap.size ≤ gb225)); have n3_ := Aside0.mk ((by rw [hg]; exact (below_size (by repeat (first | (with_reducible first | exact HB.out | apply below_alloc | apply pw_below_drewN | apply below_drew1) | exact HB.out))) : w.heap.size ≤ gb225)); clear HB; have HB := n0_; have BK225 := n1_; have GW225 := n2_; have GE225 := n3_; clear n0_ n1_ n2_ n3_; clear hb hbox hg) | ((with_reducible refine gate_dst (N := 3) rfl ?_); refine box_event ?hg (N := 3) ?hd (cs := #[.int .i64 a1_0, .string a1_1]) (t := 23) ?hr ?_; (case hd => rfl); (case hg => rfl); (case hr => first | (go_simp; done) | (go_simp; rfl)); intro gb226 hg w16 hbox hb; have n0_ := Aside0.mk (blk_below (g := gb225) (o := .cells #[.int .i64 a0_0, .string a0_1] 23 (0, 0)) (by (with_reducible repeat (first | refine blk_drewN ?_ _ | refine blk_drew ?_ | refine blk_alloc ?_ _)); exact BK225.out) hb); have n1_ := Aside0.mk (below_step (by repeat (first | (with_reducible first | exact HB.out | apply below_alloc | apply pw_below_drewN | apply below_drew1 | refine below_set ?_ GE225.out) | exact HB.out)) hb); have n2_ := Aside0.mk (hbox); have n3_ := Aside0.mk ((by rw [hg]; exact (below_size (by repeat (first | (with_reducible first | exact HB.out | apply below_alloc | apply pw_below_drewN | apply below_drew1 | refine below_set ?_ GE225.out) | exact HB.out))) : w.heap.size ≤ gb226)); have n4_ := Aside0.mk ((by rw [hg]; exact (below_size (by repeat (first | (with_reducible first | exact HB.out | apply below_alloc | apply pw_below_drewN | apply below_drew1 | refine below_set ?_ GE225.out) | exact HB.out))) : w.heap.size ≤ gb226)); have n5_ := Aside0.mk ((by rw [hg]; exact Nat.ne_of_lt (blk_lt (g := gb225) (o := .cells #[.int .i64 a0_0, .string a0_1] 23 (0, 0)) (by (with_reducible repeat (first | refine blk_drewN ?_ _ | refine blk_drew ?_ | refine blk_alloc ?_ _)); exact BK225.out)) : gb225 ≠ gb226)); have n6_ := Aside0.mk ((by rw [hg]; exact Nat.ne_of_gt (blk_lt (g := gb225) (o := .cells #[.int .i64 a0_0, .string a0_1] 23 (0, 0)) (by (with_reducible repeat (first | refine blk_drewN ?_ _ | refine blk_drew ?_ | refine blk_alloc ?_ _)); exact BK225.out)) : gb226 ≠ gb225)); clear BK225; clear HB; have BK225 := n0_; have HB := n1_; have BK226 := n2_; have GW226 := n3_; have GE226 := n4_; have NB225_226 := n5_; have NB226_225 := n6_; clear n0_ n1_ n2_ n3_ n4_ n5_ n6_; clear hb hbox hg; have hnb17 := NB225_226.out; have hnc17 := NB226_225.out; have hcz18_0 : w16.cell? ⟨gb225, 0, none⟩ = some (.int .i64 a0_0) := (blk_cell BK225.out 0).trans rfl; have hcz18_1 : w16.cell? ⟨gb225, 1, none⟩ = some (.string a0_1) := (blk_cell BK225.out 1).trans rfl; have hfz18_0 := blk_frozen BK225.out 0; have hfz18_1 := blk_frozen BK225.out 1; have hcz19_0 : w16.cell? ⟨gb226, 0, none⟩ = some (.int .i64 a1_0) := (blk_cell BK226.out 0).trans rfl; have hcz19_1 : w16.cell? ⟨gb226, 1, none⟩ = some (.string a1_1) := (blk_cell BK226.out 1).trans rfl; have hfz19_0 := blk_frozen BK226.out 0; have hfz19_1 := blk_frozen BK226.out 1))
  go_ret
  exact ⟨by first | rfl | (simp [errW_none, errW_some] <;> rfl) | (simp [*, errW_none, errW_some] <;> rfl), by repeat (first | (with_reducible first | exact HB.out | apply below_alloc | apply pw_below_drewN | apply below_drew1 | refine below_set ?_ GE225.out | refine below_set ?_ GE226.out) | exact HB.out)⟩
end Go.Proofs.Ythlbjmgoibnopaa.Q
