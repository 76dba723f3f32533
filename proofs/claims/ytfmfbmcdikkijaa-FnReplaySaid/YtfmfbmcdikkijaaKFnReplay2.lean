/- What laws.FnReplay reaches, part 2: the functions as Lean functions, the proofs that the program's functions answer so, and plain laws about them. -/
import Derived.Test.YtfmfbmcdikkijaaKFnReplay1
namespace Go.Proofs.Ytfmfbmcdikkijaa.Q
open Go.RowKit Go.Proofs.Ytfmfbmcdikkijaa.Ext Go.Proofs.YtfmfbmcdikkijaaW.PrintWords Go.Proofs.YtfmfbmcdikkijaaW.PrintLast Go.Proofs.YtfmfbmcdikkijaaW.PrintMore
attribute [local go_sem] max2_int min2_int max_two min_two max_three min_three max_four min_four   -- for this text's walks alone
set_option linter.unusedVariables false
set_option linter.unusedSimpArgs false

set_option linter.unusedVariables false
set_option linter.unusedSimpArgs false
def impl_JournalPlan.f (k : Nat) (a0 : Int) (a1 : Int) (l2 : List (S45)) : Option ((List (S52)) × Int) := (impl_Update_14.f l2).bind fun t235 => ((impl_isHost.f a0).bind fun t236 => (if t236 = true then ((impl_isNumber.f a1).bind fun t237 => ((all17_impl_updateOK.f l2 ()).bind fun t238 => ((impl_first.f (([Any.b t235, Any.n 2, Any.b (!t237), Any.n 4, Any.b (decide ((l2.length : Int) > 5)), Any.n 6, Any.b (!t238), Any.n 1] : List Any))).bind fun t242 => (if t242 = 0 then ((impl_journal.f k a0 a1 l2).bind fun t243 => (some (t243, 0))) else (some (([] : List (S52)), t242)))))) else ((all17_impl_updateOK.f l2 ()).bind fun t246 => ((impl_first.f (([Any.b t235, Any.n 2, Any.b true, Any.n 4, Any.b (decide ((l2.length : Int) > 5)), Any.n 6, Any.b (!t246), Any.n 1] : List Any))).bind fun t250 => (if t250 = 0 then ((impl_journal.f k a0 a1 l2).bind fun t251 => (some (t251, 0))) else (some (([] : List (S52)), t250)))))))
theorem impl_JournalPlan.mono : ∀ a0 a1 a2 k, LeO (impl_JournalPlan.f k a0 a1 a2) (impl_JournalPlan.f (k + 1) a0 a1 a2) := by
  intro a0 a1 a2 k
  unfold impl_JournalPlan.f
  repeat' first| (with_reducible first | exact impl_journal.mono _ _ _ _ | exact LeO.refl _ | exact LeO.none _ | refine LeO.ite ?_ ?_ | refine LeO.bind ?_ (fun _ => ?_)) | exact impl_journal.mono _ _ _ _ | exact LeO.none _ | refine LeO.ite ?_ ?_ | refine LeO.bind ?_ (fun _ => ?_)
set_option maxHeartbeats 8000000 in
set_option maxRecDepth 100000 in
theorem impl_JournalPlan.calls (k : Nat) (a0 : Int) (a1 : Int) (A2 : Option Addr) (c2 : Nat) (l2 : List (S45)) (r1 : List (S52)) (r2 : Int) (w : World) (hr2 : Kd.C k45 w A2 l2.length l2) (hc2 : l2.length ≤ c2) (h : impl_JournalPlan.f k a0 a1 l2 = some (r1, r2)) :
    Calls Try.prog 6 #[.int .i64 a0, .int .i64 a1, .slice A2 l2.length c2] w fun e w' => ∃ v0_ : Value, e = .returned (.tuple #[v0_, .int .i64 r2]) ∧ Kd.R k52 52 w' w.heap.size (fun _ => True) v0_ r1 ∧ Below w.heap.size w w' := by
 have HR2 := zm hr2; have HC2 := zm hc2; clear hr2 hc2; have HB := zm (Below.refl w.heap.size w); have H := h
 unfold impl_JournalPlan.f at H
 clear h; replace H := Option.bind_eq_some_iff.mp H
 obtain ⟨t235, A40, H⟩ := H
 try dsimp only at H
 have A4 := zm A40; clear A40; replace H := Option.bind_eq_some_iff.mp H
 obtain ⟨t236, A50, H⟩ := H
 try dsimp only at H
 have A5 := zm A50; clear A50
 by_cases c6 : t236 = true
 ·subst c6
  replace H : ((impl_isNumber.f a1).bind fun t237 => ((all17_impl_updateOK.f l2 ()).bind fun t238 => ((impl_first.f (([Any.b t235, Any.n 2, Any.b (!t237), Any.n 4, Any.b (decide ((l2.length : Int) > 5)), Any.n 6, Any.b (!t238), Any.n 1] : List Any))).bind fun t242 => (if t242 = 0 then ((impl_journal.f k a0 a1 l2).bind fun t243 => (some (t243, 0))) else (some (([] : List (S52)), t242)))))) = some (r1, r2) := by rw [if_pos rfl] at H; exact H
  replace H := Option.bind_eq_some_iff.mp H
  obtain ⟨t237, A70, H⟩ := H
  try dsimp only at H
  have A7 := zm A70; clear A70; replace H := Option.bind_eq_some_iff.mp H
  obtain ⟨t238, A80, H⟩ := H
  try dsimp only at H
  have A8 := zm A80; clear A80
  obtain ⟨y239, hy239⟩ : ∃ y_ : List Any, y_ = (([Any.b t235, Any.n 2, Any.b (!t237), Any.n 4, Any.b (decide ((l2.length : Int) > 5)), Any.n 6, Any.b (!t238), Any.n 1] : List Any)) := ⟨_, rfl⟩
  replace H : ((impl_first.f y239).bind fun t242 => (if t242 = 0 then ((impl_journal.f k a0 a1 l2).bind fun t243 => (some (t243, 0))) else (some (([] : List (S52)), t242)))) = some (r1, r2) := by first | (rw [hy239]; with_reducible exact H) | (have H2_ := (Option.bind_some _ _).symm.trans H; rw [hy239]; with_reducible exact H2_) | (have H2_ := (Option.bind_some _ _).symm.trans H; with_reducible exact H2_) | with_reducible exact H | (rw [hy239]; exact H) | exact H
  have Ny239 := zm hy239; clear hy239; replace H := Option.bind_eq_some_iff.mp H
  obtain ⟨t242, A90, H⟩ := H
  try dsimp only at H
  have A9 := zm A90; clear A90
  by_cases c10 : t242 = 0
  ·rw [if_pos c10] at H
   have c10b0 : (t242 == 0) = true := beq_iff_eq.mpr c10
   have c10b1 : (t242 != 0) = false := bne_eq_false_iff_eq.mpr c10
   clear c10; replace H := Option.bind_eq_some_iff.mp H
   obtain ⟨t243, A110, H⟩ := H
   replace H : (some (t243, 0)) = some (r1, r2) := H
   have A11 := zm A110; clear A110
   simp only [Option.some.injEq, Prod.mk.injEq] at H
   obtain ⟨rfl, rfl⟩ := H
   go_enter Try.func6, Try.ntmps6
   go_wp2_with (first | ((with_reducible refine gate_callee (f := 14) rfl ?_); refine goesL_ (some 10) rfl rfl Try.func14 (by kernel_rfl) rfl #[.slice A2 l2.length c2] rfl zq ?_; (with_reducible refine (impl_Update_14.calls _ _ l2 t235 _ ?side1 ?side2 A4.out).mono ?_); (case side1 => exact zC HR2.out); (case side2 => exact HC2.out); rintro e w' ⟨rfl, ⟨nd, rfl⟩⟩; refine ⟨_, rfl, ?_⟩) | ((with_reducible refine gate_callee (f := 15) rfl ?_); refine goesL_ (some 14) rfl rfl Try.func15 (by kernel_rfl) rfl #[.int .i64 a0] rfl zq ?_; (with_reducible refine (impl_isHost.calls a0 true _ A5.out).mono ?_); rintro e w' ⟨rfl, ⟨nd, rfl⟩⟩; refine ⟨_, rfl, ?_⟩) | (go_at_call 16; (with_reducible refine (impl_isNumber.calls a1 t237 _ A7.out).mono ?_); rintro e w' ⟨rfl, ⟨nd, rfl⟩⟩) | ((with_reducible refine gate_callee (f := 17) rfl ?_); refine goesL_ (some 29) rfl rfl Try.func17 (by kernel_rfl) rfl #[.slice A2 l2.length c2, .func (.func 18) #[] #[]] rfl zq ?_; (with_reducible refine (all17_impl_updateOK.calls _ _ l2 () t238 _ ?side1 ?side2 A8.out).mono ?_); (case side1 => exact zC HR2.out); (case side2 => exact HC2.out); rintro e w12 ⟨rfl, hb⟩; refine ⟨_, rfl, ?_⟩; have n0_ := zm (below_step (zg_0 HB.out) hb); replace HB := n0_; clear n0_; (try clear hb); (try clear hb2); (try clear hk); (try clear hi)) | ((with_reducible refine gate_dst (N := 33) rfl ?_); refine Kd.R_lit kAny _ 20 ?hg (N := 33) ?hd (xs := ([Any.b t235, Any.n 2, Any.b (!t237), Any.n 4, Any.b (decide ((l2.length : Int) > 5)), Any.n 6, Any.b (!t238), Any.n 1] : List Any)) (inner := [.iface 4 (.bool t235), .iface 3 (.int .i64 2), .iface 4 (.bool (!t237)), .iface 3 (.int .i64 4), .iface 4 (.bool (decide ((l2.length : Int) > 5))), .iface 3 (.int .i64 6), .iface 4 (.bool (!t238)), .iface 3 (.int .i64 1)]) (ok := fun _ => True) (okp := fun _ => True) ?hr ?hp (fun _ hk => hk) trivial (Below.refl _ _) (Nat.le_refl _) (by simp) ?_; (case hd => rfl); (case hg => rfl); (case hr => first | (go_simp; done) | (go_simp; rfl)); (case hp => exact (Reps.one (show Kd.M kAny _ _ _ (Any.b t235) [.iface 4 (.bool t235)] from rfl) (Reps.one (show Kd.M kAny _ _ _ (Any.n 2) [.iface 3 (.int .i64 2)] from rfl) (Reps.one (show Kd.M kAny _ _ _ (Any.b (!t237)) [.iface 4 (.bool (!t237))] from rfl) (Reps.one (show Kd.M kAny _ _ _ (Any.n 4) [.iface 3 (.int .i64 4)] from rfl) (Reps.one (show Kd.M kAny _ _ _ (Any.b (decide ((l2.length : Int) > 5))) [.iface 4 (.bool (decide ((l2.length : Int) > 5)))] from rfl) (Reps.one (show Kd.M kAny _ _ _ (Any.n 6) [.iface 3 (.int .i64 6)] from rfl) (Reps.one (show Kd.M kAny _ _ _ (Any.b (!t238)) [.iface 4 (.bool (!t238))] from rfl) (Reps.one (show Kd.M kAny _ _ _ (Any.n 1) [.iface 3 (.int .i64 1)] from rfl) (Reps.none _ _)))))))))); intro v240 w13 ho14 hb hg_ hnew_; clear hg_ hnew_; (first | rw [← Ny239.out] at ho14 | (simp only [Int.reduceToNat] at ho14; rw [← Ny239.out] at ho14)); have n0_ := zm (Kd.R_lower ho14 (below_size (zg_0 HB.out))); have n1_ := zm (below_step (zg_0 HB.out) hb); have Za := n0_; replace HB := n1_; clear n0_ n1_; clear hb ho14; obtain ⟨Ao15, co15, eo15⟩ := Kd.R_slice Za.out; subst eo15) | ((with_reducible refine gate_callee (f := 13) rfl ?_); refine goesL_ (some 34) rfl rfl Try.func13 (by kernel_rfl) rfl #[.slice Ao15 y239.length co15] rfl zq ?_; (with_reducible refine (impl_first.calls _ _ y239 t242 _ ?side1 ?side2 A9.out).mono ?_); (case side1 => exact zC ((Kd.R_reads' Za.out).2.2)); (case side2 => exact (Kd.R_reads' Za.out).2.1); rintro e w' ⟨rfl, ⟨nd, rfl⟩⟩; refine ⟨_, rfl, ?_⟩) | ((with_reducible refine gate_callee (f := 19) rfl ?_); refine goesL_ (some 41) rfl rfl Try.func19 (by kernel_rfl) rfl #[.int .i64 a0, .int .i64 a1, .slice A2 l2.length c2] rfl zq ?_; (with_reducible refine (impl_journal.calls k a0 a1 _ _ l2 t243 _ ?side1 ?side2 A11.out).mono ?_); (case side1 => exact zC (Kd.C_below HR2.out (zg_0 HB.out))); (case side2 => exact HC2.out); rintro e w16 ⟨v244, rfl, ho0, hb⟩; refine ⟨_, rfl, ?_⟩; have n0_ := zm (Kd.R_below (zg_2 Za.out) hb); have n1_ := zm (Kd.R_lower ho0 (below_size (zg_0 HB.out))); have n2_ := zm (below_step (zg_0 HB.out) hb); replace Za := n0_; have Zc := n1_; replace HB := n2_; clear n0_ n1_ n2_; (try clear hb); (try clear hb2); (try clear hk); (try clear hi); (try clear ho0)))
   go_ret2
   exact ⟨_, ze, by (with_reducible repeat (first | apply Kd.R_alloc | apply Kd.R_drewN | apply Kd.R_drew)); exact Zc.out, zg_0 HB.out⟩
  ·rw [if_neg c10] at H
   have c10b0 : (t242 == 0) = false := beq_eq_false_iff_ne.mpr c10
   have c10b1 : (t242 != 0) = true := bne_iff_ne.mpr c10
   simp only [Option.some.injEq, Prod.mk.injEq] at H
   obtain ⟨rfl, rfl⟩ := H
   go_enter Try.func6, Try.ntmps6
   go_wp2_with (first | ((with_reducible refine gate_callee (f := 14) rfl ?_); refine goesL_ (some 10) rfl rfl Try.func14 (by kernel_rfl) rfl #[.slice A2 l2.length c2] rfl zq ?_; (with_reducible refine (impl_Update_14.calls _ _ l2 t235 _ ?side1 ?side2 A4.out).mono ?_); (case side1 => exact zC HR2.out); (case side2 => exact HC2.out); rintro e w' ⟨rfl, ⟨nd, rfl⟩⟩; refine ⟨_, rfl, ?_⟩) | ((with_reducible refine gate_callee (f := 15) rfl ?_); refine goesL_ (some 14) rfl rfl Try.func15 (by kernel_rfl) rfl #[.int .i64 a0] rfl zq ?_; (with_reducible refine (impl_isHost.calls a0 true _ A5.out).mono ?_); rintro e w' ⟨rfl, ⟨nd, rfl⟩⟩; refine ⟨_, rfl, ?_⟩) | (go_at_call 16; (with_reducible refine (impl_isNumber.calls a1 t237 _ A7.out).mono ?_); rintro e w' ⟨rfl, ⟨nd, rfl⟩⟩) | ((with_reducible refine gate_callee (f := 17) rfl ?_); refine goesL_ (some 29) rfl rfl Try.func17 (by kernel_rfl) rfl #[.slice A2 l2.length c2, .func (.func 18) #[] #[]] rfl zq ?_; (with_reducible refine (all17_impl_updateOK.calls _ _ l2 () t238 _ ?side1 ?side2 A8.out).mono ?_); (case side1 => exact zC HR2.out); (case side2 => exact HC2.out); rintro e w17 ⟨rfl, hb⟩; refine ⟨_, rfl, ?_⟩; have n0_ := zm (below_step (zg_0 HB.out) hb); replace HB := n0_; clear n0_; (try clear hb); (try clear hb2); (try clear hk); (try clear hi)) | ((with_reducible refine gate_dst (N := 33) rfl ?_); refine Kd.R_lit kAny _ 20 ?hg (N := 33) ?hd (xs := ([Any.b t235, Any.n 2, Any.b (!t237), Any.n 4, Any.b (decide ((l2.length : Int) > 5)), Any.n 6, Any.b (!t238), Any.n 1] : List Any)) (inner := [.iface 4 (.bool t235), .iface 3 (.int .i64 2), .iface 4 (.bool (!t237)), .iface 3 (.int .i64 4), .iface 4 (.bool (decide ((l2.length : Int) > 5))), .iface 3 (.int .i64 6), .iface 4 (.bool (!t238)), .iface 3 (.int .i64 1)]) (ok := fun _ => True) (okp := fun _ => True) ?hr ?hp (fun _ hk => hk) trivial (Below.refl _ _) (Nat.le_refl _) (by simp) ?_; (case hd => rfl); (case hg => rfl); (case hr => first | (go_simp; done) | (go_simp; rfl)); (case hp => exact (Reps.one (show Kd.M kAny _ _ _ (Any.b t235) [.iface 4 (.bool t235)] from rfl) (Reps.one (show Kd.M kAny _ _ _ (Any.n 2) [.iface 3 (.int .i64 2)] from rfl) (Reps.one (show Kd.M kAny _ _ _ (Any.b (!t237)) [.iface 4 (.bool (!t237))] from rfl) (Reps.one (show Kd.M kAny _ _ _ (Any.n 4) [.iface 3 (.int .i64 4)] from rfl) (Reps.one (show Kd.M kAny _ _ _ (Any.b (decide ((l2.length : Int) > 5))) [.iface 4 (.bool (decide ((l2.length : Int) > 5)))] from rfl) (Reps.one (show Kd.M kAny _ _ _ (Any.n 6) [.iface 3 (.int .i64 6)] from rfl) (Reps.one (show Kd.M kAny _ _ _ (Any.b (!t238)) [.iface 4 (.bool (!t238))] from rfl) (Reps.one (show Kd.M kAny _ _ _ (Any.n 1) [.iface 3 (.int .i64 1)] from rfl) (Reps.none _ _)))))))))); intro v240 w18 ho19 hb hg_ hnew_; clear hg_ hnew_; (first | rw [← Ny239.out] at ho19 | (simp only [Int.reduceToNat] at ho19; rw [← Ny239.out] at ho19)); have n0_ := zm (Kd.R_lower ho19 (below_size (zg_0 HB.out))); have n1_ := zm (below_step (zg_0 HB.out) hb); have Za := n0_; replace HB := n1_; clear n0_ n1_; clear hb ho19; obtain ⟨Ao20, co20, eo20⟩ := Kd.R_slice Za.out; subst eo20) | ((with_reducible refine gate_callee (f := 13) rfl ?_); refine goesL_ (some 34) rfl rfl Try.func13 (by kernel_rfl) rfl #[.slice Ao20 y239.length co20] rfl zq ?_; (with_reducible refine (impl_first.calls _ _ y239 t242 _ ?side1 ?side2 A9.out).mono ?_); (case side1 => exact zC ((Kd.R_reads' Za.out).2.2)); (case side2 => exact (Kd.R_reads' Za.out).2.1); rintro e w' ⟨rfl, ⟨nd, rfl⟩⟩; refine ⟨_, rfl, ?_⟩))
   go_ret2
   exact ⟨_, ze, by first | exact Kd.R_nil _ _ _ _ _ | exact Kd.N_nil _ _ _ _ _ | exact Kd.V_nil _ _ _ _ _ | exact Kd.Q_nil _ _ _ _ _ | exact Kd.S_nil _ _ _ _ _, zg_0 HB.out⟩
 ·replace c6 := Bool.eq_false_iff.mpr c6
  subst c6
  replace H : ((all17_impl_updateOK.f l2 ()).bind fun t246 => ((impl_first.f (([Any.b t235, Any.n 2, Any.b true, Any.n 4, Any.b (decide ((l2.length : Int) > 5)), Any.n 6, Any.b (!t246), Any.n 1] : List Any))).bind fun t250 => (if t250 = 0 then ((impl_journal.f k a0 a1 l2).bind fun t251 => (some (t251, 0))) else (some (([] : List (S52)), t250))))) = some (r1, r2) := by rw [if_neg (show ¬ (false = true) by decide)] at H; exact H
  replace H := Option.bind_eq_some_iff.mp H
  obtain ⟨t246, A210, H⟩ := H
  try dsimp only at H
  have A21 := zm A210; clear A210
  obtain ⟨y247, hy247⟩ : ∃ y_ : List Any, y_ = (([Any.b t235, Any.n 2, Any.b true, Any.n 4, Any.b (decide ((l2.length : Int) > 5)), Any.n 6, Any.b (!t246), Any.n 1] : List Any)) := ⟨_, rfl⟩
  replace H : ((impl_first.f y247).bind fun t250 => (if t250 = 0 then ((impl_journal.f k a0 a1 l2).bind fun t251 => (some (t251, 0))) else (some (([] : List (S52)), t250)))) = some (r1, r2) := by first | (rw [hy247]; with_reducible exact H) | (have H2_ := (Option.bind_some _ _).symm.trans H; rw [hy247]; with_reducible exact H2_) | (have H2_ := (Option.bind_some _ _).symm.trans H; with_reducible exact H2_) | with_reducible exact H | (rw [hy247]; exact H) | exact H
  have Ny247 := zm hy247; clear hy247; replace H := Option.bind_eq_some_iff.mp H
  obtain ⟨t250, A220, H⟩ := H
  try dsimp only at H
  have A22 := zm A220; clear A220
  by_cases c23 : t250 = 0
  ·rw [if_pos c23] at H
   have c23b0 : (t250 == 0) = true := beq_iff_eq.mpr c23
   have c23b1 : (t250 != 0) = false := bne_eq_false_iff_eq.mpr c23
   clear c23; replace H := Option.bind_eq_some_iff.mp H
   obtain ⟨t251, A240, H⟩ := H
   replace H : (some (t251, 0)) = some (r1, r2) := H
   have A24 := zm A240; clear A240
   simp only [Option.some.injEq, Prod.mk.injEq] at H
   obtain ⟨rfl, rfl⟩ := H
   go_enter Try.func6, Try.ntmps6
   go_wp2_with (first | ((with_reducible refine gate_callee (f := 14) rfl ?_); refine goesL_ (some 10) rfl rfl Try.func14 (by kernel_rfl) rfl #[.slice A2 l2.length c2] rfl zq ?_; (with_reducible refine (impl_Update_14.calls _ _ l2 t235 _ ?side1 ?side2 A4.out).mono ?_); (case side1 => exact zC HR2.out); (case side2 => exact HC2.out); rintro e w' ⟨rfl, ⟨nd, rfl⟩⟩; refine ⟨_, rfl, ?_⟩) | ((with_reducible refine gate_callee (f := 15) rfl ?_); refine goesL_ (some 14) rfl rfl Try.func15 (by kernel_rfl) rfl #[.int .i64 a0] rfl zq ?_; (with_reducible refine (impl_isHost.calls a0 false _ A5.out).mono ?_); rintro e w' ⟨rfl, ⟨nd, rfl⟩⟩; refine ⟨_, rfl, ?_⟩) | ((with_reducible refine gate_callee (f := 17) rfl ?_); refine goesL_ (some 29) rfl rfl Try.func17 (by kernel_rfl) rfl #[.slice A2 l2.length c2, .func (.func 18) #[] #[]] rfl zq ?_; (with_reducible refine (all17_impl_updateOK.calls _ _ l2 () t246 _ ?side1 ?side2 A21.out).mono ?_); (case side1 => exact zC HR2.out); (case side2 => exact HC2.out); rintro e w25 ⟨rfl, hb⟩; refine ⟨_, rfl, ?_⟩; have n0_ := zm (below_step (zg_0 HB.out) hb); replace HB := n0_; clear n0_; (try clear hb); (try clear hb2); (try clear hk); (try clear hi)) | ((with_reducible refine gate_dst (N := 33) rfl ?_); refine Kd.R_lit kAny _ 20 ?hg (N := 33) ?hd (xs := ([Any.b t235, Any.n 2, Any.b true, Any.n 4, Any.b (decide ((l2.length : Int) > 5)), Any.n 6, Any.b (!t246), Any.n 1] : List Any)) (inner := [.iface 4 (.bool t235), .iface 3 (.int .i64 2), .iface 4 (.bool true), .iface 3 (.int .i64 4), .iface 4 (.bool (decide ((l2.length : Int) > 5))), .iface 3 (.int .i64 6), .iface 4 (.bool (!t246)), .iface 3 (.int .i64 1)]) (ok := fun _ => True) (okp := fun _ => True) ?hr ?hp (fun _ hk => hk) trivial (Below.refl _ _) (Nat.le_refl _) (by simp) ?_; (case hd => rfl); (case hg => rfl); (case hr => first | (go_simp; done) | (go_simp; rfl)); (case hp => exact (Reps.one (show Kd.M kAny _ _ _ (Any.b t235) [.iface 4 (.bool t235)] from rfl) (Reps.one (show Kd.M kAny _ _ _ (Any.n 2) [.iface 3 (.int .i64 2)] from rfl) (Reps.one (show Kd.M kAny _ _ _ (Any.b true) [.iface 4 (.bool true)] from rfl) (Reps.one (show Kd.M kAny _ _ _ (Any.n 4) [.iface 3 (.int .i64 4)] from rfl) (Reps.one (show Kd.M kAny _ _ _ (Any.b (decide ((l2.length : Int) > 5))) [.iface 4 (.bool (decide ((l2.length : Int) > 5)))] from rfl) (Reps.one (show Kd.M kAny _ _ _ (Any.n 6) [.iface 3 (.int .i64 6)] from rfl) (Reps.one (show Kd.M kAny _ _ _ (Any.b (!t246)) [.iface 4 (.bool (!t246))] from rfl) (Reps.one (show Kd.M kAny _ _ _ (Any.n 1) [.iface 3 (.int .i64 1)] from rfl) (Reps.none _ _)))))))))); intro v248 w26 ho27 hb hg_ hnew_; clear hg_ hnew_; (first | rw [← Ny247.out] at ho27 | (simp only [Int.reduceToNat] at ho27; rw [← Ny247.out] at ho27)); have n0_ := zm (Kd.R_lower ho27 (below_size (zg_0 HB.out))); have n1_ := zm (below_step (zg_0 HB.out) hb); have Zb := n0_; replace HB := n1_; clear n0_ n1_; clear hb ho27; obtain ⟨Ao28, co28, eo28⟩ := Kd.R_slice Zb.out; subst eo28) | ((with_reducible refine gate_callee (f := 13) rfl ?_); refine goesL_ (some 34) rfl rfl Try.func13 (by kernel_rfl) rfl #[.slice Ao28 y247.length co28] rfl zq ?_; (with_reducible refine (impl_first.calls _ _ y247 t250 _ ?side1 ?side2 A22.out).mono ?_); (case side1 => exact zC ((Kd.R_reads' Zb.out).2.2)); (case side2 => exact (Kd.R_reads' Zb.out).2.1); rintro e w' ⟨rfl, ⟨nd, rfl⟩⟩; refine ⟨_, rfl, ?_⟩) | ((with_reducible refine gate_callee (f := 19) rfl ?_); refine goesL_ (some 41) rfl rfl Try.func19 (by kernel_rfl) rfl #[.int .i64 a0, .int .i64 a1, .slice A2 l2.length c2] rfl zq ?_; (with_reducible refine (impl_journal.calls k a0 a1 _ _ l2 t251 _ ?side1 ?side2 A24.out).mono ?_); (case side1 => exact zC (Kd.C_below HR2.out (zg_0 HB.out))); (case side2 => exact HC2.out); rintro e w29 ⟨v252, rfl, ho0, hb⟩; refine ⟨_, rfl, ?_⟩; have n0_ := zm (Kd.R_below (zg_2 Zb.out) hb); have n1_ := zm (Kd.R_lower ho0 (below_size (zg_0 HB.out))); have n2_ := zm (below_step (zg_0 HB.out) hb); replace Zb := n0_; have Zd := n1_; replace HB := n2_; clear n0_ n1_ n2_; (try clear hb); (try clear hb2); (try clear hk); (try clear hi); (try clear ho0)))
   go_ret2
   exact ⟨_, ze, by (with_reducible repeat (first | apply Kd.R_alloc | apply Kd.R_drewN | apply Kd.R_drew)); exact Zd.out, zg_0 HB.out⟩
  ·rw [if_neg c23] at H
   have c23b0 : (t250 == 0) = false := beq_eq_false_iff_ne.mpr c23
   have c23b1 : (t250 != 0) = true := bne_iff_ne.mpr c23
   simp only [Option.some.injEq, Prod.mk.injEq] at H
   obtain ⟨rfl, rfl⟩ := H
   go_enter Try.func6, Try.ntmps6
   go_wp2_with (first | ((with_reducible refine gate_callee (f := 14) rfl ?_); refine goesL_ (some 10) rfl rfl Try.func14 (by kernel_rfl) rfl #[.slice A2 l2.length c2] rfl zq ?_; (with_reducible refine (impl_Update_14.calls _ _ l2 t235 _ ?side1 ?side2 A4.out).mono ?_); (case side1 => exact zC HR2.out); (case side2 => exact HC2.out); rintro e w' ⟨rfl, ⟨nd, rfl⟩⟩; refine ⟨_, rfl, ?_⟩) | ((with_reducible refine gate_callee (f := 15) rfl ?_); refine goesL_ (some 14) rfl rfl Try.func15 (by kernel_rfl) rfl #[.int .i64 a0] rfl zq ?_; (with_reducible refine (impl_isHost.calls a0 false _ A5.out).mono ?_); rintro e w' ⟨rfl, ⟨nd, rfl⟩⟩; refine ⟨_, rfl, ?_⟩) | ((with_reducible refine gate_callee (f := 17) rfl ?_); refine goesL_ (some 29) rfl rfl Try.func17 (by kernel_rfl) rfl #[.slice A2 l2.length c2, .func (.func 18) #[] #[]] rfl zq ?_; (with_reducible refine (all17_impl_updateOK.calls _ _ l2 () t246 _ ?side1 ?side2 A21.out).mono ?_); (case side1 => exact zC HR2.out); (case side2 => exact HC2.out); rintro e w30 ⟨rfl, hb⟩; refine ⟨_, rfl, ?_⟩; have n0_ := zm (below_step (zg_0 HB.out) hb); replace HB := n0_; clear n0_; (try clear hb); (try clear hb2); (try clear hk); (try clear hi)) | ((with_reducible refine gate_dst (N := 33) rfl ?_); refine Kd.R_lit kAny _ 20 ?hg (N := 33) ?hd (xs := ([Any.b t235, Any.n 2, Any.b true, Any.n 4, Any.b (decide ((l2.length : Int) > 5)), Any.n 6, Any.b (!t246), Any.n 1] : List Any)) (inner := [.iface 4 (.bool t235), .iface 3 (.int .i64 2), .iface 4 (.bool true), .iface 3 (.int .i64 4), .iface 4 (.bool (decide ((l2.length : Int) > 5))), .iface 3 (.int .i64 6), .iface 4 (.bool (!t246)), .iface 3 (.int .i64 1)]) (ok := fun _ => True) (okp := fun _ => True) ?hr ?hp (fun _ hk => hk) trivial (Below.refl _ _) (Nat.le_refl _) (by simp) ?_; (case hd => rfl); (case hg => rfl); (case hr => first | (go_simp; done) | (go_simp; rfl)); (case hp => exact (Reps.one (show Kd.M kAny _ _ _ (Any.b t235) [.iface 4 (.bool t235)] from rfl) (Reps.one (show Kd.M kAny _ _ _ (Any.n 2) [.iface 3 (.int .i64 2)] from rfl) (Reps.one (show Kd.M kAny _ _ _ (Any.b true) [.iface 4 (.bool true)] from rfl) (Reps.one (show Kd.M kAny _ _ _ (Any.n 4) [.iface 3 (.int .i64 4)] from rfl) (Reps.one (show Kd.M kAny _ _ _ (Any.b (decide ((l2.length : Int) > 5))) [.iface 4 (.bool (decide ((l2.length : Int) > 5)))] from rfl) (Reps.one (show Kd.M kAny _ _ _ (Any.n 6) [.iface 3 (.int .i64 6)] from rfl) (Reps.one (show Kd.M kAny _ _ _ (Any.b (!t246)) [.iface 4 (.bool (!t246))] from rfl) (Reps.one (show Kd.M kAny _ _ _ (Any.n 1) [.iface 3 (.int .i64 1)] from rfl) (Reps.none _ _)))))))))); intro v248 w31 ho32 hb hg_ hnew_; clear hg_ hnew_; (first | rw [← Ny247.out] at ho32 | (simp only [Int.reduceToNat] at ho32; rw [← Ny247.out] at ho32)); have n0_ := zm (Kd.R_lower ho32 (below_size (zg_0 HB.out))); have n1_ := zm (below_step (zg_0 HB.out) hb); have Zb := n0_; replace HB := n1_; clear n0_ n1_; clear hb ho32; obtain ⟨Ao33, co33, eo33⟩ := Kd.R_slice Zb.out; subst eo33) | ((with_reducible refine gate_callee (f := 13) rfl ?_); refine goesL_ (some 34) rfl rfl Try.func13 (by kernel_rfl) rfl #[.slice Ao33 y247.length co33] rfl zq ?_; (with_reducible refine (impl_first.calls _ _ y247 t250 _ ?side1 ?side2 A22.out).mono ?_); (case side1 => exact zC ((Kd.R_reads' Zb.out).2.2)); (case side2 => exact (Kd.R_reads' Zb.out).2.1); rintro e w' ⟨rfl, ⟨nd, rfl⟩⟩; refine ⟨_, rfl, ?_⟩))
   go_ret2
   exact ⟨_, ze, by first | exact Kd.R_nil _ _ _ _ _ | exact Kd.N_nil _ _ _ _ _ | exact Kd.V_nil _ _ _ _ _ | exact Kd.Q_nil _ _ _ _ _ | exact Kd.S_nil _ _ _ _ _, zg_0 HB.out⟩
theorem eqA52 (d : Nat) (w : World) (x0 y0 : Int) (x1 y1 : Int) (x2 y2 : ByteArray) :
    (Op.equalIn (d + 2) 52 (.agg #[.int .i64 x0, .int .i64 x1, .string x2]) (.agg #[.int .i64 y0, .int .i64 y1, .string y2])).run Try.prog w = .ok (x0 == y0 && (x1 == y1 && (x2.toList == y2.toList))) w := by
  refine eqA_of Try.underlying52 (by kernel_rfl) ?_
  refine eqf_cons (by rfl) (by go_simp; rfl) (by go_simp; rfl) (by go_simp) ?_
  refine eqf_cons (by rfl) (by go_simp; rfl) (by go_simp; rfl) (by go_simp) ?_
  exact eqf_last (by rfl) (by go_simp; rfl) (by go_simp; rfl) (by go_simp)
section
attribute [local go_sem high] eqA52
theorem clos44 {α : Type} {d : Kd α} {val : List Value → Value} {F : FuncId} {p : α → Option Bool} (hF : Asks1 F d val p) (a : Addr) (x : α) (cs : List Value) (v : Value) (hv : val cs = v) (r : Bool) (w : World) (hK : d.K w x cs) (hc : w.cell? a = some (.func (.func F) #[] #[])) (h : p x = some r) :
    Calls Try.prog 57 #[v, .pointer (some a)] w fun e w' => e = .returned (.bool !r) ∧ Below w.heap.size w w' := by
  obtain ⟨⟨fn, h1, h2, h3⟩, hF⟩ := hF
  have h0 := hF x cs r w hK h
  rw [hv] at h0
  have H := zm h0; have H1 := zm h1; have H2 := zm h2; have H3 := zm h3; clear hF h h1 h2 h3 hK h0 hv
  go_enter Try.func57, Try.ntmps57
  go_wp2_with (first | ((with_reducible refine gate_dst (N := 6) rfl ?_); refine Stop.out ?_))
  refine ⟨?_⟩
  refine goesV (some 6) rfl rfl H1.out H2.out H3.out #[v] rfl (cap := #[]) ?hx ?hargs ?_
  case hx => rfl
  case hargs => simp [Act.eval]
  refine H.out.mono ?_
  rintro e w1 ⟨rfl, hb⟩
  refine ⟨_, rfl, ?_⟩
  have HB := zm hb; clear hb
  go_wp2
  go_ret
  exact ⟨rfl, HB.out⟩
set_option maxHeartbeats 1000000 in
set_option maxRecDepth 100000 in
theorem idx44 {F : FuncId} {p : ByteArray → Option Bool} (hF : Asks1 F Kd.string (fun cs => cs.headD undef) p) (A0 : Option Addr) (c0 : Nat) (l0 : List ByteArray) (a : Addr) (r : Bool) (w : World) (hr0 : Kd.C Kd.string w A0 l0.length l0) (hc0 : l0.length ≤ c0)
    (hcl : w.cell? a = some (.func (.func F) #[] #[])) (h : allO p l0 = some r) :
    Calls Try.prog 64 #[.slice A0 l0.length c0, .func (.func 57) #[] #[.pointer (some a)]] w (IdxPost r w) := by
 have hlen : l0.length ≤ 9223372036854775807 := hr0.2.1
 have HR0 := zm hr0; have HCL := zm hcl; have HF := zm hF
 have H' := zm h
 have HB := zm (Below.refl w.heap.size w); clear hr0 hcl hF h
 go_enter Try.func64, Try.ntmps64
 go_wp2
 go_loopg [8] (l0.length + 1) (fun kq v8 w' => ∃ k : Nat, v8 = .int .i64 (k : Int) ∧ Aside0 (kq + k = l0.length + 1 ∧ k ≤ l0.length) ∧ Aside0 (allO p (l0.drop k) = some r) ∧ Aside0 (Below w.heap.size w w'))
 case atStart => exact ⟨0, rfl, ⟨by omega, by omega⟩, H', HB⟩
 case round =>
  clear H' HB
  obtain ⟨k, rfl, HK, HA, HB⟩ := hrel
  cases gk with
  | zero =>
   have hk := HK.out
   omega
  | succ k1 =>
   by_cases hlt : k < l0.length
   ·have q1 : (k : Int) < (l0.length : Int) := by omega
    have p1 : 0 ≤ (k : Int) := by omega
    obtain ⟨ad, ea, hx⟩ := Kd.at_string HR0.out (k : Int) p1 q1
    cases ea
    rw [Int.toNat_natCast] at hx
    replace hx := (HB.out.cell (World.block_lt_of_cell? w _ hx)).trans hx; have HKK := zm (show Kd.string.K w (rdOf ByteArray.empty l0 k) [.string (rdOf ByteArray.empty l0 k)] from rfl)
    have HX := zm (show ∃ b, p (rdOf ByteArray.empty l0 k) = some b ∧ (if b = true then allO p (l0.drop (k+1)) else some false) = some r from by
     have := HA.out
     rw [List.drop_eq_getElem_cons hlt] at this
     simp only [allO] at this
     obtain ⟨b, hb, h2⟩ := Option.bind_eq_some_iff.1 this
     refine ⟨b, ?_, h2⟩
     rw [← hb]; congr 1; simp [rd, rdOf, hlt])
    obtain ⟨b, hb, h2⟩ := HX.out
    have HPB := zm hb; have H2 := zm h2; have HCL2 := zm ((HB.out.cell (World.block_lt_of_cell? w _ HCL.out)).trans HCL.out); clear HX hb h2 q1 p1 HA
    cases b with
    | true =>
     go_wp2_with (first | ((with_reducible refine gate_dst (N := 16) rfl ?_); refine goesV (some 16) rfl rfl Try.func57 (by kernel_rfl) rfl #[.string (rdOf ByteArray.empty l0 k), .pointer (some a)] rfl (cap := #[.pointer (some a)]) ?hx ?hargs ?_; (case hx => rfl); (case hargs => simp [Act.eval]); refine (clos44 HF.out a _ [.string (rdOf ByteArray.empty l0 k)] _ rfl _ _ (Kd.K_below _ HB.out HKK.out) HCL2.out HPB.out).mono ?_; rintro e w2 ⟨rfl, hb⟩; refine ⟨_, rfl, ?_⟩; have HB2 := zm (HB.out.trans (hb.mono HB.out.size)); clear hb))
     go_roundg k1
     case measure => omega
     case rel => exact ⟨k + 1, by simp, ⟨by have := HK.out; omega, by have := HK.out; omega⟩, ⟨by simpa using H2.out⟩, HB2⟩
    | false =>
     go_wp2_with (first | ((with_reducible refine gate_dst (N := 16) rfl ?_); refine goesV (some 16) rfl rfl Try.func57 (by kernel_rfl) rfl #[.string (rdOf ByteArray.empty l0 k), .pointer (some a)] rfl (cap := #[.pointer (some a)]) ?hx ?hargs ?_; (case hx => rfl); (case hargs => simp [Act.eval]); refine (clos44 HF.out a _ [.string (rdOf ByteArray.empty l0 k)] _ rfl _ _ (Kd.K_below _ HB.out HKK.out) HCL2.out HPB.out).mono ?_; rintro e w2 ⟨rfl, hb⟩; refine ⟨_, rfl, ?_⟩; have HB2 := zm (HB.out.trans (hb.mono HB.out.size)); clear hb))
     go_ret
     have hr : r = false := by have := H2.out; simpa using this.symm
     exact ⟨k, rfl, by rw [hr]; simp, HB2.out⟩
   ·have hge : l0.length ≤ k := by omega
    go_wp2
    go_ret
    have hr : r = true := by
     have := HA.out
     rw [List.drop_of_length_le hge] at this
     simpa [allO] using this.symm
    exact ⟨-1, rfl, by rw [hr]; decide, HB.out⟩
theorem cont44 {F : FuncId} {p : ByteArray → Option Bool} (hF : Asks1 F Kd.string (fun cs => cs.headD undef) p) (A0 : Option Addr) (c0 : Nat) (l0 : List ByteArray) (a : Addr) (r : Bool) (w : World) (hr0 : Kd.C Kd.string w A0 l0.length l0) (hc0 : l0.length ≤ c0)
 (hcl : w.cell? a = some (.func (.func F) #[] #[])) (h : allO p l0 = some r) :
 Calls Try.prog 56 #[.slice A0 l0.length c0, .func (.func 57) #[] #[.pointer (some a)]] w fun e w' => e = .returned (.bool !r) ∧ Below w.heap.size w w' := by
 have H := zm (idx44 hF A0 c0 l0 a r w hr0 hc0 hcl h); clear hr0 hcl hF h
 go_enter Try.func56, Try.ntmps56
 go_wp2_with (go_at_call 64; (with_reducible refine H.out.mono ?_); rintro e w2 ⟨j, rfl, hj, hb⟩; have HJ := zm hj; have HB := zm hb; clear hj hb)
 go_ret
 exact ⟨by rw [← HJ.out]; rfl, HB.out⟩
theorem all44 {F : FuncId} {p : ByteArray → Option Bool} (hF : Asks1 F Kd.string (fun cs => cs.headD undef) p) (A0 : Option Addr) (c0 : Nat) (l0 : List ByteArray) (r : Bool) (w : World) (hr0 : Kd.C Kd.string w A0 l0.length l0) (hc0 : l0.length ≤ c0)
 (h : allO p l0 = some r) :
 Calls Try.prog 44 #[.slice A0 l0.length c0, .func (.func F) #[] #[]] w fun e w' => e = .returned (.bool r) ∧ Below w.heap.size w w' := by
 have hb1 : ∀ o, Below w.heap.size w (w.alloc o) := fun o => (Below.refl _ _).alloc (Nat.le_refl _) o
 have H := zm (cont44 hF A0 c0 l0 ⟨w.heap.size, 0, none⟩ r (w.alloc (.cells #[.func (.func F) #[] #[]] 71 (0, 0))) (Kd.C_below hr0 (hb1 _)) hc0 (by go_simp) h); have HB0 := zm (hb1 (.cells #[.func (.func F) #[] #[]] 71 (0, 0))); clear hr0 hF h hb1
 go_enter Try.func44, Try.ntmps44
 go_wp2_with (go_at_call 56; (with_reducible refine H.out.mono ?_); rintro e w2 ⟨rfl, hb⟩; have HB := zm (HB0.out.trans (hb.mono HB0.out.size)); clear hb)
 go_ret
 exact ⟨by simp, HB.out⟩
end
def impl_isSector.f (a0 : ByteArray) : Option (Bool) := some (decide ((a0.size : Int) ≤ 80))
set_option maxHeartbeats 8000000 in
set_option maxRecDepth 100000 in
theorem impl_isSector.calls (a0 : ByteArray) (r : Bool) (w : World) (h : impl_isSector.f a0 = some r) :
    Calls Try.prog 41 #[.string a0] w fun e w' => e = .returned (.bool r) ∧ Drawn0 w w' := by
  have H : (some (decide ((a0.size : Int) ≤ 80))) = some r := h
  clear h; obtain rfl := Option.some.inj H
  go_enter Try.func41, Try.ntmps41
  go_wp2
  go_ret
  exact ⟨zr, by repeat (first | exact Drawn0.refl _ | apply Drawn0.step)⟩
section
attribute [local go_sem high] eqA52
def all44_impl_isSector.f (l0 : List ByteArray) (_ : Unit) : Option Bool := allO (fun x => impl_isSector.f x) l0
theorem all44_impl_isSector.asks : Asks1 41 Kd.string (fun cs => cs.headD undef) (fun x => impl_isSector.f x) := ⟨⟨_, Try.func41, by kernel_rfl, rfl⟩, fun x cs r w hK h => by
  cases hK
  exact (impl_isSector.calls x r w h).mono fun e w' hh => ⟨hh.1, hh.2.below⟩⟩
theorem all44_impl_isSector.calls (A0 : Option Addr) (c0 : Nat) (l0 : List ByteArray) (_u : Unit) (r : Bool) (w : World) (hr0 : Kd.C Kd.string w A0 l0.length l0) (hc0 : l0.length ≤ c0) (h : all44_impl_isSector.f l0 () = some r) :
    Calls Try.prog 44 #[.slice A0 l0.length c0, .func (.func 41) #[] #[]] w fun e w' => e = .returned (.bool r) ∧ Below w.heap.size w w' :=
  all44 (all44_impl_isSector.asks) A0 c0 l0 r w hr0 hc0 h
end
section
attribute [local go_sem high] eqA52
theorem clos45 {α : Type} {d : Kd α} {F : FuncId} {p : α → Option Bool} (hF : Asks1 F d (fun cs => .agg cs.toArray) p) (a : Addr) (x : α) (y0 y1 y2 : Value) (r : Bool) (w : World) (hK : d.K w x [y0, y1, y2]) (hc : w.cell? a = some (.func (.func F) #[] #[])) (h : p x = some r) :
    Calls Try.prog 59 #[.agg #[y0, y1, y2], .pointer (some a)] w fun e w' => e = .returned (.bool !r) ∧ Below w.heap.size w w' := by
  obtain ⟨⟨fn, h1, h2, h3⟩, hF⟩ := hF
  have hb1 : Below w.heap.size w (w.alloc (.cells #[y0, y1, y2] 75 (0, 0))) := (Below.refl _ _).alloc (Nat.le_refl _) _
  have H := zm (show Calls Try.prog F #[.agg #[y0, y1, y2]] (w.alloc (.cells #[y0, y1, y2] 75 (0, 0))) _ from hF x [y0, y1, y2] r _ (Kd.K_below _ hb1 hK) h); have HB0 := zm hb1
  have hc2 : (w.alloc (.cells #[y0, y1, y2] 75 (0, 0))).cell? a = some (.func (.func F) #[] #[]) := (hb1.cell (World.block_lt_of_cell? w _ hc)).trans hc
  have H1 := zm h1; have H2 := zm h2; have H3 := zm h3; have hu := Try.underlying75; clear hF h h1 h2 h3 hK hb1
  go_enter Try.func59, Try.ntmps59
  go_wp2_with (first | ((with_reducible refine gate_dst (N := 6) rfl ?_); refine Stop.out ?_))
  refine ⟨?_⟩
  refine goesV (some 6) rfl rfl H1.out H2.out H3.out #[.agg #[y0, y1, y2]] rfl (cap := #[]) ?hx ?hargs ?_
  case hx => rfl
  case hargs => simp [Act.eval]
  refine H.out.mono ?_
  rintro e w1 ⟨rfl, hb⟩
  refine ⟨_, rfl, ?_⟩
  have HB := zm (HB0.out.trans (hb.mono HB0.out.size)); clear hb
  go_wp2
  go_ret
  exact ⟨rfl, HB.out⟩
set_option maxHeartbeats 1000000 in
set_option maxRecDepth 100000 in
theorem idx45 {F : FuncId} {p : S75 → Option Bool} (hF : Asks1 F k75 (fun cs => .agg cs.toArray) p) (A0 : Option Addr) (c0 : Nat) (l0 : List S75) (a : Addr) (r : Bool) (w : World) (hr0 : Kd.C k75 w A0 l0.length l0) (hc0 : l0.length ≤ c0)
    (hcl : w.cell? a = some (.func (.func F) #[] #[])) (h : allO p l0 = some r) :
    Calls Try.prog 60 #[.slice A0 l0.length c0, .func (.func 59) #[] #[.pointer (some a)]] w (IdxPost r w) := by
 have hlen : l0.length ≤ 9223372036854775807 := hr0.2.1
 have HR0 := zm hr0; have HCL := zm hcl; have HF := zm hF
 have H' := zm h
 have HB := zm (Below.refl w.heap.size w); clear hr0 hcl hF h
 go_enter Try.func60, Try.ntmps60
 go_wp2
 go_loopg [8] (l0.length + 1) (fun kq v8 w' => ∃ k : Nat, v8 = .int .i64 (k : Int) ∧ Aside0 (kq + k = l0.length + 1 ∧ k ≤ l0.length) ∧ Aside0 (allO p (l0.drop k) = some r) ∧ Aside0 (Below w.heap.size w w'))
 case atStart => exact ⟨0, rfl, ⟨by omega, by omega⟩, H', HB⟩
 case round =>
  clear H' HB
  obtain ⟨k, rfl, HK, HA, HB⟩ := hrel
  cases gk with
  | zero =>
   have hk := HK.out
   omega
  | succ k1 =>
   by_cases hlt : k < l0.length
   ·have q1 : (k : Int) < (l0.length : Int) := by omega
    have p1 : 0 ≤ (k : Int) := by omega
    obtain ⟨ad, ea, hx0, hx1, hx2⟩ := at_T75 HR0.out (k : Int) p1 q1
    cases ea
    simp only [Int.toNat_natCast] at hx0 hx1 hx2
    replace hx0 := (HB.out.cell (World.block_lt_of_cell? w _ hx0)).trans hx0; replace hx1 := (HB.out.cell (World.block_lt_of_cell? w _ hx1)).trans hx1; replace hx2 := (HB.out.cell (World.block_lt_of_cell? w _ hx2)).trans hx2; have HKK := zm (show k75.K w (rd_T75 l0 k) [.int .i64 ((rd_T75 l0 k).f0), .int .i64 ((rd_T75 l0 k).f1), .string ((rd_T75 l0 k).f2)] from k75_mk w _)
    have HX := zm (show ∃ b, p (rd_T75 l0 k) = some b ∧ (if b = true then allO p (l0.drop (k+1)) else some false) = some r from by
     have := HA.out
     rw [List.drop_eq_getElem_cons hlt] at this
     simp only [allO] at this
     obtain ⟨b, hb, h2⟩ := Option.bind_eq_some_iff.1 this
     refine ⟨b, ?_, h2⟩
     rw [← hb]; congr 1; simp [rd_T75, hlt])
    obtain ⟨b, hb, h2⟩ := HX.out
    have HPB := zm hb; have H2 := zm h2; have HCL2 := zm ((HB.out.cell (World.block_lt_of_cell? w _ HCL.out)).trans HCL.out); clear HX hb h2 q1 p1 HA
    cases b with
    | true =>
     go_wp2_with (first | ((with_reducible refine gate_dst (N := 16) rfl ?_); refine goesV (some 16) rfl rfl Try.func59 (by kernel_rfl) rfl #[.agg #[.int .i64 ((rd_T75 l0 k).f0), .int .i64 ((rd_T75 l0 k).f1), .string ((rd_T75 l0 k).f2)], .pointer (some a)] rfl (cap := #[.pointer (some a)]) ?hx ?hargs ?_; (case hx => rfl); (case hargs => simp [Act.eval]); refine (clos45 HF.out a _ (.int .i64 ((rd_T75 l0 k).f0)) (.int .i64 ((rd_T75 l0 k).f1)) (.string ((rd_T75 l0 k).f2)) _ _ (Kd.K_below _ HB.out HKK.out) HCL2.out HPB.out).mono ?_; rintro e w2 ⟨rfl, hb⟩; refine ⟨_, rfl, ?_⟩; have HB2 := zm (HB.out.trans (hb.mono HB.out.size)); clear hb))
     go_roundg k1
     case measure => omega
     case rel => exact ⟨k + 1, by simp, ⟨by have := HK.out; omega, by have := HK.out; omega⟩, ⟨by simpa using H2.out⟩, HB2⟩
    | false =>
     go_wp2_with (first | ((with_reducible refine gate_dst (N := 16) rfl ?_); refine goesV (some 16) rfl rfl Try.func59 (by kernel_rfl) rfl #[.agg #[.int .i64 ((rd_T75 l0 k).f0), .int .i64 ((rd_T75 l0 k).f1), .string ((rd_T75 l0 k).f2)], .pointer (some a)] rfl (cap := #[.pointer (some a)]) ?hx ?hargs ?_; (case hx => rfl); (case hargs => simp [Act.eval]); refine (clos45 HF.out a _ (.int .i64 ((rd_T75 l0 k).f0)) (.int .i64 ((rd_T75 l0 k).f1)) (.string ((rd_T75 l0 k).f2)) _ _ (Kd.K_below _ HB.out HKK.out) HCL2.out HPB.out).mono ?_; rintro e w2 ⟨rfl, hb⟩; refine ⟨_, rfl, ?_⟩; have HB2 := zm (HB.out.trans (hb.mono HB.out.size)); clear hb))
     go_ret
     have hr : r = false := by have := H2.out; simpa using this.symm
     exact ⟨k, rfl, by rw [hr]; simp, HB2.out⟩
   ·have hge : l0.length ≤ k := by omega
    go_wp2
    go_ret
    have hr : r = true := by
     have := HA.out
     rw [List.drop_of_length_le hge] at this
     simpa [allO] using this.symm
    exact ⟨-1, rfl, by rw [hr]; decide, HB.out⟩
theorem cont45 {F : FuncId} {p : S75 → Option Bool} (hF : Asks1 F k75 (fun cs => .agg cs.toArray) p) (A0 : Option Addr) (c0 : Nat) (l0 : List S75) (a : Addr) (r : Bool) (w : World) (hr0 : Kd.C k75 w A0 l0.length l0) (hc0 : l0.length ≤ c0)
 (hcl : w.cell? a = some (.func (.func F) #[] #[])) (h : allO p l0 = some r) :
 Calls Try.prog 58 #[.slice A0 l0.length c0, .func (.func 59) #[] #[.pointer (some a)]] w fun e w' => e = .returned (.bool !r) ∧ Below w.heap.size w w' := by
 have H := zm (idx45 hF A0 c0 l0 a r w hr0 hc0 hcl h); clear hr0 hcl hF h
 go_enter Try.func58, Try.ntmps58
 go_wp2_with (go_at_call 60; (with_reducible refine H.out.mono ?_); rintro e w2 ⟨j, rfl, hj, hb⟩; have HJ := zm hj; have HB := zm hb; clear hj hb)
 go_ret
 exact ⟨by rw [← HJ.out]; rfl, HB.out⟩
theorem all45 {F : FuncId} {p : S75 → Option Bool} (hF : Asks1 F k75 (fun cs => .agg cs.toArray) p) (A0 : Option Addr) (c0 : Nat) (l0 : List S75) (r : Bool) (w : World) (hr0 : Kd.C k75 w A0 l0.length l0) (hc0 : l0.length ≤ c0)
 (h : allO p l0 = some r) :
 Calls Try.prog 45 #[.slice A0 l0.length c0, .func (.func F) #[] #[]] w fun e w' => e = .returned (.bool r) ∧ Below w.heap.size w w' := by
 have hb1 : ∀ o, Below w.heap.size w (w.alloc o) := fun o => (Below.refl _ _).alloc (Nat.le_refl _) o
 have H := zm (cont45 hF A0 c0 l0 ⟨w.heap.size, 0, none⟩ r (w.alloc (.cells #[.func (.func F) #[] #[]] 78 (0, 0))) (Kd.C_below hr0 (hb1 _)) hc0 (by go_simp) h); have HB0 := zm (hb1 (.cells #[.func (.func F) #[] #[]] 78 (0, 0))); clear hr0 hF h hb1
 go_enter Try.func45, Try.ntmps45
 go_wp2_with (go_at_call 58; (with_reducible refine H.out.mono ?_); rintro e w2 ⟨rfl, hb⟩; have HB := zm (HB0.out.trans (hb.mono HB0.out.size)); clear hb)
 go_ret
 exact ⟨by simp, HB.out⟩
end
def impl_isPlace.f (a0 : Int) : Option (Bool) := (impl_within.f a0 0 63).bind fun t102 => (some t102)
set_option maxHeartbeats 8000000 in
set_option maxRecDepth 100000 in
theorem impl_isPlace.calls (a0 : Int) (r : Bool) (w : World) (h : impl_isPlace.f a0 = some r) :
    Calls Try.prog 40 #[.int .i64 a0] w fun e w' => e = .returned (.bool r) ∧ Drawn0 w w' := by
  have H : ((impl_within.f a0 0 63).bind fun t102 => (some t102)) = some r := h
  clear h; replace H := Option.bind_eq_some_iff.mp H
  obtain ⟨t102, A20, H⟩ := H
  replace H : (some t102) = some r := H
  have A2 := zm A20; clear A20; obtain rfl := Option.some.inj H
  go_enter Try.func40, Try.ntmps40
  go_wp2_with (first | ((with_reducible refine gate_callee (f := 27) rfl ?_); refine goesL_ (some 4) rfl rfl Try.func27 (by kernel_rfl) rfl #[.int .i64 a0, .int .i64 0, .int .i64 63] rfl zq ?_; (with_reducible refine (impl_within.calls a0 0 63 t102 _ A2.out).mono ?_); rintro e w' ⟨rfl, ⟨nd, rfl⟩⟩; refine ⟨_, rfl, ?_⟩))
  go_ret
  exact ⟨zr, by repeat (first | exact Drawn0.refl _ | apply Drawn0.step)⟩
def impl_DiskOK_1.f (a0_0 : Int) (a0_1 : Int) (a0_2 : ByteArray) : Option (Bool) := (impl_isHost.f a0_0).bind fun t104 => (if t104 = true then ((impl_isPlace.f a0_1).bind fun t105 => (if t105 = true then ((impl_isSector.f a0_2).bind fun t106 => (some t106)) else (some false))) else (some false))
set_option maxHeartbeats 8000000 in
set_option maxRecDepth 100000 in
theorem impl_DiskOK_1.calls (a0_0 : Int) (a0_1 : Int) (a0_2 : ByteArray) (r : Bool) (w : World) (h : impl_DiskOK_1.f a0_0 a0_1 a0_2 = some r) :
    Calls Try.prog 46 #[.agg #[.int .i64 a0_0, .int .i64 a0_1, .string a0_2]] w fun e w' => e = .returned (.bool r) ∧ Below w.heap.size w w' := by
 have hu75 := Try.underlying75; have HB := zm (Below.refl w.heap.size w); have H := h
 unfold impl_DiskOK_1.f at H
 clear h; replace H := Option.bind_eq_some_iff.mp H
 obtain ⟨t104, A20, H⟩ := H
 try dsimp only at H
 have A2 := zm A20; clear A20
 by_cases c3 : t104 = true
 ·subst c3
  replace H : ((impl_isPlace.f a0_1).bind fun t105 => (if t105 = true then ((impl_isSector.f a0_2).bind fun t106 => (some t106)) else (some false))) = some r := by rw [if_pos rfl] at H; exact H
  replace H := Option.bind_eq_some_iff.mp H
  obtain ⟨t105, A40, H⟩ := H
  try dsimp only at H
  have A4 := zm A40; clear A40
  by_cases c5 : t105 = true
  ·subst c5
   replace H : ((impl_isSector.f a0_2).bind fun t106 => (some t106)) = some r := by rw [if_pos rfl] at H; exact H
   replace H := Option.bind_eq_some_iff.mp H
   obtain ⟨t106, A60, H⟩ := H
   replace H : (some t106) = some r := H
   have A6 := zm A60; clear A60; obtain rfl := Option.some.inj H
   go_enter Try.func46, Try.ntmps46
   go_wp2_with (first | ((with_reducible refine gate_dst (N := 1) rfl ?_); refine box_event ?hg (N := 1) ?hd (cs := #[.int .i64 a0_0, .int .i64 a0_1, .string a0_2]) (t := 75) ?hr ?_; (case hd => rfl); (case hg => rfl); (case hr => first | (go_simp; done) | (go_simp; rfl)); intro gb103 hg w7 hbox hb; have n0_ := zm (below_step (zg_0 HB.out) hb); have n1_ := zm (hbox); have n2_ := zm ((by rw [hg]; exact (below_size (zg_0 HB.out)) : w.heap.size ≤ gb103)); have n3_ := zm ((by rw [hg]; exact (below_size (zg_0 HB.out)) : w.heap.size ≤ gb103)); replace HB := n0_; have Za := n1_; have Zc := n2_; have Zb := n3_; clear n0_ n1_ n2_ n3_; clear hb hbox hg; obtain ⟨hcz8_0, hcz8_1, hcz8_2, hfz8_0, hfz8_1, hfz8_2⟩ := zb3 Za.out) | ((with_reducible refine gate_callee (f := 15) rfl ?_); refine goesL_ (some 5) rfl rfl Try.func15 (by kernel_rfl) rfl #[.int .i64 a0_0] rfl zq ?_; (with_reducible refine (impl_isHost.calls a0_0 true _ A2.out).mono ?_); rintro e w' ⟨rfl, ⟨nd, rfl⟩⟩; refine ⟨_, rfl, ?_⟩) | (go_at_call 40; (with_reducible refine (impl_isPlace.calls a0_1 true _ A4.out).mono ?_); rintro e w' ⟨rfl, ⟨nd, rfl⟩⟩) | (go_at_call 41; (with_reducible refine (impl_isSector.calls a0_2 t106 _ A6.out).mono ?_); rintro e w' ⟨rfl, ⟨nd, rfl⟩⟩))
   go_ret
   exact ⟨ze, zg_1 HB.out Zb.out⟩
  ·replace c5 := Bool.eq_false_iff.mpr c5
   subst c5
   replace H : (some false) = some r := by rw [if_neg (show ¬ (false = true) by decide)] at H; exact H
   obtain rfl := Option.some.inj H
   go_enter Try.func46, Try.ntmps46
   go_wp2_with (first | ((with_reducible refine gate_dst (N := 1) rfl ?_); refine box_event ?hg (N := 1) ?hd (cs := #[.int .i64 a0_0, .int .i64 a0_1, .string a0_2]) (t := 75) ?hr ?_; (case hd => rfl); (case hg => rfl); (case hr => first | (go_simp; done) | (go_simp; rfl)); intro gb103 hg w9 hbox hb; have n0_ := zm (below_step (zg_0 HB.out) hb); have n1_ := zm (hbox); have n2_ := zm ((by rw [hg]; exact (below_size (zg_0 HB.out)) : w.heap.size ≤ gb103)); have n3_ := zm ((by rw [hg]; exact (below_size (zg_0 HB.out)) : w.heap.size ≤ gb103)); replace HB := n0_; have Za := n1_; have Zc := n2_; have Zb := n3_; clear n0_ n1_ n2_ n3_; clear hb hbox hg; obtain ⟨hcz10_0, hcz10_1, hcz10_2, hfz10_0, hfz10_1, hfz10_2⟩ := zb3 Za.out) | ((with_reducible refine gate_callee (f := 15) rfl ?_); refine goesL_ (some 5) rfl rfl Try.func15 (by kernel_rfl) rfl #[.int .i64 a0_0] rfl zq ?_; (with_reducible refine (impl_isHost.calls a0_0 true _ A2.out).mono ?_); rintro e w' ⟨rfl, ⟨nd, rfl⟩⟩; refine ⟨_, rfl, ?_⟩) | (go_at_call 40; (with_reducible refine (impl_isPlace.calls a0_1 false _ A4.out).mono ?_); rintro e w' ⟨rfl, ⟨nd, rfl⟩⟩))
   go_ret
   exact ⟨ze, zg_1 HB.out Zb.out⟩
 ·replace c3 := Bool.eq_false_iff.mpr c3
  subst c3
  replace H : (some false) = some r := by rw [if_neg (show ¬ (false = true) by decide)] at H; exact H
  obtain rfl := Option.some.inj H
  go_enter Try.func46, Try.ntmps46
  go_wp2_with (first | ((with_reducible refine gate_dst (N := 1) rfl ?_); refine box_event ?hg (N := 1) ?hd (cs := #[.int .i64 a0_0, .int .i64 a0_1, .string a0_2]) (t := 75) ?hr ?_; (case hd => rfl); (case hg => rfl); (case hr => first | (go_simp; done) | (go_simp; rfl)); intro gb103 hg w11 hbox hb; have n0_ := zm (below_step (zg_0 HB.out) hb); have n1_ := zm (hbox); have n2_ := zm ((by rw [hg]; exact (below_size (zg_0 HB.out)) : w.heap.size ≤ gb103)); have n3_ := zm ((by rw [hg]; exact (below_size (zg_0 HB.out)) : w.heap.size ≤ gb103)); replace HB := n0_; have Za := n1_; have Zc := n2_; have Zb := n3_; clear n0_ n1_ n2_ n3_; clear hb hbox hg; obtain ⟨hcz12_0, hcz12_1, hcz12_2, hfz12_0, hfz12_1, hfz12_2⟩ := zb3 Za.out) | ((with_reducible refine gate_callee (f := 15) rfl ?_); refine goesL_ (some 5) rfl rfl Try.func15 (by kernel_rfl) rfl #[.int .i64 a0_0] rfl zq ?_; (with_reducible refine (impl_isHost.calls a0_0 false _ A2.out).mono ?_); rintro e w' ⟨rfl, ⟨nd, rfl⟩⟩; refine ⟨_, rfl, ?_⟩))
  go_ret
  exact ⟨ze, zg_1 HB.out Zb.out⟩

/-- A state of type 64 at block g of W; what its slices lead to came in by w0. -/
def IsS64 (w0 W : World) (g : Nat) (f0 : List Int) (f1 : Int) (f2 : Int) : Prop := ∃ A0 c0, W.heap[g]? = some (.cells #[.slice A0 f0.length c0, .int .i64 f1, .int .i64 f2] 64 (0, 0)) ∧ w0.heap.size ≤ g ∧ Kd.C (Kd.int .u8) w0 A0 f0.length f0
theorem IsS64.grown {w0 W : World} {g : Nat} {f0 : List Int} {f1 : Int} {f2 : Int} {W1 : World} {row : Option Nat} (h : IsS64 w0 W g f0 f1 f2) (hw : W.grownBy W1 row) (hne : some g ≠ row) : IsS64 w0 W1 g f0 f1 f2 := by
 obtain ⟨A0, c0, hb, hg, hr0⟩ := h
 exact ⟨A0, c0, blk_grown hb hw hne, hg, hr0⟩
theorem IsS64.own_neN {w0 W : World} {g : Nat} {f0 : List Int} {f1 : Int} {f2 : Int} {α : Type} {d : Kd α} {e : Nat} {base : Nat} {ok : Nat → Prop} {v : Value} {xs : List α} (h : IsS64 w0 W g f0 f1 f2) (ho : Kd.N d e W base ok v xs) (ht : e ≠ 64) : some g ≠ v.ownBlock := by
 obtain ⟨A0, c0, hb, hg, hr0⟩ := h
 exact Kd.N_ne ho hb ht
theorem IsS64.fresh {w0 W : World} {g : Nat} {f0 : List Int} {f1 : Int} {f2 : Int} (h : IsS64 w0 W g f0 f1 f2) : ∀ k, W.heap.size ≤ k → k ≠ g := by
 obtain ⟨A0, c0, hb, hg, hr0⟩ := h
 exact Kd.freshB hb
theorem IsS64.kept {w0 W : World} {g : Nat} {f0 : List Int} {f1 : Int} {f2 : Int} {W1 : World} {S : Nat → Prop} (h : IsS64 w0 W g f0 f1 f2) (hk : Kept W W1 S) (hne : ¬ S g) : IsS64 w0 W1 g f0 f1 f2 := by
 obtain ⟨A0, c0, hb, hg, hr0⟩ := h
 exact ⟨A0, c0, blk_kept hb hk hne, hg, hr0⟩
theorem IsS64.below {w0 W : World} {g : Nat} {f0 : List Int} {f1 : Int} {f2 : Int} {W1 : World} (h : IsS64 w0 W g f0 f1 f2) (hw : Below W.heap.size W W1) : IsS64 w0 W1 g f0 f1 f2 := h.grown (grown_of_below hw none) (by simp)
theorem IsS64.alloc {w0 W : World} {g : Nat} {f0 : List Int} {f1 : Int} {f2 : Int} (h : IsS64 w0 W g f0 f1 f2) (o : Obj) : IsS64 w0 (W.alloc o) g f0 f1 f2 := h.below (below_alloc (Below.refl _ _) o)
theorem IsS64.drewN {w0 W : World} {g : Nat} {f0 : List Int} {f1 : Int} {f2 : Int} (h : IsS64 w0 W g f0 f1 f2) (m : Nat) : IsS64 w0 (W.drewN m) g f0 f1 f2 := h
theorem IsS64.drew {w0 W : World} {g : Nat} {f0 : List Int} {f1 : Int} {f2 : Int} (h : IsS64 w0 W g f0 f1 f2) : IsS64 w0 W.drew g f0 f1 f2 := h
theorem IsS64.at_ {w0 W : World} {g : Nat} {f0 : List Int} {f1 : Int} {f2 : Int} {w' : World} {m : Nat} (hq : W.drewN m = w') (h : IsS64 w0 W g f0 f1 f2) : IsS64 w0 w' g f0 f1 f2 := by subst hq; exact IsS64.drewN h m
theorem IsS64.apart {w0 W : World} {g : Nat} {f0 : List Int} {f1 : Int} {f2 : Int} {α : Type} {d : Kd α} {e : Nat} {base : Nat} {ok : Nat → Prop} {v : Value} {xs : List α} (h : IsS64 w0 W g f0 f1 f2) (ho : d.R e W base ok v xs) (ht : ∀ q, q ∈ e :: d.E → q ≠ 64) : d.R e W base (fun k => ok k ∧ k ≠ g) v xs := by
 obtain ⟨A0, c0, hb, hg, hr0⟩ := h
 exact Kd.R_types ho hb ht
theorem IsS64.own_ne {w0 W : World} {g : Nat} {f0 : List Int} {f1 : Int} {f2 : Int} {α : Type} {d : Kd α} {e : Nat} {base : Nat} {ok : Nat → Prop} {v : Value} {xs : List α} (h : IsS64 w0 W g f0 f1 f2) (ho : d.R e W base ok v xs) (ht : e ≠ 64) : some g ≠ v.ownBlock := by
 obtain ⟨A0, c0, hb, hg, hr0⟩ := h
 exact Kd.R_ne ho hb ht
theorem IsS64.apartQ {w0 W : World} {g : Nat} {f0 : List Int} {f1 : Int} {f2 : Int} {α : Type} {d : Kd α} {e : Nat} {base : Nat} {ok : Nat → Prop} {v : Value} {xs : List α} (h : IsS64 w0 W g f0 f1 f2) (ho : d.Q e W base ok v xs) (ht : ∀ q, q ∈ e :: d.E → q ≠ 64) : d.Q e W base (fun k => ok k ∧ k ≠ g) v xs := by
 obtain ⟨A0, c0, hb, hg, hr0⟩ := h
 exact Kd.Q_types ho hb ht
theorem IsS64.own_neQ {w0 W : World} {g : Nat} {f0 : List Int} {f1 : Int} {f2 : Int} {α : Type} {d : Kd α} {e : Nat} {base : Nat} {ok : Nat → Prop} {v : Value} {xs : List α} (h : IsS64 w0 W g f0 f1 f2) (ho : d.Q e W base ok v xs) (ht : e ≠ 64) : some g ≠ v.ownBlock := by
 obtain ⟨A0, c0, hb, hg, hr0⟩ := h
 exact Kd.Q_ne ho hb ht
theorem IsS64.apartS {w0 W : World} {g : Nat} {f0 : List Int} {f1 : Int} {f2 : Int} {α : Type} {d : Kd α} {e : Nat} {base : Nat} {ok : Nat → Prop} {v : Value} {xs : List α} (h : IsS64 w0 W g f0 f1 f2) (ho : d.S e W base ok v xs) (ht : ∀ q, q ∈ e :: d.E → q ≠ 64) : d.S e W base (fun k => ok k ∧ k ≠ g) v xs := by
 obtain ⟨A0, c0, hb, hg, hr0⟩ := h
 exact Kd.S_types ho hb ht
theorem IsS64.own_neS {w0 W : World} {g : Nat} {f0 : List Int} {f1 : Int} {f2 : Int} {α : Type} {d : Kd α} {e : Nat} {base : Nat} {ok : Nat → Prop} {v : Value} {xs : List α} (h : IsS64 w0 W g f0 f1 f2) (ho : d.S e W base ok v xs) (ht : e ≠ 64) : some g ≠ v.ownBlock := by
 obtain ⟨A0, c0, hb, hg, hr0⟩ := h
 exact Kd.S_ne ho hb ht
theorem IsS64.lt {w0 W : World} {g : Nat} {f0 : List Int} {f1 : Int} {f2 : Int} (h : IsS64 w0 W g f0 f1 f2) : g < W.heap.size := by
 obtain ⟨A0, c0, hb, hg, hr0⟩ := h
 exact blk_lt hb
theorem IsS64.ge {w0 W : World} {g : Nat} {f0 : List Int} {f1 : Int} {f2 : Int} (h : IsS64 w0 W g f0 f1 f2) : w0.heap.size ≤ g := by
 obtain ⟨A0, c0, hb, hg, hr0⟩ := h
 exact hg
theorem IsS64.ne_blk {w0 W : World} {g : Nat} {f0 : List Int} {f1 : Int} {f2 : Int} {a : Nat} {cs : Array Value} {t : TypeId} {fr : Nat × Nat} (h : IsS64 w0 W g f0 f1 f2) (hb2 : W.heap[a]? = some (.cells cs t fr)) (ht : t ≠ 64) : g ≠ a := by
 obtain ⟨A0, c0, hb, hg, hr0⟩ := h
 rintro rfl
 rw [hb] at hb2
 injection hb2 with hb2
 injection hb2 with _ ht2
 exact ht ht2.symm
theorem IsS64.far {w0 W : World} {g : Nat} {f0 : List Int} {f1 : Int} {f2 : Int} {p : Addr} (h : IsS64 w0 W g f0 f1 f2) (hne : g ≠ p.block) (u : Value) : IsS64 w0 (W.setCell p u) g f0 f1 f2 := by
 obtain ⟨A0, c0, hb, hg, hr0⟩ := h
 exact ⟨A0, c0, blk_far hb hne u, hg, hr0⟩
theorem cellS64_0 {W : World} {g : Nat} {A0 : Option Addr} {c0 : Nat} {f0 : List Int} {f1 : Int} {f2 : Int} (h : W.heap[g]? = some (.cells #[.slice A0 f0.length c0, .int .i64 f1, .int .i64 f2] 64 (0, 0))) : W.cell? ⟨g, 0, none⟩ = some (.slice A0 f0.length c0) := (blk_cell h 0).trans rfl
theorem cellS64_1 {W : World} {g : Nat} {A0 : Option Addr} {c0 : Nat} {f0 : List Int} {f1 : Int} {f2 : Int} (h : W.heap[g]? = some (.cells #[.slice A0 f0.length c0, .int .i64 f1, .int .i64 f2] 64 (0, 0))) : W.cell? ⟨g, 1, none⟩ = some (.int .i64 f1) := (blk_cell h 1).trans rfl
theorem IsS64.set_1 {w0 W : World} {g : Nat} {f0 : List Int} {f1 : Int} {f2 : Int} (h : IsS64 w0 W g f0 f1 f2) (x : Int) : IsS64 w0 (W.setCell ⟨g, 1, none⟩ (.int .i64 x)) g f0 x f2 := by
 obtain ⟨A0, c0, hb, hg, hr0⟩ := h
 exact ⟨A0, c0, by simpa using blk_set hb 1 (.int .i64 x), hg, hr0⟩
theorem cellS64_2 {W : World} {g : Nat} {A0 : Option Addr} {c0 : Nat} {f0 : List Int} {f1 : Int} {f2 : Int} (h : W.heap[g]? = some (.cells #[.slice A0 f0.length c0, .int .i64 f1, .int .i64 f2] 64 (0, 0))) : W.cell? ⟨g, 2, none⟩ = some (.int .i64 f2) := (blk_cell h 2).trans rfl
theorem IsS64.set_2 {w0 W : World} {g : Nat} {f0 : List Int} {f1 : Int} {f2 : Int} (h : IsS64 w0 W g f0 f1 f2) (x : Int) : IsS64 w0 (W.setCell ⟨g, 2, none⟩ (.int .i64 x)) g f0 f1 x := by
 obtain ⟨A0, c0, hb, hg, hr0⟩ := h
 exact ⟨A0, c0, by simpa using blk_set hb 2 (.int .i64 x), hg, hr0⟩
theorem IsS64.new (w0 W : World) (A0 : Option Addr) (c0 : Nat) (f0 : List Int) (f1 : Int) (f2 : Int) (hB : Below w0.heap.size w0 W) (hr0 : Kd.C (Kd.int .u8) w0 A0 f0.length f0) : IsS64 w0 (W.alloc (.cells #[.slice A0 f0.length c0, .int .i64 f1, .int .i64 f2] 64)) W.heap.size f0 f1 f2 := ⟨A0, c0, by simpa using heap_alloc_new W _, hB.size, hr0⟩
section
attribute [local go_sem high] eqA52
def all45_impl_DiskOK_1.f (l0 : List S75) (_ : Unit) : Option Bool := allO (fun x => impl_DiskOK_1.f x.f0 x.f1 x.f2) l0
theorem all45_impl_DiskOK_1.asks : Asks1 46 k75 (fun cs => .agg cs.toArray) (fun x => impl_DiskOK_1.f x.f0 x.f1 x.f2) := ⟨⟨_, Try.func46, by kernel_rfl, rfl⟩, fun x cs r w hK h => by
  obtain rfl := k75_open hK
  exact (impl_DiskOK_1.calls x.f0 x.f1 x.f2 r w  h).mono fun e w' hh => ⟨hh.1, hh.2⟩⟩
theorem all45_impl_DiskOK_1.calls (A0 : Option Addr) (c0 : Nat) (l0 : List S75) (_u : Unit) (r : Bool) (w : World) (hr0 : Kd.C k75 w A0 l0.length l0) (hc0 : l0.length ≤ c0) (h : all45_impl_DiskOK_1.f l0 () = some r) :
    Calls Try.prog 45 #[.slice A0 l0.length c0, .func (.func 46) #[] #[]] w fun e w' => e = .returned (.bool r) ∧ Below w.heap.size w w' :=
  all45 (all45_impl_DiskOK_1.asks) A0 c0 l0 r w hr0 hc0 h
end
section
attribute [local go_sem high] eqA52
def impl_DiskOK.f (l0_0 : List ByteArray) (l0_1 : List (S75)) : Option (Bool) := if (l0_0.length : Int) = 64 then ((all44_impl_isSector.f l0_0 ()).bind fun t255 => (if t255 = true then (if (l0_1.length : Int) ≤ 200 then ((all45_impl_DiskOK_1.f l0_1 ()).bind fun t256 => (some t256)) else (some false)) else (some false))) else (some false)
set_option maxHeartbeats 8000000 in
set_option maxRecDepth 100000 in
theorem impl_DiskOK.calls (A0_0 : Option Addr) (c0_0 : Nat) (l0_0 : List ByteArray) (A0_1 : Option Addr) (c0_1 : Nat) (l0_1 : List (S75)) (r : Bool) (w : World) (hr0_0 : Kd.C Kd.string w A0_0 l0_0.length l0_0) (hc0_0 : l0_0.length ≤ c0_0) (hr0_1 : Kd.C k75 w A0_1 l0_1.length l0_1) (hc0_1 : l0_1.length ≤ c0_1) (h : impl_DiskOK.f l0_0 l0_1 = some r) :
    Calls Try.prog 26 #[.agg #[.slice A0_0 l0_0.length c0_0, .slice A0_1 l0_1.length c0_1]] w fun e w' => e = .returned (.bool r) ∧ Below w.heap.size w w' := by
 have hu32 := Try.underlying32; have Zc := zm hr0_0; have Zd := zm hc0_0; clear hr0_0 hc0_0; have Zf := zm hr0_1; have Zg := zm hc0_1; clear hr0_1 hc0_1; have HB := zm (Below.refl w.heap.size w); have H := h
 unfold impl_DiskOK.f at H
 clear h
 by_cases c2 : (l0_0.length : Int) = 64
 ·rw [if_pos c2] at H
  have c2b0 : ((l0_0.length : Int) == 64) = true := beq_iff_eq.mpr c2
  have c2b1 : ((l0_0.length : Int) != 64) = false := bne_eq_false_iff_eq.mpr c2
  clear c2; replace H := Option.bind_eq_some_iff.mp H
  obtain ⟨t255, A30, H⟩ := H
  try dsimp only at H
  have A3 := zm A30; clear A30
  by_cases c4 : t255 = true
  ·subst c4
   replace H : (if (l0_1.length : Int) ≤ 200 then ((all45_impl_DiskOK_1.f l0_1 ()).bind fun t256 => (some t256)) else (some false)) = some r := by rw [if_pos rfl] at H; exact H
   by_cases c5 : (l0_1.length : Int) ≤ 200
   ·rw [if_pos c5] at H
    have c5b0 := decide_eq_true c5
    have c5b1 : decide (l0_1.length ≤ 200) = true := decide_eq_true (by omega)
    clear c5; replace H := Option.bind_eq_some_iff.mp H
    obtain ⟨t256, A60, H⟩ := H
    replace H : (some t256) = some r := H
    have A6 := zm A60; clear A60; obtain rfl := Option.some.inj H
    go_enter Try.func26, Try.ntmps26
    go_wp2_with (first | ((with_reducible refine gate_dst (N := 1) rfl ?_); (try (refine gate_guard (by rfl) ?_; dsimp only)); refine box_event ?hg (N := 1) ?hd (cs := #[.slice A0_0 l0_0.length c0_0, .slice A0_1 l0_1.length c0_1]) (t := 32) ?hr ?_; (case hd => rfl); (case hg => rfl); (case hr => first | (go_simp; done) | (go_simp; rfl)); intro gb254 hg w7 hbox hb; have n0_ := zm (below_step (zg_0 HB.out) hb); have n1_ := zm (hbox); have n2_ := zm ((by rw [hg]; exact (below_size (zg_0 HB.out)) : w.heap.size ≤ gb254)); have n3_ := zm ((by rw [hg]; exact (below_size (zg_0 HB.out)) : w.heap.size ≤ gb254)); replace HB := n0_; have Za := n1_; have Ze := n2_; have Zb := n3_; clear n0_ n1_ n2_ n3_; clear hb hbox hg; obtain ⟨hcz8_0, hcz8_1, hfz8_0, hfz8_1⟩ := zb2 Za.out) | (go_at_call 44; (with_reducible refine (all44_impl_isSector.calls _ _ l0_0 () true _ ?side1 ?side2 A3.out).mono ?_); (case side1 => exact zC (Kd.C_below Zc.out HB.out)); (case side2 => exact Zd.out); rintro e w9 ⟨rfl, hb⟩; have n0_ := zm (blk_below (g := gb254) (o := .cells #[.slice A0_0 l0_0.length c0_0, .slice A0_1 l0_1.length c0_1] 32 (0, 0)) (zg_3 Za.out) hb); have n1_ := zm (below_step (zg_1 HB.out Zb.out) hb); replace Za := n0_; replace HB := n1_; clear n0_ n1_; (try clear hb); (try clear hb2); (try clear hk); (try clear hi); obtain ⟨hcz10_0, hcz10_1, hfz10_0, hfz10_1⟩ := zb2 Za.out) | (go_at_call 45; (with_reducible refine (all45_impl_DiskOK_1.calls _ _ l0_1 () t256 _ ?side1 ?side2 A6.out).mono ?_); (case side1 => exact zC (Kd.C_below Zf.out HB.out)); (case side2 => exact Zg.out); rintro e w11 ⟨rfl, hb⟩; have n0_ := zm (blk_below (g := gb254) (o := .cells #[.slice A0_0 l0_0.length c0_0, .slice A0_1 l0_1.length c0_1] 32 (0, 0)) (zg_3 Za.out) hb); have n1_ := zm (below_step (zg_1 HB.out Zb.out) hb); replace Za := n0_; replace HB := n1_; clear n0_ n1_; (try clear hb); (try clear hb2); (try clear hk); (try clear hi)))
    go_ret
    exact ⟨ze, zg_1 HB.out Zb.out⟩
   ·rw [if_neg c5] at H
    have c5b0 := decide_eq_false c5
    have c5b1 : decide (l0_1.length ≤ 200) = false := decide_eq_false (by omega)
    clear c5; obtain rfl := Option.some.inj H
    go_enter Try.func26, Try.ntmps26
    go_wp2_with (first | ((with_reducible refine gate_dst (N := 1) rfl ?_); (try (refine gate_guard (by rfl) ?_; dsimp only)); refine box_event ?hg (N := 1) ?hd (cs := #[.slice A0_0 l0_0.length c0_0, .slice A0_1 l0_1.length c0_1]) (t := 32) ?hr ?_; (case hd => rfl); (case hg => rfl); (case hr => first | (go_simp; done) | (go_simp; rfl)); intro gb254 hg w12 hbox hb; have n0_ := zm (below_step (zg_0 HB.out) hb); have n1_ := zm (hbox); have n2_ := zm ((by rw [hg]; exact (below_size (zg_0 HB.out)) : w.heap.size ≤ gb254)); have n3_ := zm ((by rw [hg]; exact (below_size (zg_0 HB.out)) : w.heap.size ≤ gb254)); replace HB := n0_; have Za := n1_; have Ze := n2_; have Zb := n3_; clear n0_ n1_ n2_ n3_; clear hb hbox hg; obtain ⟨hcz13_0, hcz13_1, hfz13_0, hfz13_1⟩ := zb2 Za.out) | (go_at_call 44; (with_reducible refine (all44_impl_isSector.calls _ _ l0_0 () true _ ?side1 ?side2 A3.out).mono ?_); (case side1 => exact zC (Kd.C_below Zc.out HB.out)); (case side2 => exact Zd.out); rintro e w14 ⟨rfl, hb⟩; have n0_ := zm (blk_below (g := gb254) (o := .cells #[.slice A0_0 l0_0.length c0_0, .slice A0_1 l0_1.length c0_1] 32 (0, 0)) (zg_3 Za.out) hb); have n1_ := zm (below_step (zg_1 HB.out Zb.out) hb); replace Za := n0_; replace HB := n1_; clear n0_ n1_; (try clear hb); (try clear hb2); (try clear hk); (try clear hi); obtain ⟨hcz15_0, hcz15_1, hfz15_0, hfz15_1⟩ := zb2 Za.out))
    go_ret
    exact ⟨ze, zg_1 HB.out Zb.out⟩
  ·replace c4 := Bool.eq_false_iff.mpr c4
   subst c4
   replace H : (some false) = some r := by rw [if_neg (show ¬ (false = true) by decide)] at H; exact H
   obtain rfl := Option.some.inj H
   go_enter Try.func26, Try.ntmps26
   go_wp2_with (first | ((with_reducible refine gate_dst (N := 1) rfl ?_); (try (refine gate_guard (by rfl) ?_; dsimp only)); refine box_event ?hg (N := 1) ?hd (cs := #[.slice A0_0 l0_0.length c0_0, .slice A0_1 l0_1.length c0_1]) (t := 32) ?hr ?_; (case hd => rfl); (case hg => rfl); (case hr => first | (go_simp; done) | (go_simp; rfl)); intro gb254 hg w16 hbox hb; have n0_ := zm (below_step (zg_0 HB.out) hb); have n1_ := zm (hbox); have n2_ := zm ((by rw [hg]; exact (below_size (zg_0 HB.out)) : w.heap.size ≤ gb254)); have n3_ := zm ((by rw [hg]; exact (below_size (zg_0 HB.out)) : w.heap.size ≤ gb254)); replace HB := n0_; have Za := n1_; have Ze := n2_; have Zb := n3_; clear n0_ n1_ n2_ n3_; clear hb hbox hg; obtain ⟨hcz17_0, hcz17_1, hfz17_0, hfz17_1⟩ := zb2 Za.out) | (go_at_call 44; (with_reducible refine (all44_impl_isSector.calls _ _ l0_0 () false _ ?side1 ?side2 A3.out).mono ?_); (case side1 => exact zC (Kd.C_below Zc.out HB.out)); (case side2 => exact Zd.out); rintro e w18 ⟨rfl, hb⟩; have n0_ := zm (blk_below (g := gb254) (o := .cells #[.slice A0_0 l0_0.length c0_0, .slice A0_1 l0_1.length c0_1] 32 (0, 0)) (zg_3 Za.out) hb); have n1_ := zm (below_step (zg_1 HB.out Zb.out) hb); replace Za := n0_; replace HB := n1_; clear n0_ n1_; (try clear hb); (try clear hb2); (try clear hk); (try clear hi)))
   go_ret
   exact ⟨ze, zg_1 HB.out Zb.out⟩
 ·rw [if_neg c2] at H
  have c2b0 : ((l0_0.length : Int) == 64) = false := beq_eq_false_iff_ne.mpr c2
  have c2b1 : ((l0_0.length : Int) != 64) = true := bne_iff_ne.mpr c2
  obtain rfl := Option.some.inj H
  go_enter Try.func26, Try.ntmps26
  go_wp2_with (first | ((with_reducible refine gate_dst (N := 1) rfl ?_); (try (refine gate_guard (by rfl) ?_; dsimp only)); refine box_event ?hg (N := 1) ?hd (cs := #[.slice A0_0 l0_0.length c0_0, .slice A0_1 l0_1.length c0_1]) (t := 32) ?hr ?_; (case hd => rfl); (case hg => rfl); (case hr => first | (go_simp; done) | (go_simp; rfl)); intro gb254 hg w19 hbox hb; have n0_ := zm (below_step (zg_0 HB.out) hb); have n1_ := zm (hbox); have n2_ := zm ((by rw [hg]; exact (below_size (zg_0 HB.out)) : w.heap.size ≤ gb254)); have n3_ := zm ((by rw [hg]; exact (below_size (zg_0 HB.out)) : w.heap.size ≤ gb254)); replace HB := n0_; have Za := n1_; have Ze := n2_; have Zb := n3_; clear n0_ n1_ n2_ n3_; clear hb hbox hg; obtain ⟨hcz20_0, hcz20_1, hfz20_0, hfz20_1⟩ := zb2 Za.out))
  go_ret
  exact ⟨ze, zg_1 HB.out Zb.out⟩
end
section
attribute [local go_sem high] eqA52
def impl_Io_43.f (l0 : List S75) : Option (List S75) := if l0.length < 4398046511104 then some l0 else none
set_option maxHeartbeats 1000000 in
set_option maxRecDepth 100000 in
theorem impl_Io_43.calls (A0 : Option Addr) (c0 : Nat) (l0 : List S75) (r : List S75) (w : World) (hr0 : Kd.C k75 w A0 l0.length l0) (hc0 : l0.length ≤ c0) (h : impl_Io_43.f l0 = some r) :
    Calls Try.prog 43 #[.slice A0 l0.length c0] w fun e w' => ∃ v : Value, e = .returned v ∧ Kd.R k75 75 w' w.heap.size (fun _ => True) v r ∧ Below w.heap.size w w' := by
  have hlim : l0.length < 4398046511104 := by
    unfold impl_Io_43.f at h; split at h
    · assumption
    · cases h
  have hres : l0 = r := by unfold impl_Io_43.f at h; rw [if_pos hlim] at h; exact Option.some.inj h
  subst hres; have HR0 := zm hr0; have HB := zm (Below.refl w.heap.size w); have LM := zm hlim
  have heq := fun (wx : World) (a : Option Addr) => Lib.run_eql_slice_nil (P := Try.prog) wx 30 75 a l0.length c0 0 0 Try.underlying30
  clear hr0 h hlim
  cases A0 with
  | none =>
    have hl : l0 = [] := by
      by_cases hn : 0 < l0.length
      · obtain ⟨ad, ha, _⟩ := HR0.out.2.2 hn
        cases ha
      · exact List.eq_nil_of_length_eq_zero (by omega)
    subst hl
    simp only [List.length_nil] at heq
    clear HR0 LM
    go_enter Try.func43, Try.ntmps43
    go_wp2
    go_ret
    exact ⟨_, rfl, Kd.R_nil _ _ _ _ _, HB.out⟩
  | some a =>
    go_enter Try.func43, Try.ntmps43
    go_wp2_with (first | ((with_reducible refine gate_dst (N := 5) rfl ?_); refine Kd.R_lit k75 _ 75 ?hg (N := 5) ?hd (xs := ([] : List S75)) (inner := []) (ok := fun _ => True) (okp := fun _ => True) ?hr ?hp (fun _ hk => hk) trivial (Below.refl _ _) (Nat.le_refl _) (by simp) ?_; (case hd => rfl); (case hg => rfl); (case hr => first | (go_simp; done) | (go_simp; rfl)); (case hp => exact (Reps.none _ _)); intro v5 w2 ho hb hg_ hnew_; clear hg_ hnew_; have HO := zm ho; have HB2 := zm hb; clear ho hb) | ((with_reducible refine gate_builtin (b := .append) (xs := #[.tmp 5, .tmp 6]) rfl ?_); at_builtin; refine Kd.R_append_rows k75 (w0 := w) w.heap.size rfl (.tmp 5) (.tmp 6) 30 75 (.agg #[(.int .i64 0), (.int .i64 0), (.string ⟨#[]⟩)]) 32 rfl Try.underlying30 info75 rfl (by decide) (by omega) v5 ([] : List S75) l0 _ _ _ (fun _ => True) (fun _ => False) rfl rfl ?aO ?aR (fun _ _ h => h) (fun _ h => h.elim) ?aF ?aB ?aS ?aL ?_; (case aR => exact Kd.C_below HR0.out HB2.out); (case aB => exact HB2.out); (case aF => exact (fun _ _ => trivial)); (case aO => exact HO.out); (case aS => exact (below_size HB2.out)); (case aL => have := LM.out; simp; omega); intro v7 w3 ho hb hg hat; have HO3 := zm ho; have HB3 := zm hb; clear ho hb hg hat))
    go_ret
    exact ⟨_, rfl, by simpa using HO3.out, HB3.out⟩
end
section
attribute [local go_sem high] eqA52
def slices_Clone_string_string.f (l0 : List ByteArray) : Option (List ByteArray) := if l0.length < 8796093022208 then some l0 else none
set_option maxHeartbeats 1000000 in
set_option maxRecDepth 100000 in
theorem slices_Clone_string_string.calls (A0 : Option Addr) (c0 : Nat) (l0 : List ByteArray) (r : List ByteArray) (w : World) (hr0 : Kd.C Kd.string w A0 l0.length l0) (hc0 : l0.length ≤ c0) (h : slices_Clone_string_string.f l0 = some r) :
    Calls Try.prog 42 #[.slice A0 l0.length c0] w fun e w' => ∃ v : Value, e = .returned v ∧ Kd.R Kd.string 9 w' w.heap.size (fun _ => True) v r ∧ Below w.heap.size w w' := by
  have hlim : l0.length < 8796093022208 := by
    unfold slices_Clone_string_string.f at h; split at h
    · assumption
    · cases h
  have hres : l0 = r := by unfold slices_Clone_string_string.f at h; rw [if_pos hlim] at h; exact Option.some.inj h
  subst hres; have HR0 := zm hr0; have HB := zm (Below.refl w.heap.size w); have LM := zm hlim
  have heq := fun (wx : World) (a : Option Addr) => Lib.run_eql_slice_nil (P := Try.prog) wx 29 9 a l0.length c0 0 0 Try.underlying29
  clear hr0 h hlim
  cases A0 with
  | none =>
    have hl : l0 = [] := by
      by_cases hn : 0 < l0.length
      · obtain ⟨ad, ha, _⟩ := HR0.out.2.2 hn
        cases ha
      · exact List.eq_nil_of_length_eq_zero (by omega)
    subst hl
    simp only [List.length_nil] at heq
    clear HR0 LM
    go_enter Try.func42, Try.ntmps42
    go_wp2
    go_ret
    exact ⟨_, rfl, Kd.R_nil _ _ _ _ _, HB.out⟩
  | some a =>
    go_enter Try.func42, Try.ntmps42
    go_wp2_with (first | ((with_reducible refine gate_dst (N := 5) rfl ?_); refine Kd.R_lit Kd.string _ 9 ?hg (N := 5) ?hd (xs := ([] : List ByteArray)) (inner := []) (ok := fun _ => True) (okp := fun _ => True) ?hr ?hp (fun _ hk => hk) trivial (Below.refl _ _) (Nat.le_refl _) (by simp) ?_; (case hd => rfl); (case hg => rfl); (case hr => first | (go_simp; done) | (go_simp; rfl)); (case hp => exact (Reps.none _ _)); intro v5 w2 ho hb hg_ hnew_; clear hg_ hnew_; have HO := zm ho; have HB2 := zm hb; clear ho hb) | ((with_reducible refine gate_builtin (b := .append) (xs := #[.tmp 5, .tmp 6]) rfl ?_); at_builtin; refine Kd.R_append_rows Kd.string (w0 := w) w.heap.size rfl (.tmp 5) (.tmp 6) 29 9 (.string ⟨#[]⟩) 16 rfl Try.underlying29 info9 rfl (by decide) (by omega) v5 ([] : List ByteArray) l0 _ _ _ (fun _ => True) (fun _ => False) rfl rfl ?aO ?aR (fun _ _ h => h) (fun _ h => h.elim) ?aF ?aB ?aS ?aL ?_; (case aR => exact Kd.C_below HR0.out HB2.out); (case aB => exact HB2.out); (case aF => exact (fun _ _ => trivial)); (case aO => exact HO.out); (case aS => exact (below_size HB2.out)); (case aL => have := LM.out; simp; omega); intro v7 w3 ho hb hg hat; have HO3 := zm ho; have HB3 := zm hb; clear ho hb hg hat))
    go_ret
    exact ⟨_, rfl, by simpa using HO3.out, HB3.out⟩
end
section
attribute [local go_sem high] eqA52
def impl_Disk_copied.f (l0_0 : List ByteArray) (l0_1 : List (S75)) : Option (List ByteArray × (List (S75))) := (slices_Clone_string_string.f l0_0).bind fun t269 => ((impl_Io_43.f l0_1).bind fun t272 => (some (t269, t272)))
def impl_Disk_copied.T1 : Bool × List (List Nat × List Nat) := (true, [([], []), ([0], [0]), ([1], [1]), ([], []), ([3], [3]), ([4, 2], [4]), ([2, 5], [2, 5]), ([6, 5, 0, 1, 2, 3, 4, 5, 6], [6])])
def impl_Disk_copied.B1 : List Nat := [0, 1, 3, 0, 8, 31, 63, 127]
theorem impl_Disk_copied.tab1 : rtab .any (opsOf Try.f24 1) = impl_Disk_copied.T1 := by kernel_rfl
theorem impl_Disk_copied.bits1 : waitsOk impl_Disk_copied.T1.2 impl_Disk_copied.B1 = true := by kernel_rfl
set_option maxHeartbeats 8000000 in
set_option maxRecDepth 100000 in
theorem impl_Disk_copied.calls (A0_0 : Option Addr) (c0_0 : Nat) (l0_0 : List ByteArray) (A0_1 : Option Addr) (c0_1 : Nat) (l0_1 : List (S75)) (r1 : List ByteArray) (r2 : List (S75)) (w : World) (hr0_0 : Kd.C Kd.string w A0_0 l0_0.length l0_0) (hc0_0 : l0_0.length ≤ c0_0) (hr0_1 : Kd.C k75 w A0_1 l0_1.length l0_1) (hc0_1 : l0_1.length ≤ c0_1) (h : impl_Disk_copied.f l0_0 l0_1 = some (r1, r2)) :
    Calls Try.prog 24 #[.agg #[.slice A0_0 l0_0.length c0_0, .slice A0_1 l0_1.length c0_1]] w fun e w' => ∃ v0_ v1_ : Value, e = .returned (.agg #[v0_, v1_]) ∧ Kd.R Kd.string 9 w' w.heap.size (fun _ => True) v0_ r1 ∧ Kd.R k75 75 w' w.heap.size (fun _ => True) v1_ r2 ∧ Below w.heap.size w w' := by
 have hu32 := Try.underlying32; have Zi := zm hr0_0; have Zj := zm hc0_0; clear hr0_0 hc0_0; have Zk := zm hr0_1; have Zl := zm hc0_1; clear hr0_1 hc0_1; have HB := zm (Below.refl w.heap.size w); have H := h
 unfold impl_Disk_copied.f at H
 clear h; replace H := Option.bind_eq_some_iff.mp H
 obtain ⟨t269, A20, H⟩ := H
 try dsimp only at H
 have A2 := zm A20; clear A20; replace H := Option.bind_eq_some_iff.mp H
 obtain ⟨t272, A30, H⟩ := H
 replace H : (some (t269, t272)) = some (r1, r2) := H
 have A3 := zm A30; clear A30
 simp only [Option.some.injEq, Prod.mk.injEq] at H
 obtain ⟨rfl, rfl⟩ := H
 go_enter Try.func24, Try.ntmps24
 try go_wp2_with (first | ((with_reducible refine gate_dst (N := 1) rfl ?_); refine box_event ?hg (N := 1) ?hd (cs := #[.slice A0_0 l0_0.length c0_0, .slice A0_1 l0_1.length c0_1]) (t := 32) ?hr ?_; (case hd => rfl); (case hg => rfl); (case hr => first | (go_simp; done) | (go_simp; rfl)); intro gb267 hg w4 hbox hb; have n0_ := zm (below_step (zg_0 HB.out) hb); have n1_ := zm (hbox); have n2_ := zm ((by rw [hg]; exact (below_size (zg_0 HB.out)) : w.heap.size ≤ gb267)); have n3_ := zm ((by rw [hg]; exact (below_size (zg_0 HB.out)) : w.heap.size ≤ gb267)); replace HB := n0_; have Za := n1_; have Zm := n2_; have Zd := n3_; clear n0_ n1_ n2_ n3_; clear hb hbox hg) | ((with_reducible refine gate_dst (N := 2) rfl ?_); refine box_event ?hg (N := 2) ?hd (cs := #[.slice none 0 0, .slice none 0 0]) (t := 32) ?hr ?_; (case hd => rfl); (case hg => rfl); (case hr => first | (go_simp; done) | (go_simp; rfl)); intro gb268 hg w5 hbox hb; have n0_ := zm (blk_below (g := gb267) (o := .cells #[.slice A0_0 l0_0.length c0_0, .slice A0_1 l0_1.length c0_1] 32 (0, 0)) (zg_3 Za.out) hb); have n1_ := zm (below_step (zg_1 HB.out Zd.out) hb); have n2_ := zm (hbox); have n3_ := zm ((by rw [hg]; exact (below_size (zg_1 HB.out Zd.out)) : w.heap.size ≤ gb268)); have n4_ := zm ((by rw [hg]; exact (below_size (zg_1 HB.out Zd.out)) : w.heap.size ≤ gb268)); have n5_ := zm ((by rw [hg]; exact Nat.ne_of_lt (blk_lt (g := gb267) (o := .cells #[.slice A0_0 l0_0.length c0_0, .slice A0_1 l0_1.length c0_1] 32 (0, 0)) (zg_3 Za.out)) : gb267 ≠ gb268)); have n6_ := zm ((by rw [hg]; exact Nat.ne_of_gt (blk_lt (g := gb267) (o := .cells #[.slice A0_0 l0_0.length c0_0, .slice A0_1 l0_1.length c0_1] 32 (0, 0)) (zg_3 Za.out)) : gb268 ≠ gb267)); replace Za := n0_; replace HB := n1_; have Zb := n2_; have Zn := n3_; have Zf := n4_; have Zc := n5_; have Ze := n6_; clear n0_ n1_ n2_ n3_ n4_ n5_ n6_; clear hb hbox hg))
 have n0_ := zm (blk_drew Za.out); have n1_ := zm (blk_drew Zb.out); have n2_ := zm (below_drew1 HB.out); clear Za; clear Zb; clear HB; have Za := n0_; have Zb := n1_; have HB := n2_; clear n0_ n1_ n2_
 refine start_ (n := 8) (S := fun w' => w'.cell? ⟨gb267, 0, none⟩ = some (.slice A0_0 l0_0.length c0_0) ∧ w'.cell? ⟨gb267, 1, none⟩ = some (.slice A0_1 l0_1.length c0_1)) (ds := []) #[false, false, false, false, false, false, false, false] (by kernel_rfl) rfl rfl ⟨(blk_cell Za.out 0).trans rfl, (blk_cell Za.out 1).trans rfl⟩ (fun hHeld => ?_); refine with_tabW impl_Disk_copied.tab1 impl_Disk_copied.bits1 (fun HT_ HW_ => ?_)
 generalize w5.drew = w6 at Za Zb HB hHeld ⊢
 refine pure_ (i := 0) (N := some 3) (v := ?_) (a' := ?_) #[true, false, false, false, false, false, false, false] rfl rfl (any_of HT_.out (by kernel_rfl)) (fun _ _ _ h => h) (Or.inl ⟨by rfl, ?_⟩) ?_ ?_
 rotate_left
 ·intro w'
  go_simp
  with_reducible rfl
 rotate_left
 ·simp only [Act.put, zs, zz, zt, i64_w, i32_w]
  rfl
 refine pure_ (i := 3) (N := some 6) (v := ?_) (a' := ?_) #[true, false, false, true, false, false, false, false] rfl rfl (any_of HT_.out (by kernel_rfl)) (fun _ _ _ h => h) (Or.inl ⟨by rfl, ?_⟩) ?_ ?_
 rotate_left
 ·intro w'
  go_simp
  with_reducible rfl
 rotate_left
 ·simp only [Act.put, zs, zz, zt, i64_w, i32_w]
  rfl
 refine take_ (i := 1) (N := some 4) (v := ?_) (a' := ?_) #[true, true, false, true, false, false, false, false] rfl rfl (take_ofW HT_.out HW_.out (by kernel_rfl)) (fun _ _ _ h => h) (Or.inl ⟨by rfl, ?_⟩) hHeld ?_ ?_
 rotate_left
 ·rintro w' ⟨s0, s1⟩
  go_simp
  with_reducible rfl
 rotate_left
 ·simp only [Act.put, zs, zz, zt, i64_w, i32_w]
  rfl
 refine take_ (i := 4) (N := some 7) (v := ?_) (a' := ?_) #[true, true, false, true, true, false, false, false] rfl rfl (take_ofW HT_.out HW_.out (by kernel_rfl)) (fun _ _ _ h => h) (Or.inl ⟨by rfl, ?_⟩) hHeld ?_ ?_
 rotate_left
 ·rintro w' ⟨s0, s1⟩
  go_simp
  with_reducible rfl
 rotate_left
 ·simp only [Act.put, zs, zz, zt, i64_w, i32_w]
  rfl
 refine one_ (i := 2) (N := some 5) #[true, true, true, true, true, false, false, false] rfl rfl (one_of HT_.out (by kernel_rfl)) (by decide) (fun K hK => ?_)
 refine goes_ Try.func42 (by kernel_rfl) rfl #[.slice A0_0 l0_0.length c0_0] (by rfl) rfl rfl zq ?_
 with_reducible refine (slices_Clone_string_string.calls _ _ l0_0 t269 _ ?side1 ?side2 A2.out).mono ?_
 (case side1 => exact zC (Kd.C_below Zi.out HB.out))
 (case side2 => exact Zj.out)
 rintro e w7 ⟨v270, rfl, ho0, hb⟩
 refine ⟨_, rfl, ?_⟩
 have n0_ := zm (Kd.R_lower ho0 (below_size (zg_4 HB.out Zd.out Zf.out))); have n1_ := zm (blk_below (g := gb267) (o := .cells #[.slice A0_0 l0_0.length c0_0, .slice A0_1 l0_1.length c0_1] 32 (0, 0)) (zg_3 Za.out) hb); have n2_ := zm (blk_below (g := gb268) (o := .cells #[.slice none 0 0, .slice none 0 0] 32 (0, 0)) (zg_3 Zb.out) hb); have n3_ := zm (below_step (zg_4 HB.out Zd.out Zf.out) hb); clear Za; clear Zb; clear HB; have Zg := n0_; have Za := n1_; have Zb := n2_; have HB := n3_; clear n0_ n1_ n2_ n3_
 (try clear hb)
 (try clear hb2)
 (try clear hk)
 (try clear hi)
 (try clear ho0)
 refine hK.out _ _ ⟨(blk_cell Za.out 0).trans rfl, (blk_cell Za.out 1).trans rfl⟩ (fun hHeld => ?_)
 clear hK K
 refine norm_ (a' := ?_) ?_ ?_
 rotate_left
 ·show Act.put _ (some 5) _ = _
  simp only [Act.put, zs, zz, zt, i64_w, i32_w]
  rfl
 refine one_ (i := 5) (N := some 8) #[true, true, true, true, true, true, false, false] rfl rfl (one_of HT_.out (by kernel_rfl)) (by decide) (fun K hK => ?_)
 refine goes_ Try.func43 (by kernel_rfl) rfl #[.slice A0_1 l0_1.length c0_1] (by rfl) rfl rfl zq ?_
 with_reducible refine (impl_Io_43.calls _ _ l0_1 t272 _ ?side1 ?side2 A3.out).mono ?_
 (case side1 => exact zC (Kd.C_below Zk.out HB.out))
 (case side2 => exact Zl.out)
 rintro e w8 ⟨v273, rfl, ho0, hb⟩
 refine ⟨_, rfl, ?_⟩
 have n0_ := zm (Kd.R_below (zg_2 Zg.out) hb); have n1_ := zm (Kd.R_lower ho0 (below_size (zg_4 HB.out Zd.out Zf.out))); have n2_ := zm (blk_below (g := gb267) (o := .cells #[.slice A0_0 l0_0.length c0_0, .slice A0_1 l0_1.length c0_1] 32 (0, 0)) (zg_3 Za.out) hb); have n3_ := zm (blk_below (g := gb268) (o := .cells #[.slice none 0 0, .slice none 0 0] 32 (0, 0)) (zg_3 Zb.out) hb); have n4_ := zm (below_step (zg_4 HB.out Zd.out Zf.out) hb); clear Zg; clear Za; clear Zb; clear HB; have Zg := n0_; have Zh := n1_; have Za := n2_; have Zb := n3_; have HB := n4_; clear n0_ n1_ n2_ n3_ n4_
 (try clear hb)
 (try clear hb2)
 (try clear hk)
 (try clear hi)
 (try clear ho0)
 obtain ⟨Ao9, co9, eo9⟩ := Kd.R_slice Zh.out
 (first | subst eo9 | (injection eo9 with f1_ f2_ f3_; have f4_ := f1_.symm; have f5_ := f3_.symm; clear f1_ f2_ f3_; subst f4_; subst f5_))
 obtain ⟨Ao10, co10, eo10⟩ := Kd.R_slice Zg.out
 (first | subst eo10 | (injection eo10 with f1_ f2_ f3_; have f4_ := f1_.symm; have f5_ := f3_.symm; clear f1_ f2_ f3_; subst f4_; subst f5_))
 refine hK.out _ _ ⟨(blk_cell Za.out 0).trans rfl, (blk_cell Za.out 1).trans rfl⟩ (fun hHeld => ?_)
 clear hK K
 refine norm_ (a' := ?_) ?_ ?_
 rotate_left
 ·show Act.put _ (some 8) _ = _
  simp only [Act.put, zs, zz, zt, i64_w, i32_w]
  rfl
 refine pure_ (i := 6) (N := some 9) (v := ?_) (a' := ?_) #[true, true, true, true, true, true, true, false] rfl rfl (any_of HT_.out (by kernel_rfl)) (fun _ _ _ h => h) (Or.inl ⟨by rfl, ?_⟩) ?_ ?_
 rotate_left
 ·intro w'
  go_simp
  with_reducible rfl
 rotate_left
 ·simp only [Act.put, zs, zz, zt, i64_w, i32_w]
  rfl
 refine one_ (i := 7) (N := none) #[true, true, true, true, true, true, true, true] rfl rfl (one_of HT_.out (by kernel_rfl)) (by decide) (fun K hK => ?_)
 have hs11 : w8.cell? ⟨gb268, 0, none⟩ = some (.slice none 0 0) := (blk_cell Zb.out 0).trans rfl
 have hfs11 := blk_frozen Zb.out 0; have hns11_0 := Zc.out; have hms11_0 := Ze.out
 have hs12 : w8.cell? ⟨gb268, 1, none⟩ = some (.slice none 0 0) := (blk_cell Zb.out 1).trans rfl
 have hfs12 := blk_frozen Zb.out 1; have hns12_0 := Zc.out; have hms12_0 := Ze.out
 refine skip_ (w1 := ?_) (by rfl) rfl ?_ ?_
 rotate_left
 ·go_simp
  rfl
 refine hK.out _ _ ⟨((cell_far (p := ⟨gb268, _, none⟩) Zc.out _).trans (((cell_far (p := ⟨gb268, _, none⟩) Zc.out _).trans (hHeld.1)))), ((cell_far (p := ⟨gb268, _, none⟩) Zc.out _).trans (((cell_far (p := ⟨gb268, _, none⟩) Zc.out _).trans (hHeld.2))))⟩ (fun hHeld => ?_)
 clear hK K
 refine done_ (done_of HT_.out (by kernel_rfl)) ?_
 try go_wp2
 refine bodyPost_ret (results_cell_row rfl _ _ gb268 32 #[.slice Ao10 t269.length co10, .slice Ao9 t272.length co9] (0, 0) _ rfl (by (with_reducible repeat (first | refine blk_drewN ?_ _ | refine blk_drew ?_ | refine blk_alloc ?_ _)); refine blk_put (cs := #[.slice Ao10 t269.length co10, .slice none 0 0]) ?_ 1 _ rfl; (with_reducible repeat (first | refine blk_drewN ?_ _ | refine blk_drew ?_ | refine blk_alloc ?_ _)); refine blk_put (cs := #[.slice none 0 0, .slice none 0 0]) ?_ 0 _ rfl; (with_reducible repeat (first | refine blk_drewN ?_ _ | refine blk_drew ?_ | refine blk_alloc ?_ _)); exact Zb.out) Try.underlying32 rfl (by kernel_rfl)) rfl ?_
 exact ⟨_, _, ze, by (with_reducible repeat (first | apply Kd.R_alloc | apply Kd.R_drewN | apply Kd.R_drew)); exact Kd.R_mono (Kd.R_far (Kd.R_far (Kd.R_types Zg.out Zb.out (by decide)) (fun _ hk => hk.2) _) (fun _ hk => hk.2) _) (fun _ hk => trivial), by (with_reducible repeat (first | apply Kd.R_alloc | apply Kd.R_drewN | apply Kd.R_drew)); exact Kd.R_mono (Kd.R_far (Kd.R_far (Kd.R_types Zh.out Zb.out (by decide)) (fun _ hk => hk.2) _) (fun _ hk => hk.2) _) (fun _ hk => trivial), zg_4 HB.out Zd.out Zf.out⟩
end
/-- What the closure of settle sees: the host, how many writes are to be kept, the disk, whether the others are lost. -/
structure impl_Disk_settle_I (W : World) (base gH gK gO gL gR : Nat) (host keep : Int) (lose : Bool) (sv pv : Value) (secs : List ByteArray) : Prop where
  h : W.heap[gH]? = some (.cells #[.int .i64 host] 3 (0, 0))
  k : W.heap[gK]? = some (.cells #[.int .i64 keep] 3 (0, 0))
  o : W.heap[gO]? = some (.cells #[sv, pv] 32 (0, 0))
  l : W.heap[gL]? = some (.cells #[.bool lose] 4 (0, 0))
  s : Kd.R Kd.string 9 W base (fun _ => True) sv secs
  n : gH ≠ gK
  r : W.heap[gR]? = some (.cells #[.slice none 0 0, .slice none 0 0] 32 (0, 0))
def impl_Disk_settle_stp (host : Int) (lose : Bool) (keep : Int) (secs : List ByteArray) (x : S75) : Option (Bool × Int × List ByteArray) :=
  if x.f0 = host then (if keep > 0 then (if 0 ≤ x.f1 then (if x.f1 < (secs.length : Int) then some (true, wrap64 (keep - 1), secs.set x.f1.toNat x.f2) else none) else none) else some (lose, keep, secs)) else some (false, keep, secs)
theorem impl_Disk_settle_I.below {W W1 : World} {base gH gK gO gL gR : Nat} {host keep : Int} {lose : Bool} {sv pv : Value} {secs : List ByteArray} (I : impl_Disk_settle_I W base gH gK gO gL gR host keep lose sv pv secs) (hb : Below W.heap.size W W1) : impl_Disk_settle_I W1 base gH gK gO gL gR host keep lose sv pv secs :=
  ⟨blk_below I.h hb, blk_below I.k hb, blk_below I.o hb, blk_below I.l hb, Kd.R_below I.s hb, I.n, blk_below I.r hb⟩
set_option maxHeartbeats 4000000 in
set_option maxRecDepth 100000 in
theorem impl_Disk_settle_clos {w0 W : World} {gH gK gO gL gR : Nat} {host keep : Int} {lose : Bool} {sv pv : Value} {secs : List ByteArray} (I : impl_Disk_settle_I W w0.heap.size gH gK gO gL gR host keep lose sv pv secs) (hB : Below w0.heap.size w0 W) (hg : w0.heap.size ≤ gK) (x : S75) (b : Bool) (keep' : Int) (secs' : List ByteArray) (hst : impl_Disk_settle_stp host lose keep secs x = some (b, keep', secs')) :
    Calls Try.prog 48 #[.agg #[.int .i64 x.f0, .int .i64 x.f1, .string x.f2], .pointer (some ⟨gH, 0, none⟩), .pointer (some ⟨gK, 0, none⟩), .pointer (some ⟨gO, 0, none⟩), .pointer (some ⟨gL, 0, none⟩)] W
      fun e W' => e = .returned (.bool b) ∧ impl_Disk_settle_I W' w0.heap.size gH gK gO gL gR host keep' lose sv pv secs' ∧ Below w0.heap.size w0 W' ∧ Kept W W' (fun k_ => k_ = gK ∨ some k_ = sv.ownBlock) := by
  have hu75 := Try.underlying75; have hu32 := Try.underlying32; have II := zm I; have HB := zm hB; have HG := zm hg; clear I hB hg
  unfold impl_Disk_settle_stp at hst
  by_cases c1 : x.f0 = host
  · rw [if_pos c1] at hst
    have d1 : (x.f0 != host) = false := by simp [c1]
    have d2 : decide (x.f0 = host) = true := decide_eq_true c1
    have d3 : decide (x.f0 ≠ host) = false := by simp [c1]
    have d4 : (x.f0 == host) = true := by simp [c1]
    clear c1
    by_cases c2 : keep > 0
    · rw [if_pos c2] at hst
      have e1 : decide (keep > 0) = true := decide_eq_true c2
      have e2 : decide (0 < keep) = true := decide_eq_true c2
      clear c2
      by_cases c3 : 0 ≤ x.f1
      · rw [if_pos c3] at hst
        by_cases c4 : x.f1 < (secs.length : Int)
        · rw [if_pos c4] at hst
          simp only [Option.some.injEq, Prod.mk.injEq] at hst
          obtain ⟨rfl, rfl, rfl⟩ := hst
          have C3 := zm c3; have C4 := zm c4; have q3 := eq_true c3; have q4 := eq_true c4
          have f3 : decide (0 ≤ x.f1) = true := decide_eq_true c3
          have f4 : decide (x.f1 < (secs.length : Int)) = true := decide_eq_true c4
          clear c3 c4
          obtain ⟨gs, cs, rfl, hgs, hgl, hcl, HS⟩ := Kd.R_form II.out.s (by have := C3.out; have := C4.out; omega)
          have GS := zm hgs; clear hgs hgl hcl HS
          go_enter Try.func48, Try.ntmps48
          go_wp2_with (first
            | ((with_reducible refine gate_dst (N := 5) rfl ?_); refine box_event ?hg (N := 5) ?hd (cs := #[.int .i64 x.f0, .int .i64 x.f1, .string x.f2]) (t := 75) ?hr ?_; (case hd => rfl); (case hg => rfl); (case hr => first | (go_simp; done) | (go_simp; rfl)); intro gb hg w4 hbox hb; have BK := zm hbox; have I4 := zm (II.out.below hb); have HB4 := zm (below_step HB.out hb); have KK := zm (Kept.of_below hb (fun k_ => k_ = gK ∨ some k_ = (.slice (some ⟨gs, 0, none⟩) secs.length cs : Value).ownBlock)); clear hb hbox hg; have hx0 : w4.cell? ⟨gb, 0, none⟩ = some (.int .i64 x.f0) := (blk_cell BK.out 0).trans rfl; have hh : w4.cell? ⟨gH, 0, none⟩ = some (.int .i64 host) := (blk_cell I4.out.h 0).trans rfl; have hk : w4.cell? ⟨gK, 0, none⟩ = some (.int .i64 keep) := (blk_cell I4.out.k 0).trans rfl; have hfk := blk_frozen I4.out.k 0)
            | ((with_reducible refine gate_store (t := 3) (p := 2) rfl ?_); refine store_event (t := 3) (p := 2) (v := ?vo1) (w1 := (w4.setCell ⟨gK, 0, none⟩ (.int .i64 (wrap64 (keep - 1))))) ?hg ?ho ?hn ?hr ?_; (case ho => rfl); (case hg => rfl); (case hn => rfl); (case hr => first | (go_simp; done) | (go_simp; rfl)); intro w5 hw; have I5 := zm (show impl_Disk_settle_I w5 w0.heap.size gH gK gO gL gR host (wrap64 (keep - 1)) lose (.slice (some ⟨gs, 0, none⟩) secs.length cs) pv secs from by rw [hw]; exact ⟨blk_far I4.out.h I4.out.n _, blk_set I4.out.k 0 _, blk_far I4.out.o (blk_ne I4.out.o I4.out.k (by decide)) _, blk_far I4.out.l (blk_ne I4.out.l I4.out.k (by decide)) _, Kd.R_mono (Kd.R_set I4.out.s I4.out.k (by decide) 0 _) (fun _ _ => trivial), I4.out.n, blk_far I4.out.r (blk_ne I4.out.r I4.out.k (by decide)) _⟩); have B5 := zm (show w5.heap[gb]? = some (.cells #[.int .i64 x.f0, .int .i64 x.f1, .string x.f2] 75 (0, 0)) from by rw [hw]; exact blk_far BK.out (blk_ne BK.out I4.out.k (by decide)) _); have HB5 := zm (show Below w0.heap.size w0 w5 from by rw [hw]; exact below_set HB4.out HG.out); have K5 := zm (show Kept W w5 (fun k_ => k_ = gK ∨ some k_ = (.slice (some ⟨gs, 0, none⟩) secs.length cs : Value).ownBlock) from by rw [hw]; exact Kept.setCell KK.out (.inl (.inl rfl)) _); clear hw I4 BK HB4 KK hx0 hh hk hfk; have ho : w5.cell? ⟨gO, 0, none⟩ = some (.slice (some ⟨gs, 0, none⟩) secs.length cs) := (blk_cell I5.out.o 0).trans rfl; have hx1 : w5.cell? ⟨gb, 1, none⟩ = some (.int .i64 x.f1) := (blk_cell B5.out 1).trans rfl; have hx2 : w5.cell? ⟨gb, 2, none⟩ = some (.string x.f2) := (blk_cell B5.out 2).trans rfl; obtain ⟨hy, hz⟩ := Kd.R_celln (⟨#[]⟩ : ByteArray) I5.out.s x.f1 C3.out C4.out; have HP := zm (Kd.R_putg I5.out.s x.f1 x.f2))
            | ((with_reducible refine gate_store (t := 9) (p := 21) rfl ?_); refine store_event (t := 9) (p := 21) (v := ?vo2) (w1 := (w5.setCell ⟨gs, x.f1.toNat, none⟩ (.string x.f2))) ?hg ?ho ?hn ?hr ?_; (case ho => rfl); (case hg => rfl); (case hn => rfl); (case hr => first | (go_simp; done) | (go_simp; rfl)); intro w6 hw; have hgr : w5.grownBy w6 (some gs) := (by rw [hw]; exact HP.out.2); have nO := Kd.R_ne I5.out.s I5.out.o (by decide); have nH := Kd.R_ne I5.out.s I5.out.h (by decide); have nK := Kd.R_ne I5.out.s I5.out.k (by decide); have nL := Kd.R_ne I5.out.s I5.out.l (by decide); have nR := Kd.R_ne I5.out.s I5.out.r (by decide); have I6 := zm (show impl_Disk_settle_I w6 w0.heap.size gH gK gO gL gR host (wrap64 (keep - 1)) lose (.slice (some ⟨gs, 0, none⟩) secs.length cs) pv (secs.set x.f1.toNat x.f2) from ⟨blk_grown I5.out.h hgr nH, blk_grown I5.out.k hgr nK, blk_grown I5.out.o hgr nO, blk_grown I5.out.l hgr nL, (by rw [hw]; exact HP.out.1), I5.out.n, blk_grown I5.out.r hgr nR⟩); have HB6 := zm (show Below w0.heap.size w0 w6 from by rw [hw]; exact below_set HB5.out GS.out); have K6 := zm (Kept.of_grown (S := (fun k_ => k_ = gK ∨ some k_ = (.slice (some ⟨gs, 0, none⟩) secs.length cs : Value).ownBlock)) hgr K5.out (fun k_ e_ => .inl (.inr (by simp [Value.ownBlock, e_])))); clear hw hgr nO nH nK nL nR I5 B5 HB5 K5 ho hx1 hx2 hy hz HP))
          go_ret
          exact ⟨rfl, I6.out, HB6.out, K6.out⟩
        · rw [if_neg c4] at hst; cases hst
      · rw [if_neg c3] at hst; cases hst
    · rw [if_neg c2] at hst
      have e1 : decide (keep > 0) = false := decide_eq_false c2
      have e2 : decide (0 < keep) = false := decide_eq_false c2
      clear c2
      simp only [Option.some.injEq, Prod.mk.injEq] at hst
      obtain ⟨rfl, rfl, rfl⟩ := hst
      go_enter Try.func48, Try.ntmps48
      go_wp2_with (first
        | ((with_reducible refine gate_dst (N := 5) rfl ?_); refine box_event ?hg (N := 5) ?hd (cs := #[.int .i64 x.f0, .int .i64 x.f1, .string x.f2]) (t := 75) ?hr ?_; (case hd => rfl); (case hg => rfl); (case hr => first | (go_simp; done) | (go_simp; rfl)); intro gb hg w4 hbox hb; have BK := zm hbox; have I4 := zm (II.out.below hb); have HB4 := zm (below_step HB.out hb); have KK := zm (Kept.of_below hb (fun k_ => k_ = gK ∨ some k_ = sv.ownBlock)); clear hb hbox hg; have hx0 : w4.cell? ⟨gb, 0, none⟩ = some (.int .i64 x.f0) := (blk_cell BK.out 0).trans rfl; have hh : w4.cell? ⟨gH, 0, none⟩ = some (.int .i64 host) := (blk_cell I4.out.h 0).trans rfl; have hk : w4.cell? ⟨gK, 0, none⟩ = some (.int .i64 keep) := (blk_cell I4.out.k 0).trans rfl; have hl : w4.cell? ⟨gL, 0, none⟩ = some (.bool lose) := (blk_cell I4.out.l 0).trans rfl))
      go_ret
      exact ⟨rfl, I4.out, HB4.out, KK.out⟩
  · rw [if_neg c1] at hst
    have d1 : (x.f0 != host) = true := by simp [c1]
    have d2 : decide (x.f0 = host) = false := decide_eq_false c1
    have d3 : decide (x.f0 ≠ host) = true := decide_eq_true c1
    have d4 : (x.f0 == host) = false := by simp [c1]
    clear c1
    simp only [Option.some.injEq, Prod.mk.injEq] at hst
    obtain ⟨rfl, rfl, rfl⟩ := hst
    go_enter Try.func48, Try.ntmps48
    go_wp2_with (first
      | ((with_reducible refine gate_dst (N := 5) rfl ?_); refine box_event ?hg (N := 5) ?hd (cs := #[.int .i64 x.f0, .int .i64 x.f1, .string x.f2]) (t := 75) ?hr ?_; (case hd => rfl); (case hg => rfl); (case hr => first | (go_simp; done) | (go_simp; rfl)); intro gb hg w4 hbox hb; have BK := zm hbox; have I4 := zm (II.out.below hb); have HB4 := zm (below_step HB.out hb); have KK := zm (Kept.of_below hb (fun k_ => k_ = gK ∨ some k_ = sv.ownBlock)); clear hb hbox hg; have hx0 : w4.cell? ⟨gb, 0, none⟩ = some (.int .i64 x.f0) := (blk_cell BK.out 0).trans rfl; have hh : w4.cell? ⟨gH, 0, none⟩ = some (.int .i64 host) := (blk_cell I4.out.h 0).trans rfl))
    go_ret
    exact ⟨rfl, I4.out, HB4.out, KK.out⟩
def impl_Disk_settle_idx (host : Int) (lose : Bool) : List S75 → Int → List ByteArray → Nat → Option (Int × Int × List ByteArray)
  | [], keep, secs, _ => some (-1, keep, secs)
  | x :: r, keep, secs, i => (impl_Disk_settle_stp host lose keep secs x).bind fun b => if b.1 = true then some ((i : Int), b.2.1, b.2.2) else impl_Disk_settle_idx host lose r b.2.1 b.2.2 (i + 1)
theorem impl_Disk_settle_rd (l : List S75) (i : Nat) (h : i < l.length) : rd_T75 l (i : Int) = l[i] := by simp [rd_T75, h]
set_option maxHeartbeats 4000000 in
set_option maxRecDepth 100000 in
theorem impl_Disk_settle_index {w0 W : World} {gH gK gO gL gR : Nat} {host keep : Int} {lose : Bool} {sv pv v : Value} {secs : List ByteArray} {pend : List S75} (I : impl_Disk_settle_I W w0.heap.size gH gK gO gL gR host keep lose sv pv secs) (hB : Below w0.heap.size w0 W) (hg : w0.heap.size ≤ gK)
    (RP : Kd.R k75 75 W w0.heap.size (fun k_ => k_ ≠ gK ∧ some k_ ≠ sv.ownBlock) v pend) (hl : pend.length ≤ 1000000000) (r keep' : Int) (secs' : List ByteArray) (h : impl_Disk_settle_idx host lose pend keep secs 0 = some (r, keep', secs')) :
    Calls Try.prog 60 #[v, .func (.func 48) #[] #[.pointer (some ⟨gH, 0, none⟩), .pointer (some ⟨gK, 0, none⟩), .pointer (some ⟨gO, 0, none⟩), .pointer (some ⟨gL, 0, none⟩)]] W
      fun e W' => e = .returned (.int .i64 r) ∧ impl_Disk_settle_I W' w0.heap.size gH gK gO gL gR host keep' lose sv pv secs' ∧ Below w0.heap.size w0 W' ∧ Kept W W' (fun k_ => k_ = gK ∨ some k_ = sv.ownBlock) := by
  obtain ⟨Ao, co, rfl⟩ := Kd.R_slice RP
  have PP := zm RP; have II := zm I; have HB := zm hB; have HG := zm hg; have HK := zm (Kept.refl W (fun k_ => k_ = gK ∨ some k_ = sv.ownBlock)); have H := zm h; have HL := zm hl; clear RP I hB hg h hl
  go_enter Try.func60, Try.ntmps60
  go_wp2
  go_loopg [8] pend.length (fun kq v8 w' => ∃ (x : Int) (kp : Int) (sc : List ByteArray), v8 = .int .i64 x ∧ Aside0 (0 ≤ x ∧ x.toNat ≤ pend.length ∧ kq = pend.length - x.toNat) ∧ Aside0 (impl_Disk_settle_idx host lose (pend.drop x.toNat) kp sc x.toNat = some (r, keep', secs')) ∧ Aside0 (impl_Disk_settle_I w' w0.heap.size gH gK gO gL gR host kp lose sv pv sc) ∧ Aside0 (Below w0.heap.size w0 w') ∧ Aside0 (Kept W w' (fun k_ => k_ = gK ∨ some k_ = sv.ownBlock)))
  case atStart => exact ⟨0, keep, secs, rfl, ⟨by omega, by omega, by simp⟩, ⟨by rw [show (0 : Int).toNat = 0 from rfl, List.drop_zero]; exact H.out⟩, II, HB, HK⟩
  case round =>
    try clear c1
    try clear p2
    clear II HB HK H
    obtain ⟨x, kp, sc, rfl, HM, H, II, HB, HK⟩ := hrel
    by_cases hc : x < (pend.length : Int)
    · have hd : decide (x < (pend.length : Int)) = true := decide_eq_true hc
      have hlt : x.toNat < pend.length := by have := HM.out; omega
      have h0x : 0 ≤ x := HM.out.1
      have h := H.out
      rw [List.drop_eq_getElem_cons hlt] at h
      simp only [impl_Disk_settle_idx] at h
      have h2 := Option.bind_eq_some_iff.mp h; clear h
      obtain ⟨⟨b, k2, s2⟩, hst, h⟩ := h2
      have PQ := zm (Kd.R_kept PP.out HK.out (fun k_ hk_ hs_ => hs_.elim hk_.1 hk_.2))
      obtain ⟨gp, cp, ep, _, _, _, _⟩ := Kd.R_form PQ.out (by omega)
      (first | cases ep | (injection ep with ea_ en_ ec_; (first | subst ea_ | (injection ea_ with ea_; subst ea_)); subst ec_; clear en_))
      obtain ⟨ce, hcl, hM, hcc, hfr⟩ := Kd.R_elem PQ.out z75 x h0x hc
      obtain rfl := k75_openM hM
      have hx0 : wr.cell? ⟨gp, x.toNat * 3, none⟩ = some (.int .i64 (rd_T75 pend x).f0) := hcc 0 _ rfl
      have hx1 : wr.cell? ⟨gp, x.toNat * 3 + 1, none⟩ = some (.int .i64 (rd_T75 pend x).f1) := hcc 1 _ rfl
      have hx2 : wr.cell? ⟨gp, x.toNat * 3 + 2, none⟩ = some (.string (rd_T75 pend x).f2) := hcc 2 _ rfl
      clear hcl hM hcc hfr
      have hr0 : rd_T75 pend x = pend[x.toNat] := by simp [rd_T75, hlt]
      have ST := zm (show impl_Disk_settle_stp host lose kp sc (rd_T75 pend x) = some (b, k2, s2) from by rw [hr0]; exact hst); have HT := zm hlt; have HH := zm h
      have WN : Aside0 (wrap64 (x + 1) = x + 1) := ⟨by unfold wrap64; have := HL.out; omega⟩
      have HC := zm hc; have p0 := eq_true h0x; have p1 := eq_true hc
      have d0 : decide (0 ≤ x) = true := decide_eq_true h0x
      clear h hst hr0 hlt H h0x hc
      cases b with
      | true =>
        go_wp2_with (first
          | ((with_reducible refine gate_dst (N := 16) rfl ?_); refine goesV (some 16) rfl rfl Try.func48 (by kernel_rfl) rfl #[.agg #[.int .i64 (rd_T75 pend x).f0, .int .i64 (rd_T75 pend x).f1, .string (rd_T75 pend x).f2], .pointer (some ⟨gH, 0, none⟩), .pointer (some ⟨gK, 0, none⟩), .pointer (some ⟨gO, 0, none⟩), .pointer (some ⟨gL, 0, none⟩)] rfl (cap := #[.pointer (some ⟨gH, 0, none⟩), .pointer (some ⟨gK, 0, none⟩), .pointer (some ⟨gO, 0, none⟩), .pointer (some ⟨gL, 0, none⟩)]) ?hx ?hargs ?_; (case hx => rfl); (case hargs => simp [Act.eval]); refine (impl_Disk_settle_clos II.out HB.out HG.out (rd_T75 pend x) _ _ _ ST.out).mono ?_; rintro e w2 ⟨rfl, hI, hb, hkp⟩; refine ⟨_, rfl, ?_⟩; have I2 := zm hI; have HB2 := zm hb; have HK2 := zm (HK.out.then_ hkp (fun _ h_ => .inl h_)); clear hI hb hkp hx0 hx1 hx2))
        have h := HH.out
        simp only [if_true, Option.some.injEq, Prod.mk.injEq] at h
        obtain ⟨e1, rfl, rfl⟩ := h
        have e2 : x = r := by have := HM.out; omega
        subst e2
        go_ret
        exact ⟨rfl, I2.out, HB2.out, HK2.out⟩
      | false =>
        go_wp2_with (first
          | ((with_reducible refine gate_dst (N := 16) rfl ?_); refine goesV (some 16) rfl rfl Try.func48 (by kernel_rfl) rfl #[.agg #[.int .i64 (rd_T75 pend x).f0, .int .i64 (rd_T75 pend x).f1, .string (rd_T75 pend x).f2], .pointer (some ⟨gH, 0, none⟩), .pointer (some ⟨gK, 0, none⟩), .pointer (some ⟨gO, 0, none⟩), .pointer (some ⟨gL, 0, none⟩)] rfl (cap := #[.pointer (some ⟨gH, 0, none⟩), .pointer (some ⟨gK, 0, none⟩), .pointer (some ⟨gO, 0, none⟩), .pointer (some ⟨gL, 0, none⟩)]) ?hx ?hargs ?_; (case hx => rfl); (case hargs => simp [Act.eval]); refine (impl_Disk_settle_clos II.out HB.out HG.out (rd_T75 pend x) _ _ _ ST.out).mono ?_; rintro e w2 ⟨rfl, hI, hb, hkp⟩; refine ⟨_, rfl, ?_⟩; have I2 := zm hI; have HB2 := zm hb; have HK2 := zm (HK.out.then_ hkp (fun _ h_ => .inl h_)); clear hI hb hkp hx0 hx1 hx2))
        go_roundg (pend.length - (x + 1).toNat)
        case measure => have := HM.out; have := HT.out; omega
        case rel => exact ⟨x + 1, k2, s2, by rw [WN.out], ⟨by have := HM.out; omega, by have := HM.out; have := HT.out; omega, rfl⟩, ⟨by have h := HH.out; simp only [Bool.false_eq_true, if_false] at h; rw [show (x + 1).toNat = x.toNat + 1 from by have := HM.out; omega]; exact h⟩, I2, HB2, HK2⟩
    · have hd : decide (x < (pend.length : Int)) = false := decide_eq_false hc
      have e : pend.drop x.toNat = [] := List.drop_of_length_le (by omega)
      have h := H.out
      rw [e] at h
      simp only [impl_Disk_settle_idx, Option.some.injEq, Prod.mk.injEq] at h
      obtain ⟨rfl, rfl, rfl⟩ := h
      clear e hc H
      go_wp2
      go_ret
      exact ⟨rfl, II.out, HB.out, HK.out⟩
def impl_Disk_settle_go (host : Int) (lose : Bool) : List S75 → Int → List ByteArray → Option (List S75 × Int × List ByteArray)
  | [], keep, secs => some ([], keep, secs)
  | x :: r, keep, secs => (impl_Disk_settle_stp host lose keep secs x).bind fun b => (impl_Disk_settle_go host lose r b.2.1 b.2.2).bind fun q => some (if b.1 = true then q.1 else x :: q.1, q.2.1, q.2.2)
theorem impl_Disk_settle_go_idx (host : Int) (lose : Bool) : ∀ (l : List S75) (keep : Int) (secs : List ByteArray) (n : Nat) (out : List S75) (kf : Int) (sf : List ByteArray), impl_Disk_settle_go host lose l keep secs = some (out, kf, sf) →
    (impl_Disk_settle_idx host lose l keep secs n = some (-1, kf, sf) ∧ out = l) ∨ ∃ (i : Nat) (k1 : Int) (s1 : List ByteArray) (rest : List S75), i < l.length ∧ impl_Disk_settle_idx host lose l keep secs n = some (((n + i : Nat) : Int), k1, s1) ∧ impl_Disk_settle_go host lose (l.drop (i + 1)) k1 s1 = some (rest, kf, sf) ∧ out = l.take i ++ rest := by
  intro l
  induction l with
  | nil =>
    intro keep secs n out kf sf h
    simp only [impl_Disk_settle_go, Option.some.injEq, Prod.mk.injEq] at h
    obtain ⟨rfl, rfl, rfl⟩ := h
    exact .inl ⟨rfl, rfl⟩
  | cons x r ih =>
    intro keep secs n out kf sf h
    simp only [impl_Disk_settle_go] at h
    obtain ⟨⟨b, k1, s1⟩, hst, h⟩ := Option.bind_eq_some_iff.mp h
    obtain ⟨⟨o1, k2, s2⟩, hgo, h⟩ := Option.bind_eq_some_iff.mp h
    simp only [Option.some.injEq, Prod.mk.injEq] at h
    obtain ⟨rfl, rfl, rfl⟩ := h
    cases b with
    | true =>
      refine .inr ⟨0, k1, s1, o1, by simp, ?_, by simpa using hgo, by simp⟩
      simp only [impl_Disk_settle_idx, hst, Option.bind_some, if_true, Nat.add_zero]
    | false =>
      rcases ih k1 s1 (n + 1) o1 k2 s2 hgo with ⟨h1, h2⟩ | ⟨i, k3, s3, rest, h1, h2, h3, h4⟩
      · refine .inl ⟨?_, by simp [h2]⟩
        simp only [impl_Disk_settle_idx, hst, Option.bind_some, Bool.false_eq_true, if_false]
        exact h1
      · refine .inr ⟨i + 1, k3, s3, rest, by simp; omega, ?_, by simpa using h3, by simp [h4]⟩
        simp only [impl_Disk_settle_idx, hst, Option.bind_some, Bool.false_eq_true, if_false]
        rw [h2]; congr 2; omega
theorem impl_Disk_settle_blk {g : Nat} {t : TypeId} : ∀ (vs : List Value) (o : Nat) {w : World} {cs : Array Value}, w.heap[g]? = some (.cells cs t (0, 0)) → ∃ cs', (w.setCells g o vs).heap[g]? = some (.cells cs' t (0, 0)) ∧ cs'.size = cs.size ∧ ∀ j, j < o → cs'[j]? = cs[j]? := by
  intro vs
  induction vs with
  | nil => intro o w cs h; exact ⟨cs, h, rfl, fun _ _ => rfl⟩
  | cons v r ih =>
    intro o w cs h
    obtain ⟨cs', h1, h2, h3⟩ := ih (o + 1) (blk_set h o v)
    refine ⟨cs', h1, by rw [h2, Array.size_setIfInBounds], fun j hj => ?_⟩
    rw [h3 j (by omega)]
    exact Array.getElem?_setIfInBounds_ne (by omega)
theorem impl_Disk_settle_cut {W : World} {base gp i cap : Nat} {ok : Nat → Prop} {xs : List S75} (h : Kd.R k75 75 W base ok (.slice (some ⟨gp, 0, none⟩) i cap) xs) (vs : List Value) (o : Nat) (ho : i * 3 ≤ o) : Kd.R k75 75 (W.setCells gp o vs) base ok (.slice (some ⟨gp, 0, none⟩) i cap) xs := by
  have hn := (Kd.R_reads' h).1
  obtain ⟨h0, inner, ⟨hl, ho'⟩, hr⟩ := h
  refine ⟨h0, inner, ⟨hl, ?_⟩, hr.imp_ (fun p c hp => by obtain rfl := k75_openM hp; exact k75_mkM _ _ _ p)⟩
  rcases ho' with ⟨e, _⟩ | ⟨g, cap', cur, e, hb, hh, h1, h2, h3, h4⟩
  · cases e
  · injection e with e1 e2 e3
    injection e1 with e1
    injection e1 with e1
    subst e1 e3
    obtain ⟨cs', q1, q2, q3⟩ := impl_Disk_settle_blk vs o hh
    refine .inr ⟨gp, _, cs', by rw [hn], hb, q1, h1, h2, q2.trans h3, ?_⟩
    rw [← h4]
    refine List.ext_getElem? (fun j => ?_)
    rw [List.getElem?_take, List.getElem?_take]
    by_cases c : j < xs.length * (k75).sz
    · rw [if_pos c, if_pos c, Array.getElem?_toList, Array.getElem?_toList]
      exact q3 j (Nat.lt_of_lt_of_le c (by rw [← hn]; exact ho))
    · rw [if_neg c, if_neg c]
theorem impl_Disk_settle_kept {g : Nat} : ∀ (vs : List Value) (o : Nat) (w : World), Kept w (w.setCells g o vs) (fun k_ => k_ = g) := by
  intro vs
  induction vs with
  | nil => intro o w; exact Kept.refl _ _
  | cons v r ih => intro o w; exact (Kept.setCell (Kept.refl w (fun k_ => k_ = g)) (p := ⟨g, o, none⟩) (.inl rfl) v).then_ (ih (o + 1) _) (fun _ h_ => .inl h_)
theorem impl_Disk_settle_bel {g : Nat} {w0 : World} (hg : w0.heap.size ≤ g) : ∀ (vs : List Value) (o : Nat) (w : World), Below w0.heap.size w0 w → Below w0.heap.size w0 (w.setCells g o vs) := by
  intro vs
  induction vs with
  | nil => intro o w h; exact h
  | cons v r ih => intro o w h; exact ih (o + 1) _ (below_set h hg)
theorem impl_Disk_settle_I.kept {W W1 : World} {base gH gK gO gL gR : Nat} {host keep : Int} {lose : Bool} {sv pv : Value} {secs : List ByteArray} (I : impl_Disk_settle_I W base gH gK gO gL gR host keep lose sv pv secs) {g : Nat} {cs : Array Value} (hk : Kept W W1 (fun k_ => k_ = g)) (hc : W.heap[g]? = some (.cells cs 75 (0, 0))) : impl_Disk_settle_I W1 base gH gK gO gL gR host keep lose sv pv secs :=
  ⟨blk_kept I.h hk (fun e => blk_ne I.h hc (by decide) e), blk_kept I.k hk (fun e => blk_ne I.k hc (by decide) e), blk_kept I.o hk (fun e => blk_ne I.o hc (by decide) e), blk_kept I.l hk (fun e => blk_ne I.l hc (by decide) e), Kd.R_mono (Kd.R_kept (Kd.R_types I.s hc (by decide)) hk (fun _ h_ e => h_.2 e)) (fun _ _ => trivial), I.n, blk_kept I.r hk (fun e => blk_ne I.r hc (by decide) e)⟩
/-- clear of the rest of a row: some cells from there on are written. -/
theorem impl_Disk_settle_clear {W : World} {base gp n cap : Nat} {ok : Nat → Prop} {xs : List S75} (h : Kd.R k75 75 W base ok (.slice (some ⟨gp, 0, none⟩) n cap) xs) (a : Nat) (ha : a < n) (cc : Nat) (ty : TypeId) :
    ∃ vs, (Builtin.clear_ #[30] ty #[.slice (some ⟨gp, a * 3, none⟩) (n - a) cc]).run Try.prog W = .ok (.tuple #[]) (W.setCells gp (a * 3) vs) := by
  have hz : ∀ w, (zeroValue 75).run Try.prog w = .ok (.agg #[.int .i64 0, .int .i64 0, .string ⟨#[]⟩]) w := Try.zeroValue75
  obtain ⟨m, hm⟩ : ∃ m, n - a = m + 1 := ⟨n - a - 1, by omega⟩
  refine ⟨(Builtin.zeroCells (Value.agg #[.int .i64 0, .int .i64 0, .string ⟨#[]⟩]).cells (n - a)).toList, ?_⟩
  have hlen : (Builtin.zeroCells (Value.agg #[.int .i64 0, .int .i64 0, .string ⟨#[]⟩]).cells (n - a)).toList.length = (n - a) * 3 := by simp [Builtin.zeroCells, Value.cells]
  have hn := (Kd.R_reads' h).1
  have hst := run_storeCells_cells (P := Try.prog) gp (a * 3) (Builtin.zeroCells (Value.agg #[.int .i64 0, .int .i64 0, .string ⟨#[]⟩]).cells (n - a)).toList 0 W (by
    intro j hj
    rw [hlen] at hj
    obtain ⟨c, hcl, hM, hcc, hfr⟩ := Kd.R_elem h z75 ((a + j / 3 : Nat) : Int) (by omega) (by omega)
    have hj3 : j % 3 < c.length := by rw [hcl]; exact Nat.mod_lt _ (by decide)
    have := hcc (j % 3) _ (List.getElem?_eq_getElem hj3)
    rw [Int.toNat_natCast] at this
    have e : a * 3 + 0 + j = (a + j / 3) * (k75).sz + j % 3 := by show a * 3 + 0 + j = (a + j / 3) * 3 + j % 3; omega
    rw [e, this]; rfl) (by
    intro j hj
    rw [hlen] at hj
    obtain ⟨c, hcl, hM, hcc, hfr⟩ := Kd.R_elem h z75 ((a + j / 3 : Nat) : Int) (by omega) (by omega)
    have := hfr (j % 3)
    rw [Int.toNat_natCast] at this
    have e : a * 3 + 0 + j = (a + j / 3) * (k75).sz + j % 3 := by show a * 3 + 0 + j = (a + j / 3) * 3 + j % 3; omega
    rw [e]; exact this) (by
    intro v hv
    simp only [Builtin.zeroCells, Array.toList_map, List.mem_map] at hv
    obtain ⟨q, _, rfl⟩ := hv
    have hq : q % 3 < 3 := Nat.mod_lt _ (by decide)
    show ((#[Value.int .i64 0, .int .i64 0, .string ⟨#[]⟩] : Array Value)[q % 3]!).oneCell' = true
    rcases (show q % 3 = 0 ∨ q % 3 = 1 ∨ q % 3 = 2 by omega) with e | e | e <;> rw [e] <;> rfl)
  simp only [Nat.add_zero] at hst
  rw [hm] at hst ⊢
  simp [Builtin.clear_, run_underlying Try.underlying30, hz, hst]
set_option maxHeartbeats 8000000 in
set_option maxRecDepth 100000 in
theorem impl_Disk_settle_delete {w0 W : World} {gH gK gO gL gR : Nat} {host keep : Int} {lose : Bool} {sv pv v : Value} {secs : List ByteArray} {pend : List S75} (I : impl_Disk_settle_I W w0.heap.size gH gK gO gL gR host keep lose sv pv secs) (hB : Below w0.heap.size w0 W) (hg : w0.heap.size ≤ gK)
    (RP : Kd.R k75 75 W w0.heap.size (fun k_ => k_ ≠ gK ∧ some k_ ≠ sv.ownBlock) v pend) (hl : pend.length ≤ 1000000000) (out : List S75) (kf : Int) (sf : List ByteArray) (h : impl_Disk_settle_go host lose pend keep secs = some (out, kf, sf)) :
    Calls Try.prog 47 #[v, .func (.func 48) #[] #[.pointer (some ⟨gH, 0, none⟩), .pointer (some ⟨gK, 0, none⟩), .pointer (some ⟨gO, 0, none⟩), .pointer (some ⟨gL, 0, none⟩)]] W
      fun e W' => ∃ v', e = .returned v' ∧ Kd.R k75 75 W' w0.heap.size (fun k_ => k_ ≠ gK ∧ some k_ ≠ sv.ownBlock) v' out ∧ impl_Disk_settle_I W' w0.heap.size gH gK gO gL gR host kf lose sv pv sf ∧ Below w0.heap.size w0 W' := by
  have hu75 := Try.underlying75; have hidx := impl_Disk_settle_index (pend := pend) I hB hg RP hl; have PP := zm RP; have HG := zm hg; have HL := zm hl
  obtain ⟨Ao, co, rfl⟩ := Kd.R_slice RP
  rcases impl_Disk_settle_go_idx host lose pend keep secs 0 out kf sf h with ⟨h1, rfl⟩ | ⟨i0, k1, s1, rest0, h1, h2, h3, rfl⟩
  · have HX := zm (hidx (-1) kf sf h1)
    clear I hB hg RP hl hidx h h1
    go_enter Try.func47, Try.ntmps47
    go_wp2_with (first
      | ((with_reducible refine gate_callee (f := 60) rfl ?_); refine goesL_ (some 10) rfl rfl Try.func60 (by kernel_rfl) rfl #[.slice Ao out.length co, .func (.func 48) #[] #[.pointer (some ⟨gH, 0, none⟩), .pointer (some ⟨gK, 0, none⟩), .pointer (some ⟨gO, 0, none⟩), .pointer (some ⟨gL, 0, none⟩)]] rfl (by (try simp only [List.map_toArray, List.map_cons, List.map_nil]); first | done | rfl) ?_; refine HX.out.mono ?_; rintro e w2 ⟨rfl, hI, hb, hkp⟩; refine ⟨_, rfl, ?_⟩; have I2 := zm hI; have HB2 := zm hb; have P2 := zm (Kd.R_kept PP.out hkp (fun k_ hk_ hs_ => hs_.elim hk_.1 hk_.2)); clear hI hb hkp))
    go_ret
    exact ⟨_, rfl, P2.out, I2.out, HB2.out⟩
  · have HX := zm (hidx _ k1 s1 h2)
    have H3 := zm h3; have H1 := zm h1; clear I hB hg RP hl hidx h h1 h2 h3
    obtain ⟨gp, cp, ep, gb1, _, gc1, _⟩ := Kd.R_form PP.out (by have := H1.out; omega)
    (first | cases ep | (injection ep with ea_ en_ ec_; (first | subst ea_ | (injection ea_ with ea_; subst ea_)); subst ec_; clear en_))
    have GP := zm gb1
    have NE : ((((0 + i0 : Nat) : Int)) == -1) = false := beq_eq_false_iff_ne.2 (by omega)
    have NE2 : decide ((((0 + i0 : Nat) : Int)) = -1) = false := decide_eq_false (by omega)
    clear gb1
    go_enter Try.func47, Try.ntmps47
    go_wp2_with (first
      | ((with_reducible refine gate_callee (f := 60) rfl ?_); refine goesL_ (some 10) rfl rfl Try.func60 (by kernel_rfl) rfl #[.slice (some ⟨gp, 0, none⟩) pend.length co, .func (.func 48) #[] #[.pointer (some ⟨gH, 0, none⟩), .pointer (some ⟨gK, 0, none⟩), .pointer (some ⟨gO, 0, none⟩), .pointer (some ⟨gL, 0, none⟩)]] rfl (by (try simp only [List.map_toArray, List.map_cons, List.map_nil]); first | done | rfl) ?_; refine HX.out.mono ?_; rintro e w2 ⟨rfl, hI, hb, hkp⟩; refine ⟨_, rfl, ?_⟩; have I2 := zm hI; have HB2 := zm hb; have P2 := zm (Kd.R_kept PP.out hkp (fun k_ hk_ hs_ => hs_.elim hk_.1 hk_.2)); clear hI hb hkp))
    go_loopg [5, 6] pend.length (fun kq v5 v6 w' => ∃ (a j : Int) (dk rest : List S75) (kp : Int) (sc : List ByteArray), v5 = .int .i64 a ∧ v6 = .int .i64 j ∧ Aside0 (0 ≤ a ∧ a < j ∧ j.toNat ≤ pend.length ∧ pend.length - j.toNat ≤ kq ∧ dk.length = pend.length) ∧ Aside0 (pend.take i0 ++ rest0 = dk.take a.toNat ++ rest ∧ dk.drop j.toNat = pend.drop j.toNat) ∧ Aside0 (impl_Disk_settle_go host lose (pend.drop j.toNat) kp sc = some (rest, kf, sf)) ∧ Aside0 (Kd.R k75 75 w' w0.heap.size (fun k_ => k_ ≠ gK ∧ some k_ ≠ sv.ownBlock) (.slice (some ⟨gp, 0, none⟩) pend.length co) dk) ∧ Aside0 (impl_Disk_settle_I w' w0.heap.size gH gK gO gL gR host kp lose sv pv sc) ∧ Aside0 (Below w0.heap.size w0 w'))
    case atStart =>
      have h1 := H1.out; have hL := HL.out
      refine ⟨(i0 : Int), ((i0 + 1 : Nat) : Int), pend, rest0, k1, s1, by simp, ?_, ⟨by omega, by omega, by omega, ?_, rfl⟩, ⟨by simp, rfl⟩, ⟨by simpa using H3.out⟩, P2, I2, HB2⟩
      · have e : wrap64 ((((0 + i0 : Nat) : Int)) + 1) = ((i0 + 1 : Nat) : Int) := by unfold wrap64; omega
        first | rw [e] | (simp only [Nat.zero_add] at e; rw [e]) | simp [e]
      · omega
    case round =>
      try clear c1
      try clear p2
      clear HX PP H3 P2 I2 HB2
      obtain ⟨a, j, dk, rest, kp, sc, rfl, rfl, HM, HO, HGo, HR, II, HB⟩ := hrel
      by_cases hj : j < (pend.length : Int)
      · have hd : decide (j < (pend.length : Int)) = true := decide_eq_true hj
        have h0j : 0 ≤ j := by have := HM.out; omega
        have hjp : j.toNat < pend.length := by omega
        have hjd : j.toNat < dk.length := by have := HM.out; omega
        have he : dk[j.toNat] = pend[j.toNat] ∧ dk.drop (j.toNat + 1) = pend.drop (j.toNat + 1) := by
          have := HO.out.2
          rw [List.drop_eq_getElem_cons hjd, List.drop_eq_getElem_cons hjp] at this
          injection this with e1 e2
          exact ⟨e1, e2⟩
        have h := HGo.out
        rw [List.drop_eq_getElem_cons hjp] at h
        simp only [impl_Disk_settle_go] at h
        have hh := Option.bind_eq_some_iff.mp h; clear h
        obtain ⟨⟨b, k2, s2⟩, hst, hh⟩ := hh
        have hh2 := Option.bind_eq_some_iff.mp hh; clear hh
        obtain ⟨⟨o1, k3, s3⟩, hgo, hh⟩ := hh2
        simp only [Option.some.injEq, Prod.mk.injEq] at hh
        obtain ⟨hrest, rfl, rfl⟩ := hh
        obtain ⟨ce, hcl, hM, hcc, hfr⟩ := Kd.R_elem HR.out z75 j h0j hj
        obtain rfl := k75_openM hM
        obtain ⟨x, hx⟩ : ∃ x, x = rd_T75 dk j := ⟨_, rfl⟩
        have hxp : x = pend[j.toNat] := by rw [hx, ← he.1]; simp [rd_T75, hjd]
        have hx0 : wr.cell? ⟨gp, j.toNat * 3, none⟩ = some (.int .i64 x.f0) := by rw [hx]; exact hcc 0 _ rfl
        have hx1 : wr.cell? ⟨gp, j.toNat * 3 + 1, none⟩ = some (.int .i64 x.f1) := by rw [hx]; exact hcc 1 _ rfl
        have hx2 : wr.cell? ⟨gp, j.toNat * 3 + 2, none⟩ = some (.string x.f2) := by rw [hx]; exact hcc 2 _ rfl
        clear hcl hM hcc hfr hx; have ST := zm (show impl_Disk_settle_stp host lose kp sc x = some (b, k2, s2) from by rw [hxp]; exact hst); have RS := zm (show rest = if b = true then o1 else x :: o1 from by rw [hxp]; exact hrest.symm); have GO := zm hgo; have HE := zm he.2; have HJ := zm hj; have A0 := zm (show 0 ≤ a from HM.out.1); have A1 := zm (show a < (pend.length : Int) from by have := HM.out; omega)
        have WJ : Aside0 (wrap64 (j + 1) = j + 1) := ⟨by unfold wrap64; have := HL.out; omega⟩
        have WA : Aside0 (wrap64 (a + 1) = a + 1) := ⟨by unfold wrap64; have := HL.out; have := HM.out; omega⟩
        have p0 := eq_true h0j; have p1 := eq_true hj; have p3 := eq_true A0.out; have p4 := eq_true A1.out; clear h0j hj hjd he hst hrest hgo hxp hjp HGo
        cases b with
        | true =>
          go_wp2_with (first
            | ((with_reducible refine gate_dst (N := 7) rfl ?_); refine box_event ?hg (N := 7) ?hd (cs := #[.int .i64 0, .int .i64 0, .string ⟨#[]⟩]) (t := 75) ?hr ?_; (case hd => rfl); (case hg => rfl); (case hr => first | (go_simp; done) | (go_simp; rfl)); intro gb hgb w4 hbox hb; have BK := zm hbox; have R4 := zm (Kd.R_below (Kd.R_elderB HR.out gb (by rw [hgb]; exact Nat.le_refl _)) hb); have I4 := zm (II.out.below hb); have B4 := zm (below_step HB.out hb); have GE := zm (show w0.heap.size ≤ gb from by rw [hgb]; exact HB.out.size); clear hb hbox hgb HR II HB; have hz0 : w4.cell? ⟨gb, 0, none⟩ = some (.int .i64 0) := (blk_cell BK.out 0).trans rfl; have hz1 : w4.cell? ⟨gb, 1, none⟩ = some (.int .i64 0) := (blk_cell BK.out 1).trans rfl; have hz2 : w4.cell? ⟨gb, 2, none⟩ = some (.string ⟨#[]⟩) := (blk_cell BK.out 2).trans rfl; have hf0 := blk_frozen BK.out 0; have hf1 := blk_frozen BK.out 1; have hf2 := blk_frozen BK.out 2)
            | ((with_reducible refine gate_store (t := 75) (p := 7) rfl ?_); refine store_event (t := 75) (p := 7) (v := ?vo1) (w1 := (((w4.setCell ⟨gb, 0, none⟩ (.int .i64 x.f0)).setCell ⟨gb, 1, none⟩ (.int .i64 x.f1)).setCell ⟨gb, 2, none⟩ (.string x.f2))) ?hg ?ho ?hn ?hr ?_; (case ho => rfl); (case hg => rfl); (case hn => rfl); (case hr => first | (go_simp; done) | (go_simp; rfl)); intro w5 hw; have BB := zm (show w5.heap[gb]? = some (.cells #[.int .i64 x.f0, .int .i64 x.f1, .string x.f2] 75 (0, 0)) from by rw [hw]; exact blk_set (blk_set (blk_set BK.out 0 _) 1 _) 2 _); have K45 := (show Kept w4 w5 (fun k_ => k_ = gb) from by rw [hw]; exact Kept.setCell (Kept.setCell (Kept.setCell (Kept.refl w4 (fun k_ => k_ = gb)) (p := ⟨gb, 0, none⟩) (.inl rfl) _) (p := ⟨gb, 1, none⟩) (.inl rfl) _) (p := ⟨gb, 2, none⟩) (.inl rfl) _); have R5 := zm (Kd.R_kept R4.out K45 (fun _ h_ e_ => h_.2 e_)); have I5 := zm (I4.out.kept K45 BK.out); have B5 := zm (show Below w0.heap.size w0 w5 from by rw [hw]; exact below_set (below_set (below_set B4.out GE.out) GE.out) GE.out); clear hw K45 R4 I4 B4 BK GE hz0 hz1 hz2 hf0 hf1 hf2; have hb0 : w5.cell? ⟨gb, 0, none⟩ = some (.int .i64 x.f0) := (blk_cell BB.out 0).trans rfl; have hb1 : w5.cell? ⟨gb, 1, none⟩ = some (.int .i64 x.f1) := (blk_cell BB.out 1).trans rfl; have hb2 : w5.cell? ⟨gb, 2, none⟩ = some (.string x.f2) := (blk_cell BB.out 2).trans rfl)
            | ((with_reducible refine gate_dst (N := 28) rfl ?_); refine goesV (some 28) rfl rfl Try.func48 (by kernel_rfl) rfl #[.agg #[.int .i64 x.f0, .int .i64 x.f1, .string x.f2], .pointer (some ⟨gH, 0, none⟩), .pointer (some ⟨gK, 0, none⟩), .pointer (some ⟨gO, 0, none⟩), .pointer (some ⟨gL, 0, none⟩)] rfl (cap := #[.pointer (some ⟨gH, 0, none⟩), .pointer (some ⟨gK, 0, none⟩), .pointer (some ⟨gO, 0, none⟩), .pointer (some ⟨gL, 0, none⟩)]) ?hx ?hargs ?_; (case hx => rfl); (case hargs => simp [Act.eval]); refine (impl_Disk_settle_clos I5.out B5.out HG.out x _ _ _ ST.out).mono ?_; rintro e w6 ⟨rfl, hI, hb, hkp⟩; refine ⟨_, rfl, ?_⟩; have BC := zm (blk_kept BB.out hkp (fun h_ => h_.elim (fun e_ => blk_ne BB.out I5.out.k (by decide) e_) (fun e_ => Kd.R_ne I5.out.s BB.out (by decide) e_))); have R6 := zm (Kd.R_kept R5.out hkp (fun k_ hk_ hs_ => hs_.elim hk_.1.1 hk_.1.2)); have I6 := zm hI; have B6 := zm hb; clear hI hb hkp BB R5 I5 B5 hb0 hb1 hb2))
          go_roundg (pend.length - (j + 1).toNat)
          case measure => have := HM.out; have := HJ.out; omega
          case rel =>
            have hm := HM.out; have hjl := HJ.out
            refine ⟨a, j + 1, dk, o1, k2, s2, rfl, by rw [WJ.out], ⟨hm.1, by omega, by omega, Nat.le_refl _, hm.2.2.2.2⟩, ⟨by rw [HO.out.1, RS.out]; simp, by rw [show (j + 1).toNat = j.toNat + 1 by omega]; exact HE.out⟩, ⟨by rw [show (j + 1).toNat = j.toNat + 1 by omega]; exact GO.out⟩, ⟨Kd.R_mono R6.out (fun _ h_ => h_.1)⟩, I6, B6⟩
        | false =>
          go_wp2_with (first
            | ((with_reducible refine gate_dst (N := 7) rfl ?_); refine box_event ?hg (N := 7) ?hd (cs := #[.int .i64 0, .int .i64 0, .string ⟨#[]⟩]) (t := 75) ?hr ?_; (case hd => rfl); (case hg => rfl); (case hr => first | (go_simp; done) | (go_simp; rfl)); intro gb hgb w4 hbox hb; have BK := zm hbox; have R4 := zm (Kd.R_below (Kd.R_elderB HR.out gb (by rw [hgb]; exact Nat.le_refl _)) hb); have I4 := zm (II.out.below hb); have B4 := zm (below_step HB.out hb); have GE := zm (show w0.heap.size ≤ gb from by rw [hgb]; exact HB.out.size); clear hb hbox hgb HR II HB; have hz0 : w4.cell? ⟨gb, 0, none⟩ = some (.int .i64 0) := (blk_cell BK.out 0).trans rfl; have hz1 : w4.cell? ⟨gb, 1, none⟩ = some (.int .i64 0) := (blk_cell BK.out 1).trans rfl; have hz2 : w4.cell? ⟨gb, 2, none⟩ = some (.string ⟨#[]⟩) := (blk_cell BK.out 2).trans rfl; have hf0 := blk_frozen BK.out 0; have hf1 := blk_frozen BK.out 1; have hf2 := blk_frozen BK.out 2)
            | ((with_reducible refine gate_store (t := 75) (p := 7) rfl ?_); refine store_event (t := 75) (p := 7) (v := ?vo1) (w1 := (((w4.setCell ⟨gb, 0, none⟩ (.int .i64 x.f0)).setCell ⟨gb, 1, none⟩ (.int .i64 x.f1)).setCell ⟨gb, 2, none⟩ (.string x.f2))) ?hg ?ho ?hn ?hr ?_; (case ho => rfl); (case hg => rfl); (case hn => rfl); (case hr => first | (go_simp; done) | (go_simp; rfl)); intro w5 hw; have BB := zm (show w5.heap[gb]? = some (.cells #[.int .i64 x.f0, .int .i64 x.f1, .string x.f2] 75 (0, 0)) from by rw [hw]; exact blk_set (blk_set (blk_set BK.out 0 _) 1 _) 2 _); have K45 := (show Kept w4 w5 (fun k_ => k_ = gb) from by rw [hw]; exact Kept.setCell (Kept.setCell (Kept.setCell (Kept.refl w4 (fun k_ => k_ = gb)) (p := ⟨gb, 0, none⟩) (.inl rfl) _) (p := ⟨gb, 1, none⟩) (.inl rfl) _) (p := ⟨gb, 2, none⟩) (.inl rfl) _); have R5 := zm (Kd.R_kept R4.out K45 (fun _ h_ e_ => h_.2 e_)); have I5 := zm (I4.out.kept K45 BK.out); have B5 := zm (show Below w0.heap.size w0 w5 from by rw [hw]; exact below_set (below_set (below_set B4.out GE.out) GE.out) GE.out); clear hw K45 R4 I4 B4 BK GE hz0 hz1 hz2 hf0 hf1 hf2; have hb0 : w5.cell? ⟨gb, 0, none⟩ = some (.int .i64 x.f0) := (blk_cell BB.out 0).trans rfl; have hb1 : w5.cell? ⟨gb, 1, none⟩ = some (.int .i64 x.f1) := (blk_cell BB.out 1).trans rfl; have hb2 : w5.cell? ⟨gb, 2, none⟩ = some (.string x.f2) := (blk_cell BB.out 2).trans rfl)
            | ((with_reducible refine gate_dst (N := 28) rfl ?_); refine goesV (some 28) rfl rfl Try.func48 (by kernel_rfl) rfl #[.agg #[.int .i64 x.f0, .int .i64 x.f1, .string x.f2], .pointer (some ⟨gH, 0, none⟩), .pointer (some ⟨gK, 0, none⟩), .pointer (some ⟨gO, 0, none⟩), .pointer (some ⟨gL, 0, none⟩)] rfl (cap := #[.pointer (some ⟨gH, 0, none⟩), .pointer (some ⟨gK, 0, none⟩), .pointer (some ⟨gO, 0, none⟩), .pointer (some ⟨gL, 0, none⟩)]) ?hx ?hargs ?_; (case hx => rfl); (case hargs => simp [Act.eval]); refine (impl_Disk_settle_clos I5.out B5.out HG.out x _ _ _ ST.out).mono ?_; rintro e w6 ⟨rfl, hI, hb, hkp⟩; refine ⟨_, rfl, ?_⟩; have BC := zm (blk_kept BB.out hkp (fun h_ => h_.elim (fun e_ => blk_ne BB.out I5.out.k (by decide) e_) (fun e_ => Kd.R_ne I5.out.s BB.out (by decide) e_))); have R6 := zm (Kd.R_kept R5.out hkp (fun k_ hk_ hs_ => hs_.elim hk_.1.1 hk_.1.2)); have I6 := zm hI; have B6 := zm hb; clear hI hb hkp BB R5 I5 B5 hb0 hb1 hb2; have hc0 : w6.cell? ⟨gb, 0, none⟩ = some (.int .i64 x.f0) := (blk_cell BC.out 0).trans rfl; have hc1 : w6.cell? ⟨gb, 1, none⟩ = some (.int .i64 x.f1) := (blk_cell BC.out 1).trans rfl; have hc2 : w6.cell? ⟨gb, 2, none⟩ = some (.string x.f2) := (blk_cell BC.out 2).trans rfl; obtain ⟨ce, hcl, hM, hcc, hfr⟩ := Kd.R_elem R6.out z75 a A0.out A1.out; obtain rfl := k75_openM hM; have hy0 := hcc 0 _ rfl; have hy1 := hcc 1 _ rfl; have hy2 := hcc 2 _ rfl; have hg0 := hfr 0; have hg1 := hfr 1; have hg2 := hfr 2; (try simp only [show (k75).sz = 3 from rfl, Nat.add_zero] at hy0 hy1 hy2 hg0 hg1 hg2); have HP := zm (Kd.R_seg R6.out a A0.out A1.out (seg := [.int .i64 x.f0, .int .i64 x.f1, .string x.f2]) (j := 0) hcl hcc (show 3 ≤ 3 from by decide) (x' := x) (okp := fun _ => False) (k75_mkM _ _ _ x) (fun _ hk => hk.elim)); clear hcl hM hcc hfr)
            | ((with_reducible refine gate_store (t := 75) (p := 33) rfl ?_); refine store_event (t := 75) (p := 33) (v := ?vo2) (w1 := (((w6.setCell ⟨gp, a.toNat * 3, none⟩ (.int .i64 x.f0)).setCell ⟨gp, a.toNat * 3 + 1, none⟩ (.int .i64 x.f1)).setCell ⟨gp, a.toNat * 3 + 2, none⟩ (.string x.f2))) ?hg ?ho ?hn ?hr ?_; (case ho => rfl); (case hg => rfl); (case hn => rfl); (case hr => first | (go_simp; done) | (go_simp; rfl)); intro w7 hw; have hgr : w6.grownBy w7 (some gp) := (by rw [hw]; exact HP.out.2); have R7 := zm (show Kd.R k75 75 w7 w0.heap.size (fun k_ => k_ ≠ gK ∧ some k_ ≠ sv.ownBlock) (.slice (some ⟨gp, 0, none⟩) pend.length co) (dk.set a.toNat x) from by rw [hw]; exact Kd.R_mono HP.out.1 (fun _ h_ => h_.1)); have I7 := zm (I6.out.kept (Kept.of_grown (S := fun k_ => k_ = gp) hgr (Kept.refl _ _) (fun k_ e_ => .inl (by injection e_ with e_; exact e_.symm))) (Classical.choose_spec (Kd.R_typed R6.out gp rfl))); have B7 := zm (show Below w0.heap.size w0 w7 from by rw [hw]; exact below_set (below_set (below_set B6.out GP.out) GP.out) GP.out); clear hw hgr HP R6 I6 B6 BC hc0 hc1 hc2 hy0 hy1 hy2 hg0 hg1 hg2))
          go_roundg (pend.length - (j + 1).toNat)
          case measure => have := HM.out; have := HJ.out; omega
          case rel =>
            have hm := HM.out; have hjl := HJ.out
            refine ⟨a + 1, j + 1, dk.set a.toNat x, o1, k2, s2, by rw [WA.out], by rw [WJ.out], ⟨by omega, by omega, by omega, Nat.le_refl _, by rw [List.length_set]; exact hm.2.2.2.2⟩, ⟨?_, ?_⟩, ⟨by rw [show (j + 1).toNat = j.toNat + 1 by omega]; exact GO.out⟩, R7, I7, B7⟩
            · rw [HO.out.1, RS.out, show (a + 1).toNat = a.toNat + 1 by omega, List.take_succ_eq_append_getElem (by rw [List.length_set]; omega), List.getElem_set_self, List.take_set_of_le (Nat.le_refl _)]
              simp
            · rw [show (j + 1).toNat = j.toNat + 1 by omega, List.drop_set_of_lt (by omega)]; exact HE.out
      · have hd : decide (j < (pend.length : Int)) = false := decide_eq_false hj
        have ej : j.toNat = pend.length := by have := HM.out; omega
        have h := HGo.out
        rw [ej, List.drop_of_length_le (Nat.le_refl _)] at h
        simp only [impl_Disk_settle_go, Option.some.injEq, Prod.mk.injEq] at h
        obtain ⟨h4, rfl, rfl⟩ := h
        have HOUT := zm (show pend.take i0 ++ rest0 = dk.take a.toNat from by rw [HO.out.1, ← h4, List.append_nil]); have A0 := zm (show 0 ≤ a from HM.out.1); have A1 := zm (show a.toNat < pend.length from by have := HM.out; omega)
        obtain ⟨vs, hclr⟩ := impl_Disk_settle_clear HR.out a.toNat A1.out (co - a.toNat) 0
        clear h4 ej hj HGo HO
        have hco : pend.length ≤ co := (Kd.R_reads' HR.out).2.1
        have n1 : (co = a.toNat) = False := eq_false (by have := A1.out; omega)
        have n2 : (a.toNat = co) = False := eq_false (by have := A1.out; omega)
        have n3 : ¬ co = a.toNat := by have := A1.out; omega
        have p3 := eq_true A0.out
        have p4 : (a ≤ (pend.length : Int)) = True := eq_true (by have := A1.out; omega)
        have p5 : (a.toNat ≤ pend.length) = True := eq_true (by have := A1.out; omega)
        have p6 : (a.toNat ≤ co) = True := eq_true (by have := A1.out; omega)
        have p7 : ((co : Int) < a) = False := eq_false (by have := A1.out; omega)
        have p8 : (a ≤ (co : Int)) = True := eq_true (by have := A1.out; omega)
        go_wp2
        go_ret
        refine ⟨_, rfl, ?_, II.out.kept (impl_Disk_settle_kept vs _ wr) (Classical.choose_spec (Kd.R_typed HR.out gp rfl)), impl_Disk_settle_bel GP.out vs _ _ HB.out⟩
        rw [HOUT.out]
        exact impl_Disk_settle_cut (Kd.R_take HR.out (by have := HM.out; omega)) vs _ (Nat.le_refl _)
def impl_Disk_settle.f (l0_0 : List ByteArray) (l0_1 : List (S75)) (a1 : Int) (a2 : Int) (a3 : Bool) : Option (List ByteArray × (List (S75))) := (impl_Disk_copied.f l0_0 l0_1).bind fun t => if t.2.length ≤ 1000000000 then (impl_Disk_settle_go a1 a3 t.2 a2 t.1).bind fun q => some (q.2.2, q.1) else none
set_option maxHeartbeats 8000000 in
set_option maxRecDepth 100000 in
theorem impl_Disk_settle.calls (A0_0 : Option Addr) (c0_0 : Nat) (l0_0 : List ByteArray) (A0_1 : Option Addr) (c0_1 : Nat) (l0_1 : List (S75)) (a1 : Int) (a2 : Int) (a3 : Bool) (r1 : List ByteArray) (r2 : List (S75)) (w : World) (hr0_0 : Kd.C Kd.string w A0_0 l0_0.length l0_0) (hc0_0 : l0_0.length ≤ c0_0) (hr0_1 : Kd.C k75 w A0_1 l0_1.length l0_1) (hc0_1 : l0_1.length ≤ c0_1) (h : impl_Disk_settle.f l0_0 l0_1 a1 a2 a3 = some (r1, r2)) :
    Calls Try.prog 28 #[.agg #[.slice A0_0 l0_0.length c0_0, .slice A0_1 l0_1.length c0_1], .int .i64 a1, .int .i64 a2, .bool a3] w fun e w' => ∃ v0_ v1_ : Value, e = .returned (.agg #[v0_, v1_]) ∧ Kd.R Kd.string 9 w' w.heap.size (fun _ => True) v0_ r1 ∧ Kd.R k75 75 w' w.heap.size (fun _ => True) v1_ r2 ∧ Below w.heap.size w w' := by
 have hu32 := Try.underlying32; have HR0 := zm hr0_0; have HC0 := zm hc0_0; have HR1 := zm hr0_1; have HC1 := zm hc0_1; have HB := zm (Below.refl w.heap.size w)
 unfold impl_Disk_settle.f at h
 obtain ⟨⟨t1, t2⟩, ht, h⟩ := Option.bind_eq_some_iff.mp h
 have hlim : t2.length ≤ 1000000000 := by
  by_cases c : t2.length ≤ 1000000000
  ·exact c
  ·rw [if_neg c] at h; cases h
 rw [if_pos hlim] at h
 obtain ⟨⟨q1, kf, sf⟩, hgo, h⟩ := Option.bind_eq_some_iff.mp h
 simp only [Option.some.injEq, Prod.mk.injEq] at h
 obtain ⟨rfl, rfl⟩ := h
 have T0 := zm ht; have HL := zm hlim; have HGo := zm (show impl_Disk_settle_go a1 a3 t2 a2 t1 = some (q1, kf, sf) from hgo); clear hr0_0 hc0_0 hr0_1 hc0_1 ht hlim hgo
 go_enter Try.func28, Try.ntmps28
 go_wp2_with (first
  | ((with_reducible refine gate_dst (N := 4) rfl ?_); refine box_event ?hg (N := 4) ?hd (cs := #[.slice A0_0 l0_0.length c0_0, .slice A0_1 l0_1.length c0_1]) (t := 32) ?hr ?_; (case hd => rfl); (case hg => rfl); (case hr => first | (go_simp; done) | (go_simp; rfl)); intro g0 hg0 w1 hbox hb;  have ng0 := zm hbox; have nB := zm (below_step HB.out hb); have nG := zm (show w.heap.size ≤ g0 from by rw [hg0]; exact HB.out.size); clear HB hbox hb hg0; have HB := nB; have Bg0 := ng0; have Gg0 := nG; clear nB ng0 nG)
  | ((with_reducible refine gate_dst (N := 5) rfl ?_); refine box_event ?hg (N := 5) ?hd (cs := #[.int .i64 a1]) (t := 3) ?hr ?_; (case hd => rfl); (case hg => rfl); (case hr => first | (go_simp; done) | (go_simp; rfl)); intro gH hgH w2 hbox hb; have mg0 := zm (blk_below Bg0.out hb); clear Bg0; have Bg0 := mg0; clear mg0;  have ngH := zm hbox; have nB := zm (below_step HB.out hb); have nG := zm (show w.heap.size ≤ gH from by rw [hgH]; exact HB.out.size); clear HB hbox hb hgH; have HB := nB; have BgH := ngH; have GgH := nG; clear nB ngH nG)
  | ((with_reducible refine gate_dst (N := 6) rfl ?_); refine box_event ?hg (N := 6) ?hd (cs := #[.int .i64 a2]) (t := 3) ?hr ?_; (case hd => rfl); (case hg => rfl); (case hr => first | (go_simp; done) | (go_simp; rfl)); intro gK hgK w3 hbox hb; have nHK := zm (show gH ≠ gK from by rw [hgK]; exact Nat.ne_of_lt (blk_lt BgH.out)); have mg0 := zm (blk_below Bg0.out hb); clear Bg0; have Bg0 := mg0; clear mg0; have mgH := zm (blk_below BgH.out hb); clear BgH; have BgH := mgH; clear mgH;  have ngK := zm hbox; have nB := zm (below_step HB.out hb); have nG := zm (show w.heap.size ≤ gK from by rw [hgK]; exact HB.out.size); clear HB hbox hb hgK; have HB := nB; have BgK := ngK; have GgK := nG; clear nB ngK nG ; have HHK := nHK; clear nHK)
  | ((with_reducible refine gate_dst (N := 7) rfl ?_); refine box_event ?hg (N := 7) ?hd (cs := #[.bool a3]) (t := 4) ?hr ?_; (case hd => rfl); (case hg => rfl); (case hr => first | (go_simp; done) | (go_simp; rfl)); intro gL hgL w4 hbox hb; have mg0 := zm (blk_below Bg0.out hb); clear Bg0; have Bg0 := mg0; clear mg0; have mgH := zm (blk_below BgH.out hb); clear BgH; have BgH := mgH; clear mgH; have mgK := zm (blk_below BgK.out hb); clear BgK; have BgK := mgK; clear mgK;  have ngL := zm hbox; have nB := zm (below_step HB.out hb); have nG := zm (show w.heap.size ≤ gL from by rw [hgL]; exact HB.out.size); clear HB hbox hb hgL; have HB := nB; have BgL := ngL; have GgL := nG; clear nB ngL nG)
  | ((with_reducible refine gate_dst (N := 8) rfl ?_); refine box_event ?hg (N := 8) ?hd (cs := #[.slice none 0 0, .slice none 0 0]) (t := 32) ?hr ?_; (case hd => rfl); (case hg => rfl); (case hr => first | (go_simp; done) | (go_simp; rfl)); intro gR hgR w5 hbox hb; have mg0 := zm (blk_below Bg0.out hb); clear Bg0; have Bg0 := mg0; clear mg0; have mgH := zm (blk_below BgH.out hb); clear BgH; have BgH := mgH; clear mgH; have mgK := zm (blk_below BgK.out hb); clear BgK; have BgK := mgK; clear mgK; have mgL := zm (blk_below BgL.out hb); clear BgL; have BgL := mgL; clear mgL;  have ngR := zm hbox; have nB := zm (below_step HB.out hb); have nG := zm (show w.heap.size ≤ gR from by rw [hgR]; exact HB.out.size); clear HB hbox hb hgR; have HB := nB; have BgR := ngR; have GgR := nG; clear nB ngR nG; have hcg0 : w5.cell? ⟨g0, 0, none⟩ = some (.slice A0_0 l0_0.length c0_0) := (blk_cell Bg0.out 0).trans rfl; have hcg1 : w5.cell? ⟨g0, 1, none⟩ = some (.slice A0_1 l0_1.length c0_1) := (blk_cell Bg0.out 1).trans rfl)
  | ((with_reducible refine gate_callee (f := 24) rfl ?_); refine goesL_ (some 11) rfl rfl Try.func24 (by kernel_rfl) rfl #[.agg #[.slice A0_0 l0_0.length c0_0, .slice A0_1 l0_1.length c0_1]] rfl (by (try simp only [List.map_toArray, List.map_cons, List.map_nil]); first | done | rfl) ?_; (with_reducible refine (impl_Disk_copied.calls A0_0 c0_0 l0_0 A0_1 c0_1 l0_1 t1 t2 _ ?s1 ?s2 ?s3 ?s4 T0.out).mono ?_); (case s1 => exact Kd.C_below HR0.out HB.out); (case s2 => exact HC0.out); (case s3 => exact Kd.C_below HR1.out HB.out); (case s4 => exact HC1.out); rintro e w6 ⟨v0, v1, rfl, ho0, ho1, hb⟩; refine ⟨_, rfl, ?_⟩; have R0 := zm (Kd.R_lower ho0 HB.out.size); have R1 := zm (Kd.R_lower ho1 HB.out.size); have mgH := zm (blk_below BgH.out hb); clear BgH; have BgH := mgH; clear mgH; have mgK := zm (blk_below BgK.out hb); clear BgK; have BgK := mgK; clear mgK; have mgL := zm (blk_below BgL.out hb); clear BgL; have BgL := mgL; clear mgL; have mgR := zm (blk_below BgR.out hb); clear BgR; have BgR := mgR; clear mgR;  have nB := zm (below_step HB.out hb); clear HB hb ho0 ho1 hcg0 hcg1 Bg0; have HB := nB; clear nB)
  | ((with_reducible refine gate_dst (N := 9) rfl ?_); refine box_event ?hg (N := 9) ?hd (cs := #[.slice none 0 0, .slice none 0 0]) (t := 32) ?hr ?_; (case hd => rfl); (case hg => rfl); (case hr => first | (go_simp; done) | (go_simp; rfl)); intro gO hgO w7 hbox hb; have NRO := zm (show gR ≠ gO from by rw [hgO]; exact Nat.ne_of_lt (blk_lt BgR.out)); have mgH := zm (blk_below BgH.out hb); clear BgH; have BgH := mgH; clear mgH; have mgK := zm (blk_below BgK.out hb); clear BgK; have BgK := mgK; clear mgK; have mgL := zm (blk_below BgL.out hb); clear BgL; have BgL := mgL; clear mgL; have mgR := zm (blk_below BgR.out hb); clear BgR; have BgR := mgR; clear mgR;  have mR0 := zm (Kd.R_below R0.out hb); have mR1 := zm (Kd.R_below R1.out hb); have BgO := zm hbox; have nB := zm (below_step HB.out hb); have GgO := zm (show w.heap.size ≤ gO from by rw [hgO]; exact HB.out.size); clear HB hbox hb hgO R0 R1; have HB := nB; have R0 := mR0; have R1 := mR1; clear nB mR0 mR1; have hz0 : w7.cell? ⟨gO, 0, none⟩ = some (.slice none 0 0) := (blk_cell BgO.out 0).trans rfl; have hz1 : w7.cell? ⟨gO, 1, none⟩ = some (.slice none 0 0) := (blk_cell BgO.out 1).trans rfl; have hf0 := blk_frozen BgO.out 0; have hf1 := blk_frozen BgO.out 1; obtain ⟨As, cs, rfl⟩ := Kd.R_slice R0.out; obtain ⟨Ap, cp, rfl⟩ := Kd.R_slice R1.out)
  | ((with_reducible refine gate_store (t := 32) (p := 9) rfl ?_); refine store_event (t := 32) (p := 9) (v := ?vo1) (w1 := ((w7.setCell ⟨gO, 0, none⟩ (.slice As t1.length cs)).setCell ⟨gO, 1, none⟩ (.slice Ap t2.length cp))) ?hg ?ho ?hn ?hr ?_; (case ho => rfl); (case hg => rfl); (case hn => rfl); (case hr => first | (go_simp; done) | (go_simp; rfl)); intro w8 hw; have K78 := (show Kept w7 w8 (fun k_ => k_ = gO) from by rw [hw]; exact Kept.setCell (Kept.setCell (Kept.refl w7 (fun k_ => k_ = gO)) (p := ⟨gO, 0, none⟩) (.inl rfl) _) (p := ⟨gO, 1, none⟩) (.inl rfl) _); have mO := zm (show w8.heap[gO]? = some (.cells #[.slice As t1.length cs, .slice Ap t2.length cp] 32 (0, 0)) from by rw [hw]; exact blk_set (blk_set BgO.out 0 _) 1 _); have mR := zm (blk_kept BgR.out K78 NRO.out); have I8 := zm (show impl_Disk_settle_I w8 w.heap.size gH gK gO gL gR a1 a2 a3 (.slice As t1.length cs) (.slice Ap t2.length cp) t1 from ⟨blk_kept BgH.out K78 (blk_ne BgH.out BgO.out (by decide)), blk_kept BgK.out K78 (blk_ne BgK.out BgO.out (by decide)), mO.out, blk_kept BgL.out K78 (blk_ne BgL.out BgO.out (by decide)), Kd.R_mono (Kd.R_kept (Kd.R_types R0.out BgO.out (by decide)) K78 (fun _ h_ => h_.2)) (fun _ _ => trivial), HHK.out, mR.out⟩); have nR1 := (Kd.R_kept (Kd.R_types R1.out BgO.out (by decide)) K78 (fun _ h_ => h_.2)); have R8 := zm (show Kd.R k75 75 w8 w.heap.size (fun k_ => k_ ≠ gK ∧ some k_ ≠ (.slice As t1.length cs : Value).ownBlock) (.slice Ap t2.length cp) t2 from Kd.R_mono (Kd.R_apart' (v := .slice As t1.length cs) (Kd.R_types nR1 I8.out.k (by decide)) (Kd.R_typed I8.out.s) (by decide)) (fun _ h_ => ⟨h_.1.2, h_.2⟩)); have nB := zm (show Below w.heap.size w w8 from by rw [hw]; exact below_set (below_set HB.out GgO.out) GgO.out); clear hw K78 R0 R1 nR1 HB BgR BgO BgH BgK BgL hz0 hz1 hf0 hf1; have HB := nB; have BgR := mR; clear nB mR mO; have hc1 : w8.cell? ⟨gO, 1, none⟩ = some (.slice Ap t2.length cp) := (blk_cell I8.out.o 1).trans rfl)
  | ((with_reducible refine gate_callee (f := 47) rfl ?_); refine goesL_ (some 15) rfl rfl Try.func47 (by kernel_rfl) rfl #[.slice Ap t2.length cp, .func (.func 48) #[] #[.pointer (some ⟨gH, 0, none⟩), .pointer (some ⟨gK, 0, none⟩), .pointer (some ⟨gO, 0, none⟩), .pointer (some ⟨gL, 0, none⟩)]] rfl (by (try simp only [List.map_toArray, List.map_cons, List.map_nil]); first | done | rfl) ?_; refine (impl_Disk_settle_delete (w0 := w) I8.out HB.out GgK.out R8.out HL.out q1 kf sf HGo.out).mono ?_; rintro e w9 ⟨v9, rfl, hr, hI, hb⟩; refine ⟨_, rfl, ?_⟩; obtain ⟨A9, c9, rfl⟩ := Kd.R_slice hr; have I9 := zm hI; have R9 := zm hr; have B9 := zm hb; clear hI hr hb I8 R8 HB BgR hc1; have hq1 : w9.cell? ⟨gO, 1, none⟩ = some (.slice Ap t2.length cp) := (blk_cell I9.out.o 1).trans rfl; have hfq := blk_frozen I9.out.o 1)
  | ((with_reducible refine gate_store (t := 30) (p := 16) rfl ?_); refine store_event (t := 30) (p := 16) (v := ?vo2) (w1 := (w9.setCell ⟨gO, 1, none⟩ (.slice A9 q1.length c9))) ?hg ?ho ?hn ?hr ?_; (case ho => rfl); (case hg => rfl); (case hn => rfl); (case hr => first | (go_simp; done) | (go_simp; rfl)); intro w10 hw; have K := (show Kept w9 w10 (fun k_ => k_ = gO) from by rw [hw]; exact Kept.setCell (Kept.refl w9 (fun k_ => k_ = gO)) (p := ⟨gO, 1, none⟩) (.inl rfl) _); have O10 := zm (show w10.heap[gO]? = some (.cells #[.slice As t1.length cs, .slice A9 q1.length c9] 32 (0, 0)) from by rw [hw]; exact blk_set I9.out.o 1 _); have Q10 := zm (blk_kept I9.out.r K NRO.out); have S10 := zm (Kd.R_kept (Kd.R_types I9.out.s I9.out.o (by decide)) K (fun _ h_ => h_.2)); have R10 := zm (Kd.R_kept (Kd.R_types R9.out I9.out.o (by decide)) K (fun _ h_ => h_.2)); have B10 := zm (show Below w.heap.size w w10 from by rw [hw]; exact below_set B9.out GgO.out); clear hw K I9 R9 B9 hq1 hfq; have ho0 : w10.cell? ⟨gO, 0, none⟩ = some (.slice As t1.length cs) := (blk_cell O10.out 0).trans rfl; have ho1 : w10.cell? ⟨gO, 1, none⟩ = some (.slice A9 q1.length c9) := (blk_cell O10.out 1).trans rfl; have hr0 : w10.cell? ⟨gR, 0, none⟩ = some (.slice none 0 0) := (blk_cell Q10.out 0).trans rfl; have hr1 : w10.cell? ⟨gR, 1, none⟩ = some (.slice none 0 0) := (blk_cell Q10.out 1).trans rfl; have hfr0 := blk_frozen Q10.out 0; have hfr1 := blk_frozen Q10.out 1)
  | ((with_reducible refine gate_store (t := 32) (p := 8) rfl ?_); refine store_event (t := 32) (p := 8) (v := ?vo3) (w1 := ((w10.setCell ⟨gR, 0, none⟩ (.slice As t1.length cs)).setCell ⟨gR, 1, none⟩ (.slice A9 q1.length c9))) ?hg ?ho ?hn ?hr ?_; (case ho => rfl); (case hg => rfl); (case hn => rfl); (case hr => first | (go_simp; done) | (go_simp; rfl)); intro w11 hw; have K := (show Kept w10 w11 (fun k_ => k_ = gR) from by rw [hw]; exact Kept.setCell (Kept.setCell (Kept.refl w10 (fun k_ => k_ = gR)) (p := ⟨gR, 0, none⟩) (.inl rfl) _) (p := ⟨gR, 1, none⟩) (.inl rfl) _); have Q11 := zm (show w11.heap[gR]? = some (.cells #[.slice As t1.length cs, .slice A9 q1.length c9] 32 (0, 0)) from by rw [hw]; exact blk_set (blk_set Q10.out 0 _) 1 _); have S11 := zm (Kd.R_kept (Kd.R_types S10.out Q10.out (by decide)) K (fun _ h_ => h_.2)); have R11 := zm (Kd.R_kept (Kd.R_types R10.out Q10.out (by decide)) K (fun _ h_ => h_.2)); have B11 := zm (show Below w.heap.size w w11 from by rw [hw]; exact below_set (below_set B10.out GgR.out) GgR.out); clear hw K S10 R10 B10 Q10 O10 ho0 ho1 hr0 hr1 hfr0 hfr1))
 refine bodyPost_ret (results_cell_row rfl _ _ gR 32 #[.slice As t1.length cs, .slice A9 q1.length c9] (0, 0) _ rfl Q11.out Try.underlying32 rfl (by kernel_rfl)) rfl ?_
 exact ⟨_, _, rfl, Kd.R_mono S11.out (fun _ _ => trivial), Kd.R_mono R11.out (fun _ _ => trivial), B11.out⟩
end Go.Proofs.Ytfmfbmcdikkijaa.Q
