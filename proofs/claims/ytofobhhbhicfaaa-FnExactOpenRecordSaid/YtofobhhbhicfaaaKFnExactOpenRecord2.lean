/- What laws.FnExactOpenRecord reaches, part 2: the functions as Lean functions, the proofs that the program's functions answer so, and plain laws about them. -/
import Derived.Test.YtofobhhbhicfaaaKFnExactOpenRecord1
namespace Go.Proofs.Ytofobhhbhicfaaa.Q
open Go.RowKit Go.Proofs.Ytofobhhbhicfaaa.Ext Go.Proofs.YtofobhhbhicfaaaW.PrintWords Go.Proofs.YtofobhhbhicfaaaW.PrintLast Go.Proofs.YtofobhhbhicfaaaW.PrintMore
attribute [local go_sem] max2_int min2_int max_two min_two max_three min_three max_four min_four   -- for this text's walks alone
set_option linter.unusedVariables false
set_option linter.unusedSimpArgs false

set_option linter.unusedVariables false
set_option linter.unusedSimpArgs false
/-! ### spec_OpenRecord: function 43 -/
def spec_OpenRecord.f (k : Nat) (a0 : ByteArray) (a1 : Int) : Option (List Int × Int) := if (a0.size : Int) > 65536 then (some ((([] : List Int)), 2)) else ((spec_l02Kind.f a1).bind fun t510 => (if t510 = true then ((spec_l02Open.f k a0 a1).bind fun bt511 => (if bt511.2 = true then (some (bt511.1, 0)) else (some ((([] : List Int)), 3)))) else (some ((([] : List Int)), 4))))
theorem spec_OpenRecord.mono : ∀ a0 a1 k, LeO (spec_OpenRecord.f k a0 a1) (spec_OpenRecord.f (k + 1) a0 a1) := by
  intro a0 a1 k
  unfold spec_OpenRecord.f
  repeat' first
      | (with_reducible exact spec_l02Open.mono _ _ _)
      | (with_reducible exact LeO.refl _)
      | (with_reducible exact LeO.none _)
      | (with_reducible refine LeO.ite ?_ ?_)
      | (with_reducible refine LeO.bind ?_ (fun _ => ?_))
      | exact spec_l02Open.mono _ _ _
      | exact LeO.none _
      | refine LeO.ite ?_ ?_
      | refine LeO.bind ?_ (fun _ => ?_)
set_option maxHeartbeats 8000000 in
set_option maxRecDepth 100000 in
theorem spec_OpenRecord.calls (k : Nat) (a0 : ByteArray) (a1 : Int) (r1 : List Int) (r2 : Int) (w : World) (h : spec_OpenRecord.f k a0 a1 = some (r1, r2)) :
    Calls Try.prog 43 #[.string a0, .int .i64 a1] w fun e w' => ∃ v0_ : Value, e = .returned (.tuple #[v0_, .int .i64 r2]) ∧ Kd.R (Kd.int .i64) 3 w' w.heap.size (fun _ => True) v0_ r1 ∧ Below w.heap.size w w' := by
  have HB := Aside0.mk (Below.refl w.heap.size w)
  have H : (if (a0.size : Int) > 65536 then (some ((([] : List Int)), 2)) else ((spec_l02Kind.f a1).bind fun t510 => (if t510 = true then ((spec_l02Open.f k a0 a1).bind fun bt511 => (if bt511.2 = true then (some (bt511.1, 0)) else (some ((([] : List Int)), 3)))) else (some ((([] : List Int)), 4))))) = some (r1, r2) := h
  clear h
  by_cases c3 : (a0.size : Int) > 65536
  · rw [if_pos c3] at H
    have c3b0 : decide (65536 < (a0.size : Int)) = true := decide_eq_true c3
    have c3b1 : decide (65536 < a0.size) = true := decide_eq_true (by omega)
    clear c3
    obtain ⟨y507, hy507⟩ : ∃ y_ : List Int, y_ = (([] : List Int)) := ⟨_, rfl⟩
    replace H : (some (y507, 2)) = some (r1, r2) := by first | (rw [hy507]; with_reducible exact H) | (have H2_ := (Option.bind_some _ _).symm.trans H; rw [hy507]; with_reducible exact H2_) | (have H2_ := (Option.bind_some _ _).symm.trans H; with_reducible exact H2_) | with_reducible exact H | (rw [hy507]; exact H) | exact H
    have Ny507 := Aside0.mk hy507
    clear hy507
    simp only [Option.some.injEq, Prod.mk.injEq] at H
    obtain ⟨rfl, rfl⟩ := H
    go_enter Try.func43, Try.ntmps43
    go_wp2_with (first | ((with_reducible refine gate_dst (N := 11) rfl ?_); refine Kd.R_lit (Kd.int .i64) _ 3 ?hg (N := 11) ?hd (xs := ([] : List Int)) (inner := []) (ok := fun _ => True) (okp := fun _ => True) ?hr ?hp (fun _ hk => hk) trivial (Below.refl _ _) (Nat.le_refl _) (by simp) ?_; (case hd => rfl); (case hg => rfl); (case hr => first | (go_simp; done) | (go_simp; rfl)); (case hp => exact (Reps.none _ _)); intro v508 w4 ho5 hb hg_ hnew_; clear hg_ hnew_; (first | rw [← Ny507.out] at ho5 | (simp only [Int.reduceToNat] at ho5; rw [← Ny507.out] at ho5)); have n0_ := Aside0.mk (Kd.R_lower ho5 (below_size (by repeat (first | (with_reducible first | exact HB.out | apply below_alloc | apply pw_below_drewN | apply below_drew1) | exact HB.out)))); have n1_ := Aside0.mk (below_step (by repeat (first | (with_reducible first | exact HB.out | apply below_alloc | apply pw_below_drewN | apply below_drew1) | exact HB.out)) hb); clear HB; have HO509 := n0_; have HB := n1_; clear n0_ n1_; clear hb ho5))
    go_ret2
    exact ⟨_, by first | rfl | (simp [errW_none, errW_some] <;> rfl) | (simp [*, errW_none, errW_some] <;> rfl), by (with_reducible repeat (first | apply Kd.R_alloc | apply Kd.R_drewN | apply Kd.R_drew)); exact HO509.out, by repeat (first | (with_reducible first | exact HB.out | apply below_alloc | apply pw_below_drewN | apply below_drew1) | exact HB.out)⟩
  · rw [if_neg c3] at H
    have c3b0 : decide (65536 < (a0.size : Int)) = false := decide_eq_false c3
    have c3b1 : decide (65536 < a0.size) = false := decide_eq_false (by omega)
    clear c3
    replace H := Option.bind_eq_some_iff.mp H
    obtain ⟨t510, A60, H⟩ := H
    replace H : (if t510 = true then ((spec_l02Open.f k a0 a1).bind fun bt511 => (if bt511.2 = true then (some (bt511.1, 0)) else (some ((([] : List Int)), 3)))) else (some ((([] : List Int)), 4))) = some (r1, r2) := H
    have A6 := Aside0.mk A60
    clear A60
    by_cases c7 : t510 = true
    · subst c7
      have H1 : ((spec_l02Open.f k a0 a1).bind fun bt511 => (if bt511.2 = true then (some (bt511.1, 0)) else (some ((([] : List Int)), 3)))) = some (r1, r2) := by rw [if_pos rfl] at H; exact H
      clear H
      have H := H1
      clear H1
      replace H := Option.bind_eq_some_iff.mp H
      obtain ⟨⟨t511, t512⟩, A80, H⟩ := H
      replace H : (if t512 = true then (some (t511, 0)) else (some ((([] : List Int)), 3))) = some (r1, r2) := H
      have A8 := Aside0.mk A80
      clear A80
      by_cases c9 : t512 = true
      · subst c9
        have H1 : (some (t511, 0)) = some (r1, r2) := by rw [if_pos rfl] at H; exact H
        clear H
        have H := H1
        clear H1
        simp only [Option.some.injEq, Prod.mk.injEq] at H
        obtain ⟨rfl, rfl⟩ := H
        go_enter Try.func43, Try.ntmps43
        go_wp2_with (first | ((with_reducible refine gate_callee (f := 93) rfl ?_); refine goesL_ (some 13) rfl rfl Try.func93 (by kernel_rfl) rfl #[.int .i64 a1] rfl (by (try simp only [List.map_toArray, List.map_cons, List.map_nil]); first | done | rfl | (simp only [List.length_drop, List.length_take]; rfl)) ?_; (with_reducible refine (spec_l02Kind.calls a1 true _ A6.out).mono ?_); rintro e w' ⟨rfl, ⟨nd, rfl⟩⟩; refine ⟨_, rfl, ?_⟩) | ((with_reducible refine gate_callee (f := 94) rfl ?_); refine goesL_ (some 19) rfl rfl Try.func94 (by kernel_rfl) rfl #[.string a0, .int .i64 a1] rfl (by (try simp only [List.map_toArray, List.map_cons, List.map_nil]); first | done | rfl | (simp only [List.length_drop, List.length_take]; rfl)) ?_; (with_reducible refine (spec_l02Open.calls k a0 a1 t511 true _ A8.out).mono ?_); rintro e w10 ⟨v513, rfl, ho0, hb⟩; refine ⟨_, rfl, ?_⟩; have n0_ := Aside0.mk (Kd.R_lower ho0 (below_size (by repeat (first | (with_reducible first | exact HB.out | apply below_alloc | apply pw_below_drewN | apply below_drew1) | exact HB.out)))); have n1_ := Aside0.mk (below_step (by repeat (first | (with_reducible first | exact HB.out | apply below_alloc | apply pw_below_drewN | apply below_drew1) | exact HB.out)) hb); clear HB; have HO514 := n0_; have HB := n1_; clear n0_ n1_; (try clear hb); (try clear hb2); (try clear hk); (try clear hi); (try clear ho0)))
        go_ret2
        exact ⟨_, by first | rfl | (simp [errW_none, errW_some] <;> rfl) | (simp [*, errW_none, errW_some] <;> rfl), by (with_reducible repeat (first | apply Kd.R_alloc | apply Kd.R_drewN | apply Kd.R_drew)); exact HO514.out, by repeat (first | (with_reducible first | exact HB.out | apply below_alloc | apply pw_below_drewN | apply below_drew1) | exact HB.out)⟩
      · replace c9 := Bool.eq_false_iff.mpr c9
        subst c9
        have H1 : (some ((([] : List Int)), 3)) = some (r1, r2) := by rw [if_neg (show ¬ (false = true) by decide)] at H; exact H
        clear H
        have H := H1
        clear H1
        obtain ⟨y515, hy515⟩ : ∃ y_ : List Int, y_ = (([] : List Int)) := ⟨_, rfl⟩
        replace H : (some (y515, 3)) = some (r1, r2) := by first | (rw [hy515]; with_reducible exact H) | (have H2_ := (Option.bind_some _ _).symm.trans H; rw [hy515]; with_reducible exact H2_) | (have H2_ := (Option.bind_some _ _).symm.trans H; with_reducible exact H2_) | with_reducible exact H | (rw [hy515]; exact H) | exact H
        have Ny515 := Aside0.mk hy515
        clear hy515
        simp only [Option.some.injEq, Prod.mk.injEq] at H
        obtain ⟨rfl, rfl⟩ := H
        go_enter Try.func43, Try.ntmps43
        go_wp2_with (first | ((with_reducible refine gate_callee (f := 93) rfl ?_); refine goesL_ (some 13) rfl rfl Try.func93 (by kernel_rfl) rfl #[.int .i64 a1] rfl (by (try simp only [List.map_toArray, List.map_cons, List.map_nil]); first | done | rfl | (simp only [List.length_drop, List.length_take]; rfl)) ?_; (with_reducible refine (spec_l02Kind.calls a1 true _ A6.out).mono ?_); rintro e w' ⟨rfl, ⟨nd, rfl⟩⟩; refine ⟨_, rfl, ?_⟩) | ((with_reducible refine gate_callee (f := 94) rfl ?_); refine goesL_ (some 19) rfl rfl Try.func94 (by kernel_rfl) rfl #[.string a0, .int .i64 a1] rfl (by (try simp only [List.map_toArray, List.map_cons, List.map_nil]); first | done | rfl | (simp only [List.length_drop, List.length_take]; rfl)) ?_; (with_reducible refine (spec_l02Open.calls k a0 a1 t511 false _ A8.out).mono ?_); rintro e w11 ⟨v513, rfl, ho0, hb⟩; refine ⟨_, rfl, ?_⟩; have n0_ := Aside0.mk (Kd.R_lower ho0 (below_size (by repeat (first | (with_reducible first | exact HB.out | apply below_alloc | apply pw_below_drewN | apply below_drew1) | exact HB.out)))); have n1_ := Aside0.mk (below_step (by repeat (first | (with_reducible first | exact HB.out | apply below_alloc | apply pw_below_drewN | apply below_drew1) | exact HB.out)) hb); clear HB; have HO514 := n0_; have HB := n1_; clear n0_ n1_; (try clear hb); (try clear hb2); (try clear hk); (try clear hi); (try clear ho0)) | ((with_reducible refine gate_dst (N := 24) rfl ?_); refine Kd.R_lit (Kd.int .i64) _ 3 ?hg (N := 24) ?hd (xs := ([] : List Int)) (inner := []) (ok := fun _ => True) (okp := fun _ => True) ?hr ?hp (fun _ hk => hk) trivial (Below.refl _ _) (Nat.le_refl _) (by simp) ?_; (case hd => rfl); (case hg => rfl); (case hr => first | (go_simp; done) | (go_simp; rfl)); (case hp => exact (Reps.none _ _)); intro v516 w12 ho13 hb hg_ hnew_; clear hg_ hnew_; (first | rw [← Ny515.out] at ho13 | (simp only [Int.reduceToNat] at ho13; rw [← Ny515.out] at ho13)); have n0_ := Aside0.mk (Kd.R_elder' (by (with_reducible repeat (first | apply Kd.R_alloc | apply Kd.R_drewN | apply Kd.R_drew)); exact HO514.out) (Kd.R_base ho13) hb); have n1_ := Aside0.mk (Kd.R_lower (Kd.R_new' ho13 (Kd.R_lt (by (with_reducible repeat (first | apply Kd.R_alloc | apply Kd.R_drewN | apply Kd.R_drew)); exact HO514.out))) (below_size (by repeat (first | (with_reducible first | exact HB.out | apply below_alloc | apply pw_below_drewN | apply below_drew1) | exact HB.out)))); have n2_ := Aside0.mk (below_step (by repeat (first | (with_reducible first | exact HB.out | apply below_alloc | apply pw_below_drewN | apply below_drew1) | exact HB.out)) hb); clear HO514; clear HB; have HO514 := n0_; have HO517 := n1_; have HB := n2_; clear n0_ n1_ n2_; clear hb ho13))
        go_ret2
        exact ⟨_, by first | rfl | (simp [errW_none, errW_some] <;> rfl) | (simp [*, errW_none, errW_some] <;> rfl), by (with_reducible repeat (first | apply Kd.R_alloc | apply Kd.R_drewN | apply Kd.R_drew)); exact Kd.R_mono HO517.out (fun _ hk => trivial), by repeat (first | (with_reducible first | exact HB.out | apply below_alloc | apply pw_below_drewN | apply below_drew1) | exact HB.out)⟩
    · replace c7 := Bool.eq_false_iff.mpr c7
      subst c7
      have H1 : (some ((([] : List Int)), 4)) = some (r1, r2) := by rw [if_neg (show ¬ (false = true) by decide)] at H; exact H
      clear H
      have H := H1
      clear H1
      obtain ⟨y518, hy518⟩ : ∃ y_ : List Int, y_ = (([] : List Int)) := ⟨_, rfl⟩
      replace H : (some (y518, 4)) = some (r1, r2) := by first | (rw [hy518]; with_reducible exact H) | (have H2_ := (Option.bind_some _ _).symm.trans H; rw [hy518]; with_reducible exact H2_) | (have H2_ := (Option.bind_some _ _).symm.trans H; with_reducible exact H2_) | with_reducible exact H | (rw [hy518]; exact H) | exact H
      have Ny518 := Aside0.mk hy518
      clear hy518
      simp only [Option.some.injEq, Prod.mk.injEq] at H
      obtain ⟨rfl, rfl⟩ := H
      go_enter Try.func43, Try.ntmps43
      go_wp2_with (first | ((with_reducible refine gate_callee (f := 93) rfl ?_); refine goesL_ (some 13) rfl rfl Try.func93 (by kernel_rfl) rfl #[.int .i64 a1] rfl (by (try simp only [List.map_toArray, List.map_cons, List.map_nil]); first | done | rfl | (simp only [List.length_drop, List.length_take]; rfl)) ?_; (with_reducible refine (spec_l02Kind.calls a1 false _ A6.out).mono ?_); rintro e w' ⟨rfl, ⟨nd, rfl⟩⟩; refine ⟨_, rfl, ?_⟩) | ((with_reducible refine gate_dst (N := 15) rfl ?_); refine Kd.R_lit (Kd.int .i64) _ 3 ?hg (N := 15) ?hd (xs := ([] : List Int)) (inner := []) (ok := fun _ => True) (okp := fun _ => True) ?hr ?hp (fun _ hk => hk) trivial (Below.refl _ _) (Nat.le_refl _) (by simp) ?_; (case hd => rfl); (case hg => rfl); (case hr => first | (go_simp; done) | (go_simp; rfl)); (case hp => exact (Reps.none _ _)); intro v519 w14 ho15 hb hg_ hnew_; clear hg_ hnew_; (first | rw [← Ny518.out] at ho15 | (simp only [Int.reduceToNat] at ho15; rw [← Ny518.out] at ho15)); have n0_ := Aside0.mk (Kd.R_lower ho15 (below_size (by repeat (first | (with_reducible first | exact HB.out | apply below_alloc | apply pw_below_drewN | apply below_drew1) | exact HB.out)))); have n1_ := Aside0.mk (below_step (by repeat (first | (with_reducible first | exact HB.out | apply below_alloc | apply pw_below_drewN | apply below_drew1) | exact HB.out)) hb); clear HB; have HO520 := n0_; have HB := n1_; clear n0_ n1_; clear hb ho15))
      go_ret2
      exact ⟨_, by first | rfl | (simp [errW_none, errW_some] <;> rfl) | (simp [*, errW_none, errW_some] <;> rfl), by (with_reducible repeat (first | apply Kd.R_alloc | apply Kd.R_drewN | apply Kd.R_drew)); exact HO520.out, by repeat (first | (with_reducible first | exact HB.out | apply below_alloc | apply pw_below_drewN | apply below_drew1) | exact HB.out)⟩
/-! ### laws_FnExactOpenRecord: function 11 -/
mutual
def laws_FnExactOpenRecord.j0 : Nat → ByteArray → Int → List Int → Int → List Int → Bool → Option (Bool)
  | 0, _, _, _, _, _, _ => none
  | k + 1, x0, x1, x5, x6, x7, x36 => if x36 = true then (some false) else ((laws_markIntS.f k x7 1).bind fun bt561 => ((laws_heldIntS.f k bt561.2 1).bind fun t563 => (if t563 < 0 then (some false) else (if t563 = bt561.1 then ((impl_OpenRecord.f k x0 x1).bind fun bt564 => ((laws_eqIntS.f k bt564.1 x5).bind fun t568 => (if t568 = true then (laws_FnExactOpenRecord.j1 k bt561.2 bt561.1 (bt564.2 != x6)) else (laws_FnExactOpenRecord.j1 k bt561.2 bt561.1 true)))) else (some false)))))
def laws_FnExactOpenRecord.j1 : Nat → List Int → Int → Bool → Option (Bool)
  | 0, _, _, _ => none
  | k + 1, x7, x9, x62 => if x62 = true then (some false) else ((laws_heldIntS.f k x7 1).bind fun t569 => (if t569 < 0 then (some false) else (if t569 = x9 then (some true) else (some false))))
end
def laws_FnExactOpenRecord.f (k : Nat) (a0 : ByteArray) (a1 : Int) : Option (Bool) := if (a0.size : Int) > 1048576 then (some true) else ((spec_OpenRecord.f k a0 a1).bind fun bt552 => ((impl_OpenRecord.f k a0 a1).bind fun bt556 => ((laws_eqIntS.f k bt556.1 bt552.1).bind fun t560 => (if t560 = true then (laws_FnExactOpenRecord.j0 k a0 a1 bt552.1 bt552.2 bt556.1 (bt556.2 != bt552.2)) else (laws_FnExactOpenRecord.j0 k a0 a1 bt552.1 bt552.2 bt556.1 true)))))
theorem laws_FnExactOpenRecord.mono_l : ∀ k, (∀ y0 y1 y2 y3 y4 y5, LeO (laws_FnExactOpenRecord.j0 k y0 y1 y2 y3 y4 y5) (laws_FnExactOpenRecord.j0 (k + 1) y0 y1 y2 y3 y4 y5)) ∧ (∀ y0 y1 y2, LeO (laws_FnExactOpenRecord.j1 k y0 y1 y2) (laws_FnExactOpenRecord.j1 (k + 1) y0 y1 y2))
  | 0 => ⟨fun _ _ _ _ _ _ r h => by simp [laws_FnExactOpenRecord.j0] at h, fun _ _ _ r h => by simp [laws_FnExactOpenRecord.j1] at h⟩
  | k + 1 => by
    obtain ⟨ih0, ih1⟩ := laws_FnExactOpenRecord.mono_l k
    refine ⟨?_, ?_⟩
    · intro y0 y1 y2 y3 y4 y5
      unfold laws_FnExactOpenRecord.j0
      repeat' first
      | (with_reducible exact ih0 _ _ _ _ _ _)
      | (with_reducible exact ih1 _ _ _)
      | (with_reducible exact impl_OpenRecord.mono _ _ _)
      | (with_reducible exact laws_eqIntS.mono _ _ _)
      | (with_reducible exact laws_heldIntS.mono _ _ _)
      | (with_reducible exact laws_markIntS.mono _ _ _)
      | (with_reducible exact spec_OpenRecord.mono _ _ _)
      | (with_reducible exact LeO.refl _)
      | (with_reducible exact LeO.none _)
      | (with_reducible refine LeO.ite ?_ ?_)
      | (with_reducible refine LeO.bind ?_ (fun _ => ?_))
      | exact ih0 _ _ _ _ _ _
      | exact ih1 _ _ _
      | exact impl_OpenRecord.mono _ _ _
      | exact laws_eqIntS.mono _ _ _
      | exact laws_heldIntS.mono _ _ _
      | exact laws_markIntS.mono _ _ _
      | exact spec_OpenRecord.mono _ _ _
      | exact LeO.none _
      | refine LeO.ite ?_ ?_
      | refine LeO.bind ?_ (fun _ => ?_)
    · intro y0 y1 y2
      unfold laws_FnExactOpenRecord.j1
      repeat' first
      | (with_reducible exact ih0 _ _ _ _ _ _)
      | (with_reducible exact ih1 _ _ _)
      | (with_reducible exact impl_OpenRecord.mono _ _ _)
      | (with_reducible exact laws_eqIntS.mono _ _ _)
      | (with_reducible exact laws_heldIntS.mono _ _ _)
      | (with_reducible exact laws_markIntS.mono _ _ _)
      | (with_reducible exact spec_OpenRecord.mono _ _ _)
      | (with_reducible exact LeO.refl _)
      | (with_reducible exact LeO.none _)
      | (with_reducible refine LeO.ite ?_ ?_)
      | (with_reducible refine LeO.bind ?_ (fun _ => ?_))
      | exact ih0 _ _ _ _ _ _
      | exact ih1 _ _ _
      | exact impl_OpenRecord.mono _ _ _
      | exact laws_eqIntS.mono _ _ _
      | exact laws_heldIntS.mono _ _ _
      | exact laws_markIntS.mono _ _ _
      | exact spec_OpenRecord.mono _ _ _
      | exact LeO.none _
      | refine LeO.ite ?_ ?_
      | refine LeO.bind ?_ (fun _ => ?_)
theorem laws_FnExactOpenRecord.mono : ∀ a0 a1 k, LeO (laws_FnExactOpenRecord.f k a0 a1) (laws_FnExactOpenRecord.f (k + 1) a0 a1) := by
  intro a0 a1 k
  obtain ⟨ih0, ih1⟩ := laws_FnExactOpenRecord.mono_l k
  unfold laws_FnExactOpenRecord.f
  repeat' first
      | (with_reducible exact ih0 _ _ _ _ _ _)
      | (with_reducible exact ih1 _ _ _)
      | (with_reducible exact impl_OpenRecord.mono _ _ _)
      | (with_reducible exact laws_eqIntS.mono _ _ _)
      | (with_reducible exact laws_heldIntS.mono _ _ _)
      | (with_reducible exact laws_markIntS.mono _ _ _)
      | (with_reducible exact spec_OpenRecord.mono _ _ _)
      | (with_reducible exact LeO.refl _)
      | (with_reducible exact LeO.none _)
      | (with_reducible refine LeO.ite ?_ ?_)
      | (with_reducible refine LeO.bind ?_ (fun _ => ?_))
      | exact ih0 _ _ _ _ _ _
      | exact ih1 _ _ _
      | exact impl_OpenRecord.mono _ _ _
      | exact laws_eqIntS.mono _ _ _
      | exact laws_heldIntS.mono _ _ _
      | exact laws_markIntS.mono _ _ _
      | exact spec_OpenRecord.mono _ _ _
      | exact LeO.none _
      | refine LeO.ite ?_ ?_
      | refine LeO.bind ?_ (fun _ => ?_)
set_option maxHeartbeats 8000000 in
set_option maxRecDepth 100000 in
theorem laws_FnExactOpenRecord.calls (k : Nat) (a0 : ByteArray) (a1 : Int) (r : Bool) (w : World) (h : laws_FnExactOpenRecord.f k a0 a1 = some r) :
    Calls Try.prog 11 #[.string a0, .int .i64 a1] w fun e w' => e = .returned (.bool r) ∧ Below w.heap.size w w' := by
  have HB := Aside0.mk (Below.refl w.heap.size w)
  have H : (if (a0.size : Int) > 1048576 then (some true) else ((spec_OpenRecord.f k a0 a1).bind fun bt552 => ((impl_OpenRecord.f k a0 a1).bind fun bt556 => ((laws_eqIntS.f k bt556.1 bt552.1).bind fun t560 => (if t560 = true then (laws_FnExactOpenRecord.j0 k a0 a1 bt552.1 bt552.2 bt556.1 (bt556.2 != bt552.2)) else (laws_FnExactOpenRecord.j0 k a0 a1 bt552.1 bt552.2 bt556.1 true)))))) = some r := h
  clear h
  by_cases c3 : (a0.size : Int) > 1048576
  · rw [if_pos c3] at H
    have c3b0 : decide (1048576 < (a0.size : Int)) = true := decide_eq_true c3
    have c3b1 : decide (1048576 < a0.size) = true := decide_eq_true (by omega)
    clear c3
    obtain rfl := Option.some.inj H
    go_enter Try.func11, Try.ntmps11
    go_wp2
    go_ret
    exact ⟨by first | rfl | (simp [errW_none, errW_some] <;> rfl) | (simp [*, errW_none, errW_some] <;> rfl), by repeat (first | (with_reducible first | exact HB.out | apply below_alloc | apply pw_below_drewN | apply below_drew1) | exact HB.out)⟩
  · rw [if_neg c3] at H
    have c3b0 : decide (1048576 < (a0.size : Int)) = false := decide_eq_false c3
    have c3b1 : decide (1048576 < a0.size) = false := decide_eq_false (by omega)
    clear c3
    replace H := Option.bind_eq_some_iff.mp H
    obtain ⟨⟨t552, t553⟩, A40, H⟩ := H
    replace H : ((impl_OpenRecord.f k a0 a1).bind fun bt556 => ((laws_eqIntS.f k bt556.1 t552).bind fun t560 => (if t560 = true then (laws_FnExactOpenRecord.j0 k a0 a1 t552 t553 bt556.1 (bt556.2 != t553)) else (laws_FnExactOpenRecord.j0 k a0 a1 t552 t553 bt556.1 true)))) = some r := H
    have A4 := Aside0.mk A40
    clear A40
    replace H := Option.bind_eq_some_iff.mp H
    obtain ⟨⟨t556, t557⟩, A50, H⟩ := H
    replace H : ((laws_eqIntS.f k t556 t552).bind fun t560 => (if t560 = true then (laws_FnExactOpenRecord.j0 k a0 a1 t552 t553 t556 (t557 != t553)) else (laws_FnExactOpenRecord.j0 k a0 a1 t552 t553 t556 true))) = some r := H
    have A5 := Aside0.mk A50
    clear A50
    have HC6 := Aside0.mk H
    clear H
    go_enter Try.func11, Try.ntmps11
    go_upto_region 5 with (first | ((with_reducible refine gate_callee (f := 43) rfl ?_); refine goesL_ (some 19) rfl rfl Try.func43 (by kernel_rfl) rfl #[.string a0, .int .i64 a1] rfl (by (try simp only [List.map_toArray, List.map_cons, List.map_nil]); first | done | rfl | (simp only [List.length_drop, List.length_take]; rfl)) ?_; (with_reducible refine (spec_OpenRecord.calls k a0 a1 t552 t553 _ A4.out).mono ?_); rintro e w7 ⟨v554, rfl, ho0, hb⟩; refine ⟨_, rfl, ?_⟩; have n0_ := Aside0.mk (Kd.R_lower ho0 (below_size (by repeat (first | (with_reducible first | exact HB.out | apply below_alloc | apply pw_below_drewN | apply below_drew1) | exact HB.out)))); have n1_ := Aside0.mk (below_step (by repeat (first | (with_reducible first | exact HB.out | apply below_alloc | apply pw_below_drewN | apply below_drew1) | exact HB.out)) hb); clear HB; have HO555 := n0_; have HB := n1_; clear n0_ n1_; (try clear hb); (try clear hb2); (try clear hk); (try clear hi); (try clear ho0)) | ((with_reducible refine gate_callee (f := 44) rfl ?_); refine goesL_ (some 25) rfl rfl Try.func44 (by kernel_rfl) rfl #[.string a0, .int .i64 a1] rfl (by (try simp only [List.map_toArray, List.map_cons, List.map_nil]); first | done | rfl | (simp only [List.length_drop, List.length_take]; rfl)) ?_; (with_reducible refine (impl_OpenRecord.calls k a0 a1 t556 t557 _ A5.out).mono ?_); rintro e w8 ⟨v558, rfl, ho0, hb⟩; refine ⟨_, rfl, ?_⟩; have n0_ := Aside0.mk (Kd.R_elder' (by (with_reducible repeat (first | apply Kd.R_alloc | apply Kd.R_drewN | apply Kd.R_drew)); exact HO555.out) (Kd.R_base ho0) hb); have n1_ := Aside0.mk (Kd.R_lower (Kd.R_new' ho0 (Kd.R_lt (by (with_reducible repeat (first | apply Kd.R_alloc | apply Kd.R_drewN | apply Kd.R_drew)); exact HO555.out))) (below_size (by repeat (first | (with_reducible first | exact HB.out | apply below_alloc | apply pw_below_drewN | apply below_drew1) | exact HB.out)))); have n2_ := Aside0.mk (below_step (by repeat (first | (with_reducible first | exact HB.out | apply below_alloc | apply pw_below_drewN | apply below_drew1) | exact HB.out)) hb); clear HO555; clear HB; have HO555 := n0_; have HO559 := n1_; have HB := n2_; clear n0_ n1_ n2_; (try clear hb); (try clear hb2); (try clear hk); (try clear hi); (try clear ho0)))
    (try simp only [Act.put, List.setIfInBounds_toArray, List.set_cons_zero, List.set_cons_succ])
    go_cut [36] (fun v36 wc => ∃ (kq : Nat) (x36_5 : Bool), v36 = .bool x36_5 ∧ Aside0 (laws_FnExactOpenRecord.j0 kq a0 a1 t552 t553 t556 x36_5 = some r) ∧ Aside0 (kq ≤ k) ∧ Aside0 (Kd.R (Kd.int .i64) 3 wc w.heap.size (fun k_ => some k_ ≠ (v558 : Value).ownBlock) v554 t552) ∧ Aside0 (Kd.R (Kd.int .i64) 3 wc w.heap.size (fun k_ => some k_ ≠ (v554 : Value).ownBlock) v558 t556) ∧ Aside0 (Below w.heap.size w wc))
    case first =>
      have H := HC6.out
      clear HC6
      replace H := Option.bind_eq_some_iff.mp H
      obtain ⟨t560, A90, H⟩ := H
      replace H : (if t560 = true then (laws_FnExactOpenRecord.j0 k a0 a1 t552 t553 t556 (t557 != t553)) else (laws_FnExactOpenRecord.j0 k a0 a1 t552 t553 t556 true)) = some r := H
      have A9 := Aside0.mk A90
      clear A90
      by_cases c10 : t560 = true
      · subst c10
        have H1 : (laws_FnExactOpenRecord.j0 k a0 a1 t552 t553 t556 (t557 != t553)) = some r := by rw [if_pos rfl] at H; exact H
        clear H
        have H := H1
        clear H1
        have H' := Aside0.mk H
        clear H
        obtain ⟨Ao11, co11, eo11⟩ := Kd.R_slice HO559.out
        subst eo11
        obtain ⟨Ao12, co12, eo12⟩ := Kd.R_slice HO555.out
        subst eo12
        go_wp2_with (first | ((with_reducible refine gate_callee (f := 45) rfl ?_); refine goesL_ (some 30) rfl rfl Try.func45 (by kernel_rfl) rfl #[.slice Ao11 t556.length co11, .slice Ao12 t552.length co12] rfl (by (try simp only [List.map_toArray, List.map_cons, List.map_nil]); first | done | rfl | (simp only [List.length_drop, List.length_take]; rfl)) ?_; (with_reducible refine (laws_eqIntS.calls k _ _ t556 _ _ t552 true _ ?side1 ?side2 ?side3 ?side4 A9.out).mono ?_); (case side1 => repeat (first | exact (Kd.R_reads' HO559.out).2.2 | (with_reducible refine Kd.C_alloc ?_ _) | (with_reducible refine Kd.C_drewN ?_ _) | (with_reducible refine Kd.C_drew ?_))); (case side2 => exact (Kd.R_reads' HO559.out).2.1); (case side3 => repeat (first | exact (Kd.R_reads' HO555.out).2.2 | (with_reducible refine Kd.C_alloc ?_ _) | (with_reducible refine Kd.C_drewN ?_ _) | (with_reducible refine Kd.C_drew ?_))); (case side4 => exact (Kd.R_reads' HO555.out).2.1); rintro e w' ⟨rfl, ⟨nd, rfl⟩⟩; refine ⟨_, rfl, ?_⟩))
        go_meet
        case rel => exact ⟨_, ((t557 != t553)), (by first | rfl | (simp; done) | (simp [*]; done)), H', ⟨by first | omega | exact Nat.le_refl _⟩, ⟨by (with_reducible repeat (first | apply Kd.R_alloc | apply Kd.R_drewN | apply Kd.R_drew)); exact Kd.R_mono HO555.out (fun _ hk => hk.2)⟩, ⟨by (with_reducible repeat (first | apply Kd.R_alloc | apply Kd.R_drewN | apply Kd.R_drew)); exact Kd.R_mono HO559.out (fun _ hk => hk.2)⟩, ⟨by repeat (first | (with_reducible first | exact HB.out | apply below_alloc | apply pw_below_drewN | apply below_drew1) | exact HB.out)⟩⟩
      · replace c10 := Bool.eq_false_iff.mpr c10
        subst c10
        have H1 : (laws_FnExactOpenRecord.j0 k a0 a1 t552 t553 t556 true) = some r := by rw [if_neg (show ¬ (false = true) by decide)] at H; exact H
        clear H
        have H := H1
        clear H1
        have H' := Aside0.mk H
        clear H
        obtain ⟨Ao13, co13, eo13⟩ := Kd.R_slice HO559.out
        subst eo13
        obtain ⟨Ao14, co14, eo14⟩ := Kd.R_slice HO555.out
        subst eo14
        go_wp2_with (first | ((with_reducible refine gate_callee (f := 45) rfl ?_); refine goesL_ (some 30) rfl rfl Try.func45 (by kernel_rfl) rfl #[.slice Ao13 t556.length co13, .slice Ao14 t552.length co14] rfl (by (try simp only [List.map_toArray, List.map_cons, List.map_nil]); first | done | rfl | (simp only [List.length_drop, List.length_take]; rfl)) ?_; (with_reducible refine (laws_eqIntS.calls k _ _ t556 _ _ t552 false _ ?side1 ?side2 ?side3 ?side4 A9.out).mono ?_); (case side1 => repeat (first | exact (Kd.R_reads' HO559.out).2.2 | (with_reducible refine Kd.C_alloc ?_ _) | (with_reducible refine Kd.C_drewN ?_ _) | (with_reducible refine Kd.C_drew ?_))); (case side2 => exact (Kd.R_reads' HO559.out).2.1); (case side3 => repeat (first | exact (Kd.R_reads' HO555.out).2.2 | (with_reducible refine Kd.C_alloc ?_ _) | (with_reducible refine Kd.C_drewN ?_ _) | (with_reducible refine Kd.C_drew ?_))); (case side4 => exact (Kd.R_reads' HO555.out).2.1); rintro e w' ⟨rfl, ⟨nd, rfl⟩⟩; refine ⟨_, rfl, ?_⟩))
        go_meet
        case rel => exact ⟨_, (true), (by first | rfl | (simp; done) | (simp [*]; done)), H', ⟨by first | omega | exact Nat.le_refl _⟩, ⟨by (with_reducible repeat (first | apply Kd.R_alloc | apply Kd.R_drewN | apply Kd.R_drew)); exact Kd.R_mono HO555.out (fun _ hk => hk.2)⟩, ⟨by (with_reducible repeat (first | apply Kd.R_alloc | apply Kd.R_drewN | apply Kd.R_drew)); exact Kd.R_mono HO559.out (fun _ hk => hk.2)⟩, ⟨by repeat (first | (with_reducible first | exact HB.out | apply below_alloc | apply pw_below_drewN | apply below_drew1) | exact HB.out)⟩⟩
    case rest =>
      clear HC6
      try clear c1
      try clear p2
      try clear c3
      try clear c3b0
      try clear c3b1
      try clear c4
      try clear c10
      try clear c11
      obtain ⟨kq, x36_5, rfl, HA, HJ5, HO_5, HO_7, HB⟩ := hcut
      cases kq with
      | zero => exact absurd HA.out (by simp [laws_FnExactOpenRecord.j0])
      | succ kj5 =>
        have H := HA.out
        clear HA
        simp only [laws_FnExactOpenRecord.j0] at H
        by_cases c15 : x36_5 = true
        · subst c15
          have H1 : (some false) = some r := by rw [if_pos rfl] at H; exact H
          clear H
          have H := H1
          clear H1
          obtain rfl := Option.some.inj H
          go_wp2
          go_ret
          exact ⟨by first | rfl | (simp [errW_none, errW_some] <;> rfl) | (simp [*, errW_none, errW_some] <;> rfl), by repeat (first | (with_reducible first | exact HB.out | apply below_alloc | apply pw_below_drewN | apply below_drew1) | exact HB.out)⟩
        · replace c15 := Bool.eq_false_iff.mpr c15
          subst c15
          have H1 : ((laws_markIntS.f kj5 t556 1).bind fun bt561 => ((laws_heldIntS.f kj5 bt561.2 1).bind fun t563 => (if t563 < 0 then (some false) else (if t563 = bt561.1 then ((impl_OpenRecord.f kj5 a0 a1).bind fun bt564 => ((laws_eqIntS.f kj5 bt564.1 t552).bind fun t568 => (if t568 = true then (laws_FnExactOpenRecord.j1 kj5 bt561.2 bt561.1 (bt564.2 != t553)) else (laws_FnExactOpenRecord.j1 kj5 bt561.2 bt561.1 true)))) else (some false))))) = some r := by rw [if_neg (show ¬ (false = true) by decide)] at H; exact H
          clear H
          have H := H1
          clear H1
          replace H := Option.bind_eq_some_iff.mp H
          obtain ⟨⟨t561, t562⟩, A160, H⟩ := H
          replace H : ((laws_heldIntS.f kj5 t562 1).bind fun t563 => (if t563 < 0 then (some false) else (if t563 = t561 then ((impl_OpenRecord.f kj5 a0 a1).bind fun bt564 => ((laws_eqIntS.f kj5 bt564.1 t552).bind fun t568 => (if t568 = true then (laws_FnExactOpenRecord.j1 kj5 t562 t561 (bt564.2 != t553)) else (laws_FnExactOpenRecord.j1 kj5 t562 t561 true)))) else (some false)))) = some r := H
          have A16 := Aside0.mk A160
          clear A160
          replace H := Option.bind_eq_some_iff.mp H
          obtain ⟨t563, A170, H⟩ := H
          replace H : (if t563 < 0 then (some false) else (if t563 = t561 then ((impl_OpenRecord.f kj5 a0 a1).bind fun bt564 => ((laws_eqIntS.f kj5 bt564.1 t552).bind fun t568 => (if t568 = true then (laws_FnExactOpenRecord.j1 kj5 t562 t561 (bt564.2 != t553)) else (laws_FnExactOpenRecord.j1 kj5 t562 t561 true)))) else (some false))) = some r := H
          have A17 := Aside0.mk A170
          clear A170
          by_cases c18 : t563 < 0
          · rw [if_pos c18] at H
            have c18b0 : decide (t563 < 0) = true := decide_eq_true c18
            clear c18
            obtain rfl := Option.some.inj H
            obtain ⟨Ao19, co19, eo19⟩ := Kd.R_slice HO_7.out
            subst eo19
            go_wp2_with (first | ((with_reducible refine gate_callee (f := 46) rfl ?_); refine goesL_ (some 39) rfl rfl Try.func46 (by kernel_rfl) rfl #[.slice Ao19 t556.length co19, .int .i64 1] rfl (by (try simp only [List.map_toArray, List.map_cons, List.map_nil]); first | done | rfl | (simp only [List.length_drop, List.length_take]; rfl)) ?_; (with_reducible refine (laws_markIntS.calls kj5 (fun k_ => some k_ = (.slice Ao19 t556.length co19 : Value).ownBlock) (.slice Ao19 t556.length co19) t556 1 t561 t562 w _ ?side1 ?side2 A16.out).mono ?_); (case side1 => repeat (first | (with_reducible first | exact HB.out | apply below_alloc | apply pw_below_drewN | apply below_drew1) | exact HB.out)); (case side2 => exact Kd.R_tight rfl HO_7.out); rintro e w20 ⟨rfl, hy0, hb, hkp⟩; refine ⟨_, rfl, ?_⟩; have n0_ := Aside0.mk (Kd.R_mono (ok' := fun k_ => some k_ ≠ (.slice Ao19 t556.length co19 : Value).ownBlock) (Kd.R_keptB (HO_5.out) hkp (fun k_ hk_ hs_ => (hk_) hs_)) (fun k_ hk_ => hk_.1)); have n1_ := Aside0.mk (Kd.R_reok rfl hy0 (fun k_ e_ => HO_7.out.1 k_ e_)); have n2_ := Aside0.mk (hb); clear HO_5; clear HO_7; clear HB; have HO_5 := n0_; have HO_7 := n1_; have HB := n2_; clear n0_ n1_ n2_; (try clear hb); (try clear hkp); (try clear hy0)) | ((with_reducible refine gate_callee (f := 47) rfl ?_); refine goesL_ (some 42) rfl rfl Try.func47 (by kernel_rfl) rfl #[.slice Ao19 t562.length co19, .int .i64 1] rfl (by (try simp only [List.map_toArray, List.map_cons, List.map_nil]); first | done | (rw [show t562.length = t556.length from (Kd.R_reads' HO_7.out).1.symm] <;> rfl) | rfl | (simp only [List.length_drop, List.length_take]; rfl)) ?_; (with_reducible refine (laws_heldIntS.calls kj5 _ _ t562 1 t563 _ ?side1 ?side2 A17.out).mono ?_); (case side1 => repeat (first | exact (Kd.R_reads' HO_7.out).2.2 | (with_reducible refine Kd.C_alloc ?_ _) | (with_reducible refine Kd.C_drewN ?_ _) | (with_reducible refine Kd.C_drew ?_))); (case side2 => rw [show t562.length = t556.length from (Kd.R_reads' HO_7.out).1.symm]; exact (Kd.R_reads' HO_7.out).2.1); rintro e w' ⟨rfl, ⟨nd, rfl⟩⟩; refine ⟨_, rfl, ?_⟩))
            go_ret
            exact ⟨by first | rfl | (simp [errW_none, errW_some] <;> rfl) | (simp [*, errW_none, errW_some] <;> rfl), by repeat (first | (with_reducible first | exact HB.out | apply below_alloc | apply pw_below_drewN | apply below_drew1) | exact HB.out)⟩
          · rw [if_neg c18] at H
            have c18b0 : decide (t563 < 0) = false := decide_eq_false c18
            clear c18
            by_cases c21 : t563 = t561
            · rw [if_pos c21] at H
              have c21b0 : (t563 == t561) = true := beq_iff_eq.mpr c21
              have c21b1 : (t563 != t561) = false := bne_eq_false_iff_eq.mpr c21
              clear c21
              replace H := Option.bind_eq_some_iff.mp H
              obtain ⟨⟨t564, t565⟩, A220, H⟩ := H
              replace H : ((laws_eqIntS.f kj5 t564 t552).bind fun t568 => (if t568 = true then (laws_FnExactOpenRecord.j1 kj5 t562 t561 (t565 != t553)) else (laws_FnExactOpenRecord.j1 kj5 t562 t561 true))) = some r := H
              have A22 := Aside0.mk A220
              clear A220
              have HC23 := Aside0.mk H
              clear H
              obtain ⟨Ao24, co24, eo24⟩ := Kd.R_slice HO_7.out
              subst eo24
              go_upto_region 16 with (first | ((with_reducible refine gate_callee (f := 46) rfl ?_); refine goesL_ (some 39) rfl rfl Try.func46 (by kernel_rfl) rfl #[.slice Ao24 t556.length co24, .int .i64 1] rfl (by (try simp only [List.map_toArray, List.map_cons, List.map_nil]); first | done | rfl | (simp only [List.length_drop, List.length_take]; rfl)) ?_; (with_reducible refine (laws_markIntS.calls kj5 (fun k_ => some k_ = (.slice Ao24 t556.length co24 : Value).ownBlock) (.slice Ao24 t556.length co24) t556 1 t561 t562 w _ ?side1 ?side2 A16.out).mono ?_); (case side1 => repeat (first | (with_reducible first | exact HB.out | apply below_alloc | apply pw_below_drewN | apply below_drew1) | exact HB.out)); (case side2 => exact Kd.R_tight rfl HO_7.out); rintro e w25 ⟨rfl, hy0, hb, hkp⟩; refine ⟨_, rfl, ?_⟩; have n0_ := Aside0.mk (Kd.R_mono (ok' := fun k_ => some k_ ≠ (.slice Ao24 t556.length co24 : Value).ownBlock) (Kd.R_keptB (HO_5.out) hkp (fun k_ hk_ hs_ => (hk_) hs_)) (fun k_ hk_ => hk_.1)); have n1_ := Aside0.mk (Kd.R_reok rfl hy0 (fun k_ e_ => HO_7.out.1 k_ e_)); have n2_ := Aside0.mk (hb); clear HO_5; clear HO_7; clear HB; have HO_5 := n0_; have HO_7 := n1_; have HB := n2_; clear n0_ n1_ n2_; (try clear hb); (try clear hkp); (try clear hy0)) | ((with_reducible refine gate_callee (f := 47) rfl ?_); refine goesL_ (some 42) rfl rfl Try.func47 (by kernel_rfl) rfl #[.slice Ao24 t562.length co24, .int .i64 1] rfl (by (try simp only [List.map_toArray, List.map_cons, List.map_nil]); first | done | (rw [show t562.length = t556.length from (Kd.R_reads' HO_7.out).1.symm] <;> rfl) | rfl | (simp only [List.length_drop, List.length_take]; rfl)) ?_; (with_reducible refine (laws_heldIntS.calls kj5 _ _ t562 1 t563 _ ?side1 ?side2 A17.out).mono ?_); (case side1 => repeat (first | exact (Kd.R_reads' HO_7.out).2.2 | (with_reducible refine Kd.C_alloc ?_ _) | (with_reducible refine Kd.C_drewN ?_ _) | (with_reducible refine Kd.C_drew ?_))); (case side2 => rw [show t562.length = t556.length from (Kd.R_reads' HO_7.out).1.symm]; exact (Kd.R_reads' HO_7.out).2.1); rintro e w' ⟨rfl, ⟨nd, rfl⟩⟩; refine ⟨_, rfl, ?_⟩) | ((with_reducible refine gate_callee (f := 44) rfl ?_); refine goesL_ (some 51) rfl rfl Try.func44 (by kernel_rfl) rfl #[.string a0, .int .i64 a1] rfl (by (try simp only [List.map_toArray, List.map_cons, List.map_nil]); first | done | rfl | (simp only [List.length_drop, List.length_take]; rfl)) ?_; (with_reducible refine (impl_OpenRecord.calls kj5 a0 a1 t564 t565 _ A22.out).mono ?_); rintro e w26 ⟨v566, rfl, ho0, hb⟩; refine ⟨_, rfl, ?_⟩; have n0_ := Aside0.mk (Kd.R_elder' (by (with_reducible repeat (first | apply Kd.R_alloc | apply Kd.R_drewN | apply Kd.R_drew)); exact HO_5.out) (Kd.R_base ho0) hb); have n1_ := Aside0.mk (Kd.R_elder' (by (with_reducible repeat (first | apply Kd.R_alloc | apply Kd.R_drewN | apply Kd.R_drew)); exact HO_7.out) (Kd.R_base ho0) hb); have n2_ := Aside0.mk (Kd.R_lower (Kd.R_new' (Kd.R_new' ho0 (Kd.R_lt (by (with_reducible repeat (first | apply Kd.R_alloc | apply Kd.R_drewN | apply Kd.R_drew)); exact HO_5.out))) (Kd.R_lt (by (with_reducible repeat (first | apply Kd.R_alloc | apply Kd.R_drewN | apply Kd.R_drew)); exact HO_7.out))) (below_size (by repeat (first | (with_reducible first | exact HB.out | apply below_alloc | apply pw_below_drewN | apply below_drew1) | exact HB.out)))); have n3_ := Aside0.mk (below_step (by repeat (first | (with_reducible first | exact HB.out | apply below_alloc | apply pw_below_drewN | apply below_drew1) | exact HB.out)) hb); clear HO_5; clear HO_7; clear HB; have HO_5 := n0_; have HO_7 := n1_; have HO567 := n2_; have HB := n3_; clear n0_ n1_ n2_ n3_; (try clear hb); (try clear hb2); (try clear hk); (try clear hi); (try clear ho0)))
              (try simp only [Act.put, List.setIfInBounds_toArray, List.set_cons_zero, List.set_cons_succ])
              go_cut [62] (fun v62 wc => ∃ (kq : Nat) (x62_22 : Bool), v62 = .bool x62_22 ∧ Aside0 (laws_FnExactOpenRecord.j1 kq t562 t561 x62_22 = some r) ∧ Aside0 (kq ≤ kj5) ∧ Aside0 (Kd.R (Kd.int .i64) 3 wc w.heap.size (fun _ => True) (.slice Ao24 t556.length co24) t562) ∧ Aside0 (Below w.heap.size w wc))
              case first =>
                have H := HC23.out
                clear HC23
                replace H := Option.bind_eq_some_iff.mp H
                obtain ⟨t568, A270, H⟩ := H
                replace H : (if t568 = true then (laws_FnExactOpenRecord.j1 kj5 t562 t561 (t565 != t553)) else (laws_FnExactOpenRecord.j1 kj5 t562 t561 true)) = some r := H
                have A27 := Aside0.mk A270
                clear A270
                by_cases c28 : t568 = true
                · subst c28
                  have H1 : (laws_FnExactOpenRecord.j1 kj5 t562 t561 (t565 != t553)) = some r := by rw [if_pos rfl] at H; exact H
                  clear H
                  have H := H1
                  clear H1
                  have H' := Aside0.mk H
                  clear H
                  obtain ⟨Ao29, co29, eo29⟩ := Kd.R_slice HO567.out
                  subst eo29
                  obtain ⟨Ao30, co30, eo30⟩ := Kd.R_slice HO_5.out
                  subst eo30
                  go_wp2_with (first | ((with_reducible refine gate_callee (f := 45) rfl ?_); refine goesL_ (some 56) rfl rfl Try.func45 (by kernel_rfl) rfl #[.slice Ao29 t564.length co29, .slice Ao30 t552.length co30] rfl (by (try simp only [List.map_toArray, List.map_cons, List.map_nil]); first | done | rfl | (simp only [List.length_drop, List.length_take]; rfl)) ?_; (with_reducible refine (laws_eqIntS.calls kj5 _ _ t564 _ _ t552 true _ ?side1 ?side2 ?side3 ?side4 A27.out).mono ?_); (case side1 => repeat (first | exact (Kd.R_reads' HO567.out).2.2 | (with_reducible refine Kd.C_alloc ?_ _) | (with_reducible refine Kd.C_drewN ?_ _) | (with_reducible refine Kd.C_drew ?_))); (case side2 => exact (Kd.R_reads' HO567.out).2.1); (case side3 => repeat (first | exact (Kd.R_reads' HO_5.out).2.2 | (with_reducible refine Kd.C_alloc ?_ _) | (with_reducible refine Kd.C_drewN ?_ _) | (with_reducible refine Kd.C_drew ?_))); (case side4 => exact (Kd.R_reads' HO_5.out).2.1); rintro e w' ⟨rfl, ⟨nd, rfl⟩⟩; refine ⟨_, rfl, ?_⟩))
                  go_meet
                  case rel => exact ⟨_, ((t565 != t553)), (by first | rfl | (simp; done) | (simp [*]; done)), H', ⟨by have := HJ5.out; first | omega | exact Nat.le_refl _⟩, ⟨by (with_reducible repeat (first | apply Kd.R_alloc | apply Kd.R_drewN | apply Kd.R_drew)); exact Kd.R_mono HO_7.out (fun _ hk => trivial)⟩, ⟨by repeat (first | (with_reducible first | exact HB.out | apply below_alloc | apply pw_below_drewN | apply below_drew1) | exact HB.out)⟩⟩
                · replace c28 := Bool.eq_false_iff.mpr c28
                  subst c28
                  have H1 : (laws_FnExactOpenRecord.j1 kj5 t562 t561 true) = some r := by rw [if_neg (show ¬ (false = true) by decide)] at H; exact H
                  clear H
                  have H := H1
                  clear H1
                  have H' := Aside0.mk H
                  clear H
                  obtain ⟨Ao31, co31, eo31⟩ := Kd.R_slice HO567.out
                  subst eo31
                  obtain ⟨Ao32, co32, eo32⟩ := Kd.R_slice HO_5.out
                  subst eo32
                  go_wp2_with (first | ((with_reducible refine gate_callee (f := 45) rfl ?_); refine goesL_ (some 56) rfl rfl Try.func45 (by kernel_rfl) rfl #[.slice Ao31 t564.length co31, .slice Ao32 t552.length co32] rfl (by (try simp only [List.map_toArray, List.map_cons, List.map_nil]); first | done | rfl | (simp only [List.length_drop, List.length_take]; rfl)) ?_; (with_reducible refine (laws_eqIntS.calls kj5 _ _ t564 _ _ t552 false _ ?side1 ?side2 ?side3 ?side4 A27.out).mono ?_); (case side1 => repeat (first | exact (Kd.R_reads' HO567.out).2.2 | (with_reducible refine Kd.C_alloc ?_ _) | (with_reducible refine Kd.C_drewN ?_ _) | (with_reducible refine Kd.C_drew ?_))); (case side2 => exact (Kd.R_reads' HO567.out).2.1); (case side3 => repeat (first | exact (Kd.R_reads' HO_5.out).2.2 | (with_reducible refine Kd.C_alloc ?_ _) | (with_reducible refine Kd.C_drewN ?_ _) | (with_reducible refine Kd.C_drew ?_))); (case side4 => exact (Kd.R_reads' HO_5.out).2.1); rintro e w' ⟨rfl, ⟨nd, rfl⟩⟩; refine ⟨_, rfl, ?_⟩))
                  go_meet
                  case rel => exact ⟨_, (true), (by first | rfl | (simp; done) | (simp [*]; done)), H', ⟨by have := HJ5.out; first | omega | exact Nat.le_refl _⟩, ⟨by (with_reducible repeat (first | apply Kd.R_alloc | apply Kd.R_drewN | apply Kd.R_drew)); exact Kd.R_mono HO_7.out (fun _ hk => trivial)⟩, ⟨by repeat (first | (with_reducible first | exact HB.out | apply below_alloc | apply pw_below_drewN | apply below_drew1) | exact HB.out)⟩⟩
              case rest =>
                clear HC23
                try clear c1
                try clear c2
                try clear p2
                try clear c3
                try clear c3b0
                try clear c3b1
                try clear c4
                try clear c10
                try clear c11
                try clear c15
                try clear c18
                try clear c18b0
                try clear c21
                try clear c21b0
                try clear c21b1
                try clear c28
                try clear p2
                obtain ⟨kq, x62_22, rfl, HA, HJ22, HO_7, HB⟩ := hcut
                have hl7_22 := (Kd.R_reads' HO_7.out).1
                rw [hl7_22] at HO_7
                (try simp only [hl7_22])
                cases kq with
                | zero => exact absurd HA.out (by simp [laws_FnExactOpenRecord.j1])
                | succ kj22 =>
                  have H := HA.out
                  clear HA
                  simp only [laws_FnExactOpenRecord.j1] at H
                  by_cases c33 : x62_22 = true
                  · subst c33
                    have H1 : (some false) = some r := by rw [if_pos rfl] at H; exact H
                    clear H
                    have H := H1
                    clear H1
                    obtain rfl := Option.some.inj H
                    go_wp2
                    go_ret
                    exact ⟨by first | rfl | (simp [errW_none, errW_some] <;> rfl) | (simp [*, errW_none, errW_some] <;> rfl), by repeat (first | (with_reducible first | exact HB.out | apply below_alloc | apply pw_below_drewN | apply below_drew1) | exact HB.out)⟩
                  · replace c33 := Bool.eq_false_iff.mpr c33
                    subst c33
                    have H1 : ((laws_heldIntS.f kj22 t562 1).bind fun t569 => (if t569 < 0 then (some false) else (if t569 = t561 then (some true) else (some false)))) = some r := by rw [if_neg (show ¬ (false = true) by decide)] at H; exact H
                    clear H
                    have H := H1
                    clear H1
                    replace H := Option.bind_eq_some_iff.mp H
                    obtain ⟨t569, A340, H⟩ := H
                    replace H : (if t569 < 0 then (some false) else (if t569 = t561 then (some true) else (some false))) = some r := H
                    have A34 := Aside0.mk A340
                    clear A340
                    by_cases c35 : t569 < 0
                    · rw [if_pos c35] at H
                      have c35b0 : decide (t569 < 0) = true := decide_eq_true c35
                      clear c35
                      obtain rfl := Option.some.inj H
                      go_wp2_with (first | ((with_reducible refine gate_callee (f := 47) rfl ?_); refine goesL_ (some 65) rfl rfl Try.func47 (by kernel_rfl) rfl #[.slice Ao24 t562.length co24, .int .i64 1] rfl (by (try simp only [List.map_toArray, List.map_cons, List.map_nil]); first | done | rfl | (simp only [List.length_drop, List.length_take]; rfl)) ?_; (with_reducible refine (laws_heldIntS.calls kj22 _ _ t562 1 t569 _ ?side1 ?side2 A34.out).mono ?_); (case side1 => repeat (first | exact (Kd.R_reads' HO_7.out).2.2 | (with_reducible refine Kd.C_alloc ?_ _) | (with_reducible refine Kd.C_drewN ?_ _) | (with_reducible refine Kd.C_drew ?_))); (case side2 => exact (Kd.R_reads' HO_7.out).2.1); rintro e w' ⟨rfl, ⟨nd, rfl⟩⟩; refine ⟨_, rfl, ?_⟩))
                      go_ret
                      exact ⟨by first | rfl | (simp [errW_none, errW_some] <;> rfl) | (simp [*, errW_none, errW_some] <;> rfl), by repeat (first | (with_reducible first | exact HB.out | apply below_alloc | apply pw_below_drewN | apply below_drew1) | exact HB.out)⟩
                    · rw [if_neg c35] at H
                      have c35b0 : decide (t569 < 0) = false := decide_eq_false c35
                      clear c35
                      by_cases c36 : t569 = t561
                      · rw [if_pos c36] at H
                        have c36b0 : (t569 == t561) = true := beq_iff_eq.mpr c36
                        have c36b1 : (t569 != t561) = false := bne_eq_false_iff_eq.mpr c36
                        clear c36
                        obtain rfl := Option.some.inj H
                        go_wp2_with (first | ((with_reducible refine gate_callee (f := 47) rfl ?_); refine goesL_ (some 65) rfl rfl Try.func47 (by kernel_rfl) rfl #[.slice Ao24 t562.length co24, .int .i64 1] rfl (by (try simp only [List.map_toArray, List.map_cons, List.map_nil]); first | done | rfl | (simp only [List.length_drop, List.length_take]; rfl)) ?_; (with_reducible refine (laws_heldIntS.calls kj22 _ _ t562 1 t569 _ ?side1 ?side2 A34.out).mono ?_); (case side1 => repeat (first | exact (Kd.R_reads' HO_7.out).2.2 | (with_reducible refine Kd.C_alloc ?_ _) | (with_reducible refine Kd.C_drewN ?_ _) | (with_reducible refine Kd.C_drew ?_))); (case side2 => exact (Kd.R_reads' HO_7.out).2.1); rintro e w' ⟨rfl, ⟨nd, rfl⟩⟩; refine ⟨_, rfl, ?_⟩))
                        go_ret
                        exact ⟨by first | rfl | (simp [errW_none, errW_some] <;> rfl) | (simp [*, errW_none, errW_some] <;> rfl), by repeat (first | (with_reducible first | exact HB.out | apply below_alloc | apply pw_below_drewN | apply below_drew1) | exact HB.out)⟩
                      · rw [if_neg c36] at H
                        have c36b0 : (t569 == t561) = false := beq_eq_false_iff_ne.mpr c36
                        have c36b1 : (t569 != t561) = true := bne_iff_ne.mpr c36
                        obtain rfl := Option.some.inj H
                        go_wp2_with (first | ((with_reducible refine gate_callee (f := 47) rfl ?_); refine goesL_ (some 65) rfl rfl Try.func47 (by kernel_rfl) rfl #[.slice Ao24 t562.length co24, .int .i64 1] rfl (by (try simp only [List.map_toArray, List.map_cons, List.map_nil]); first | done | rfl | (simp only [List.length_drop, List.length_take]; rfl)) ?_; (with_reducible refine (laws_heldIntS.calls kj22 _ _ t562 1 t569 _ ?side1 ?side2 A34.out).mono ?_); (case side1 => repeat (first | exact (Kd.R_reads' HO_7.out).2.2 | (with_reducible refine Kd.C_alloc ?_ _) | (with_reducible refine Kd.C_drewN ?_ _) | (with_reducible refine Kd.C_drew ?_))); (case side2 => exact (Kd.R_reads' HO_7.out).2.1); rintro e w' ⟨rfl, ⟨nd, rfl⟩⟩; refine ⟨_, rfl, ?_⟩))
                        go_ret
                        exact ⟨by first | rfl | (simp [errW_none, errW_some] <;> rfl) | (simp [*, errW_none, errW_some] <;> rfl), by repeat (first | (with_reducible first | exact HB.out | apply below_alloc | apply pw_below_drewN | apply below_drew1) | exact HB.out)⟩
            · rw [if_neg c21] at H
              have c21b0 : (t563 == t561) = false := beq_eq_false_iff_ne.mpr c21
              have c21b1 : (t563 != t561) = true := bne_iff_ne.mpr c21
              obtain rfl := Option.some.inj H
              obtain ⟨Ao37, co37, eo37⟩ := Kd.R_slice HO_7.out
              subst eo37
              go_wp2_with (first | ((with_reducible refine gate_callee (f := 46) rfl ?_); refine goesL_ (some 39) rfl rfl Try.func46 (by kernel_rfl) rfl #[.slice Ao37 t556.length co37, .int .i64 1] rfl (by (try simp only [List.map_toArray, List.map_cons, List.map_nil]); first | done | rfl | (simp only [List.length_drop, List.length_take]; rfl)) ?_; (with_reducible refine (laws_markIntS.calls kj5 (fun k_ => some k_ = (.slice Ao37 t556.length co37 : Value).ownBlock) (.slice Ao37 t556.length co37) t556 1 t561 t562 w _ ?side1 ?side2 A16.out).mono ?_); (case side1 => repeat (first | (with_reducible first | exact HB.out | apply below_alloc | apply pw_below_drewN | apply below_drew1) | exact HB.out)); (case side2 => exact Kd.R_tight rfl HO_7.out); rintro e w38 ⟨rfl, hy0, hb, hkp⟩; refine ⟨_, rfl, ?_⟩; have n0_ := Aside0.mk (Kd.R_mono (ok' := fun k_ => some k_ ≠ (.slice Ao37 t556.length co37 : Value).ownBlock) (Kd.R_keptB (HO_5.out) hkp (fun k_ hk_ hs_ => (hk_) hs_)) (fun k_ hk_ => hk_.1)); have n1_ := Aside0.mk (Kd.R_reok rfl hy0 (fun k_ e_ => HO_7.out.1 k_ e_)); have n2_ := Aside0.mk (hb); clear HO_5; clear HO_7; clear HB; have HO_5 := n0_; have HO_7 := n1_; have HB := n2_; clear n0_ n1_ n2_; (try clear hb); (try clear hkp); (try clear hy0)) | ((with_reducible refine gate_callee (f := 47) rfl ?_); refine goesL_ (some 42) rfl rfl Try.func47 (by kernel_rfl) rfl #[.slice Ao37 t562.length co37, .int .i64 1] rfl (by (try simp only [List.map_toArray, List.map_cons, List.map_nil]); first | done | (rw [show t562.length = t556.length from (Kd.R_reads' HO_7.out).1.symm] <;> rfl) | rfl | (simp only [List.length_drop, List.length_take]; rfl)) ?_; (with_reducible refine (laws_heldIntS.calls kj5 _ _ t562 1 t563 _ ?side1 ?side2 A17.out).mono ?_); (case side1 => repeat (first | exact (Kd.R_reads' HO_7.out).2.2 | (with_reducible refine Kd.C_alloc ?_ _) | (with_reducible refine Kd.C_drewN ?_ _) | (with_reducible refine Kd.C_drew ?_))); (case side2 => rw [show t562.length = t556.length from (Kd.R_reads' HO_7.out).1.symm]; exact (Kd.R_reads' HO_7.out).2.1); rintro e w' ⟨rfl, ⟨nd, rfl⟩⟩; refine ⟨_, rfl, ?_⟩))
              go_ret
              exact ⟨by first | rfl | (simp [errW_none, errW_some] <;> rfl) | (simp [*, errW_none, errW_some] <;> rfl), by repeat (first | (with_reducible first | exact HB.out | apply below_alloc | apply pw_below_drewN | apply below_drew1) | exact HB.out)⟩

/-- THE ONE PURE STATEMENT of laws_FnExactOpenRecord: yours. -/
def laws_FnExactOpenRecord.Pure : Prop := ∀ (a0 : ByteArray) (a1 : Int), a0.size ≤ 140737488351232 → (Lit.int .i64 a1).wf = true → ∃ k, laws_FnExactOpenRecord.f k a0 a1 = some true
theorem laws_FnExactOpenRecord.walk (P : laws_FnExactOpenRecord.Pure) (a0 : ByteArray) (a1 : Int) (w : World) (w0 : a0.size ≤ 140737488351232) (w1 : (Lit.int .i64 a1).wf = true) :
    Calls Try.prog 11 #[.string a0, .int .i64 a1] w fun e w' => e = .returned (.bool true) ∧ Below w.heap.size w w' := by
  obtain ⟨k, h⟩ := P a0 a1 w0 w1
  refine (laws_FnExactOpenRecord.calls k a0 a1 true w h).mono ?_
  rintro e w' ⟨rfl, hd⟩
  exact ⟨rfl, hd⟩

/-- A state of type 133 at block g of W; what its slices lead to came in by w0. -/
def IsS133 (w0 W : World) (g : Nat) (f0 : List Int) (f1 : Int) (f2 : Int) : Prop := ∃ A0 c0, W.heap[g]? = some (.cells #[.slice A0 f0.length c0, .int .i64 f1, .int .i64 f2] 133 (0, 0)) ∧ w0.heap.size ≤ g ∧ Kd.C (Kd.int .u8) w0 A0 f0.length f0
theorem IsS133.grown {w0 W : World} {g : Nat} {f0 : List Int} {f1 : Int} {f2 : Int} {W1 : World} {row : Option Nat} (h : IsS133 w0 W g f0 f1 f2) (hw : W.grownBy W1 row) (hne : some g ≠ row) : IsS133 w0 W1 g f0 f1 f2 := by
  obtain ⟨A0, c0, hb, hg, hr0⟩ := h
  exact ⟨A0, c0, blk_grown hb hw hne, hg, hr0⟩
theorem IsS133.own_neN {w0 W : World} {g : Nat} {f0 : List Int} {f1 : Int} {f2 : Int} {α : Type} {d : Kd α} {e : Nat} {base : Nat} {ok : Nat → Prop} {v : Value} {xs : List α} (h : IsS133 w0 W g f0 f1 f2) (ho : Kd.N d e W base ok v xs) (ht : e ≠ 133) : some g ≠ v.ownBlock := by
  obtain ⟨A0, c0, hb, hg, hr0⟩ := h
  exact Kd.N_ne ho hb ht
theorem IsS133.fresh {w0 W : World} {g : Nat} {f0 : List Int} {f1 : Int} {f2 : Int} (h : IsS133 w0 W g f0 f1 f2) : ∀ k, W.heap.size ≤ k → k ≠ g := by
  obtain ⟨A0, c0, hb, hg, hr0⟩ := h
  exact Kd.freshB hb
theorem IsS133.kept {w0 W : World} {g : Nat} {f0 : List Int} {f1 : Int} {f2 : Int} {W1 : World} {S : Nat → Prop} (h : IsS133 w0 W g f0 f1 f2) (hk : Kept W W1 S) (hne : ¬ S g) : IsS133 w0 W1 g f0 f1 f2 := by
  obtain ⟨A0, c0, hb, hg, hr0⟩ := h
  exact ⟨A0, c0, blk_kept hb hk hne, hg, hr0⟩
theorem IsS133.below {w0 W : World} {g : Nat} {f0 : List Int} {f1 : Int} {f2 : Int} {W1 : World} (h : IsS133 w0 W g f0 f1 f2) (hw : Below W.heap.size W W1) : IsS133 w0 W1 g f0 f1 f2 := h.grown (grown_of_below hw none) (by simp)
theorem IsS133.alloc {w0 W : World} {g : Nat} {f0 : List Int} {f1 : Int} {f2 : Int} (h : IsS133 w0 W g f0 f1 f2) (o : Obj) : IsS133 w0 (W.alloc o) g f0 f1 f2 := h.below (below_alloc (Below.refl _ _) o)
theorem IsS133.drewN {w0 W : World} {g : Nat} {f0 : List Int} {f1 : Int} {f2 : Int} (h : IsS133 w0 W g f0 f1 f2) (m : Nat) : IsS133 w0 (W.drewN m) g f0 f1 f2 := h
theorem IsS133.drew {w0 W : World} {g : Nat} {f0 : List Int} {f1 : Int} {f2 : Int} (h : IsS133 w0 W g f0 f1 f2) : IsS133 w0 W.drew g f0 f1 f2 := h
theorem IsS133.at_ {w0 W : World} {g : Nat} {f0 : List Int} {f1 : Int} {f2 : Int} {w' : World} {m : Nat} (hq : W.drewN m = w') (h : IsS133 w0 W g f0 f1 f2) : IsS133 w0 w' g f0 f1 f2 := by subst hq; exact IsS133.drewN h m
theorem IsS133.apart {w0 W : World} {g : Nat} {f0 : List Int} {f1 : Int} {f2 : Int} {α : Type} {d : Kd α} {e : Nat} {base : Nat} {ok : Nat → Prop} {v : Value} {xs : List α} (h : IsS133 w0 W g f0 f1 f2) (ho : d.R e W base ok v xs) (ht : ∀ q, q ∈ e :: d.E → q ≠ 133) : d.R e W base (fun k => ok k ∧ k ≠ g) v xs := by
  obtain ⟨A0, c0, hb, hg, hr0⟩ := h
  exact Kd.R_types ho hb ht
theorem IsS133.own_ne {w0 W : World} {g : Nat} {f0 : List Int} {f1 : Int} {f2 : Int} {α : Type} {d : Kd α} {e : Nat} {base : Nat} {ok : Nat → Prop} {v : Value} {xs : List α} (h : IsS133 w0 W g f0 f1 f2) (ho : d.R e W base ok v xs) (ht : e ≠ 133) : some g ≠ v.ownBlock := by
  obtain ⟨A0, c0, hb, hg, hr0⟩ := h
  exact Kd.R_ne ho hb ht
theorem IsS133.apartQ {w0 W : World} {g : Nat} {f0 : List Int} {f1 : Int} {f2 : Int} {α : Type} {d : Kd α} {e : Nat} {base : Nat} {ok : Nat → Prop} {v : Value} {xs : List α} (h : IsS133 w0 W g f0 f1 f2) (ho : d.Q e W base ok v xs) (ht : ∀ q, q ∈ e :: d.E → q ≠ 133) : d.Q e W base (fun k => ok k ∧ k ≠ g) v xs := by
  obtain ⟨A0, c0, hb, hg, hr0⟩ := h
  exact Kd.Q_types ho hb ht
theorem IsS133.own_neQ {w0 W : World} {g : Nat} {f0 : List Int} {f1 : Int} {f2 : Int} {α : Type} {d : Kd α} {e : Nat} {base : Nat} {ok : Nat → Prop} {v : Value} {xs : List α} (h : IsS133 w0 W g f0 f1 f2) (ho : d.Q e W base ok v xs) (ht : e ≠ 133) : some g ≠ v.ownBlock := by
  obtain ⟨A0, c0, hb, hg, hr0⟩ := h
  exact Kd.Q_ne ho hb ht
theorem IsS133.apartS {w0 W : World} {g : Nat} {f0 : List Int} {f1 : Int} {f2 : Int} {α : Type} {d : Kd α} {e : Nat} {base : Nat} {ok : Nat → Prop} {v : Value} {xs : List α} (h : IsS133 w0 W g f0 f1 f2) (ho : d.S e W base ok v xs) (ht : ∀ q, q ∈ e :: d.E → q ≠ 133) : d.S e W base (fun k => ok k ∧ k ≠ g) v xs := by
  obtain ⟨A0, c0, hb, hg, hr0⟩ := h
  exact Kd.S_types ho hb ht
theorem IsS133.own_neS {w0 W : World} {g : Nat} {f0 : List Int} {f1 : Int} {f2 : Int} {α : Type} {d : Kd α} {e : Nat} {base : Nat} {ok : Nat → Prop} {v : Value} {xs : List α} (h : IsS133 w0 W g f0 f1 f2) (ho : d.S e W base ok v xs) (ht : e ≠ 133) : some g ≠ v.ownBlock := by
  obtain ⟨A0, c0, hb, hg, hr0⟩ := h
  exact Kd.S_ne ho hb ht
theorem IsS133.lt {w0 W : World} {g : Nat} {f0 : List Int} {f1 : Int} {f2 : Int} (h : IsS133 w0 W g f0 f1 f2) : g < W.heap.size := by
  obtain ⟨A0, c0, hb, hg, hr0⟩ := h
  exact blk_lt hb
theorem IsS133.ge {w0 W : World} {g : Nat} {f0 : List Int} {f1 : Int} {f2 : Int} (h : IsS133 w0 W g f0 f1 f2) : w0.heap.size ≤ g := by
  obtain ⟨A0, c0, hb, hg, hr0⟩ := h
  exact hg
theorem IsS133.ne_blk {w0 W : World} {g : Nat} {f0 : List Int} {f1 : Int} {f2 : Int} {a : Nat} {cs : Array Value} {t : TypeId} {fr : Nat × Nat} (h : IsS133 w0 W g f0 f1 f2) (hb2 : W.heap[a]? = some (.cells cs t fr)) (ht : t ≠ 133) : g ≠ a := by
  obtain ⟨A0, c0, hb, hg, hr0⟩ := h
  rintro rfl
  rw [hb] at hb2
  injection hb2 with hb2
  injection hb2 with _ ht2
  exact ht ht2.symm
theorem IsS133.far {w0 W : World} {g : Nat} {f0 : List Int} {f1 : Int} {f2 : Int} {p : Addr} (h : IsS133 w0 W g f0 f1 f2) (hne : g ≠ p.block) (u : Value) : IsS133 w0 (W.setCell p u) g f0 f1 f2 := by
  obtain ⟨A0, c0, hb, hg, hr0⟩ := h
  exact ⟨A0, c0, blk_far hb hne u, hg, hr0⟩
theorem cellS133_0 {W : World} {g : Nat} {A0 : Option Addr} {c0 : Nat} {f0 : List Int} {f1 : Int} {f2 : Int} (h : W.heap[g]? = some (.cells #[.slice A0 f0.length c0, .int .i64 f1, .int .i64 f2] 133 (0, 0))) : W.cell? ⟨g, 0, none⟩ = some (.slice A0 f0.length c0) := (blk_cell h 0).trans rfl
theorem cellS133_1 {W : World} {g : Nat} {A0 : Option Addr} {c0 : Nat} {f0 : List Int} {f1 : Int} {f2 : Int} (h : W.heap[g]? = some (.cells #[.slice A0 f0.length c0, .int .i64 f1, .int .i64 f2] 133 (0, 0))) : W.cell? ⟨g, 1, none⟩ = some (.int .i64 f1) := (blk_cell h 1).trans rfl
theorem IsS133.set_1 {w0 W : World} {g : Nat} {f0 : List Int} {f1 : Int} {f2 : Int} (h : IsS133 w0 W g f0 f1 f2) (x : Int) : IsS133 w0 (W.setCell ⟨g, 1, none⟩ (.int .i64 x)) g f0 x f2 := by
  obtain ⟨A0, c0, hb, hg, hr0⟩ := h
  exact ⟨A0, c0, by simpa using blk_set hb 1 (.int .i64 x), hg, hr0⟩
theorem cellS133_2 {W : World} {g : Nat} {A0 : Option Addr} {c0 : Nat} {f0 : List Int} {f1 : Int} {f2 : Int} (h : W.heap[g]? = some (.cells #[.slice A0 f0.length c0, .int .i64 f1, .int .i64 f2] 133 (0, 0))) : W.cell? ⟨g, 2, none⟩ = some (.int .i64 f2) := (blk_cell h 2).trans rfl
theorem IsS133.set_2 {w0 W : World} {g : Nat} {f0 : List Int} {f1 : Int} {f2 : Int} (h : IsS133 w0 W g f0 f1 f2) (x : Int) : IsS133 w0 (W.setCell ⟨g, 2, none⟩ (.int .i64 x)) g f0 f1 x := by
  obtain ⟨A0, c0, hb, hg, hr0⟩ := h
  exact ⟨A0, c0, by simpa using blk_set hb 2 (.int .i64 x), hg, hr0⟩
theorem IsS133.new (w0 W : World) (A0 : Option Addr) (c0 : Nat) (f0 : List Int) (f1 : Int) (f2 : Int) (hB : Below w0.heap.size w0 W) (hr0 : Kd.C (Kd.int .u8) w0 A0 f0.length f0) : IsS133 w0 (W.alloc (.cells #[.slice A0 f0.length c0, .int .i64 f1, .int .i64 f2] 133)) W.heap.size f0 f1 f2 := ⟨A0, c0, by simpa using heap_alloc_new W _, hB.size, hr0⟩
/-! ### Base -/
def okI (x : Int) : Prop := (Lit.int .i64 x).wf = true
def okB (_ : Bool) : Prop := True
def okS (x : ByteArray) : Prop := x.size ≤ maxLen
theorem w64 {n : Int} (h0 : -9223372036854775808 ≤ n) (h1 : n ≤ 9223372036854775807) : wrap64 n = n := by unfold wrap64; omega
theorem okI_iff {n : Int} (h : (Lit.int .i64 n).wf = true) : -9223372036854775808 ≤ n ∧ n ≤ 9223372036854775807 := by
  simp [Lit.wf, IntKind.min, IntKind.max, IntKind.signed, IntKind.bits] at h
  omega
theorem Ev.k {α : Type} {g : Nat → Option α} {r : α} (K : Nat) (h : ∀ k, K ≤ k → g k = some r) : Ev g r := ⟨K, h⟩
theorem ev_some {α : Type} (r : α) : Ev (fun _ => some r) r := ⟨0, fun _ _ => rfl⟩
theorem ev_of_eq {α : Type} {g : Nat → Option α} {r : α} (h : ∀ k, g k = some r) : Ev g r := ⟨0, fun k _ => h k⟩
theorem ev_bind {α β : Type} {g : Nat → Option α} {f : Nat → α → Option β} {a : α} {r : β} (h : Ev g a) (k : Ev (fun n => f n a) r) : Ev (fun n => (g n).bind (f n)) r := Ev.bind h k
theorem ev_if {α : Type} {c : Prop} [Decidable c] {g f : Nat → Option α} {r : α} (h : c → Ev g r) (h' : ¬ c → Ev f r) : Ev (fun n => if c then g n else f n) r := by
  by_cases hc : c
  · simp only [if_pos hc]; exact h hc
  · simp only [if_neg hc]; exact h' hc
theorem ev_pos {α : Type} {c : Prop} [Decidable c] {g f : Nat → Option α} {r : α} (hc : c) (h : Ev g r) : Ev (fun n => if c then g n else f n) r := by
  simp only [if_pos hc]; exact h
theorem ev_neg {α : Type} {c : Prop} [Decidable c] {g f : Nat → Option α} {r : α} (hc : ¬ c) (h : Ev f r) : Ev (fun n => if c then g n else f n) r := by
  simp only [if_neg hc]; exact h
theorem strOfNums_size (l : List Int) : (strOfNums l).size = l.length := by show (List.map _ l).toArray.size = _; simp
theorem ba_size_append (a b : ByteArray) : (a ++ b).size = a.size + b.size := by simp
theorem toList_inj {a b : ByteArray} : a.toList = b.toList ↔ a = b := by
  constructor
  · intro h
    have h1 : a.data.toList = b.data.toList := by simpa [ByteArray.toList_eq] using h
    have : a.data = b.data := Array.toList_inj.1 h1
    cases a; cases b; simp_all
  · rintro rfl; rfl
/-! ### In -/
def inB (n a b : Int) : Bool := decide (a ≤ n) && decide (n ≤ b)
theorem inB_iff {n a b : Int} : inB n a b = true ↔ a ≤ n ∧ n ≤ b := by simp [inB]
theorem inB_no {n a b : Int} : inB n a b = false ↔ ¬ (a ≤ n ∧ n ≤ b) := by rw [← inB_iff]; simp
theorem l01In_eq (n a b : Int) : spec_l01In.f n a b = some (inB n a b) := by
  unfold spec_l01In.f inB; by_cases h : a ≤ n <;> simp [h]
theorem within_eq (n a b : Int) : impl_within.f n a b = some (inB n a b) := by
  unfold impl_within.f inB; by_cases h : a ≤ n <;> simp [h]
theorem and_opt {b : Bool} {c : Option Bool} {c' : Bool} (h : c = some c') : (if b = true then c else some false) = some (b && c') := by
  cases b <;> simp [h]
/-! ### Codec -/
/-- The bytes of a number. -/
def quad (n : Int) : List Int := [n % 256, n / 256 % 256, n / 65536 % 256, n / 16777216 % 256]
def packP (l : List Int) : List Int := l.flatMap quad
theorem packP_length (l : List Int) : (packP l).length = 4 * l.length := by
  induction l with
  | nil => rfl
  | cons x xs ih => simp only [packP, List.flatMap_cons, List.length_append] at ih ⊢; rw [ih]; simp [quad]; omega
theorem packP_snoc (l : List Int) (x : Int) : packP (l ++ [x]) = packP l ++ quad x := by simp [packP]
theorem rd_eq (l : List Int) (i : Nat) (h : i < l.length) : rd l (i : Int) = l[i] := by simp [rd, h]
theorem take_next {α : Type} (l : List α) (i : Nat) (h : i < l.length) : l.take (i + 1) = l.take i ++ [l[i]] := by
  rw [List.take_succ_eq_append_getElem h]
theorem spec_pack_in (l out : List Int) (i : Nat) (n : Int) (h : out.length + 4 < 140737488355328) (k : Nat) (hk : 5 ≤ k) :
    spec_l02Pack.l1 k l out i n 0 = spec_l02Pack.l0 (k - 5) l (out ++ quad n) (wrap64 ((i : Int) + 1)) := by
  obtain ⟨k, rfl⟩ : ∃ m, k = m + 5 := ⟨k - 5, by omega⟩
  have e1 : wrap64 (0 + 1) = 1 := by rw [w64 (by omega) (by omega)]; omega
  have e2 : wrap64 (1 + 1) = 2 := by rw [w64 (by omega) (by omega)]; omega
  have e3 : wrap64 (2 + 1) = 3 := by rw [w64 (by omega) (by omega)]; omega
  have e4 : wrap64 (3 + 1) = 4 := by rw [w64 (by omega) (by omega)]; omega
  simp only [spec_l02Pack.l1, e1, e2, e3, e4, List.length_append, List.length_cons, List.length_nil]
  rw [if_pos (by omega), if_pos (by omega), if_pos (by omega), if_pos (by omega), if_pos (by omega), if_pos (by omega), if_pos (by omega), if_pos (by omega), if_neg (by omega)]
  simp only [quad, Nat.add_sub_cancel, List.append_assoc, List.cons_append, List.nil_append]
  rw [Int.ediv_ediv_of_nonneg (by omega), Int.ediv_ediv_of_nonneg (by omega)]
  rfl
theorem spec_pack_from (l : List Int) (hl : l.length ≤ 1000000000) (d : Nat) : ∀ (k i : Nat), i ≤ l.length → l.length - i = d → 6 * d < k →
    spec_l02Pack.l0 k l (packP (l.take i)) i = some (strOfNums (packP l)) := by
  induction d with
  | zero =>
    intro k i hi hd hk
    obtain ⟨k, rfl⟩ : ∃ m, k = m + 1 := ⟨k - 1, by omega⟩
    simp only [spec_l02Pack.l0]
    rw [if_neg (by omega), List.take_of_length_le (by omega)]
  | succ d ih =>
    intro k i hi hd hk
    obtain ⟨k, rfl⟩ : ∃ m, k = m + 1 := ⟨k - 1, by omega⟩
    have hlt : i < l.length := by omega
    have hp := packP_length (l.take i)
    have hl2 : (l.take i).length ≤ i := List.length_take_le _ _
    simp only [spec_l02Pack.l0]
    rw [if_pos (by omega), if_pos (by omega), spec_pack_in _ _ _ _ (by omega) _ (by omega), rd_eq l i hlt, ← packP_snoc, ← take_next l i hlt, w64 (by omega) (by omega)]
    exact ih (k - 5) (i + 1) (by omega) (by omega) (by omega)
theorem spec_pack_ev (l : List Int) (hl : l.length ≤ 1000000000) : Ev (fun k => spec_l02Pack.f k l) (strOfNums (packP l)) :=
  ⟨6 * l.length + 1, fun k hk => by have := spec_pack_from l hl l.length k 0 (by omega) (by omega) (by omega); simpa [spec_l02Pack.f, packP] using this⟩
theorem impl_pack_from (l : List Int) (hl : l.length ≤ 1000000000) (d : Nat) : ∀ (k i : Nat), i ≤ l.length → l.length - i = d → d < k →
    impl_pack.l0 k (packP (l.take i)) l (l.length : Int) i = some (strOfNums (packP l)) := by
  induction d with
  | zero =>
    intro k i hi hd hk
    obtain ⟨k, rfl⟩ : ∃ m, k = m + 1 := ⟨k - 1, by omega⟩
    simp only [impl_pack.l0]
    rw [if_neg (by omega), List.take_of_length_le (by omega)]
  | succ d ih =>
    intro k i hi hd hk
    obtain ⟨k, rfl⟩ : ∃ m, k = m + 1 := ⟨k - 1, by omega⟩
    have hlt : i < l.length := by omega
    have hp := packP_length (l.take i)
    have hl2 : (l.take i).length ≤ i := List.length_take_le _ _
    simp only [impl_pack.l0]
    rw [if_pos (by omega), if_pos (by omega), if_pos (by omega)]
    simp only [Option.bind_some, List.length_cons, List.length_nil]
    rw [if_pos (by omega), rd_eq l i hlt]
    have : packP (l.take i) ++ [l[i] % 256, l[i] / 256 % 256, l[i] / 65536 % 256, l[i] / 16777216 % 256] = packP (l.take (i + 1)) := by
      rw [take_next l i hlt, packP_snoc]; rfl
    rw [this, w64 (by omega) (by omega)]
    exact ih k (i + 1) (by omega) (by omega) (by omega)
theorem impl_pack_ev (l : List Int) (hl : l.length ≤ 1000000000) : Ev (fun k => impl_pack.f k l) (strOfNums (packP l)) :=
  ⟨l.length + 1, fun k hk => by have := impl_pack_from l hl l.length k 0 (by omega) (by omega) (by omega); simpa [impl_pack.f, packP] using this⟩
/-- One step of the sum. -/
def sumStep (t : ByteArray) (n : Int) (i : Nat) : Int := Int.tmod (wrap64 (n + (wrap64 ((wrap64 ((i : Int) + 1)) * (wrap64 ((wrap64 (bt t i)) + 1)))))) 251
def sumP (t : ByteArray) : Int := (List.range t.size).foldl (sumStep t) 0
theorem range_split (i n : Nat) (h : i < n) : List.range' i (n - i) = i :: List.range' (i + 1) (n - (i + 1)) := by
  obtain ⟨d, rfl⟩ : ∃ d, n = i + 1 + d := ⟨n - (i + 1), by omega⟩
  rw [show i + 1 + d - i = d + 1 by omega, show i + 1 + d - (i + 1) = d by omega, List.range'_succ]
theorem spec_sum_from (t : ByteArray) (ht : t.size ≤ 1000000000000) (d : Nat) : ∀ (k i : Nat) (n : Int), i ≤ t.size → t.size - i = d → d < k →
    spec_l02Sum.l0 k t n i = some ((List.range' i (t.size - i)).foldl (sumStep t) n) := by
  induction d with
  | zero =>
    intro k i n hi hd hk
    obtain ⟨k, rfl⟩ : ∃ m, k = m + 1 := ⟨k - 1, by omega⟩
    simp only [spec_l02Sum.l0]
    rw [if_neg (by omega), hd]; rfl
  | succ d ih =>
    intro k i n hi hd hk
    obtain ⟨k, rfl⟩ : ∃ m, k = m + 1 := ⟨k - 1, by omega⟩
    simp only [spec_l02Sum.l0]
    rw [if_pos (by omega), if_pos (by omega), range_split i t.size (by omega)]
    have e : wrap64 ((i : Int) + 1) = ((i + 1 : Nat) : Int) := by rw [w64 (by omega) (by omega)]; rfl
    have := ih k (i + 1) (sumStep t n i) (by omega) (by omega) (by omega)
    rw [List.foldl_cons, ← this]
    simp only [sumStep, e]
theorem spec_sum_ev (t : ByteArray) (ht : t.size ≤ 1000000000000) : Ev (fun k => spec_l02Sum.f k t) (sumP t) :=
  ⟨t.size + 1, fun k hk => by have := spec_sum_from t ht t.size k 0 0 (by omega) (by omega) (by omega); simpa [spec_l02Sum.f, sumP, List.range_eq_range'] using this⟩
theorem impl_sum_from (t : ByteArray) (ht : t.size ≤ 1000000000000) (d : Nat) : ∀ (k i : Nat) (n : Int), i ≤ t.size → t.size - i = d → d < k →
    impl_sumOf.l0 k t n (t.size : Int) i = some ((List.range' i (t.size - i)).foldl (sumStep t) n) := by
  induction d with
  | zero =>
    intro k i n hi hd hk
    obtain ⟨k, rfl⟩ : ∃ m, k = m + 1 := ⟨k - 1, by omega⟩
    simp only [impl_sumOf.l0]
    rw [if_neg (by omega), hd]; rfl
  | succ d ih =>
    intro k i n hi hd hk
    obtain ⟨k, rfl⟩ : ∃ m, k = m + 1 := ⟨k - 1, by omega⟩
    simp only [impl_sumOf.l0]
    rw [if_pos (by omega), if_pos (by omega), if_pos (by omega), range_split i t.size (by omega)]
    have e : wrap64 ((i : Int) + 1) = ((i + 1 : Nat) : Int) := by rw [w64 (by omega) (by omega)]; rfl
    have := ih k (i + 1) (sumStep t n i) (by omega) (by omega) (by omega)
    rw [List.foldl_cons, ← this]
    simp only [sumStep, e]
theorem impl_sum_ev (t : ByteArray) (ht : t.size ≤ 1000000000000) : Ev (fun k => impl_sumOf.f k t) (sumP t) :=
  ⟨t.size + 1, fun k hk => by have := impl_sum_from t ht t.size k 0 0 (by omega) (by omega) (by omega); simpa [impl_sumOf.f, sumP, List.range_eq_range'] using this⟩
/-- A record. -/
def headP (kind : Int) (l : List Int) : ByteArray := strOfNums [kind % 256, (l.length : Int) % 256]
def sealP (kind : Int) (l : List Int) : ByteArray := headP kind l ++ strOfNums [sumP (headP kind l ++ strOfNums (packP l)) % 256, 0] ++ strOfNums (packP l)
theorem headP_size (kind : Int) (l : List Int) : (headP kind l).size = 2 := by simp [headP, strOfNums_size]
theorem sealP_size (kind : Int) (l : List Int) : (sealP kind l).size = 4 + 4 * l.length := by simp [sealP, headP_size, strOfNums_size, packP_length]
theorem spec_seal_ev (kind : Int) (l : List Int) (hl : l.length ≤ 1000000000) : Ev (fun k => spec_l02Seal.f k kind l) (sealP kind l) := by
  have hp : (strOfNums (packP l)).size = 4 * l.length := by rw [strOfNums_size, packP_length]
  have hh := headP_size kind l
  unfold spec_l02Seal.f
  refine ev_bind (spec_pack_ev l hl) ?_
  simp only [Option.bind_some]
  refine ev_pos (by rw [strOfNums_size, hp]; simp; omega) ?_
  refine ev_bind (spec_sum_ev _ (by rw [ba_size_append, strOfNums_size, hp]; simp; omega)) ?_
  refine ev_pos (by simp [strOfNums_size]) ?_
  refine ev_pos (by rw [ba_size_append, hp]; simp [strOfNums_size]; omega) ?_
  exact ev_some _
theorem impl_seal_ev (kind : Int) (l : List Int) (hl : l.length ≤ 1000000000) : Ev (fun k => impl_seal.f k kind l) (sealP kind l) := by
  have hp : (strOfNums (packP l)).size = 4 * l.length := by rw [strOfNums_size, packP_length]
  have hh := headP_size kind l
  unfold impl_seal.f
  simp only [Option.bind_some]
  refine ev_bind (impl_pack_ev l hl) ?_
  refine ev_pos (by rw [strOfNums_size, hp]; simp; omega) ?_
  refine ev_bind (impl_sum_ev _ (by rw [ba_size_append, strOfNums_size, hp]; simp; omega)) ?_
  refine ev_pos (by simp [strOfNums_size]) ?_
  refine ev_pos (by rw [ba_size_append, hp]; simp [strOfNums_size]; omega) ?_
  exact ev_some _
/-! ### Open -/
theorem bt_nn (t : ByteArray) (i : Int) : 0 ≤ bt t i := by unfold bt; split <;> omega
theorem bt_lt (t : ByteArray) (i : Int) : bt t i < 256 := by
  unfold bt; split
  · have := (t[i.toNat]).toNat_lt; omega
  · omega
theorem wraps_i64 (n : Int) (h0 : 0 ≤ n) (h1 : n < 2 ^ 63) : IntKind.i64.wrap n = n := by rw [IntKind.wrap_i64]; omega
theorem or64 (i : Nat) {x y : Int} (hx₀ : 0 ≤ x) (hx : x % 2 ^ i = 0) (hx₁ : x < 2 ^ 63) (h₀ : 0 ≤ y) (h₁ : y < 2 ^ i) (hy : y < 2 ^ 63) : Go.bits .or .i64 x y = x + y :=
  bits_join .i64 63 (by decide) wraps_i64 i x y hx₀ hx hx₁ h₀ h₁ hy
theorem or64' (i : Nat) {x y : Int} (hx₀ : 0 ≤ x) (hx : x % 2 ^ i = 0) (hx₁ : x < 2 ^ 63) (h₀ : 0 ≤ y) (h₁ : y < 2 ^ i) (hy : y < 2 ^ 63) : Go.bits .or .i64 y x = y + x := by
  obtain ⟨a, rfl⟩ := Int.eq_ofNat_of_zero_le hx₀
  obtain ⟨b, rfl⟩ := Int.eq_ofNat_of_zero_le h₀
  have ha : a < 2 ^ 63 := by exact_mod_cast hx₁
  have hb : b < 2 ^ 63 := by exact_mod_cast hy
  have h := or64 i (x := (a : Int)) (y := (b : Int)) hx₀ hx hx₁ h₀ h₁ hy
  rw [(bits_nat .i64 63 (by decide) wraps_i64 a b ha hb).2] at h
  rw [(bits_nat .i64 63 (by decide) wraps_i64 b a hb ha).2, Nat.or_comm, h]; omega
def numAt (t : ByteArray) (i : Nat) : Int := bt t (i : Int) + 256 * bt t ((i + 1 : Nat) : Int) + 65536 * bt t ((i + 2 : Nat) : Int) + 16777216 * bt t ((i + 3 : Nat) : Int)
def numsP (t : ByteArray) : List Int := (List.range (t.size / 4)).map (fun j => numAt t (4 * j))
theorem numsP_length (t : ByteArray) : (numsP t).length = t.size / 4 := by simp [numsP]
theorem numsP_take (t : ByteArray) (j : Nat) (h : j < t.size / 4) : (numsP t).take (j + 1) = (numsP t).take j ++ [numAt t (4 * j)] := by
  rw [take_next _ j (by rw [numsP_length]; exact h)]; simp [numsP]
def intsOK (l : List Int) : Bool := l.all (fun n => inB n 0 2147483647) && decide ((l.length : Int) ≤ 16)
theorem spec_ints_from (l : List Int) (hl : l.length ≤ 1000000000) (d : Nat) : ∀ (k i : Nat), i ≤ l.length → l.length - i = d → d < k →
    spec_l02Ints.l0 k l i = some ((l.drop i).all (fun n => inB n 0 2147483647) && decide ((l.length : Int) ≤ 16)) := by
  induction d with
  | zero =>
    intro k i hi hd hk
    obtain ⟨k, rfl⟩ : ∃ m, k = m + 1 := ⟨k - 1, by omega⟩
    simp only [spec_l02Ints.l0]
    rw [if_neg (by omega), List.drop_of_length_le (by omega)]; simp
  | succ d ih =>
    intro k i hi hd hk
    obtain ⟨k, rfl⟩ : ∃ m, k = m + 1 := ⟨k - 1, by omega⟩
    have hlt : i < l.length := by omega
    simp only [spec_l02Ints.l0, spec_l02Int.f, l01In_eq, Option.bind_some]
    rw [if_pos (by omega), if_pos (by omega), rd_eq l i hlt, List.drop_eq_getElem_cons hlt, List.all_cons, w64 (by omega) (by omega)]
    have := ih k (i + 1) (by omega) (by omega) (by omega)
    cases h : inB l[i] 0 2147483647
    · simp
    · simp only [if_true, Bool.true_and]; exact this
theorem spec_ints_ev (l : List Int) (hl : l.length ≤ 1000000000) : Ev (fun k => spec_l02Ints.f k l) (intsOK l) :=
  ⟨l.length + 1, fun k hk => by have := spec_ints_from l hl l.length k 0 (by omega) (by omega) (by omega); simpa [spec_l02Ints.f, intsOK] using this⟩
theorem mul_wrap {a b c : Int} (h0 : 0 ≤ a) (h1 : a < c) (hb : 0 < b) (h : c * b ≤ 9223372036854775807) : wrap64 (a * b) = a * b := by
  have h2 : a * b ≤ c * b := Int.mul_le_mul_of_nonneg_right (by omega) (by omega)
  have h3 : 0 ≤ a * b := Int.mul_nonneg h0 (by omega)
  exact w64 (by omega) (by omega)
theorem four_up {a b c d : Int} (a0 : 0 ≤ a) (a1 : a < 256) (b0 : 0 ≤ b) (b1 : b < 256) (c0 : 0 ≤ c) (c1 : c < 256) (d0 : 0 ≤ d) (d1 : d < 256) :
    Go.bits .or .i64 (wrap64 (Go.bits .or .i64 (wrap64 (Go.bits .or .i64 (wrap64 (Go.bits .or .i64 (wrap64 (0 * 256)) (wrap64 d) * 256)) (wrap64 c) * 256)) (wrap64 b) * 256)) (wrap64 a) = a + 256 * b + 65536 * c + 16777216 * d := by
  rw [w64 (n := a) (by omega) (by omega), w64 (n := b) (by omega) (by omega), w64 (n := c) (by omega) (by omega), w64 (n := d) (by omega) (by omega)]
  rw [w64 (n := 0 * 256) (by omega) (by omega), or64 8 (x := 0 * 256) (by omega) (by omega) (by omega) d0 (by omega) (by omega)]
  obtain ⟨u, hu⟩ : ∃ u, u = 0 * 256 + d := ⟨_, rfl⟩
  rw [← hu, w64 (n := u * 256) (by omega) (by omega), or64 8 (x := u * 256) (by omega) (by omega) (by omega) c0 (by omega) (by omega)]
  obtain ⟨v, hv⟩ : ∃ v, v = u * 256 + c := ⟨_, rfl⟩
  rw [← hv, w64 (n := v * 256) (by omega) (by omega), or64 8 (x := v * 256) (by omega) (by omega) (by omega) b0 (by omega) (by omega)]
  obtain ⟨x, hx⟩ : ∃ x, x = v * 256 + b := ⟨_, rfl⟩
  rw [← hx, w64 (n := x * 256) (by omega) (by omega), or64 8 (x := x * 256) (by omega) (by omega) (by omega) a0 (by omega) (by omega)]
  omega
theorem four_down {a b c d : Int} (a0 : 0 ≤ a) (a1 : a < 256) (b0 : 0 ≤ b) (b1 : b < 256) (c0 : 0 ≤ c) (c1 : c < 256) (d0 : 0 ≤ d) (d1 : d < 256) :
    Go.bits .or .i64 (Go.bits .or .i64 (Go.bits .or .i64 (wrap64 a) (wrap64 (wrap64 b * 256))) (wrap64 (wrap64 c * 65536))) (wrap64 (wrap64 d * 16777216)) = a + 256 * b + 65536 * c + 16777216 * d := by
  rw [w64 (n := a) (by omega) (by omega), w64 (n := b) (by omega) (by omega), w64 (n := c) (by omega) (by omega), w64 (n := d) (by omega) (by omega)]
  rw [w64 (n := b * 256) (by omega) (by omega), w64 (n := c * 65536) (by omega) (by omega), w64 (n := d * 16777216) (by omega) (by omega)]
  rw [or64' 8 (x := b * 256) (by omega) (by omega) (by omega) a0 (by omega) (by omega)]
  obtain ⟨u, hu⟩ : ∃ u, u = a + b * 256 := ⟨_, rfl⟩
  rw [← hu, or64' 16 (x := c * 65536) (by omega) (by omega) (by omega) (y := u) (by omega) (by omega) (by omega)]
  obtain ⟨v, hv⟩ : ∃ v, v = u + c * 65536 := ⟨_, rfl⟩
  rw [← hv, or64' 24 (x := d * 16777216) (by omega) (by omega) (by omega) (y := v) (by omega) (by omega) (by omega)]
  omega
theorem up_to (i : Nat) (h : i < 1000000000000) (c : Nat) (hc : c ≤ 10) : wrap64 ((i : Int) + (c : Int)) = ((i + c : Nat) : Int) := by rw [w64 (by omega) (by omega)]; omega
theorem spec_unpack_in (t : ByteArray) (ht : t.size ≤ 1000000000000) (out : List Int) (hout : out.length < 1000000000000) (i : Nat) (h : i + 3 < t.size) (k : Nat) (hk : 5 ≤ k) :
    spec_l02Unpack.l1 k t out i 0 3 = spec_l02Unpack.l0 (k - 5) t (out ++ [numAt t i]) ((i + 4 : Nat) : Int) := by
  obtain ⟨k, rfl⟩ : ∃ m, k = m + 5 := ⟨k - 5, by omega⟩
  have hi : i < 1000000000000 := by omega
  have e3 : wrap64 ((i : Int) + 3) = ((i + 3 : Nat) : Int) := up_to i hi 3 (by omega)
  have e2 : wrap64 ((i : Int) + 2) = ((i + 2 : Nat) : Int) := up_to i hi 2 (by omega)
  have e1 : wrap64 ((i : Int) + 1) = ((i + 1 : Nat) : Int) := up_to i hi 1 (by omega)
  have e0 : wrap64 ((i : Int) + 0) = ((i : Nat) : Int) := up_to i hi 0 (by omega)
  have e4 : wrap64 ((i : Int) + 4) = ((i + 4 : Nat) : Int) := up_to i hi 4 (by omega)
  have d3 : wrap64 (3 - 1) = 2 := by rw [w64 (by omega) (by omega)]; omega
  have d2 : wrap64 (2 - 1) = 1 := by rw [w64 (by omega) (by omega)]; omega
  have d1 : wrap64 (1 - 1) = 0 := by rw [w64 (by omega) (by omega)]; omega
  have d0 : wrap64 (0 - 1) = -1 := by rw [w64 (by omega) (by omega)]; omega
  simp only [spec_l02Unpack.l1]
  rw [if_pos (by omega), e3, if_pos (by omega), if_pos (by omega), d3, if_pos (by omega), e2, if_pos (by omega), if_pos (by omega), d2, if_pos (by omega), e1, if_pos (by omega), if_pos (by omega), d1, if_pos (by omega), e0, if_pos (by omega), if_pos (by omega), d0, if_neg (by omega), if_pos (by omega), e4]
  rw [four_up (bt_nn _ _) (bt_lt _ _) (bt_nn _ _) (bt_lt _ _) (bt_nn _ _) (bt_lt _ _) (bt_nn _ _) (bt_lt _ _)]
  rfl
theorem spec_unpack_from (t : ByteArray) (ht : t.size ≤ 1000000000) (h4 : t.size % 4 = 0) (d : Nat) : ∀ (j : Nat), j ≤ t.size / 4 → t.size / 4 - j = d →
    Ev (fun k => spec_l02Unpack.l0 k t ((numsP t).take j) ((4 * j : Nat) : Int)) (numsP t, intsOK (numsP t)) := by
  induction d with
  | zero =>
    intro j hj hd
    refine Ev.step (f := fun k => (spec_l02Ints.f k ((numsP t).take j)).bind fun b => some ((numsP t).take j, b)) (fun k => ?_) ?_
    · simp only [spec_l02Unpack.l0]; rw [if_neg (by omega)]
    · have e : (numsP t).take j = numsP t := List.take_of_length_le (by rw [numsP_length]; omega)
      simp only [e]
      exact ev_bind (spec_ints_ev _ (by rw [numsP_length]; omega)) (ev_some _)
  | succ d ih =>
    intro j hj hd
    obtain ⟨K, hK⟩ := ih (j + 1) (by omega) (by omega)
    have hlen : ((numsP t).take j).length ≤ t.size / 4 := by rw [List.length_take, numsP_length]; omega
    refine ⟨K + 6, fun k hk => ?_⟩
    obtain ⟨k, rfl⟩ : ∃ m, k = m + 1 := ⟨k - 1, by omega⟩
    simp only [spec_l02Unpack.l0]
    rw [if_pos (by omega), spec_unpack_in t (by omega) _ (by omega) (4 * j) (by omega) k (by omega), ← numsP_take t j (by omega)]
    have := hK (k - 5) (by omega)
    rw [show 4 * (j + 1) = 4 * j + 4 by omega] at this
    exact this
theorem spec_unpack_ev (t : ByteArray) (ht : t.size ≤ 1000000000) : Ev (fun k => spec_l02Unpack.f k t) (if t.size % 4 = 0 then (numsP t, intsOK (numsP t)) else ([], false)) := by
  unfold spec_l02Unpack.f
  simp only [Option.bind_some]
  by_cases h : t.size % 4 = 0
  · rw [if_pos h]
    refine ev_pos (by omega) ?_
    have := spec_unpack_from t ht h (t.size / 4) 0 (by omega) (by omega)
    simpa using this
  · rw [if_neg h]
    exact ev_neg (by omega) (ev_some _)
/-- What a record of a kind says, and whether a text is one. -/
def recNums (t : ByteArray) : List Int := numsP (t.extract 4 t.size)
def bodyOK (t : ByteArray) (kind : Int) : Bool := decide ((t.extract 4 t.size).size % 4 = 0 ∧ intsOK (recNums t) = true ∧ sealP kind (recNums t) = t)
theorem bodyOK_iff {t : ByteArray} {kind : Int} : bodyOK t kind = true ↔ (t.extract 4 t.size).size % 4 = 0 ∧ intsOK (recNums t) = true ∧ sealP kind (recNums t) = t := by simp only [bodyOK, decide_eq_true_eq]
def recOK (t : ByteArray) (kind : Int) : Bool := decide (4 ≤ t.size) && (bt t 0 == kind && (inB kind 1 9 && bodyOK t kind))
theorem recOK_iff {t : ByteArray} {kind : Int} : recOK t kind = true ↔ 4 ≤ t.size ∧ bt t 0 = kind ∧ inB kind 1 9 = true ∧ (t.extract 4 t.size).size % 4 = 0 ∧ intsOK (recNums t) = true ∧ sealP kind (recNums t) = t := by
  simp only [recOK, Bool.and_eq_true, decide_eq_true_eq, beq_iff_eq, bodyOK_iff]
theorem recOK_no {t : ByteArray} {kind : Int} (h : ¬ (4 ≤ t.size ∧ bt t 0 = kind ∧ inB kind 1 9 = true ∧ (t.extract 4 t.size).size % 4 = 0 ∧ intsOK (recNums t) = true ∧ sealP kind (recNums t) = t)) : recOK t kind = false := by
  cases hr : recOK t kind with
  | false => rfl
  | true => exact absurd (recOK_iff.1 hr) h
theorem ext_size (t : ByteArray) : (t.extract 4 t.size).size = t.size - 4 := by simp
theorem bt0 (t : ByteArray) : wrap64 (bt t 0) = bt t 0 := by have := bt_nn t 0; have := bt_lt t 0; exact w64 (by omega) (by omega)
theorem spec_open_ev (t : ByteArray) (kind : Int) (ht : t.size ≤ 1000000000) : Ev (fun k => spec_l02Open.f k t kind) (if recOK t kind = true then (recNums t, true) else ([], false)) := by
  unfold spec_l02Open.f
  by_cases h1 : t.size < 4
  · rw [recOK_no (by omega)]
    refine ev_pos (by omega) (Ev.step (f := fun _ => some ([], false)) (fun k => ?_) (ev_some _))
    simp [spec_l02Open.j0]
  · refine ev_neg (by omega) (ev_pos (by omega) ?_)
    rw [bt0]
    by_cases h2 : bt t 0 = kind
    · refine ev_pos h2 ?_
      simp only [spec_l02Kind.f, l01In_eq, Option.bind_some]
      by_cases h3 : inB kind 1 9 = true
      · simp only [h3, Bool.not_true]
        refine Ev.step (f := fun k => (spec_l02Unpack.f k (t.extract 4 t.size)).bind fun bt496 => (if bt496.2 = true then ((spec_l02Seal.f k kind bt496.1).bind fun t500 => (if t500.toList = t.toList then (some (bt496.1, true)) else (some ((([] : List Int)), false)))) else (some ((([] : List Int)), false)))) (fun k => ?_) ?_
        · simp only [spec_l02Open.j0, Bool.false_eq_true, if_false]; rw [if_pos (by omega)]
        · refine ev_bind (spec_unpack_ev _ (by rw [ext_size]; omega)) ?_
          by_cases h4 : (t.extract 4 t.size).size % 4 = 0
          · rw [if_pos h4]
            by_cases h5 : intsOK (recNums t) = true
            · refine ev_pos h5 ?_
              refine ev_bind (spec_seal_ev kind _ (by show (numsP _).length ≤ _; rw [numsP_length, ext_size]; omega)) ?_
              by_cases h6 : sealP kind (recNums t) = t
              · rw [recOK_iff.2 ⟨by omega, h2, h3, h4, h5, h6⟩]
                exact ev_pos (by show (sealP kind (recNums t)).toList = _; rw [h6]) (ev_some _)
              · rw [recOK_no (fun h => h6 h.2.2.2.2.2)]
                exact ev_neg (by rw [toList_inj]; exact h6) (ev_some _)
            · rw [recOK_no (fun h => h5 h.2.2.2.2.1)]
              exact ev_neg h5 (ev_some _)
          · rw [if_neg h4, recOK_no (fun h => h4 h.2.2.2.1)]
            exact ev_neg (by simp) (ev_some _)
      · have h3' : inB kind 1 9 = false := by simpa using h3
        rw [recOK_no (fun h => h3 h.2.2.1)]
        simp only [h3', Bool.not_false]
        refine Ev.step (f := fun _ => some ([], false)) (fun k => ?_) (ev_some _)
        simp [spec_l02Open.j0]
    · rw [recOK_no (fun h => h2 h.2.1)]
      refine ev_neg h2 (Ev.step (f := fun _ => some ([], false)) (fun k => ?_) (ev_some _))
      simp [spec_l02Open.j0]
/-! ### OpenI -/
theorem isNumber_eq (n : Int) : impl_isNumber.f n = some (inB n 0 2147483647) := by simp only [impl_isNumber.f, within_eq, Option.bind_some]
theorem all_number (l : List Int) : all128_impl_isNumber.f l () = some (l.all (fun n => inB n 0 2147483647)) := by
  unfold all128_impl_isNumber.f; exact allO_some _ _ (fun x _ => isNumber_eq x)
theorem impl_areInts_eq (l : List Int) : impl_areInts.f l = some (intsOK l) := by
  unfold impl_areInts.f intsOK
  by_cases h : (l.length : Int) ≤ 16
  · rw [if_pos h, all_number]; simp [h]
  · rw [if_neg h]; simp [h]
theorem intsOK_take (l : List Int) : intsOK (l.take 17) = intsOK l := by
  by_cases h : l.length ≤ 16
  · rw [List.take_of_length_le (by omega)]
  · have h1 : intsOK l = false := by simp [intsOK]; intro _; omega
    have h2 : intsOK (l.take 17) = false := by simp [intsOK]; intro _; omega
    rw [h1, h2]
theorem impl_unpack_end (t : ByteArray) (l : List Int) : (if ((t.size : Int) % 4) = 0 then ((impl_areInts.f l).bind fun t529 => (some (l, t529))) else (some (l, false))) = some (l, decide (t.size % 4 = 0) && intsOK l) := by
  by_cases h : t.size % 4 = 0
  · rw [if_pos (by omega), impl_areInts_eq]; simp [h]
  · rw [if_neg (by omega)]; simp [h]
theorem impl_unpack_from (t : ByteArray) (ht : t.size ≤ 1000000000) (d : Nat) : ∀ (k j : Nat), j ≤ 17 → j ≤ t.size / 4 → 17 - j = d → d < k →
    impl_unpack.l0 k t ((numsP t).take j) ((4 * j : Nat) : Int) = some ((numsP t).take 17, decide (t.size % 4 = 0) && intsOK ((numsP t).take 17)) := by
  induction d with
  | zero =>
    intro k j hj hj2 hd hk
    obtain ⟨k, rfl⟩ : ∃ m, k = m + 1 := ⟨k - 1, by omega⟩
    obtain rfl : j = 17 := by omega
    simp only [impl_unpack.l0]
    by_cases h : wrap64 (((4 * 17 : Nat) : Int) + 4) ≤ (t.size : Int)
    · rw [if_pos h, if_neg (by omega)]; exact impl_unpack_end t _
    · rw [if_neg h]; exact impl_unpack_end t _
  | succ d ih =>
    intro k j hj hj2 hd hk
    obtain ⟨k, rfl⟩ : ∃ m, k = m + 1 := ⟨k - 1, by omega⟩
    have hi : 4 * j < 1000000000000 := by omega
    have hlen : ((numsP t).take j).length ≤ t.size / 4 := by rw [List.length_take, numsP_length]; omega
    have e4 : wrap64 (((4 * j : Nat) : Int) + 4) = ((4 * j + 4 : Nat) : Int) := up_to _ hi 4 (by omega)
    have e3 : wrap64 (((4 * j : Nat) : Int) + 3) = ((4 * j + 3 : Nat) : Int) := up_to _ hi 3 (by omega)
    have e2 : wrap64 (((4 * j : Nat) : Int) + 2) = ((4 * j + 2 : Nat) : Int) := up_to _ hi 2 (by omega)
    have e1 : wrap64 (((4 * j : Nat) : Int) + 1) = ((4 * j + 1 : Nat) : Int) := up_to _ hi 1 (by omega)
    simp only [impl_unpack.l0]
    rw [e4, e3, e2, e1]
    by_cases h : 4 * j + 4 ≤ t.size
    · rw [if_pos (by omega), if_pos (by omega), if_pos (by omega), if_pos (by omega), if_pos (by omega), if_pos (by omega), if_pos (by omega), if_pos (by omega), if_pos (by omega), if_pos (by omega), if_pos (by omega)]
      rw [four_down (bt_nn _ _) (bt_lt _ _) (bt_nn _ _) (bt_lt _ _) (bt_nn _ _) (bt_lt _ _) (bt_nn _ _) (bt_lt _ _)]
      have := ih k (j + 1) (by omega) (by omega) (by omega) (by omega)
      rw [numsP_take t j (by omega)] at this
      exact this
    · rw [if_neg (by omega)]
      have e : (numsP t).take j = (numsP t).take 17 := by
        rw [List.take_of_length_le (by rw [numsP_length]; omega), List.take_of_length_le (by rw [numsP_length]; omega)]
      rw [e]; exact impl_unpack_end t _
theorem impl_unpack_ev (t : ByteArray) (ht : t.size ≤ 1000000000) : Ev (fun k => impl_unpack.f k t) ((numsP t).take 17, decide (t.size % 4 = 0) && intsOK (numsP t)) :=
  ⟨18, fun k hk => by have := impl_unpack_from t ht 17 k 0 (by omega) (by omega) (by omega) (by omega); rw [intsOK_take] at this; simpa [impl_unpack.f] using this⟩
def openL (t : ByteArray) : List Int := if t.size < 4 ∨ t.size > 80 ∨ inB (bt t 0) 1 9 = false then [] else (recNums t).take 17
theorem recOK_openL {t : ByteArray} {kind : Int} (h : recOK t kind = true) : openL t = recNums t := by
  obtain ⟨h1, h2, h3, h4, h5, h6⟩ := recOK_iff.1 h
  have hl : (recNums t).length ≤ 16 := by
    simp only [intsOK, Bool.and_eq_true, decide_eq_true_eq] at h5
    omega
  have hs : t.size ≤ 80 := by
    unfold recNums at hl; rw [numsP_length] at hl; rw [ext_size] at hl h4; omega
  unfold openL
  rw [if_neg (by rw [h2]; simp [h3]; omega), List.take_of_length_le (by omega)]
theorem recOK_long {t : ByteArray} {kind : Int} (h : t.size > 80) : recOK t kind = false := by
  refine recOK_no (fun hr => ?_)
  obtain ⟨h1, h2, h3, h4, h5, h6⟩ := hr
  simp only [intsOK, Bool.and_eq_true, decide_eq_true_eq] at h5
  have := h5.2
  unfold recNums at this
  rw [numsP_length] at this; rw [ext_size] at this h4; omega
theorem impl_open_ev (t : ByteArray) (kind : Int) (ht : t.size ≤ 1000000000) : Ev (fun k => impl_open.f k t kind) (openL t, recOK t kind) := by
  unfold impl_open.f impl_opened.f
  have hbad : ∀ (g : Nat → Option (Int × List Int × Bool)), openL t = [] → recOK t kind = false → Ev g (0, [], false) → Ev (fun k => (g k).bind fun bt537 => (if bt537.2.2 = true then (some (bt537.2.1, (bt537.1 == kind))) else (some (bt537.2.1, false)))) (openL t, recOK t kind) := by
    intro g h1 h2 hg
    rw [h1, h2]
    exact ev_bind hg (ev_neg (by simp) (ev_some _))
  by_cases h1 : t.size < 4
  · refine hbad _ (by simp [openL, h1]) (recOK_no (by omega)) (ev_pos (by omega) (Ev.step (f := fun _ => some (0, [], false)) (fun k => by simp [impl_opened.j0]) (ev_some _)))
  · by_cases h2 : t.size > 80
    · refine hbad _ (by simp [openL, h2]) (recOK_long h2) (ev_neg (by omega) (ev_pos (by omega) (Ev.step (f := fun _ => some (0, [], false)) (fun k => by simp [impl_opened.j0]) (ev_some _))))
    · by_cases h3 : inB (bt t 0) 1 9 = true
      · have hL : openL t = (recNums t).take 17 := by unfold openL; rw [if_neg (by simp [h3]; omega)]
        have hO : Ev (fun k => if (t.size : Int) < 4 then impl_opened.j0 k t true else (if (t.size : Int) > 80 then impl_opened.j0 k t true else (if 0 < (t.size : Int) then ((impl_isKind.f (wrap64 (bt t 0))).bind fun t531 => (impl_opened.j0 k t (!t531))) else none))) (bt t 0, openL t, bodyOK t (bt t 0)) := by
          refine ev_neg (by omega) (ev_neg (by omega) (ev_pos (by omega) ?_))
          rw [bt0]
          simp only [impl_isKind.f, within_eq, Option.bind_some, h3, Bool.not_true]
          refine Ev.step (f := fun k => (impl_unpack.f k (t.extract 4 t.size)).bind fun bt532 => (if bt532.2 = true then ((impl_seal.f k (bt t 0) bt532.1).bind fun t536 => (some (bt t 0, bt532.1, (t536.toList == t.toList)))) else (some (bt t 0, bt532.1, false)))) (fun k => ?_) ?_
          · simp only [impl_opened.j0, Bool.false_eq_true, if_false, bt0]; rw [if_pos (by omega)]
            congr 1; funext b; rw [if_pos (by omega)]
          · refine ev_bind (impl_unpack_ev _ (by rw [ext_size]; omega)) ?_
            show Ev (fun n => if (decide ((t.extract 4 t.size).size % 4 = 0) && intsOK (recNums t)) = true then ((impl_seal.f n (bt t 0) ((recNums t).take 17)).bind fun t536 => (some (bt t 0, (recNums t).take 17, (t536.toList == t.toList)))) else some (bt t 0, (recNums t).take 17, false)) _
            rw [hL]
            by_cases h4 : (t.extract 4 t.size).size % 4 = 0 ∧ intsOK (recNums t) = true
            · have hl : (recNums t).length ≤ 16 := by
                have := h4.2
                simp only [intsOK, Bool.and_eq_true, decide_eq_true_eq] at this
                omega
              have ht17 : (recNums t).take 17 = recNums t := List.take_of_length_le (by omega)
              refine ev_pos (by simp only [h4.1, h4.2, decide_true, Bool.and_self]) ?_
              rw [ht17]
              refine ev_bind (impl_seal_ev (bt t 0) _ (by omega)) ?_
              have e : (((sealP (bt t 0) (recNums t)).toList == t.toList) : Bool) = bodyOK t (bt t 0) := by
                rw [Bool.eq_iff_iff, bodyOK_iff]; simp only [beq_iff_eq, toList_inj]
                exact ⟨fun h => ⟨h4.1, h4.2, h⟩, fun h => h.2.2⟩
              rw [e]
              exact ev_some _
            · refine ev_neg (by simp only [Bool.and_eq_true, decide_eq_true_eq]; exact h4) ?_
              have : bodyOK t (bt t 0) = false := by
                cases hb : bodyOK t (bt t 0) with
                | false => rfl
                | true => have := bodyOK_iff.1 hb; exact absurd ⟨this.1, this.2.1⟩ h4
              rw [this]
              exact ev_some _
        refine ev_bind hO ?_
        show Ev (fun n => if bodyOK t (bt t 0) = true then some (openL t, bt t 0 == kind) else some (openL t, false)) _
        by_cases h5 : bodyOK t (bt t 0) = true
        · refine ev_pos h5 ?_
          by_cases h6 : bt t 0 = kind
          · have hr : recOK t kind = true := recOK_iff.2 ⟨by omega, h6, by rw [← h6]; exact h3, by rw [← h6]; exact bodyOK_iff.1 h5⟩
            rw [hr]
            simp only [h6, beq_self_eq_true]
            exact ev_some _
          · rw [recOK_no (fun h => h6 h.2.1)]
            have : (bt t 0 == kind) = false := by simp [h6]
            rw [this]
            exact ev_some _
        · refine ev_neg h5 ?_
          rw [recOK_no (fun h => h5 (bodyOK_iff.2 (by have := h.2.2.2; rw [← h.2.1] at this; exact this)))]
          exact ev_some _
      · have h3' : inB (bt t 0) 1 9 = false := by simpa using h3
        refine hbad _ (by simp [openL, h3']) (recOK_no (fun h => h3 (by have := h.2.2.1; rw [← h.2.1] at this; exact this))) (ev_neg (by omega) (ev_neg (by omega) (ev_pos (by omega) ?_)))
        rw [bt0]
        simp only [impl_isKind.f, within_eq, Option.bind_some, h3', Bool.not_false]
        exact Ev.step (f := fun _ => some (0, [], false)) (fun k => by simp [impl_opened.j0]) (ev_some _)
/-! ### First -/
theorem first1 (b : Bool) (c : Int) : impl_first.f [Any.b b, Any.n c] = some (if b = true then c else 0) := by
  unfold impl_first.f; cases b <;> simp [firstO]
theorem first2 (b b' : Bool) (c c' : Int) : impl_first.f [Any.b b, Any.n c, Any.b b', Any.n c'] = some (if b = true then c else if b' = true then c' else 0) := by
  unfold impl_first.f; cases b <;> cases b' <;> simp [firstO]
theorem first3 (b b' b'' : Bool) (c c' c'' : Int) : impl_first.f [Any.b b, Any.n c, Any.b b', Any.n c', Any.b b'', Any.n c''] = some (if b = true then c else if b' = true then c' else if b'' = true then c'' else 0) := by
  unfold impl_first.f; cases b <;> cases b' <;> cases b'' <;> simp [firstO]
theorem first4 (b b' b'' b3 : Bool) (c c' c'' c3 : Int) : impl_first.f [Any.b b, Any.n c, Any.b b', Any.n c', Any.b b'', Any.n c'', Any.b b3, Any.n c3] = some (if b = true then c else if b' = true then c' else if b'' = true then c'' else if b3 = true then c3 else 0) := by
  unfold impl_first.f; cases b <;> cases b' <;> cases b'' <;> cases b3 <;> simp [firstO]
theorem isLongText_eq (t : ByteArray) : impl_isLongText.f t = some (decide ((t.size : Int) > 65536)) := by unfold impl_isLongText.f; rfl
/-! ### Mark -/
theorem ev_loop {α : Type} {g : Nat → Nat → Option α} {r : α} (n : Nat) (hend : Ev (fun k => g k n) r) (hstep : ∀ i, i < n → ∃ c, ∀ k, g (k + c) i = g k (i + 1) ∧ 1 ≤ c) : ∀ d i, i ≤ n → n - i = d → Ev (fun k => g k i) r := by
  intro d
  induction d with
  | zero =>
    intro i hi hd
    have e : i = n := by omega
    rw [e]; exact hend
  | succ d ih =>
    intro i hi hd
    obtain ⟨K, hK⟩ := ih (i + 1) (by omega) (by omega)
    obtain ⟨c, hc⟩ := hstep i (by omega)
    refine ⟨K + c, fun k hk => ?_⟩
    obtain ⟨m, rfl⟩ : ∃ m, k = m + c := ⟨k - c, by omega⟩
    show g (m + c) i = _
    rw [(hc m).1]; exact hK m (by omega)
theorem rdn (l : List Int) (i : Nat) (h : i < l.length) : rd l (i : Int) = l[i] := by simp [rd, h]
theorem wnext (i : Nat) (h : i < 1000000000000000000) : wrap64 ((i : Int) + 1) = ((i + 1 : Nat) : Int) := by rw [w64 (by omega) (by omega)]; omega
theorem eqIntS_ev (l : List Int) (hl : l.length ≤ 1000000000) : Ev (fun k => laws_eqIntS.f k l l) true := by
  unfold laws_eqIntS.f
  refine ev_pos rfl ?_
  refine ev_loop (g := fun k i => laws_eqIntS.l0 k l l (i : Int)) l.length ?_ ?_ l.length 0 (by omega) (by omega)
  · refine Ev.step (f := fun _ => some true) (fun k => ?_) (ev_some _)
    simp only [laws_eqIntS.l0]; rw [if_neg (by omega)]
  · intro i hi
    refine ⟨1, fun k => ⟨?_, by omega⟩⟩
    simp only [laws_eqIntS.l0]
    rw [if_pos (by omega), if_pos (by omega), if_pos (by omega), if_pos trivial, wnext i (by omega)]
/-- Consecutive numbers from a on, as many as a list has. -/
def countUp (a : Int) (n : Nat) : List Int := (List.range n).map (fun j : Nat => a + (j : Int))
theorem countUp_length (a : Int) (n : Nat) : (countUp a n).length = n := by simp [countUp]
theorem countUp_get (a : Int) (n i : Nat) (h : i < n) : (countUp a n)[i]'(by rw [countUp_length]; exact h) = a + (i : Int) := by simp [countUp]
theorem set_mid {α : Type} (l m : List α) (hlm : m.length = l.length) (i : Nat) (h : i < l.length) (x : α) (hx : m[i]'(by omega) = x) : (m.take i ++ l.drop i).set i x = m.take (i + 1) ++ l.drop (i + 1) := by
  subst hx
  rw [List.drop_eq_getElem_cons h, List.set_append_right _ _ (by rw [List.length_take]; omega)]
  have : i - (m.take i).length = 0 := by rw [List.length_take]; omega
  rw [this, List.set_cons_zero, List.take_succ_eq_append_getElem (by omega), List.append_assoc]
  rfl
theorem markIntS_ev (l : List Int) (a : Int) (ha : 0 ≤ a) (hl : l.length + a ≤ 1000000000000) : Ev (fun k => laws_markIntS.f k l a) (a + (l.length : Int), countUp a l.length) := by
  unfold laws_markIntS.f
  have hc := countUp_length a l.length
  have h := ev_loop (g := fun k i => laws_markIntS.l0 k ((countUp a l.length).take i ++ l.drop i) (a + (i : Int)) (i : Int)) (r := (a + (l.length : Int), countUp a l.length)) l.length ?_ ?_ l.length 0 (by omega) (by omega)
  · simpa using h
  · refine Ev.step (f := fun _ => some (a + (l.length : Int), countUp a l.length)) (fun k => ?_) (ev_some _)
    simp only [laws_markIntS.l0]
    rw [if_neg (by simp; omega), List.drop_of_length_le (by omega), List.take_of_length_le (by omega)]; simp
  · intro i hi
    refine ⟨1, fun k => ⟨?_, by omega⟩⟩
    simp only [laws_markIntS.l0]
    have hlen : ((countUp a l.length).take i ++ l.drop i).length = l.length := by simp [hc]; omega
    rw [if_pos (by rw [hlen]; omega), if_pos (by omega), Int.toNat_natCast, set_mid l _ hc i hi _ (countUp_get a l.length i hi), wnext i (by omega), w64 (by omega) (by omega)]
    rw [show a + (i : Int) + 1 = a + ((i + 1 : Nat) : Int) by omega]
theorem heldIntS_ev (n : Nat) (a : Int) (ha : 0 ≤ a) (hl : n + a ≤ 1000000000000) : Ev (fun k => laws_heldIntS.f k (countUp a n) a) (a + (n : Int)) := by
  unfold laws_heldIntS.f
  have hc := countUp_length a n
  have h := ev_loop (g := fun k i => laws_heldIntS.l0 k (countUp a n) (a + (i : Int)) (i : Int)) (r := a + (n : Int)) n ?_ ?_ n 0 (by omega) (by omega)
  · simpa using h
  · refine Ev.step (f := fun _ => some (a + (n : Int))) (fun k => ?_) (ev_some _)
    simp only [laws_heldIntS.l0]
    rw [if_neg (by omega)]
  · intro i hi
    refine ⟨1, fun k => ⟨?_, by omega⟩⟩
    simp only [laws_heldIntS.l0]
    rw [if_pos (by omega), if_pos (by omega), rdn _ i (by omega), countUp_get a n i hi, if_pos rfl, wnext i (by omega), w64 (by omega) (by omega)]
    rw [show a + (i : Int) + 1 = a + ((i + 1 : Nat) : Int) by omega]
end Go.Proofs.Ytofobhhbhicfaaa.Q
