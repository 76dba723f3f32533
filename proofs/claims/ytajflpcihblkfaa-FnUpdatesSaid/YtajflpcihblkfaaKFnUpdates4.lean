/- What laws.FnUpdates reaches, part 4: the functions as Lean functions, the proofs that the program's functions answer so, and plain laws about them. -/
import Derived.Test.YtajflpcihblkfaaKFnUpdates1
import Derived.Test.YtajflpcihblkfaaKFnUpdates2
import Derived.Test.YtajflpcihblkfaaKFnUpdates3
namespace Go.Proofs.Ytajflpcihblkfaa.Q
open Go.RowKit Go.Proofs.Ytajflpcihblkfaa.Ext Go.Proofs.YtajflpcihblkfaaW.PrintWords Go.Proofs.YtajflpcihblkfaaW.PrintLast Go.Proofs.YtajflpcihblkfaaW.PrintMore
attribute [local go_sem] max2_int min2_int max_two min_two max_three min_three max_four min_four   -- for this text's walks alone
set_option linter.unusedVariables false
set_option linter.unusedSimpArgs false

set_option linter.unusedVariables false
set_option linter.unusedSimpArgs false
section
attribute [local go_sem high] eqA28
/-! ### laws_FnUpdates: function 3 -/
mutual
def laws_FnUpdates.j0 : Nat → List Int → List Int → Bool → Option (Bool)
  | 0, _, _, _ => none
  | k + 1, x0, x1, x25 => if x25 = true then (some true) else ((spec_UpdatesOf.f k x0).bind fun t260 => (laws_FnUpdates.l0 k x1 t260 0))
def laws_FnUpdates.l0 : Nat → List Int → List (S28) → Int → Option (Bool)
  | 0, _, _, _ => none
  | k + 1, x1, x5, x6 => if x6 < (x5.length : Int) then (if 0 ≤ x6 then ((impl_EncodeUpdate.f k ((rd_T28 x5 x6).f0) ((rd_T28 x5 x6).f1)).bind fun bt269 => ((spec_EncodeUpdate.f k ((rd_T28 x5 x6).f0) ((rd_T28 x5 x6).f1)).bind fun bt272 => ((impl_DecodeUpdate.f k bt269.1).bind fun bt274 => (if bt269.2 = 0 then (if bt269.1.toList = bt272.1.toList then (if bt274.2.2 = 0 then (if (!(bt274.1 == ((rd_T28 x5 x6).f0)) || (!(bt274.2.1.toList == (((rd_T28 x5 x6).f1).toList)))) = true then (some false) else (laws_FnUpdates.l0 k x1 x5 (wrap64 (x6 + 1)))) else (some false)) else (some false)) else (some false))))) else (none)) else ((laws_at.f x1 0 3).bind fun t263 => ((impl_SlotOf.f t263).bind fun bt264 => ((impl_SlotOf.f (wrap64 (t263 + 1))).bind fun bt266 => (if bt264.2 = 0 then (if bt266.2 = 0 then (if bt266.1 = (wrap64 (bt264.1 + 6)) then (if bt264.1 ≥ 39 then (some (decide ((wrap64 (bt266.1 + 6)) ≤ 64))) else (some false)) else (some false)) else (some false)) else (some false)))))
end
def laws_FnUpdates.f (k : Nat) (l0 : List Int) (l1 : List Int) : Option (Bool) := if (l0.length : Int) > 1048576 then (laws_FnUpdates.j0 k l0 l1 true) else (laws_FnUpdates.j0 k l0 l1 (decide ((l1.length : Int) > 1048576)))
theorem laws_FnUpdates.mono_l : ∀ k, (∀ y0 y1 y2, LeO (laws_FnUpdates.j0 k y0 y1 y2) (laws_FnUpdates.j0 (k + 1) y0 y1 y2)) ∧ (∀ y0 y1 y2, LeO (laws_FnUpdates.l0 k y0 y1 y2) (laws_FnUpdates.l0 (k + 1) y0 y1 y2))
  | 0 => ⟨fun _ _ _ r h => by simp [laws_FnUpdates.j0] at h, fun _ _ _ r h => by simp [laws_FnUpdates.l0] at h⟩
  | k + 1 => by
    obtain ⟨ih0, ih1⟩ := laws_FnUpdates.mono_l k
    refine ⟨?_, ?_⟩
    · intro y0 y1 y2
      unfold laws_FnUpdates.j0
      repeat' first
      | (with_reducible exact ih0 _ _ _)
      | (with_reducible exact ih1 _ _ _)
      | (with_reducible exact impl_DecodeUpdate.mono _ _)
      | (with_reducible exact impl_EncodeUpdate.mono _ _ _)
      | (with_reducible exact spec_EncodeUpdate.mono _ _ _)
      | (with_reducible exact spec_UpdatesOf.mono _ _)
      | (with_reducible exact LeO.refl _)
      | (with_reducible exact LeO.none _)
      | (with_reducible refine LeO.ite ?_ ?_)
      | (with_reducible refine LeO.bind ?_ (fun _ => ?_))
      | exact ih0 _ _ _
      | exact ih1 _ _ _
      | exact impl_DecodeUpdate.mono _ _
      | exact impl_EncodeUpdate.mono _ _ _
      | exact spec_EncodeUpdate.mono _ _ _
      | exact spec_UpdatesOf.mono _ _
      | exact LeO.none _
      | refine LeO.ite ?_ ?_
      | refine LeO.bind ?_ (fun _ => ?_)
    · intro y0 y1 y2
      unfold laws_FnUpdates.l0
      repeat' first
      | (with_reducible exact ih0 _ _ _)
      | (with_reducible exact ih1 _ _ _)
      | (with_reducible exact impl_DecodeUpdate.mono _ _)
      | (with_reducible exact impl_EncodeUpdate.mono _ _ _)
      | (with_reducible exact spec_EncodeUpdate.mono _ _ _)
      | (with_reducible exact spec_UpdatesOf.mono _ _)
      | (with_reducible exact LeO.refl _)
      | (with_reducible exact LeO.none _)
      | (with_reducible refine LeO.ite ?_ ?_)
      | (with_reducible refine LeO.bind ?_ (fun _ => ?_))
      | exact ih0 _ _ _
      | exact ih1 _ _ _
      | exact impl_DecodeUpdate.mono _ _
      | exact impl_EncodeUpdate.mono _ _ _
      | exact spec_EncodeUpdate.mono _ _ _
      | exact spec_UpdatesOf.mono _ _
      | exact LeO.none _
      | refine LeO.ite ?_ ?_
      | refine LeO.bind ?_ (fun _ => ?_)
theorem laws_FnUpdates.mono : ∀ a0 a1 k, LeO (laws_FnUpdates.f k a0 a1) (laws_FnUpdates.f (k + 1) a0 a1) := by
  intro a0 a1 k
  obtain ⟨ih0, ih1⟩ := laws_FnUpdates.mono_l k
  unfold laws_FnUpdates.f
  repeat' first
      | (with_reducible exact ih0 _ _ _)
      | (with_reducible exact ih1 _ _ _)
      | (with_reducible exact impl_DecodeUpdate.mono _ _)
      | (with_reducible exact impl_EncodeUpdate.mono _ _ _)
      | (with_reducible exact spec_EncodeUpdate.mono _ _ _)
      | (with_reducible exact spec_UpdatesOf.mono _ _)
      | (with_reducible exact LeO.refl _)
      | (with_reducible exact LeO.none _)
      | (with_reducible refine LeO.ite ?_ ?_)
      | (with_reducible refine LeO.bind ?_ (fun _ => ?_))
      | exact ih0 _ _ _
      | exact ih1 _ _ _
      | exact impl_DecodeUpdate.mono _ _
      | exact impl_EncodeUpdate.mono _ _ _
      | exact spec_EncodeUpdate.mono _ _ _
      | exact spec_UpdatesOf.mono _ _
      | exact LeO.none _
      | refine LeO.ite ?_ ?_
      | refine LeO.bind ?_ (fun _ => ?_)
set_option maxHeartbeats 8000000 in
set_option maxRecDepth 100000 in
theorem laws_FnUpdates.calls (k : Nat) (A0 : Option Addr) (c0 : Nat) (l0 : List Int) (A1 : Option Addr) (c1 : Nat) (l1 : List Int) (r : Bool) (w : World) (hr0 : Kd.C (Kd.int .u8) w A0 l0.length l0) (hc0 : l0.length ≤ c0) (hr1 : Kd.C (Kd.int .u8) w A1 l1.length l1) (hc1 : l1.length ≤ c1) (h : laws_FnUpdates.f k l0 l1 = some r) :
    Calls Try.prog 3 #[.slice A0 l0.length c0, .slice A1 l1.length c1] w fun e w' => e = .returned (.bool r) ∧ Below w.heap.size w w' := by
 have hu28 := Try.underlying28
 have HR0 := zm hr0
 have HC0 := zm hc0
 clear hr0 hc0
 have HR1 := zm hr1
 have HC1 := zm hc1
 clear hr1 hc1
 have HB := zm (Below.refl w.heap.size w)
 have H : (if (l0.length : Int) > 1048576 then (laws_FnUpdates.j0 k l0 l1 true) else (laws_FnUpdates.j0 k l0 l1 (decide ((l1.length : Int) > 1048576)))) = some r := h
 clear h
 have HC3 := zm H
 clear H
 go_enter Try.func3, Try.ntmps3
 go_upto_region 1 with (fail)
 repeat (go_quiet (fail); go_upto_region 1 with (fail))
 go_cut [25] (fun v25 wc => ∃ (kq : Nat) (x25_2 : Bool), v25 = .bool x25_2 ∧ Aside0 (laws_FnUpdates.j0 kq l0 l1 x25_2 = some r) ∧ Aside0 (kq ≤ k) ∧ Aside0 (Below w.heap.size w wc))
 case first =>
  have H := HC3.out
  clear HC3
  by_cases c4 : (l0.length : Int) > 1048576
  ·rw [if_pos c4] at H
   have c4b0 : decide (1048576 < (l0.length : Int)) = true := decide_eq_true c4
   have c4b1 : decide (1048576 < l0.length) = true := decide_eq_true (by omega)
   clear c4
   (first | rw [c4b0] | (simp only [i64_w, i32_w]; rw [c4b0]) | skip)
   have H' := zm H
   clear H
   go_wp2
   repeat (go_quiet (fail); try go_wp2)
   go_meet
   case rel => exact ⟨_, (true), zr, H', ⟨by first | omega | exact Nat.le_refl _⟩, ⟨zg_0 HB.out⟩⟩
  ·rw [if_neg c4] at H
   have c4b0 : decide (1048576 < (l0.length : Int)) = false := decide_eq_false c4
   have c4b1 : decide (1048576 < l0.length) = false := decide_eq_false (by omega)
   clear c4
   (first | rw [c4b0] | (simp only [i64_w, i32_w]; rw [c4b0]) | skip)
   have H' := zm H
   clear H
   go_wp2
   repeat (go_quiet (fail); try go_wp2)
   go_meet
   case rel => exact ⟨_, (decide ((l1.length : Int) > 1048576)), zr, H', ⟨by first | omega | exact Nat.le_refl _⟩, ⟨zg_0 HB.out⟩⟩
 case rest =>
  clear HC3
  try clear c1
  try clear p2
  try clear c3
  try clear c4
  try clear c4b0
  try clear c4b1
  obtain ⟨kq, x25_2, rfl, HA, HJ2, HB⟩ := hcut
  cases kq with
  | zero => exact absurd HA.out (by simp [laws_FnUpdates.j0])
  | succ kj2 =>
   have H := HA.out
   clear HA
   simp only [laws_FnUpdates.j0] at H
   by_cases c5 : x25_2 = true
   ·subst c5
    have H1 : (some true) = some r := by rw [if_pos rfl] at H; exact H
    clear H
    have H := H1
    clear H1
    obtain rfl := Option.some.inj H
    go_wp2
    repeat (go_quiet (fail); try go_wp2)
    go_ret
    exact ⟨by first | rfl | (simp [errW_none, errW_some] <;> rfl) | (simp [*, errW_none, errW_some] <;> rfl), zg_0 HB.out⟩
   ·replace c5 := Bool.eq_false_iff.mpr c5
    subst c5
    have H1 : ((spec_UpdatesOf.f kj2 l0).bind fun t260 => (laws_FnUpdates.l0 kj2 l1 t260 0)) = some r := by rw [if_neg (show ¬ (false = true) by decide)] at H; exact H
    clear H
    have H := H1
    clear H1
    replace H := Option.bind_eq_some_iff.mp H
    obtain ⟨t260, A60, H⟩ := H
    replace H : (laws_FnUpdates.l0 kj2 l1 t260 0) = some r := H
    have A6 := zm A60
    clear A60
    have H' := zm H
    clear H
    go_wp2_with (first | (go_at_call 9; (with_reducible refine (spec_UpdatesOf.calls kj2 _ _ l0 t260 _ ?side1 ?side2 A6.out).mono ?_); (case side1 => repeat (first | exact (Kd.C_below HR0.out HB.out) | (with_reducible refine Kd.C_alloc ?_ _) | (with_reducible refine Kd.C_drewN ?_ _) | (with_reducible refine Kd.C_drew ?_))); (case side2 => exact HC0.out); rintro e w7 ⟨v261, rfl, ho0, hb⟩; have n0_ := zm (Kd.R_lower ho0 (below_size (zg_0 HB.out))); have n1_ := zm (below_step (zg_0 HB.out) hb); clear HB; have Ze := n0_; have HB := n1_; clear n0_ n1_; (try clear hb); (try clear hb2); (try clear hk); (try clear hi); (try clear ho0)))
    repeat (go_quiet (first | (go_at_call 9; (with_reducible refine (spec_UpdatesOf.calls kj2 _ _ l0 t260 _ ?side1 ?side2 A6.out).mono ?_); (case side1 => repeat (first | exact (Kd.C_below HR0.out HB.out) | (with_reducible refine Kd.C_alloc ?_ _) | (with_reducible refine Kd.C_drewN ?_ _) | (with_reducible refine Kd.C_drew ?_))); (case side2 => exact HC0.out); rintro e w7 ⟨v261, rfl, ho0, hb⟩; have n0_ := zm (Kd.R_lower ho0 (below_size (zg_0 HB.out))); have n1_ := zm (below_step (zg_0 HB.out) hb); clear HB; have Ze := n0_; have HB := n1_; clear n0_ n1_; (try clear hb); (try clear hb2); (try clear hk); (try clear hi); (try clear ho0))); try go_wp2_with (first | (go_at_call 9; (with_reducible refine (spec_UpdatesOf.calls kj2 _ _ l0 t260 _ ?side1 ?side2 A6.out).mono ?_); (case side1 => repeat (first | exact (Kd.C_below HR0.out HB.out) | (with_reducible refine Kd.C_alloc ?_ _) | (with_reducible refine Kd.C_drewN ?_ _) | (with_reducible refine Kd.C_drew ?_))); (case side2 => exact HC0.out); rintro e w7 ⟨v261, rfl, ho0, hb⟩; have n0_ := zm (Kd.R_lower ho0 (below_size (zg_0 HB.out))); have n1_ := zm (below_step (zg_0 HB.out) hb); clear HB; have Ze := n0_; have HB := n1_; clear n0_ n1_; (try clear hb); (try clear hb2); (try clear hk); (try clear hi); (try clear ho0))))
    go_loopg [6] kj2 (fun kq v6 w' => ∃ (x6_2 : Int), v6 = .int .i64 x6_2 ∧ Aside0 (laws_FnUpdates.l0 kq l1 t260 x6_2 = some r) ∧ Aside0 (kq ≤ kj2) ∧ Aside0 (Kd.R k28 28 w' w.heap.size (fun _ => True) v261 t260) ∧ Aside0 (Below w.heap.size w w'))
    case atStart => exact ⟨(0), zr, H', ⟨Nat.le_refl _⟩, ⟨by (with_reducible repeat (first | apply Kd.R_alloc | apply Kd.R_drewN | apply Kd.R_drew)); exact Ze.out⟩, ⟨zg_0 HB.out⟩⟩
    case round =>
     clear H'
     try clear c1
     try clear p2
     try clear c3
     try clear c4
     try clear c4b0
     try clear c4b1
     try clear c5
     try clear p2
     obtain ⟨x6_2, rfl, HA, HK2, Za, HB⟩ := hrel
     cases gk with
     | zero => exact absurd HA.out (by simp [laws_FnUpdates.l0])
     | succ k2 =>
      have H := HA.out
      clear HA
      simp only [laws_FnUpdates.l0] at H
      by_cases c8 : x6_2 < (t260.length : Int)
      ·rw [if_pos c8] at H
       have c8b0 : decide (x6_2 < (t260.length : Int)) = true := decide_eq_true c8
       clear c8
       by_cases c9 : 0 ≤ x6_2
       ·rw [if_pos c9] at H
        have c9b0 : decide (0 ≤ x6_2) = true := decide_eq_true c9
        clear c9
        replace H := Option.bind_eq_some_iff.mp H
        obtain ⟨⟨t269, t270⟩, A100, H⟩ := H
        replace H : ((spec_EncodeUpdate.f k2 ((rd_T28 t260 x6_2).f0) ((rd_T28 t260 x6_2).f1)).bind fun bt272 => ((impl_DecodeUpdate.f k2 t269).bind fun bt274 => (if t270 = 0 then (if t269.toList = bt272.1.toList then (if bt274.2.2 = 0 then (if (!(bt274.1 == ((rd_T28 t260 x6_2).f0)) || (!(bt274.2.1.toList == (((rd_T28 t260 x6_2).f1).toList)))) = true then (some false) else (laws_FnUpdates.l0 k2 l1 t260 (wrap64 (x6_2 + 1)))) else (some false)) else (some false)) else (some false)))) = some r := H
        have A10 := zm A100
        clear A100
        replace H := Option.bind_eq_some_iff.mp H
        obtain ⟨⟨t272, t273⟩, A110, H⟩ := H
        replace H : ((impl_DecodeUpdate.f k2 t269).bind fun bt274 => (if t270 = 0 then (if t269.toList = t272.toList then (if bt274.2.2 = 0 then (if (!(bt274.1 == ((rd_T28 t260 x6_2).f0)) || (!(bt274.2.1.toList == (((rd_T28 t260 x6_2).f1).toList)))) = true then (some false) else (laws_FnUpdates.l0 k2 l1 t260 (wrap64 (x6_2 + 1)))) else (some false)) else (some false)) else (some false))) = some r := H
        have A11 := zm A110
        clear A110
        replace H := Option.bind_eq_some_iff.mp H
        obtain ⟨⟨t274, t275, t276⟩, A120, H⟩ := H
        replace H : (if t270 = 0 then (if t269.toList = t272.toList then (if t276 = 0 then (if (!(t274 == ((rd_T28 t260 x6_2).f0)) || (!(t275.toList == (((rd_T28 t260 x6_2).f1).toList)))) = true then (some false) else (laws_FnUpdates.l0 k2 l1 t260 (wrap64 (x6_2 + 1)))) else (some false)) else (some false)) else (some false)) = some r := H
        have A12 := zm A120
        clear A120
        by_cases c13 : t270 = 0
        ·rw [if_pos c13] at H
         have c13b0 : (t270 == 0) = true := beq_iff_eq.mpr c13
         have c13b1 : (t270 != 0) = false := bne_eq_false_iff_eq.mpr c13
         clear c13
         by_cases c14 : t269.toList = t272.toList
         ·rw [if_pos c14] at H
          have c14b0 : (t269.toList == t272.toList) = true := beq_iff_eq.mpr c14
          have c14b1 : (t269.toList != t272.toList) = false := bne_eq_false_iff_eq.mpr c14
          clear c14
          by_cases c15 : t276 = 0
          ·rw [if_pos c15] at H
           have c15b0 : (t276 == 0) = true := beq_iff_eq.mpr c15
           have c15b1 : (t276 != 0) = false := bne_eq_false_iff_eq.mpr c15
           clear c15
           by_cases c16 : (!(t274 == ((rd_T28 t260 x6_2).f0)) || (!(t275.toList == (((rd_T28 t260 x6_2).f1).toList)))) = true
           ·rw [if_pos c16] at H
            have c16b0 : (!(t274 == ((rd_T28 t260 x6_2).f0)) || (!(t275.toList == (((rd_T28 t260 x6_2).f1).toList)))) = true := c16
            clear c16
            obtain rfl := Option.some.inj H
            obtain ⟨Ao17, co17, eo17⟩ := Kd.R_slice Za.out
            subst eo17
            have p268 : 0 ≤ (x6_2 : Int) := of_decide_eq_true (by first | (with_reducible assumption) | assumption)
            have q268 : x6_2 < (t260.length : Int) := of_decide_eq_true (by first | (with_reducible assumption) | assumption)
            obtain ⟨ad268, e268, hx268_0, hx268_1⟩ := at_T28 (Kd.R_reads' Za.out).2.2 x6_2 p268 q268
            cases e268
            replace p268 := eq_true p268
            replace q268 := eq_true q268
            go_wp2_with (first | (go_at_call 10; (with_reducible refine (impl_EncodeUpdate.calls k2 ((rd_T28 t260 x6_2).f0) ((rd_T28 t260 x6_2).f1) t269 t270 _ A10.out).mono ?_); rintro e w18 ⟨rfl, hb⟩; have n0_ := zm (Kd.R_below (zg_1 Za.out) hb); have n1_ := zm (below_step (zg_0 HB.out) hb); clear Za; clear HB; have Za := n0_; have HB := n1_; clear n0_ n1_; (try clear hb); (try clear hb2); (try clear hk); (try clear hi); have p271 : 0 ≤ (x6_2 : Int) := of_decide_eq_true (by first | (with_reducible assumption) | assumption); have q271 : x6_2 < (t260.length : Int) := of_decide_eq_true (by first | (with_reducible assumption) | assumption); obtain ⟨ad271, e271, hx271_0, hx271_1⟩ := at_T28 (Kd.R_reads' Za.out).2.2 x6_2 p271 q271; obtain rfl : ad268 = ad271 := (by injection e271); replace p271 := eq_true p271; replace q271 := eq_true q271) | (go_at_call 11; (with_reducible refine (spec_EncodeUpdate.calls k2 ((rd_T28 t260 x6_2).f0) ((rd_T28 t260 x6_2).f1) t272 t273 _ A11.out).mono ?_); rintro e w19 ⟨rfl, hb⟩; have n0_ := zm (Kd.R_below (zg_1 Za.out) hb); have n1_ := zm (below_step (zg_0 HB.out) hb); clear Za; clear HB; have Za := n0_; have HB := n1_; clear n0_ n1_; (try clear hb); (try clear hb2); (try clear hk); (try clear hi)) | (go_at_call 12; (with_reducible refine (impl_DecodeUpdate.calls k2 t269 t274 t275 t276 _ A12.out).mono ?_); rintro e w20 ⟨rfl, hb⟩; have n0_ := zm (Kd.R_below (zg_1 Za.out) hb); have n1_ := zm (below_step (zg_0 HB.out) hb); clear Za; clear HB; have Za := n0_; have HB := n1_; clear n0_ n1_; (try clear hb); (try clear hb2); (try clear hk); (try clear hi)) | ((with_reducible refine gate_dst (N := 11) rfl ?_); (try (refine gate_guard (by rfl) ?_; dsimp only)); refine box_event ?hg (N := 11) ?hd (cs := #[.int .i64 0, .string (⟨#[]⟩ : ByteArray)]) (t := 28) ?hr ?_; (case hd => rfl); (case hg => rfl); (case hr => first | (go_simp; done) | (go_simp; rfl)); intro gb277 hg w21 hbox hb; have n0_ := zm (Kd.R_below (Kd.R_elderB (zg_1 Za.out) gb277 (Nat.le_of_eq hg.symm)) hb); have n1_ := zm (below_step (zg_0 HB.out) hb); have n2_ := zm (hbox); have n3_ := zm ((by rw [hg]; exact (below_size (zg_0 HB.out)) : w.heap.size ≤ gb277)); have n4_ := zm ((by rw [hg]; exact (below_size (zg_0 HB.out)) : w.heap.size ≤ gb277)); clear Za; clear HB; have Za := n0_; have HB := n1_; have Zb := n2_; have Zd := n3_; have Zc := n4_; clear n0_ n1_ n2_ n3_ n4_; clear hb hbox hg; have hcz22_0 : w21.cell? ⟨gb277, 0, none⟩ = some (.int .i64 0) := (blk_cell Zb.out 0).trans rfl; have hcz22_1 : w21.cell? ⟨gb277, 1, none⟩ = some (.string (⟨#[]⟩ : ByteArray)) := (blk_cell Zb.out 1).trans rfl; have hfz22_0 := blk_frozen Zb.out 0; have hfz22_1 := blk_frozen Zb.out 1; have p278 : 0 ≤ (x6_2 : Int) := of_decide_eq_true (by first | (with_reducible assumption) | assumption); have q278 : x6_2 < (t260.length : Int) := of_decide_eq_true (by first | (with_reducible assumption) | assumption); obtain ⟨ad278, e278, hx278_0, hx278_1⟩ := at_T28 (Kd.R_reads' Za.out).2.2 x6_2 p278 q278; obtain rfl : ad268 = ad278 := (by injection e278); have hn278_0 : ad268.block ≠ gb277 := (by first | exact Kd.own_blk (Kd.R_ne Za.out Zb.out (by decide)) | exact (Za.out.1 _ rfl).2 | exact (Za.out.1 _ rfl).1.2); have hn278_1 : ad268.block ≠ gb277 := (by first | exact Kd.own_blk (Kd.R_ne Za.out Zb.out (by decide)) | exact (Za.out.1 _ rfl).2 | exact (Za.out.1 _ rfl).1.2); replace hx278_0 := (cell_far (p := ⟨gb277, 0, none⟩) (by first | (rw [add_block]; exact hn278_0) | (show (Addr.add _ _).block ≠ _; rw [add_block]; exact hn278_0) | exact hn278_0) (.int .i64 t274)).trans hx278_0; replace hx278_1 := (cell_far (p := ⟨gb277, 0, none⟩) (by first | (rw [add_block]; exact hn278_0) | (show (Addr.add _ _).block ≠ _; rw [add_block]; exact hn278_0) | exact hn278_0) (.int .i64 t274)).trans hx278_1; replace hx278_0 := (cell_far (p := ⟨gb277, 1, none⟩) (by first | (rw [add_block]; exact hn278_1) | (show (Addr.add _ _).block ≠ _; rw [add_block]; exact hn278_1) | exact hn278_1) (.string t275)).trans hx278_0; replace hx278_1 := (cell_far (p := ⟨gb277, 1, none⟩) (by first | (rw [add_block]; exact hn278_1) | (show (Addr.add _ _).block ≠ _; rw [add_block]; exact hn278_1) | exact hn278_1) (.string t275)).trans hx278_1; (try have hy278_0 := fun (n_ : Nat) => (show ((((w21.drewN n_).setCell ⟨gb277, 0, none⟩ (.int .i64 t274)).setCell ⟨gb277, 1, none⟩ (.string t275))).cell? _ = some _ from hx278_0)); (try have hy278_1 := fun (n_ : Nat) => (show ((((w21.drewN n_).setCell ⟨gb277, 0, none⟩ (.int .i64 t274)).setCell ⟨gb277, 1, none⟩ (.string t275))).cell? _ = some _ from hx278_1)); clear hn278_0; clear hn278_1; replace p278 := eq_true p278; replace q278 := eq_true q278))
            repeat (go_quiet (first | (go_at_call 10; (with_reducible refine (impl_EncodeUpdate.calls k2 ((rd_T28 t260 x6_2).f0) ((rd_T28 t260 x6_2).f1) t269 t270 _ A10.out).mono ?_); rintro e w18 ⟨rfl, hb⟩; have n0_ := zm (Kd.R_below (zg_1 Za.out) hb); have n1_ := zm (below_step (zg_0 HB.out) hb); clear Za; clear HB; have Za := n0_; have HB := n1_; clear n0_ n1_; (try clear hb); (try clear hb2); (try clear hk); (try clear hi); have p271 : 0 ≤ (x6_2 : Int) := of_decide_eq_true (by first | (with_reducible assumption) | assumption); have q271 : x6_2 < (t260.length : Int) := of_decide_eq_true (by first | (with_reducible assumption) | assumption); obtain ⟨ad271, e271, hx271_0, hx271_1⟩ := at_T28 (Kd.R_reads' Za.out).2.2 x6_2 p271 q271; obtain rfl : ad268 = ad271 := (by injection e271); replace p271 := eq_true p271; replace q271 := eq_true q271) | (go_at_call 11; (with_reducible refine (spec_EncodeUpdate.calls k2 ((rd_T28 t260 x6_2).f0) ((rd_T28 t260 x6_2).f1) t272 t273 _ A11.out).mono ?_); rintro e w19 ⟨rfl, hb⟩; have n0_ := zm (Kd.R_below (zg_1 Za.out) hb); have n1_ := zm (below_step (zg_0 HB.out) hb); clear Za; clear HB; have Za := n0_; have HB := n1_; clear n0_ n1_; (try clear hb); (try clear hb2); (try clear hk); (try clear hi)) | (go_at_call 12; (with_reducible refine (impl_DecodeUpdate.calls k2 t269 t274 t275 t276 _ A12.out).mono ?_); rintro e w20 ⟨rfl, hb⟩; have n0_ := zm (Kd.R_below (zg_1 Za.out) hb); have n1_ := zm (below_step (zg_0 HB.out) hb); clear Za; clear HB; have Za := n0_; have HB := n1_; clear n0_ n1_; (try clear hb); (try clear hb2); (try clear hk); (try clear hi)) | ((with_reducible refine gate_dst (N := 11) rfl ?_); (try (refine gate_guard (by rfl) ?_; dsimp only)); refine box_event ?hg (N := 11) ?hd (cs := #[.int .i64 0, .string (⟨#[]⟩ : ByteArray)]) (t := 28) ?hr ?_; (case hd => rfl); (case hg => rfl); (case hr => first | (go_simp; done) | (go_simp; rfl)); intro gb277 hg w21 hbox hb; have n0_ := zm (Kd.R_below (Kd.R_elderB (zg_1 Za.out) gb277 (Nat.le_of_eq hg.symm)) hb); have n1_ := zm (below_step (zg_0 HB.out) hb); have n2_ := zm (hbox); have n3_ := zm ((by rw [hg]; exact (below_size (zg_0 HB.out)) : w.heap.size ≤ gb277)); have n4_ := zm ((by rw [hg]; exact (below_size (zg_0 HB.out)) : w.heap.size ≤ gb277)); clear Za; clear HB; have Za := n0_; have HB := n1_; have Zb := n2_; have Zd := n3_; have Zc := n4_; clear n0_ n1_ n2_ n3_ n4_; clear hb hbox hg; have hcz22_0 : w21.cell? ⟨gb277, 0, none⟩ = some (.int .i64 0) := (blk_cell Zb.out 0).trans rfl; have hcz22_1 : w21.cell? ⟨gb277, 1, none⟩ = some (.string (⟨#[]⟩ : ByteArray)) := (blk_cell Zb.out 1).trans rfl; have hfz22_0 := blk_frozen Zb.out 0; have hfz22_1 := blk_frozen Zb.out 1; have p278 : 0 ≤ (x6_2 : Int) := of_decide_eq_true (by first | (with_reducible assumption) | assumption); have q278 : x6_2 < (t260.length : Int) := of_decide_eq_true (by first | (with_reducible assumption) | assumption); obtain ⟨ad278, e278, hx278_0, hx278_1⟩ := at_T28 (Kd.R_reads' Za.out).2.2 x6_2 p278 q278; obtain rfl : ad268 = ad278 := (by injection e278); have hn278_0 : ad268.block ≠ gb277 := (by first | exact Kd.own_blk (Kd.R_ne Za.out Zb.out (by decide)) | exact (Za.out.1 _ rfl).2 | exact (Za.out.1 _ rfl).1.2); have hn278_1 : ad268.block ≠ gb277 := (by first | exact Kd.own_blk (Kd.R_ne Za.out Zb.out (by decide)) | exact (Za.out.1 _ rfl).2 | exact (Za.out.1 _ rfl).1.2); replace hx278_0 := (cell_far (p := ⟨gb277, 0, none⟩) (by first | (rw [add_block]; exact hn278_0) | (show (Addr.add _ _).block ≠ _; rw [add_block]; exact hn278_0) | exact hn278_0) (.int .i64 t274)).trans hx278_0; replace hx278_1 := (cell_far (p := ⟨gb277, 0, none⟩) (by first | (rw [add_block]; exact hn278_0) | (show (Addr.add _ _).block ≠ _; rw [add_block]; exact hn278_0) | exact hn278_0) (.int .i64 t274)).trans hx278_1; replace hx278_0 := (cell_far (p := ⟨gb277, 1, none⟩) (by first | (rw [add_block]; exact hn278_1) | (show (Addr.add _ _).block ≠ _; rw [add_block]; exact hn278_1) | exact hn278_1) (.string t275)).trans hx278_0; replace hx278_1 := (cell_far (p := ⟨gb277, 1, none⟩) (by first | (rw [add_block]; exact hn278_1) | (show (Addr.add _ _).block ≠ _; rw [add_block]; exact hn278_1) | exact hn278_1) (.string t275)).trans hx278_1; (try have hy278_0 := fun (n_ : Nat) => (show ((((w21.drewN n_).setCell ⟨gb277, 0, none⟩ (.int .i64 t274)).setCell ⟨gb277, 1, none⟩ (.string t275))).cell? _ = some _ from hx278_0)); (try have hy278_1 := fun (n_ : Nat) => (show ((((w21.drewN n_).setCell ⟨gb277, 0, none⟩ (.int .i64 t274)).setCell ⟨gb277, 1, none⟩ (.string t275))).cell? _ = some _ from hx278_1)); clear hn278_0; clear hn278_1; replace p278 := eq_true p278; replace q278 := eq_true q278)); try go_wp2_with (first | (go_at_call 10; (with_reducible refine (impl_EncodeUpdate.calls k2 ((rd_T28 t260 x6_2).f0) ((rd_T28 t260 x6_2).f1) t269 t270 _ A10.out).mono ?_); rintro e w18 ⟨rfl, hb⟩; have n0_ := zm (Kd.R_below (zg_1 Za.out) hb); have n1_ := zm (below_step (zg_0 HB.out) hb); clear Za; clear HB; have Za := n0_; have HB := n1_; clear n0_ n1_; (try clear hb); (try clear hb2); (try clear hk); (try clear hi); have p271 : 0 ≤ (x6_2 : Int) := of_decide_eq_true (by first | (with_reducible assumption) | assumption); have q271 : x6_2 < (t260.length : Int) := of_decide_eq_true (by first | (with_reducible assumption) | assumption); obtain ⟨ad271, e271, hx271_0, hx271_1⟩ := at_T28 (Kd.R_reads' Za.out).2.2 x6_2 p271 q271; obtain rfl : ad268 = ad271 := (by injection e271); replace p271 := eq_true p271; replace q271 := eq_true q271) | (go_at_call 11; (with_reducible refine (spec_EncodeUpdate.calls k2 ((rd_T28 t260 x6_2).f0) ((rd_T28 t260 x6_2).f1) t272 t273 _ A11.out).mono ?_); rintro e w19 ⟨rfl, hb⟩; have n0_ := zm (Kd.R_below (zg_1 Za.out) hb); have n1_ := zm (below_step (zg_0 HB.out) hb); clear Za; clear HB; have Za := n0_; have HB := n1_; clear n0_ n1_; (try clear hb); (try clear hb2); (try clear hk); (try clear hi)) | (go_at_call 12; (with_reducible refine (impl_DecodeUpdate.calls k2 t269 t274 t275 t276 _ A12.out).mono ?_); rintro e w20 ⟨rfl, hb⟩; have n0_ := zm (Kd.R_below (zg_1 Za.out) hb); have n1_ := zm (below_step (zg_0 HB.out) hb); clear Za; clear HB; have Za := n0_; have HB := n1_; clear n0_ n1_; (try clear hb); (try clear hb2); (try clear hk); (try clear hi)) | ((with_reducible refine gate_dst (N := 11) rfl ?_); (try (refine gate_guard (by rfl) ?_; dsimp only)); refine box_event ?hg (N := 11) ?hd (cs := #[.int .i64 0, .string (⟨#[]⟩ : ByteArray)]) (t := 28) ?hr ?_; (case hd => rfl); (case hg => rfl); (case hr => first | (go_simp; done) | (go_simp; rfl)); intro gb277 hg w21 hbox hb; have n0_ := zm (Kd.R_below (Kd.R_elderB (zg_1 Za.out) gb277 (Nat.le_of_eq hg.symm)) hb); have n1_ := zm (below_step (zg_0 HB.out) hb); have n2_ := zm (hbox); have n3_ := zm ((by rw [hg]; exact (below_size (zg_0 HB.out)) : w.heap.size ≤ gb277)); have n4_ := zm ((by rw [hg]; exact (below_size (zg_0 HB.out)) : w.heap.size ≤ gb277)); clear Za; clear HB; have Za := n0_; have HB := n1_; have Zb := n2_; have Zd := n3_; have Zc := n4_; clear n0_ n1_ n2_ n3_ n4_; clear hb hbox hg; have hcz22_0 : w21.cell? ⟨gb277, 0, none⟩ = some (.int .i64 0) := (blk_cell Zb.out 0).trans rfl; have hcz22_1 : w21.cell? ⟨gb277, 1, none⟩ = some (.string (⟨#[]⟩ : ByteArray)) := (blk_cell Zb.out 1).trans rfl; have hfz22_0 := blk_frozen Zb.out 0; have hfz22_1 := blk_frozen Zb.out 1; have p278 : 0 ≤ (x6_2 : Int) := of_decide_eq_true (by first | (with_reducible assumption) | assumption); have q278 : x6_2 < (t260.length : Int) := of_decide_eq_true (by first | (with_reducible assumption) | assumption); obtain ⟨ad278, e278, hx278_0, hx278_1⟩ := at_T28 (Kd.R_reads' Za.out).2.2 x6_2 p278 q278; obtain rfl : ad268 = ad278 := (by injection e278); have hn278_0 : ad268.block ≠ gb277 := (by first | exact Kd.own_blk (Kd.R_ne Za.out Zb.out (by decide)) | exact (Za.out.1 _ rfl).2 | exact (Za.out.1 _ rfl).1.2); have hn278_1 : ad268.block ≠ gb277 := (by first | exact Kd.own_blk (Kd.R_ne Za.out Zb.out (by decide)) | exact (Za.out.1 _ rfl).2 | exact (Za.out.1 _ rfl).1.2); replace hx278_0 := (cell_far (p := ⟨gb277, 0, none⟩) (by first | (rw [add_block]; exact hn278_0) | (show (Addr.add _ _).block ≠ _; rw [add_block]; exact hn278_0) | exact hn278_0) (.int .i64 t274)).trans hx278_0; replace hx278_1 := (cell_far (p := ⟨gb277, 0, none⟩) (by first | (rw [add_block]; exact hn278_0) | (show (Addr.add _ _).block ≠ _; rw [add_block]; exact hn278_0) | exact hn278_0) (.int .i64 t274)).trans hx278_1; replace hx278_0 := (cell_far (p := ⟨gb277, 1, none⟩) (by first | (rw [add_block]; exact hn278_1) | (show (Addr.add _ _).block ≠ _; rw [add_block]; exact hn278_1) | exact hn278_1) (.string t275)).trans hx278_0; replace hx278_1 := (cell_far (p := ⟨gb277, 1, none⟩) (by first | (rw [add_block]; exact hn278_1) | (show (Addr.add _ _).block ≠ _; rw [add_block]; exact hn278_1) | exact hn278_1) (.string t275)).trans hx278_1; (try have hy278_0 := fun (n_ : Nat) => (show ((((w21.drewN n_).setCell ⟨gb277, 0, none⟩ (.int .i64 t274)).setCell ⟨gb277, 1, none⟩ (.string t275))).cell? _ = some _ from hx278_0)); (try have hy278_1 := fun (n_ : Nat) => (show ((((w21.drewN n_).setCell ⟨gb277, 0, none⟩ (.int .i64 t274)).setCell ⟨gb277, 1, none⟩ (.string t275))).cell? _ = some _ from hx278_1)); clear hn278_0; clear hn278_1; replace p278 := eq_true p278; replace q278 := eq_true q278)))
            go_ret
            exact ⟨by first | rfl | (simp [errW_none, errW_some] <;> rfl) | (simp [*, errW_none, errW_some] <;> rfl), zg_2 HB.out Zc.out⟩
           ·rw [if_neg c16] at H
            have c16b0 : (!(t274 == ((rd_T28 t260 x6_2).f0)) || (!(t275.toList == (((rd_T28 t260 x6_2).f1).toList)))) = false := by simpa using c16
            clear c16
            have H' := zm H
            clear H
            obtain ⟨Ao23, co23, eo23⟩ := Kd.R_slice Za.out
            subst eo23
            have p268 : 0 ≤ (x6_2 : Int) := of_decide_eq_true (by first | (with_reducible assumption) | assumption)
            have q268 : x6_2 < (t260.length : Int) := of_decide_eq_true (by first | (with_reducible assumption) | assumption)
            obtain ⟨ad268, e268, hx268_0, hx268_1⟩ := at_T28 (Kd.R_reads' Za.out).2.2 x6_2 p268 q268
            cases e268
            replace p268 := eq_true p268
            replace q268 := eq_true q268
            go_wp2_with (first | (go_at_call 10; (with_reducible refine (impl_EncodeUpdate.calls k2 ((rd_T28 t260 x6_2).f0) ((rd_T28 t260 x6_2).f1) t269 t270 _ A10.out).mono ?_); rintro e w24 ⟨rfl, hb⟩; have n0_ := zm (Kd.R_below (zg_1 Za.out) hb); have n1_ := zm (below_step (zg_0 HB.out) hb); clear Za; clear HB; have Za := n0_; have HB := n1_; clear n0_ n1_; (try clear hb); (try clear hb2); (try clear hk); (try clear hi); have p271 : 0 ≤ (x6_2 : Int) := of_decide_eq_true (by first | (with_reducible assumption) | assumption); have q271 : x6_2 < (t260.length : Int) := of_decide_eq_true (by first | (with_reducible assumption) | assumption); obtain ⟨ad271, e271, hx271_0, hx271_1⟩ := at_T28 (Kd.R_reads' Za.out).2.2 x6_2 p271 q271; obtain rfl : ad268 = ad271 := (by injection e271); replace p271 := eq_true p271; replace q271 := eq_true q271) | (go_at_call 11; (with_reducible refine (spec_EncodeUpdate.calls k2 ((rd_T28 t260 x6_2).f0) ((rd_T28 t260 x6_2).f1) t272 t273 _ A11.out).mono ?_); rintro e w25 ⟨rfl, hb⟩; have n0_ := zm (Kd.R_below (zg_1 Za.out) hb); have n1_ := zm (below_step (zg_0 HB.out) hb); clear Za; clear HB; have Za := n0_; have HB := n1_; clear n0_ n1_; (try clear hb); (try clear hb2); (try clear hk); (try clear hi)) | (go_at_call 12; (with_reducible refine (impl_DecodeUpdate.calls k2 t269 t274 t275 t276 _ A12.out).mono ?_); rintro e w26 ⟨rfl, hb⟩; have n0_ := zm (Kd.R_below (zg_1 Za.out) hb); have n1_ := zm (below_step (zg_0 HB.out) hb); clear Za; clear HB; have Za := n0_; have HB := n1_; clear n0_ n1_; (try clear hb); (try clear hb2); (try clear hk); (try clear hi)) | ((with_reducible refine gate_dst (N := 11) rfl ?_); (try (refine gate_guard (by rfl) ?_; dsimp only)); refine box_event ?hg (N := 11) ?hd (cs := #[.int .i64 0, .string (⟨#[]⟩ : ByteArray)]) (t := 28) ?hr ?_; (case hd => rfl); (case hg => rfl); (case hr => first | (go_simp; done) | (go_simp; rfl)); intro gb277 hg w27 hbox hb; have n0_ := zm (Kd.R_below (Kd.R_elderB (zg_1 Za.out) gb277 (Nat.le_of_eq hg.symm)) hb); have n1_ := zm (below_step (zg_0 HB.out) hb); have n2_ := zm (hbox); have n3_ := zm ((by rw [hg]; exact (below_size (zg_0 HB.out)) : w.heap.size ≤ gb277)); have n4_ := zm ((by rw [hg]; exact (below_size (zg_0 HB.out)) : w.heap.size ≤ gb277)); clear Za; clear HB; have Za := n0_; have HB := n1_; have Zb := n2_; have Zd := n3_; have Zc := n4_; clear n0_ n1_ n2_ n3_ n4_; clear hb hbox hg; have hcz28_0 : w27.cell? ⟨gb277, 0, none⟩ = some (.int .i64 0) := (blk_cell Zb.out 0).trans rfl; have hcz28_1 : w27.cell? ⟨gb277, 1, none⟩ = some (.string (⟨#[]⟩ : ByteArray)) := (blk_cell Zb.out 1).trans rfl; have hfz28_0 := blk_frozen Zb.out 0; have hfz28_1 := blk_frozen Zb.out 1; have p278 : 0 ≤ (x6_2 : Int) := of_decide_eq_true (by first | (with_reducible assumption) | assumption); have q278 : x6_2 < (t260.length : Int) := of_decide_eq_true (by first | (with_reducible assumption) | assumption); obtain ⟨ad278, e278, hx278_0, hx278_1⟩ := at_T28 (Kd.R_reads' Za.out).2.2 x6_2 p278 q278; obtain rfl : ad268 = ad278 := (by injection e278); have hn278_0 : ad268.block ≠ gb277 := (by first | exact Kd.own_blk (Kd.R_ne Za.out Zb.out (by decide)) | exact (Za.out.1 _ rfl).2 | exact (Za.out.1 _ rfl).1.2); have hn278_1 : ad268.block ≠ gb277 := (by first | exact Kd.own_blk (Kd.R_ne Za.out Zb.out (by decide)) | exact (Za.out.1 _ rfl).2 | exact (Za.out.1 _ rfl).1.2); replace hx278_0 := (cell_far (p := ⟨gb277, 0, none⟩) (by first | (rw [add_block]; exact hn278_0) | (show (Addr.add _ _).block ≠ _; rw [add_block]; exact hn278_0) | exact hn278_0) (.int .i64 t274)).trans hx278_0; replace hx278_1 := (cell_far (p := ⟨gb277, 0, none⟩) (by first | (rw [add_block]; exact hn278_0) | (show (Addr.add _ _).block ≠ _; rw [add_block]; exact hn278_0) | exact hn278_0) (.int .i64 t274)).trans hx278_1; replace hx278_0 := (cell_far (p := ⟨gb277, 1, none⟩) (by first | (rw [add_block]; exact hn278_1) | (show (Addr.add _ _).block ≠ _; rw [add_block]; exact hn278_1) | exact hn278_1) (.string t275)).trans hx278_0; replace hx278_1 := (cell_far (p := ⟨gb277, 1, none⟩) (by first | (rw [add_block]; exact hn278_1) | (show (Addr.add _ _).block ≠ _; rw [add_block]; exact hn278_1) | exact hn278_1) (.string t275)).trans hx278_1; (try have hy278_0 := fun (n_ : Nat) => (show ((((w27.drewN n_).setCell ⟨gb277, 0, none⟩ (.int .i64 t274)).setCell ⟨gb277, 1, none⟩ (.string t275))).cell? _ = some _ from hx278_0)); (try have hy278_1 := fun (n_ : Nat) => (show ((((w27.drewN n_).setCell ⟨gb277, 0, none⟩ (.int .i64 t274)).setCell ⟨gb277, 1, none⟩ (.string t275))).cell? _ = some _ from hx278_1)); clear hn278_0; clear hn278_1; replace p278 := eq_true p278; replace q278 := eq_true q278))
            repeat (go_quiet (first | (go_at_call 10; (with_reducible refine (impl_EncodeUpdate.calls k2 ((rd_T28 t260 x6_2).f0) ((rd_T28 t260 x6_2).f1) t269 t270 _ A10.out).mono ?_); rintro e w24 ⟨rfl, hb⟩; have n0_ := zm (Kd.R_below (zg_1 Za.out) hb); have n1_ := zm (below_step (zg_0 HB.out) hb); clear Za; clear HB; have Za := n0_; have HB := n1_; clear n0_ n1_; (try clear hb); (try clear hb2); (try clear hk); (try clear hi); have p271 : 0 ≤ (x6_2 : Int) := of_decide_eq_true (by first | (with_reducible assumption) | assumption); have q271 : x6_2 < (t260.length : Int) := of_decide_eq_true (by first | (with_reducible assumption) | assumption); obtain ⟨ad271, e271, hx271_0, hx271_1⟩ := at_T28 (Kd.R_reads' Za.out).2.2 x6_2 p271 q271; obtain rfl : ad268 = ad271 := (by injection e271); replace p271 := eq_true p271; replace q271 := eq_true q271) | (go_at_call 11; (with_reducible refine (spec_EncodeUpdate.calls k2 ((rd_T28 t260 x6_2).f0) ((rd_T28 t260 x6_2).f1) t272 t273 _ A11.out).mono ?_); rintro e w25 ⟨rfl, hb⟩; have n0_ := zm (Kd.R_below (zg_1 Za.out) hb); have n1_ := zm (below_step (zg_0 HB.out) hb); clear Za; clear HB; have Za := n0_; have HB := n1_; clear n0_ n1_; (try clear hb); (try clear hb2); (try clear hk); (try clear hi)) | (go_at_call 12; (with_reducible refine (impl_DecodeUpdate.calls k2 t269 t274 t275 t276 _ A12.out).mono ?_); rintro e w26 ⟨rfl, hb⟩; have n0_ := zm (Kd.R_below (zg_1 Za.out) hb); have n1_ := zm (below_step (zg_0 HB.out) hb); clear Za; clear HB; have Za := n0_; have HB := n1_; clear n0_ n1_; (try clear hb); (try clear hb2); (try clear hk); (try clear hi)) | ((with_reducible refine gate_dst (N := 11) rfl ?_); (try (refine gate_guard (by rfl) ?_; dsimp only)); refine box_event ?hg (N := 11) ?hd (cs := #[.int .i64 0, .string (⟨#[]⟩ : ByteArray)]) (t := 28) ?hr ?_; (case hd => rfl); (case hg => rfl); (case hr => first | (go_simp; done) | (go_simp; rfl)); intro gb277 hg w27 hbox hb; have n0_ := zm (Kd.R_below (Kd.R_elderB (zg_1 Za.out) gb277 (Nat.le_of_eq hg.symm)) hb); have n1_ := zm (below_step (zg_0 HB.out) hb); have n2_ := zm (hbox); have n3_ := zm ((by rw [hg]; exact (below_size (zg_0 HB.out)) : w.heap.size ≤ gb277)); have n4_ := zm ((by rw [hg]; exact (below_size (zg_0 HB.out)) : w.heap.size ≤ gb277)); clear Za; clear HB; have Za := n0_; have HB := n1_; have Zb := n2_; have Zd := n3_; have Zc := n4_; clear n0_ n1_ n2_ n3_ n4_; clear hb hbox hg; have hcz28_0 : w27.cell? ⟨gb277, 0, none⟩ = some (.int .i64 0) := (blk_cell Zb.out 0).trans rfl; have hcz28_1 : w27.cell? ⟨gb277, 1, none⟩ = some (.string (⟨#[]⟩ : ByteArray)) := (blk_cell Zb.out 1).trans rfl; have hfz28_0 := blk_frozen Zb.out 0; have hfz28_1 := blk_frozen Zb.out 1; have p278 : 0 ≤ (x6_2 : Int) := of_decide_eq_true (by first | (with_reducible assumption) | assumption); have q278 : x6_2 < (t260.length : Int) := of_decide_eq_true (by first | (with_reducible assumption) | assumption); obtain ⟨ad278, e278, hx278_0, hx278_1⟩ := at_T28 (Kd.R_reads' Za.out).2.2 x6_2 p278 q278; obtain rfl : ad268 = ad278 := (by injection e278); have hn278_0 : ad268.block ≠ gb277 := (by first | exact Kd.own_blk (Kd.R_ne Za.out Zb.out (by decide)) | exact (Za.out.1 _ rfl).2 | exact (Za.out.1 _ rfl).1.2); have hn278_1 : ad268.block ≠ gb277 := (by first | exact Kd.own_blk (Kd.R_ne Za.out Zb.out (by decide)) | exact (Za.out.1 _ rfl).2 | exact (Za.out.1 _ rfl).1.2); replace hx278_0 := (cell_far (p := ⟨gb277, 0, none⟩) (by first | (rw [add_block]; exact hn278_0) | (show (Addr.add _ _).block ≠ _; rw [add_block]; exact hn278_0) | exact hn278_0) (.int .i64 t274)).trans hx278_0; replace hx278_1 := (cell_far (p := ⟨gb277, 0, none⟩) (by first | (rw [add_block]; exact hn278_0) | (show (Addr.add _ _).block ≠ _; rw [add_block]; exact hn278_0) | exact hn278_0) (.int .i64 t274)).trans hx278_1; replace hx278_0 := (cell_far (p := ⟨gb277, 1, none⟩) (by first | (rw [add_block]; exact hn278_1) | (show (Addr.add _ _).block ≠ _; rw [add_block]; exact hn278_1) | exact hn278_1) (.string t275)).trans hx278_0; replace hx278_1 := (cell_far (p := ⟨gb277, 1, none⟩) (by first | (rw [add_block]; exact hn278_1) | (show (Addr.add _ _).block ≠ _; rw [add_block]; exact hn278_1) | exact hn278_1) (.string t275)).trans hx278_1; (try have hy278_0 := fun (n_ : Nat) => (show ((((w27.drewN n_).setCell ⟨gb277, 0, none⟩ (.int .i64 t274)).setCell ⟨gb277, 1, none⟩ (.string t275))).cell? _ = some _ from hx278_0)); (try have hy278_1 := fun (n_ : Nat) => (show ((((w27.drewN n_).setCell ⟨gb277, 0, none⟩ (.int .i64 t274)).setCell ⟨gb277, 1, none⟩ (.string t275))).cell? _ = some _ from hx278_1)); clear hn278_0; clear hn278_1; replace p278 := eq_true p278; replace q278 := eq_true q278)); try go_wp2_with (first | (go_at_call 10; (with_reducible refine (impl_EncodeUpdate.calls k2 ((rd_T28 t260 x6_2).f0) ((rd_T28 t260 x6_2).f1) t269 t270 _ A10.out).mono ?_); rintro e w24 ⟨rfl, hb⟩; have n0_ := zm (Kd.R_below (zg_1 Za.out) hb); have n1_ := zm (below_step (zg_0 HB.out) hb); clear Za; clear HB; have Za := n0_; have HB := n1_; clear n0_ n1_; (try clear hb); (try clear hb2); (try clear hk); (try clear hi); have p271 : 0 ≤ (x6_2 : Int) := of_decide_eq_true (by first | (with_reducible assumption) | assumption); have q271 : x6_2 < (t260.length : Int) := of_decide_eq_true (by first | (with_reducible assumption) | assumption); obtain ⟨ad271, e271, hx271_0, hx271_1⟩ := at_T28 (Kd.R_reads' Za.out).2.2 x6_2 p271 q271; obtain rfl : ad268 = ad271 := (by injection e271); replace p271 := eq_true p271; replace q271 := eq_true q271) | (go_at_call 11; (with_reducible refine (spec_EncodeUpdate.calls k2 ((rd_T28 t260 x6_2).f0) ((rd_T28 t260 x6_2).f1) t272 t273 _ A11.out).mono ?_); rintro e w25 ⟨rfl, hb⟩; have n0_ := zm (Kd.R_below (zg_1 Za.out) hb); have n1_ := zm (below_step (zg_0 HB.out) hb); clear Za; clear HB; have Za := n0_; have HB := n1_; clear n0_ n1_; (try clear hb); (try clear hb2); (try clear hk); (try clear hi)) | (go_at_call 12; (with_reducible refine (impl_DecodeUpdate.calls k2 t269 t274 t275 t276 _ A12.out).mono ?_); rintro e w26 ⟨rfl, hb⟩; have n0_ := zm (Kd.R_below (zg_1 Za.out) hb); have n1_ := zm (below_step (zg_0 HB.out) hb); clear Za; clear HB; have Za := n0_; have HB := n1_; clear n0_ n1_; (try clear hb); (try clear hb2); (try clear hk); (try clear hi)) | ((with_reducible refine gate_dst (N := 11) rfl ?_); (try (refine gate_guard (by rfl) ?_; dsimp only)); refine box_event ?hg (N := 11) ?hd (cs := #[.int .i64 0, .string (⟨#[]⟩ : ByteArray)]) (t := 28) ?hr ?_; (case hd => rfl); (case hg => rfl); (case hr => first | (go_simp; done) | (go_simp; rfl)); intro gb277 hg w27 hbox hb; have n0_ := zm (Kd.R_below (Kd.R_elderB (zg_1 Za.out) gb277 (Nat.le_of_eq hg.symm)) hb); have n1_ := zm (below_step (zg_0 HB.out) hb); have n2_ := zm (hbox); have n3_ := zm ((by rw [hg]; exact (below_size (zg_0 HB.out)) : w.heap.size ≤ gb277)); have n4_ := zm ((by rw [hg]; exact (below_size (zg_0 HB.out)) : w.heap.size ≤ gb277)); clear Za; clear HB; have Za := n0_; have HB := n1_; have Zb := n2_; have Zd := n3_; have Zc := n4_; clear n0_ n1_ n2_ n3_ n4_; clear hb hbox hg; have hcz28_0 : w27.cell? ⟨gb277, 0, none⟩ = some (.int .i64 0) := (blk_cell Zb.out 0).trans rfl; have hcz28_1 : w27.cell? ⟨gb277, 1, none⟩ = some (.string (⟨#[]⟩ : ByteArray)) := (blk_cell Zb.out 1).trans rfl; have hfz28_0 := blk_frozen Zb.out 0; have hfz28_1 := blk_frozen Zb.out 1; have p278 : 0 ≤ (x6_2 : Int) := of_decide_eq_true (by first | (with_reducible assumption) | assumption); have q278 : x6_2 < (t260.length : Int) := of_decide_eq_true (by first | (with_reducible assumption) | assumption); obtain ⟨ad278, e278, hx278_0, hx278_1⟩ := at_T28 (Kd.R_reads' Za.out).2.2 x6_2 p278 q278; obtain rfl : ad268 = ad278 := (by injection e278); have hn278_0 : ad268.block ≠ gb277 := (by first | exact Kd.own_blk (Kd.R_ne Za.out Zb.out (by decide)) | exact (Za.out.1 _ rfl).2 | exact (Za.out.1 _ rfl).1.2); have hn278_1 : ad268.block ≠ gb277 := (by first | exact Kd.own_blk (Kd.R_ne Za.out Zb.out (by decide)) | exact (Za.out.1 _ rfl).2 | exact (Za.out.1 _ rfl).1.2); replace hx278_0 := (cell_far (p := ⟨gb277, 0, none⟩) (by first | (rw [add_block]; exact hn278_0) | (show (Addr.add _ _).block ≠ _; rw [add_block]; exact hn278_0) | exact hn278_0) (.int .i64 t274)).trans hx278_0; replace hx278_1 := (cell_far (p := ⟨gb277, 0, none⟩) (by first | (rw [add_block]; exact hn278_0) | (show (Addr.add _ _).block ≠ _; rw [add_block]; exact hn278_0) | exact hn278_0) (.int .i64 t274)).trans hx278_1; replace hx278_0 := (cell_far (p := ⟨gb277, 1, none⟩) (by first | (rw [add_block]; exact hn278_1) | (show (Addr.add _ _).block ≠ _; rw [add_block]; exact hn278_1) | exact hn278_1) (.string t275)).trans hx278_0; replace hx278_1 := (cell_far (p := ⟨gb277, 1, none⟩) (by first | (rw [add_block]; exact hn278_1) | (show (Addr.add _ _).block ≠ _; rw [add_block]; exact hn278_1) | exact hn278_1) (.string t275)).trans hx278_1; (try have hy278_0 := fun (n_ : Nat) => (show ((((w27.drewN n_).setCell ⟨gb277, 0, none⟩ (.int .i64 t274)).setCell ⟨gb277, 1, none⟩ (.string t275))).cell? _ = some _ from hx278_0)); (try have hy278_1 := fun (n_ : Nat) => (show ((((w27.drewN n_).setCell ⟨gb277, 0, none⟩ (.int .i64 t274)).setCell ⟨gb277, 1, none⟩ (.string t275))).cell? _ = some _ from hx278_1)); clear hn278_0; clear hn278_1; replace p278 := eq_true p278; replace q278 := eq_true q278)))
            go_roundg k2
            case measure => have := HJ2.out; have := HK2.out; omega
            case rel => exact ⟨(wrap64 (x6_2 + 1)), zr, H', ⟨by have := HJ2.out; have := HK2.out; omega⟩, ⟨by (with_reducible repeat (first | apply Kd.R_alloc | apply Kd.R_drewN | apply Kd.R_drew)); exact Kd.R_mono (Kd.R_far (p := ⟨gb277, 1, none⟩) (Kd.R_far (p := ⟨gb277, 0, none⟩) (Kd.R_mono Za.out (fun k_ hk => (⟨hk, hk.2⟩ : _ ∧ k_ ≠ gb277))) (fun _ hk => hk.2) (.int .i64 t274)) (fun _ hk => hk.2) (.string t275)) (fun _ hk => trivial)⟩, ⟨zg_2 HB.out Zc.out⟩⟩
          ·rw [if_neg c15] at H
           have c15b0 : (t276 == 0) = false := beq_eq_false_iff_ne.mpr c15
           have c15b1 : (t276 != 0) = true := bne_iff_ne.mpr c15
           obtain rfl := Option.some.inj H
           obtain ⟨Ao29, co29, eo29⟩ := Kd.R_slice Za.out
           subst eo29
           have p268 : 0 ≤ (x6_2 : Int) := of_decide_eq_true (by first | (with_reducible assumption) | assumption)
           have q268 : x6_2 < (t260.length : Int) := of_decide_eq_true (by first | (with_reducible assumption) | assumption)
           obtain ⟨ad268, e268, hx268_0, hx268_1⟩ := at_T28 (Kd.R_reads' Za.out).2.2 x6_2 p268 q268
           cases e268
           replace p268 := eq_true p268
           replace q268 := eq_true q268
           go_wp2_with (first | (go_at_call 10; (with_reducible refine (impl_EncodeUpdate.calls k2 ((rd_T28 t260 x6_2).f0) ((rd_T28 t260 x6_2).f1) t269 t270 _ A10.out).mono ?_); rintro e w30 ⟨rfl, hb⟩; have n0_ := zm (Kd.R_below (zg_1 Za.out) hb); have n1_ := zm (below_step (zg_0 HB.out) hb); clear Za; clear HB; have Za := n0_; have HB := n1_; clear n0_ n1_; (try clear hb); (try clear hb2); (try clear hk); (try clear hi); have p271 : 0 ≤ (x6_2 : Int) := of_decide_eq_true (by first | (with_reducible assumption) | assumption); have q271 : x6_2 < (t260.length : Int) := of_decide_eq_true (by first | (with_reducible assumption) | assumption); obtain ⟨ad271, e271, hx271_0, hx271_1⟩ := at_T28 (Kd.R_reads' Za.out).2.2 x6_2 p271 q271; obtain rfl : ad268 = ad271 := (by injection e271); replace p271 := eq_true p271; replace q271 := eq_true q271) | (go_at_call 11; (with_reducible refine (spec_EncodeUpdate.calls k2 ((rd_T28 t260 x6_2).f0) ((rd_T28 t260 x6_2).f1) t272 t273 _ A11.out).mono ?_); rintro e w31 ⟨rfl, hb⟩; have n0_ := zm (Kd.R_below (zg_1 Za.out) hb); have n1_ := zm (below_step (zg_0 HB.out) hb); clear Za; clear HB; have Za := n0_; have HB := n1_; clear n0_ n1_; (try clear hb); (try clear hb2); (try clear hk); (try clear hi)) | (go_at_call 12; (with_reducible refine (impl_DecodeUpdate.calls k2 t269 t274 t275 t276 _ A12.out).mono ?_); rintro e w32 ⟨rfl, hb⟩; have n0_ := zm (Kd.R_below (zg_1 Za.out) hb); have n1_ := zm (below_step (zg_0 HB.out) hb); clear Za; clear HB; have Za := n0_; have HB := n1_; clear n0_ n1_; (try clear hb); (try clear hb2); (try clear hk); (try clear hi)) | ((with_reducible refine gate_dst (N := 11) rfl ?_); (try (refine gate_guard (by rfl) ?_; dsimp only)); refine box_event ?hg (N := 11) ?hd (cs := #[.int .i64 0, .string (⟨#[]⟩ : ByteArray)]) (t := 28) ?hr ?_; (case hd => rfl); (case hg => rfl); (case hr => first | (go_simp; done) | (go_simp; rfl)); intro gb277 hg w33 hbox hb; have n0_ := zm (Kd.R_below (Kd.R_elderB (zg_1 Za.out) gb277 (Nat.le_of_eq hg.symm)) hb); have n1_ := zm (below_step (zg_0 HB.out) hb); have n2_ := zm (hbox); have n3_ := zm ((by rw [hg]; exact (below_size (zg_0 HB.out)) : w.heap.size ≤ gb277)); have n4_ := zm ((by rw [hg]; exact (below_size (zg_0 HB.out)) : w.heap.size ≤ gb277)); clear Za; clear HB; have Za := n0_; have HB := n1_; have Zb := n2_; have Zd := n3_; have Zc := n4_; clear n0_ n1_ n2_ n3_ n4_; clear hb hbox hg; have hcz34_0 : w33.cell? ⟨gb277, 0, none⟩ = some (.int .i64 0) := (blk_cell Zb.out 0).trans rfl; have hcz34_1 : w33.cell? ⟨gb277, 1, none⟩ = some (.string (⟨#[]⟩ : ByteArray)) := (blk_cell Zb.out 1).trans rfl; have hfz34_0 := blk_frozen Zb.out 0; have hfz34_1 := blk_frozen Zb.out 1))
           repeat (go_quiet (first | (go_at_call 10; (with_reducible refine (impl_EncodeUpdate.calls k2 ((rd_T28 t260 x6_2).f0) ((rd_T28 t260 x6_2).f1) t269 t270 _ A10.out).mono ?_); rintro e w30 ⟨rfl, hb⟩; have n0_ := zm (Kd.R_below (zg_1 Za.out) hb); have n1_ := zm (below_step (zg_0 HB.out) hb); clear Za; clear HB; have Za := n0_; have HB := n1_; clear n0_ n1_; (try clear hb); (try clear hb2); (try clear hk); (try clear hi); have p271 : 0 ≤ (x6_2 : Int) := of_decide_eq_true (by first | (with_reducible assumption) | assumption); have q271 : x6_2 < (t260.length : Int) := of_decide_eq_true (by first | (with_reducible assumption) | assumption); obtain ⟨ad271, e271, hx271_0, hx271_1⟩ := at_T28 (Kd.R_reads' Za.out).2.2 x6_2 p271 q271; obtain rfl : ad268 = ad271 := (by injection e271); replace p271 := eq_true p271; replace q271 := eq_true q271) | (go_at_call 11; (with_reducible refine (spec_EncodeUpdate.calls k2 ((rd_T28 t260 x6_2).f0) ((rd_T28 t260 x6_2).f1) t272 t273 _ A11.out).mono ?_); rintro e w31 ⟨rfl, hb⟩; have n0_ := zm (Kd.R_below (zg_1 Za.out) hb); have n1_ := zm (below_step (zg_0 HB.out) hb); clear Za; clear HB; have Za := n0_; have HB := n1_; clear n0_ n1_; (try clear hb); (try clear hb2); (try clear hk); (try clear hi)) | (go_at_call 12; (with_reducible refine (impl_DecodeUpdate.calls k2 t269 t274 t275 t276 _ A12.out).mono ?_); rintro e w32 ⟨rfl, hb⟩; have n0_ := zm (Kd.R_below (zg_1 Za.out) hb); have n1_ := zm (below_step (zg_0 HB.out) hb); clear Za; clear HB; have Za := n0_; have HB := n1_; clear n0_ n1_; (try clear hb); (try clear hb2); (try clear hk); (try clear hi)) | ((with_reducible refine gate_dst (N := 11) rfl ?_); (try (refine gate_guard (by rfl) ?_; dsimp only)); refine box_event ?hg (N := 11) ?hd (cs := #[.int .i64 0, .string (⟨#[]⟩ : ByteArray)]) (t := 28) ?hr ?_; (case hd => rfl); (case hg => rfl); (case hr => first | (go_simp; done) | (go_simp; rfl)); intro gb277 hg w33 hbox hb; have n0_ := zm (Kd.R_below (Kd.R_elderB (zg_1 Za.out) gb277 (Nat.le_of_eq hg.symm)) hb); have n1_ := zm (below_step (zg_0 HB.out) hb); have n2_ := zm (hbox); have n3_ := zm ((by rw [hg]; exact (below_size (zg_0 HB.out)) : w.heap.size ≤ gb277)); have n4_ := zm ((by rw [hg]; exact (below_size (zg_0 HB.out)) : w.heap.size ≤ gb277)); clear Za; clear HB; have Za := n0_; have HB := n1_; have Zb := n2_; have Zd := n3_; have Zc := n4_; clear n0_ n1_ n2_ n3_ n4_; clear hb hbox hg; have hcz34_0 : w33.cell? ⟨gb277, 0, none⟩ = some (.int .i64 0) := (blk_cell Zb.out 0).trans rfl; have hcz34_1 : w33.cell? ⟨gb277, 1, none⟩ = some (.string (⟨#[]⟩ : ByteArray)) := (blk_cell Zb.out 1).trans rfl; have hfz34_0 := blk_frozen Zb.out 0; have hfz34_1 := blk_frozen Zb.out 1)); try go_wp2_with (first | (go_at_call 10; (with_reducible refine (impl_EncodeUpdate.calls k2 ((rd_T28 t260 x6_2).f0) ((rd_T28 t260 x6_2).f1) t269 t270 _ A10.out).mono ?_); rintro e w30 ⟨rfl, hb⟩; have n0_ := zm (Kd.R_below (zg_1 Za.out) hb); have n1_ := zm (below_step (zg_0 HB.out) hb); clear Za; clear HB; have Za := n0_; have HB := n1_; clear n0_ n1_; (try clear hb); (try clear hb2); (try clear hk); (try clear hi); have p271 : 0 ≤ (x6_2 : Int) := of_decide_eq_true (by first | (with_reducible assumption) | assumption); have q271 : x6_2 < (t260.length : Int) := of_decide_eq_true (by first | (with_reducible assumption) | assumption); obtain ⟨ad271, e271, hx271_0, hx271_1⟩ := at_T28 (Kd.R_reads' Za.out).2.2 x6_2 p271 q271; obtain rfl : ad268 = ad271 := (by injection e271); replace p271 := eq_true p271; replace q271 := eq_true q271) | (go_at_call 11; (with_reducible refine (spec_EncodeUpdate.calls k2 ((rd_T28 t260 x6_2).f0) ((rd_T28 t260 x6_2).f1) t272 t273 _ A11.out).mono ?_); rintro e w31 ⟨rfl, hb⟩; have n0_ := zm (Kd.R_below (zg_1 Za.out) hb); have n1_ := zm (below_step (zg_0 HB.out) hb); clear Za; clear HB; have Za := n0_; have HB := n1_; clear n0_ n1_; (try clear hb); (try clear hb2); (try clear hk); (try clear hi)) | (go_at_call 12; (with_reducible refine (impl_DecodeUpdate.calls k2 t269 t274 t275 t276 _ A12.out).mono ?_); rintro e w32 ⟨rfl, hb⟩; have n0_ := zm (Kd.R_below (zg_1 Za.out) hb); have n1_ := zm (below_step (zg_0 HB.out) hb); clear Za; clear HB; have Za := n0_; have HB := n1_; clear n0_ n1_; (try clear hb); (try clear hb2); (try clear hk); (try clear hi)) | ((with_reducible refine gate_dst (N := 11) rfl ?_); (try (refine gate_guard (by rfl) ?_; dsimp only)); refine box_event ?hg (N := 11) ?hd (cs := #[.int .i64 0, .string (⟨#[]⟩ : ByteArray)]) (t := 28) ?hr ?_; (case hd => rfl); (case hg => rfl); (case hr => first | (go_simp; done) | (go_simp; rfl)); intro gb277 hg w33 hbox hb; have n0_ := zm (Kd.R_below (Kd.R_elderB (zg_1 Za.out) gb277 (Nat.le_of_eq hg.symm)) hb); have n1_ := zm (below_step (zg_0 HB.out) hb); have n2_ := zm (hbox); have n3_ := zm ((by rw [hg]; exact (below_size (zg_0 HB.out)) : w.heap.size ≤ gb277)); have n4_ := zm ((by rw [hg]; exact (below_size (zg_0 HB.out)) : w.heap.size ≤ gb277)); clear Za; clear HB; have Za := n0_; have HB := n1_; have Zb := n2_; have Zd := n3_; have Zc := n4_; clear n0_ n1_ n2_ n3_ n4_; clear hb hbox hg; have hcz34_0 : w33.cell? ⟨gb277, 0, none⟩ = some (.int .i64 0) := (blk_cell Zb.out 0).trans rfl; have hcz34_1 : w33.cell? ⟨gb277, 1, none⟩ = some (.string (⟨#[]⟩ : ByteArray)) := (blk_cell Zb.out 1).trans rfl; have hfz34_0 := blk_frozen Zb.out 0; have hfz34_1 := blk_frozen Zb.out 1)))
           go_ret
           exact ⟨by first | rfl | (simp [errW_none, errW_some] <;> rfl) | (simp [*, errW_none, errW_some] <;> rfl), zg_2 HB.out Zc.out⟩
         ·rw [if_neg c14] at H
          have c14b0 : (t269.toList == t272.toList) = false := beq_eq_false_iff_ne.mpr c14
          have c14b1 : (t269.toList != t272.toList) = true := bne_iff_ne.mpr c14
          obtain rfl := Option.some.inj H
          obtain ⟨Ao35, co35, eo35⟩ := Kd.R_slice Za.out
          subst eo35
          have p268 : 0 ≤ (x6_2 : Int) := of_decide_eq_true (by first | (with_reducible assumption) | assumption)
          have q268 : x6_2 < (t260.length : Int) := of_decide_eq_true (by first | (with_reducible assumption) | assumption)
          obtain ⟨ad268, e268, hx268_0, hx268_1⟩ := at_T28 (Kd.R_reads' Za.out).2.2 x6_2 p268 q268
          cases e268
          replace p268 := eq_true p268
          replace q268 := eq_true q268
          go_wp2_with (first | (go_at_call 10; (with_reducible refine (impl_EncodeUpdate.calls k2 ((rd_T28 t260 x6_2).f0) ((rd_T28 t260 x6_2).f1) t269 t270 _ A10.out).mono ?_); rintro e w36 ⟨rfl, hb⟩; have n0_ := zm (Kd.R_below (zg_1 Za.out) hb); have n1_ := zm (below_step (zg_0 HB.out) hb); clear Za; clear HB; have Za := n0_; have HB := n1_; clear n0_ n1_; (try clear hb); (try clear hb2); (try clear hk); (try clear hi); have p271 : 0 ≤ (x6_2 : Int) := of_decide_eq_true (by first | (with_reducible assumption) | assumption); have q271 : x6_2 < (t260.length : Int) := of_decide_eq_true (by first | (with_reducible assumption) | assumption); obtain ⟨ad271, e271, hx271_0, hx271_1⟩ := at_T28 (Kd.R_reads' Za.out).2.2 x6_2 p271 q271; obtain rfl : ad268 = ad271 := (by injection e271); replace p271 := eq_true p271; replace q271 := eq_true q271) | (go_at_call 11; (with_reducible refine (spec_EncodeUpdate.calls k2 ((rd_T28 t260 x6_2).f0) ((rd_T28 t260 x6_2).f1) t272 t273 _ A11.out).mono ?_); rintro e w37 ⟨rfl, hb⟩; have n0_ := zm (Kd.R_below (zg_1 Za.out) hb); have n1_ := zm (below_step (zg_0 HB.out) hb); clear Za; clear HB; have Za := n0_; have HB := n1_; clear n0_ n1_; (try clear hb); (try clear hb2); (try clear hk); (try clear hi)) | (go_at_call 12; (with_reducible refine (impl_DecodeUpdate.calls k2 t269 t274 t275 t276 _ A12.out).mono ?_); rintro e w38 ⟨rfl, hb⟩; have n0_ := zm (Kd.R_below (zg_1 Za.out) hb); have n1_ := zm (below_step (zg_0 HB.out) hb); clear Za; clear HB; have Za := n0_; have HB := n1_; clear n0_ n1_; (try clear hb); (try clear hb2); (try clear hk); (try clear hi)) | ((with_reducible refine gate_dst (N := 11) rfl ?_); (try (refine gate_guard (by rfl) ?_; dsimp only)); refine box_event ?hg (N := 11) ?hd (cs := #[.int .i64 0, .string (⟨#[]⟩ : ByteArray)]) (t := 28) ?hr ?_; (case hd => rfl); (case hg => rfl); (case hr => first | (go_simp; done) | (go_simp; rfl)); intro gb277 hg w39 hbox hb; have n0_ := zm (Kd.R_below (Kd.R_elderB (zg_1 Za.out) gb277 (Nat.le_of_eq hg.symm)) hb); have n1_ := zm (below_step (zg_0 HB.out) hb); have n2_ := zm (hbox); have n3_ := zm ((by rw [hg]; exact (below_size (zg_0 HB.out)) : w.heap.size ≤ gb277)); have n4_ := zm ((by rw [hg]; exact (below_size (zg_0 HB.out)) : w.heap.size ≤ gb277)); clear Za; clear HB; have Za := n0_; have HB := n1_; have Zb := n2_; have Zd := n3_; have Zc := n4_; clear n0_ n1_ n2_ n3_ n4_; clear hb hbox hg; have hcz40_0 : w39.cell? ⟨gb277, 0, none⟩ = some (.int .i64 0) := (blk_cell Zb.out 0).trans rfl; have hcz40_1 : w39.cell? ⟨gb277, 1, none⟩ = some (.string (⟨#[]⟩ : ByteArray)) := (blk_cell Zb.out 1).trans rfl; have hfz40_0 := blk_frozen Zb.out 0; have hfz40_1 := blk_frozen Zb.out 1))
          repeat (go_quiet (first | (go_at_call 10; (with_reducible refine (impl_EncodeUpdate.calls k2 ((rd_T28 t260 x6_2).f0) ((rd_T28 t260 x6_2).f1) t269 t270 _ A10.out).mono ?_); rintro e w36 ⟨rfl, hb⟩; have n0_ := zm (Kd.R_below (zg_1 Za.out) hb); have n1_ := zm (below_step (zg_0 HB.out) hb); clear Za; clear HB; have Za := n0_; have HB := n1_; clear n0_ n1_; (try clear hb); (try clear hb2); (try clear hk); (try clear hi); have p271 : 0 ≤ (x6_2 : Int) := of_decide_eq_true (by first | (with_reducible assumption) | assumption); have q271 : x6_2 < (t260.length : Int) := of_decide_eq_true (by first | (with_reducible assumption) | assumption); obtain ⟨ad271, e271, hx271_0, hx271_1⟩ := at_T28 (Kd.R_reads' Za.out).2.2 x6_2 p271 q271; obtain rfl : ad268 = ad271 := (by injection e271); replace p271 := eq_true p271; replace q271 := eq_true q271) | (go_at_call 11; (with_reducible refine (spec_EncodeUpdate.calls k2 ((rd_T28 t260 x6_2).f0) ((rd_T28 t260 x6_2).f1) t272 t273 _ A11.out).mono ?_); rintro e w37 ⟨rfl, hb⟩; have n0_ := zm (Kd.R_below (zg_1 Za.out) hb); have n1_ := zm (below_step (zg_0 HB.out) hb); clear Za; clear HB; have Za := n0_; have HB := n1_; clear n0_ n1_; (try clear hb); (try clear hb2); (try clear hk); (try clear hi)) | (go_at_call 12; (with_reducible refine (impl_DecodeUpdate.calls k2 t269 t274 t275 t276 _ A12.out).mono ?_); rintro e w38 ⟨rfl, hb⟩; have n0_ := zm (Kd.R_below (zg_1 Za.out) hb); have n1_ := zm (below_step (zg_0 HB.out) hb); clear Za; clear HB; have Za := n0_; have HB := n1_; clear n0_ n1_; (try clear hb); (try clear hb2); (try clear hk); (try clear hi)) | ((with_reducible refine gate_dst (N := 11) rfl ?_); (try (refine gate_guard (by rfl) ?_; dsimp only)); refine box_event ?hg (N := 11) ?hd (cs := #[.int .i64 0, .string (⟨#[]⟩ : ByteArray)]) (t := 28) ?hr ?_; (case hd => rfl); (case hg => rfl); (case hr => first | (go_simp; done) | (go_simp; rfl)); intro gb277 hg w39 hbox hb; have n0_ := zm (Kd.R_below (Kd.R_elderB (zg_1 Za.out) gb277 (Nat.le_of_eq hg.symm)) hb); have n1_ := zm (below_step (zg_0 HB.out) hb); have n2_ := zm (hbox); have n3_ := zm ((by rw [hg]; exact (below_size (zg_0 HB.out)) : w.heap.size ≤ gb277)); have n4_ := zm ((by rw [hg]; exact (below_size (zg_0 HB.out)) : w.heap.size ≤ gb277)); clear Za; clear HB; have Za := n0_; have HB := n1_; have Zb := n2_; have Zd := n3_; have Zc := n4_; clear n0_ n1_ n2_ n3_ n4_; clear hb hbox hg; have hcz40_0 : w39.cell? ⟨gb277, 0, none⟩ = some (.int .i64 0) := (blk_cell Zb.out 0).trans rfl; have hcz40_1 : w39.cell? ⟨gb277, 1, none⟩ = some (.string (⟨#[]⟩ : ByteArray)) := (blk_cell Zb.out 1).trans rfl; have hfz40_0 := blk_frozen Zb.out 0; have hfz40_1 := blk_frozen Zb.out 1)); try go_wp2_with (first | (go_at_call 10; (with_reducible refine (impl_EncodeUpdate.calls k2 ((rd_T28 t260 x6_2).f0) ((rd_T28 t260 x6_2).f1) t269 t270 _ A10.out).mono ?_); rintro e w36 ⟨rfl, hb⟩; have n0_ := zm (Kd.R_below (zg_1 Za.out) hb); have n1_ := zm (below_step (zg_0 HB.out) hb); clear Za; clear HB; have Za := n0_; have HB := n1_; clear n0_ n1_; (try clear hb); (try clear hb2); (try clear hk); (try clear hi); have p271 : 0 ≤ (x6_2 : Int) := of_decide_eq_true (by first | (with_reducible assumption) | assumption); have q271 : x6_2 < (t260.length : Int) := of_decide_eq_true (by first | (with_reducible assumption) | assumption); obtain ⟨ad271, e271, hx271_0, hx271_1⟩ := at_T28 (Kd.R_reads' Za.out).2.2 x6_2 p271 q271; obtain rfl : ad268 = ad271 := (by injection e271); replace p271 := eq_true p271; replace q271 := eq_true q271) | (go_at_call 11; (with_reducible refine (spec_EncodeUpdate.calls k2 ((rd_T28 t260 x6_2).f0) ((rd_T28 t260 x6_2).f1) t272 t273 _ A11.out).mono ?_); rintro e w37 ⟨rfl, hb⟩; have n0_ := zm (Kd.R_below (zg_1 Za.out) hb); have n1_ := zm (below_step (zg_0 HB.out) hb); clear Za; clear HB; have Za := n0_; have HB := n1_; clear n0_ n1_; (try clear hb); (try clear hb2); (try clear hk); (try clear hi)) | (go_at_call 12; (with_reducible refine (impl_DecodeUpdate.calls k2 t269 t274 t275 t276 _ A12.out).mono ?_); rintro e w38 ⟨rfl, hb⟩; have n0_ := zm (Kd.R_below (zg_1 Za.out) hb); have n1_ := zm (below_step (zg_0 HB.out) hb); clear Za; clear HB; have Za := n0_; have HB := n1_; clear n0_ n1_; (try clear hb); (try clear hb2); (try clear hk); (try clear hi)) | ((with_reducible refine gate_dst (N := 11) rfl ?_); (try (refine gate_guard (by rfl) ?_; dsimp only)); refine box_event ?hg (N := 11) ?hd (cs := #[.int .i64 0, .string (⟨#[]⟩ : ByteArray)]) (t := 28) ?hr ?_; (case hd => rfl); (case hg => rfl); (case hr => first | (go_simp; done) | (go_simp; rfl)); intro gb277 hg w39 hbox hb; have n0_ := zm (Kd.R_below (Kd.R_elderB (zg_1 Za.out) gb277 (Nat.le_of_eq hg.symm)) hb); have n1_ := zm (below_step (zg_0 HB.out) hb); have n2_ := zm (hbox); have n3_ := zm ((by rw [hg]; exact (below_size (zg_0 HB.out)) : w.heap.size ≤ gb277)); have n4_ := zm ((by rw [hg]; exact (below_size (zg_0 HB.out)) : w.heap.size ≤ gb277)); clear Za; clear HB; have Za := n0_; have HB := n1_; have Zb := n2_; have Zd := n3_; have Zc := n4_; clear n0_ n1_ n2_ n3_ n4_; clear hb hbox hg; have hcz40_0 : w39.cell? ⟨gb277, 0, none⟩ = some (.int .i64 0) := (blk_cell Zb.out 0).trans rfl; have hcz40_1 : w39.cell? ⟨gb277, 1, none⟩ = some (.string (⟨#[]⟩ : ByteArray)) := (blk_cell Zb.out 1).trans rfl; have hfz40_0 := blk_frozen Zb.out 0; have hfz40_1 := blk_frozen Zb.out 1)))
          go_ret
          exact ⟨by first | rfl | (simp [errW_none, errW_some] <;> rfl) | (simp [*, errW_none, errW_some] <;> rfl), zg_2 HB.out Zc.out⟩
        ·rw [if_neg c13] at H
         have c13b0 : (t270 == 0) = false := beq_eq_false_iff_ne.mpr c13
         have c13b1 : (t270 != 0) = true := bne_iff_ne.mpr c13
         obtain rfl := Option.some.inj H
         obtain ⟨Ao41, co41, eo41⟩ := Kd.R_slice Za.out
         subst eo41
         have p268 : 0 ≤ (x6_2 : Int) := of_decide_eq_true (by first | (with_reducible assumption) | assumption)
         have q268 : x6_2 < (t260.length : Int) := of_decide_eq_true (by first | (with_reducible assumption) | assumption)
         obtain ⟨ad268, e268, hx268_0, hx268_1⟩ := at_T28 (Kd.R_reads' Za.out).2.2 x6_2 p268 q268
         cases e268
         replace p268 := eq_true p268
         replace q268 := eq_true q268
         go_wp2_with (first | (go_at_call 10; (with_reducible refine (impl_EncodeUpdate.calls k2 ((rd_T28 t260 x6_2).f0) ((rd_T28 t260 x6_2).f1) t269 t270 _ A10.out).mono ?_); rintro e w42 ⟨rfl, hb⟩; have n0_ := zm (Kd.R_below (zg_1 Za.out) hb); have n1_ := zm (below_step (zg_0 HB.out) hb); clear Za; clear HB; have Za := n0_; have HB := n1_; clear n0_ n1_; (try clear hb); (try clear hb2); (try clear hk); (try clear hi); have p271 : 0 ≤ (x6_2 : Int) := of_decide_eq_true (by first | (with_reducible assumption) | assumption); have q271 : x6_2 < (t260.length : Int) := of_decide_eq_true (by first | (with_reducible assumption) | assumption); obtain ⟨ad271, e271, hx271_0, hx271_1⟩ := at_T28 (Kd.R_reads' Za.out).2.2 x6_2 p271 q271; obtain rfl : ad268 = ad271 := (by injection e271); replace p271 := eq_true p271; replace q271 := eq_true q271) | (go_at_call 11; (with_reducible refine (spec_EncodeUpdate.calls k2 ((rd_T28 t260 x6_2).f0) ((rd_T28 t260 x6_2).f1) t272 t273 _ A11.out).mono ?_); rintro e w43 ⟨rfl, hb⟩; have n0_ := zm (Kd.R_below (zg_1 Za.out) hb); have n1_ := zm (below_step (zg_0 HB.out) hb); clear Za; clear HB; have Za := n0_; have HB := n1_; clear n0_ n1_; (try clear hb); (try clear hb2); (try clear hk); (try clear hi)) | (go_at_call 12; (with_reducible refine (impl_DecodeUpdate.calls k2 t269 t274 t275 t276 _ A12.out).mono ?_); rintro e w44 ⟨rfl, hb⟩; have n0_ := zm (Kd.R_below (zg_1 Za.out) hb); have n1_ := zm (below_step (zg_0 HB.out) hb); clear Za; clear HB; have Za := n0_; have HB := n1_; clear n0_ n1_; (try clear hb); (try clear hb2); (try clear hk); (try clear hi)) | ((with_reducible refine gate_dst (N := 11) rfl ?_); (try (refine gate_guard (by rfl) ?_; dsimp only)); refine box_event ?hg (N := 11) ?hd (cs := #[.int .i64 0, .string (⟨#[]⟩ : ByteArray)]) (t := 28) ?hr ?_; (case hd => rfl); (case hg => rfl); (case hr => first | (go_simp; done) | (go_simp; rfl)); intro gb277 hg w45 hbox hb; have n0_ := zm (Kd.R_below (Kd.R_elderB (zg_1 Za.out) gb277 (Nat.le_of_eq hg.symm)) hb); have n1_ := zm (below_step (zg_0 HB.out) hb); have n2_ := zm (hbox); have n3_ := zm ((by rw [hg]; exact (below_size (zg_0 HB.out)) : w.heap.size ≤ gb277)); have n4_ := zm ((by rw [hg]; exact (below_size (zg_0 HB.out)) : w.heap.size ≤ gb277)); clear Za; clear HB; have Za := n0_; have HB := n1_; have Zb := n2_; have Zd := n3_; have Zc := n4_; clear n0_ n1_ n2_ n3_ n4_; clear hb hbox hg; have hcz46_0 : w45.cell? ⟨gb277, 0, none⟩ = some (.int .i64 0) := (blk_cell Zb.out 0).trans rfl; have hcz46_1 : w45.cell? ⟨gb277, 1, none⟩ = some (.string (⟨#[]⟩ : ByteArray)) := (blk_cell Zb.out 1).trans rfl; have hfz46_0 := blk_frozen Zb.out 0; have hfz46_1 := blk_frozen Zb.out 1))
         repeat (go_quiet (first | (go_at_call 10; (with_reducible refine (impl_EncodeUpdate.calls k2 ((rd_T28 t260 x6_2).f0) ((rd_T28 t260 x6_2).f1) t269 t270 _ A10.out).mono ?_); rintro e w42 ⟨rfl, hb⟩; have n0_ := zm (Kd.R_below (zg_1 Za.out) hb); have n1_ := zm (below_step (zg_0 HB.out) hb); clear Za; clear HB; have Za := n0_; have HB := n1_; clear n0_ n1_; (try clear hb); (try clear hb2); (try clear hk); (try clear hi); have p271 : 0 ≤ (x6_2 : Int) := of_decide_eq_true (by first | (with_reducible assumption) | assumption); have q271 : x6_2 < (t260.length : Int) := of_decide_eq_true (by first | (with_reducible assumption) | assumption); obtain ⟨ad271, e271, hx271_0, hx271_1⟩ := at_T28 (Kd.R_reads' Za.out).2.2 x6_2 p271 q271; obtain rfl : ad268 = ad271 := (by injection e271); replace p271 := eq_true p271; replace q271 := eq_true q271) | (go_at_call 11; (with_reducible refine (spec_EncodeUpdate.calls k2 ((rd_T28 t260 x6_2).f0) ((rd_T28 t260 x6_2).f1) t272 t273 _ A11.out).mono ?_); rintro e w43 ⟨rfl, hb⟩; have n0_ := zm (Kd.R_below (zg_1 Za.out) hb); have n1_ := zm (below_step (zg_0 HB.out) hb); clear Za; clear HB; have Za := n0_; have HB := n1_; clear n0_ n1_; (try clear hb); (try clear hb2); (try clear hk); (try clear hi)) | (go_at_call 12; (with_reducible refine (impl_DecodeUpdate.calls k2 t269 t274 t275 t276 _ A12.out).mono ?_); rintro e w44 ⟨rfl, hb⟩; have n0_ := zm (Kd.R_below (zg_1 Za.out) hb); have n1_ := zm (below_step (zg_0 HB.out) hb); clear Za; clear HB; have Za := n0_; have HB := n1_; clear n0_ n1_; (try clear hb); (try clear hb2); (try clear hk); (try clear hi)) | ((with_reducible refine gate_dst (N := 11) rfl ?_); (try (refine gate_guard (by rfl) ?_; dsimp only)); refine box_event ?hg (N := 11) ?hd (cs := #[.int .i64 0, .string (⟨#[]⟩ : ByteArray)]) (t := 28) ?hr ?_; (case hd => rfl); (case hg => rfl); (case hr => first | (go_simp; done) | (go_simp; rfl)); intro gb277 hg w45 hbox hb; have n0_ := zm (Kd.R_below (Kd.R_elderB (zg_1 Za.out) gb277 (Nat.le_of_eq hg.symm)) hb); have n1_ := zm (below_step (zg_0 HB.out) hb); have n2_ := zm (hbox); have n3_ := zm ((by rw [hg]; exact (below_size (zg_0 HB.out)) : w.heap.size ≤ gb277)); have n4_ := zm ((by rw [hg]; exact (below_size (zg_0 HB.out)) : w.heap.size ≤ gb277)); clear Za; clear HB; have Za := n0_; have HB := n1_; have Zb := n2_; have Zd := n3_; have Zc := n4_; clear n0_ n1_ n2_ n3_ n4_; clear hb hbox hg; have hcz46_0 : w45.cell? ⟨gb277, 0, none⟩ = some (.int .i64 0) := (blk_cell Zb.out 0).trans rfl; have hcz46_1 : w45.cell? ⟨gb277, 1, none⟩ = some (.string (⟨#[]⟩ : ByteArray)) := (blk_cell Zb.out 1).trans rfl; have hfz46_0 := blk_frozen Zb.out 0; have hfz46_1 := blk_frozen Zb.out 1)); try go_wp2_with (first | (go_at_call 10; (with_reducible refine (impl_EncodeUpdate.calls k2 ((rd_T28 t260 x6_2).f0) ((rd_T28 t260 x6_2).f1) t269 t270 _ A10.out).mono ?_); rintro e w42 ⟨rfl, hb⟩; have n0_ := zm (Kd.R_below (zg_1 Za.out) hb); have n1_ := zm (below_step (zg_0 HB.out) hb); clear Za; clear HB; have Za := n0_; have HB := n1_; clear n0_ n1_; (try clear hb); (try clear hb2); (try clear hk); (try clear hi); have p271 : 0 ≤ (x6_2 : Int) := of_decide_eq_true (by first | (with_reducible assumption) | assumption); have q271 : x6_2 < (t260.length : Int) := of_decide_eq_true (by first | (with_reducible assumption) | assumption); obtain ⟨ad271, e271, hx271_0, hx271_1⟩ := at_T28 (Kd.R_reads' Za.out).2.2 x6_2 p271 q271; obtain rfl : ad268 = ad271 := (by injection e271); replace p271 := eq_true p271; replace q271 := eq_true q271) | (go_at_call 11; (with_reducible refine (spec_EncodeUpdate.calls k2 ((rd_T28 t260 x6_2).f0) ((rd_T28 t260 x6_2).f1) t272 t273 _ A11.out).mono ?_); rintro e w43 ⟨rfl, hb⟩; have n0_ := zm (Kd.R_below (zg_1 Za.out) hb); have n1_ := zm (below_step (zg_0 HB.out) hb); clear Za; clear HB; have Za := n0_; have HB := n1_; clear n0_ n1_; (try clear hb); (try clear hb2); (try clear hk); (try clear hi)) | (go_at_call 12; (with_reducible refine (impl_DecodeUpdate.calls k2 t269 t274 t275 t276 _ A12.out).mono ?_); rintro e w44 ⟨rfl, hb⟩; have n0_ := zm (Kd.R_below (zg_1 Za.out) hb); have n1_ := zm (below_step (zg_0 HB.out) hb); clear Za; clear HB; have Za := n0_; have HB := n1_; clear n0_ n1_; (try clear hb); (try clear hb2); (try clear hk); (try clear hi)) | ((with_reducible refine gate_dst (N := 11) rfl ?_); (try (refine gate_guard (by rfl) ?_; dsimp only)); refine box_event ?hg (N := 11) ?hd (cs := #[.int .i64 0, .string (⟨#[]⟩ : ByteArray)]) (t := 28) ?hr ?_; (case hd => rfl); (case hg => rfl); (case hr => first | (go_simp; done) | (go_simp; rfl)); intro gb277 hg w45 hbox hb; have n0_ := zm (Kd.R_below (Kd.R_elderB (zg_1 Za.out) gb277 (Nat.le_of_eq hg.symm)) hb); have n1_ := zm (below_step (zg_0 HB.out) hb); have n2_ := zm (hbox); have n3_ := zm ((by rw [hg]; exact (below_size (zg_0 HB.out)) : w.heap.size ≤ gb277)); have n4_ := zm ((by rw [hg]; exact (below_size (zg_0 HB.out)) : w.heap.size ≤ gb277)); clear Za; clear HB; have Za := n0_; have HB := n1_; have Zb := n2_; have Zd := n3_; have Zc := n4_; clear n0_ n1_ n2_ n3_ n4_; clear hb hbox hg; have hcz46_0 : w45.cell? ⟨gb277, 0, none⟩ = some (.int .i64 0) := (blk_cell Zb.out 0).trans rfl; have hcz46_1 : w45.cell? ⟨gb277, 1, none⟩ = some (.string (⟨#[]⟩ : ByteArray)) := (blk_cell Zb.out 1).trans rfl; have hfz46_0 := blk_frozen Zb.out 0; have hfz46_1 := blk_frozen Zb.out 1)))
         go_ret
         exact ⟨by first | rfl | (simp [errW_none, errW_some] <;> rfl) | (simp [*, errW_none, errW_some] <;> rfl), zg_2 HB.out Zc.out⟩
       ·rw [if_neg c9] at H
        exact absurd H (by simp)
      ·rw [if_neg c8] at H
       have c8b0 : decide (x6_2 < (t260.length : Int)) = false := decide_eq_false c8
       clear c8
       replace H := Option.bind_eq_some_iff.mp H
       obtain ⟨t263, A470, H⟩ := H
       replace H : ((impl_SlotOf.f t263).bind fun bt264 => ((impl_SlotOf.f (wrap64 (t263 + 1))).bind fun bt266 => (if bt264.2 = 0 then (if bt266.2 = 0 then (if bt266.1 = (wrap64 (bt264.1 + 6)) then (if bt264.1 ≥ 39 then (some (decide ((wrap64 (bt266.1 + 6)) ≤ 64))) else (some false)) else (some false)) else (some false)) else (some false)))) = some r := H
       have A47 := zm A470
       clear A470
       replace H := Option.bind_eq_some_iff.mp H
       obtain ⟨⟨t264, t265⟩, A480, H⟩ := H
       replace H : ((impl_SlotOf.f (wrap64 (t263 + 1))).bind fun bt266 => (if t265 = 0 then (if bt266.2 = 0 then (if bt266.1 = (wrap64 (t264 + 6)) then (if t264 ≥ 39 then (some (decide ((wrap64 (bt266.1 + 6)) ≤ 64))) else (some false)) else (some false)) else (some false)) else (some false))) = some r := H
       have A48 := zm A480
       clear A480
       replace H := Option.bind_eq_some_iff.mp H
       obtain ⟨⟨t266, t267⟩, A490, H⟩ := H
       replace H : (if t265 = 0 then (if t267 = 0 then (if t266 = (wrap64 (t264 + 6)) then (if t264 ≥ 39 then (some (decide ((wrap64 (t266 + 6)) ≤ 64))) else (some false)) else (some false)) else (some false)) else (some false)) = some r := H
       have A49 := zm A490
       clear A490
       by_cases c50 : t265 = 0
       ·rw [if_pos c50] at H
        have c50b0 : (t265 == 0) = true := beq_iff_eq.mpr c50
        have c50b1 : (t265 != 0) = false := bne_eq_false_iff_eq.mpr c50
        clear c50
        by_cases c51 : t267 = 0
        ·rw [if_pos c51] at H
         have c51b0 : (t267 == 0) = true := beq_iff_eq.mpr c51
         have c51b1 : (t267 != 0) = false := bne_eq_false_iff_eq.mpr c51
         clear c51
         by_cases c52 : t266 = (wrap64 (t264 + 6))
         ·rw [if_pos c52] at H
          have c52b0 : (t266 == (wrap64 (t264 + 6))) = true := beq_iff_eq.mpr c52
          have c52b1 : (t266 != (wrap64 (t264 + 6))) = false := bne_eq_false_iff_eq.mpr c52
          clear c52
          by_cases c53 : t264 ≥ 39
          ·rw [if_pos c53] at H
           have c53b0 : decide (39 ≤ t264) = true := decide_eq_true c53
           clear c53
           obtain rfl := Option.some.inj H
           obtain ⟨Ao54, co54, eo54⟩ := Kd.R_slice Za.out
           subst eo54
           go_wp2_with (first | (go_at_call 13; (with_reducible refine (laws_at.calls _ _ l1 0 3 t263 _ ?side1 ?side2 A47.out).mono ?_); (case side1 => repeat (first | exact (Kd.C_below HR1.out HB.out) | (with_reducible refine Kd.C_alloc ?_ _) | (with_reducible refine Kd.C_drewN ?_ _) | (with_reducible refine Kd.C_drew ?_))); (case side2 => exact HC1.out); rintro e w' ⟨rfl, ⟨nd, rfl⟩⟩; (try first | exact ⟨rfl, _, World.drewN_drewN _ _ _⟩ | exact ⟨rfl, _, Eq.trans (World.drewN_drewN _ _ _) (congrArg (World.drewN _) (Nat.add_assoc _ _ _))⟩)) | (go_at_call 14; (with_reducible refine (impl_SlotOf.calls t263 t264 t265 _ A48.out).mono ?_); rintro e w' ⟨rfl, ⟨nd, rfl⟩⟩; (try first | exact ⟨rfl, _, World.drewN_drewN _ _ _⟩ | exact ⟨rfl, _, Eq.trans (World.drewN_drewN _ _ _) (congrArg (World.drewN _) (Nat.add_assoc _ _ _))⟩)) | (go_at_call 14; (with_reducible refine (impl_SlotOf.calls (wrap64 (t263 + 1)) t266 t267 _ A49.out).mono ?_); rintro e w' ⟨rfl, ⟨nd, rfl⟩⟩; (try first | exact ⟨rfl, _, World.drewN_drewN _ _ _⟩ | exact ⟨rfl, _, Eq.trans (World.drewN_drewN _ _ _) (congrArg (World.drewN _) (Nat.add_assoc _ _ _))⟩)))
           repeat (go_quiet (first | (go_at_call 13; (with_reducible refine (laws_at.calls _ _ l1 0 3 t263 _ ?side1 ?side2 A47.out).mono ?_); (case side1 => repeat (first | exact (Kd.C_below HR1.out HB.out) | (with_reducible refine Kd.C_alloc ?_ _) | (with_reducible refine Kd.C_drewN ?_ _) | (with_reducible refine Kd.C_drew ?_))); (case side2 => exact HC1.out); rintro e w' ⟨rfl, ⟨nd, rfl⟩⟩; (try first | exact ⟨rfl, _, World.drewN_drewN _ _ _⟩ | exact ⟨rfl, _, Eq.trans (World.drewN_drewN _ _ _) (congrArg (World.drewN _) (Nat.add_assoc _ _ _))⟩)) | (go_at_call 14; (with_reducible refine (impl_SlotOf.calls t263 t264 t265 _ A48.out).mono ?_); rintro e w' ⟨rfl, ⟨nd, rfl⟩⟩; (try first | exact ⟨rfl, _, World.drewN_drewN _ _ _⟩ | exact ⟨rfl, _, Eq.trans (World.drewN_drewN _ _ _) (congrArg (World.drewN _) (Nat.add_assoc _ _ _))⟩)) | (go_at_call 14; (with_reducible refine (impl_SlotOf.calls (wrap64 (t263 + 1)) t266 t267 _ A49.out).mono ?_); rintro e w' ⟨rfl, ⟨nd, rfl⟩⟩; (try first | exact ⟨rfl, _, World.drewN_drewN _ _ _⟩ | exact ⟨rfl, _, Eq.trans (World.drewN_drewN _ _ _) (congrArg (World.drewN _) (Nat.add_assoc _ _ _))⟩))); try go_wp2_with (first | (go_at_call 13; (with_reducible refine (laws_at.calls _ _ l1 0 3 t263 _ ?side1 ?side2 A47.out).mono ?_); (case side1 => repeat (first | exact (Kd.C_below HR1.out HB.out) | (with_reducible refine Kd.C_alloc ?_ _) | (with_reducible refine Kd.C_drewN ?_ _) | (with_reducible refine Kd.C_drew ?_))); (case side2 => exact HC1.out); rintro e w' ⟨rfl, ⟨nd, rfl⟩⟩; (try first | exact ⟨rfl, _, World.drewN_drewN _ _ _⟩ | exact ⟨rfl, _, Eq.trans (World.drewN_drewN _ _ _) (congrArg (World.drewN _) (Nat.add_assoc _ _ _))⟩)) | (go_at_call 14; (with_reducible refine (impl_SlotOf.calls t263 t264 t265 _ A48.out).mono ?_); rintro e w' ⟨rfl, ⟨nd, rfl⟩⟩; (try first | exact ⟨rfl, _, World.drewN_drewN _ _ _⟩ | exact ⟨rfl, _, Eq.trans (World.drewN_drewN _ _ _) (congrArg (World.drewN _) (Nat.add_assoc _ _ _))⟩)) | (go_at_call 14; (with_reducible refine (impl_SlotOf.calls (wrap64 (t263 + 1)) t266 t267 _ A49.out).mono ?_); rintro e w' ⟨rfl, ⟨nd, rfl⟩⟩; (try first | exact ⟨rfl, _, World.drewN_drewN _ _ _⟩ | exact ⟨rfl, _, Eq.trans (World.drewN_drewN _ _ _) (congrArg (World.drewN _) (Nat.add_assoc _ _ _))⟩))))
           go_ret
           exact ⟨by first | rfl | (simp [errW_none, errW_some] <;> rfl) | (simp [*, errW_none, errW_some] <;> rfl), zg_0 HB.out⟩
          ·rw [if_neg c53] at H
           have c53b0 : decide (39 ≤ t264) = false := decide_eq_false c53
           clear c53
           obtain rfl := Option.some.inj H
           obtain ⟨Ao55, co55, eo55⟩ := Kd.R_slice Za.out
           subst eo55
           go_wp2_with (first | (go_at_call 13; (with_reducible refine (laws_at.calls _ _ l1 0 3 t263 _ ?side1 ?side2 A47.out).mono ?_); (case side1 => repeat (first | exact (Kd.C_below HR1.out HB.out) | (with_reducible refine Kd.C_alloc ?_ _) | (with_reducible refine Kd.C_drewN ?_ _) | (with_reducible refine Kd.C_drew ?_))); (case side2 => exact HC1.out); rintro e w' ⟨rfl, ⟨nd, rfl⟩⟩; (try first | exact ⟨rfl, _, World.drewN_drewN _ _ _⟩ | exact ⟨rfl, _, Eq.trans (World.drewN_drewN _ _ _) (congrArg (World.drewN _) (Nat.add_assoc _ _ _))⟩)) | (go_at_call 14; (with_reducible refine (impl_SlotOf.calls t263 t264 t265 _ A48.out).mono ?_); rintro e w' ⟨rfl, ⟨nd, rfl⟩⟩; (try first | exact ⟨rfl, _, World.drewN_drewN _ _ _⟩ | exact ⟨rfl, _, Eq.trans (World.drewN_drewN _ _ _) (congrArg (World.drewN _) (Nat.add_assoc _ _ _))⟩)) | (go_at_call 14; (with_reducible refine (impl_SlotOf.calls (wrap64 (t263 + 1)) t266 t267 _ A49.out).mono ?_); rintro e w' ⟨rfl, ⟨nd, rfl⟩⟩; (try first | exact ⟨rfl, _, World.drewN_drewN _ _ _⟩ | exact ⟨rfl, _, Eq.trans (World.drewN_drewN _ _ _) (congrArg (World.drewN _) (Nat.add_assoc _ _ _))⟩)))
           repeat (go_quiet (first | (go_at_call 13; (with_reducible refine (laws_at.calls _ _ l1 0 3 t263 _ ?side1 ?side2 A47.out).mono ?_); (case side1 => repeat (first | exact (Kd.C_below HR1.out HB.out) | (with_reducible refine Kd.C_alloc ?_ _) | (with_reducible refine Kd.C_drewN ?_ _) | (with_reducible refine Kd.C_drew ?_))); (case side2 => exact HC1.out); rintro e w' ⟨rfl, ⟨nd, rfl⟩⟩; (try first | exact ⟨rfl, _, World.drewN_drewN _ _ _⟩ | exact ⟨rfl, _, Eq.trans (World.drewN_drewN _ _ _) (congrArg (World.drewN _) (Nat.add_assoc _ _ _))⟩)) | (go_at_call 14; (with_reducible refine (impl_SlotOf.calls t263 t264 t265 _ A48.out).mono ?_); rintro e w' ⟨rfl, ⟨nd, rfl⟩⟩; (try first | exact ⟨rfl, _, World.drewN_drewN _ _ _⟩ | exact ⟨rfl, _, Eq.trans (World.drewN_drewN _ _ _) (congrArg (World.drewN _) (Nat.add_assoc _ _ _))⟩)) | (go_at_call 14; (with_reducible refine (impl_SlotOf.calls (wrap64 (t263 + 1)) t266 t267 _ A49.out).mono ?_); rintro e w' ⟨rfl, ⟨nd, rfl⟩⟩; (try first | exact ⟨rfl, _, World.drewN_drewN _ _ _⟩ | exact ⟨rfl, _, Eq.trans (World.drewN_drewN _ _ _) (congrArg (World.drewN _) (Nat.add_assoc _ _ _))⟩))); try go_wp2_with (first | (go_at_call 13; (with_reducible refine (laws_at.calls _ _ l1 0 3 t263 _ ?side1 ?side2 A47.out).mono ?_); (case side1 => repeat (first | exact (Kd.C_below HR1.out HB.out) | (with_reducible refine Kd.C_alloc ?_ _) | (with_reducible refine Kd.C_drewN ?_ _) | (with_reducible refine Kd.C_drew ?_))); (case side2 => exact HC1.out); rintro e w' ⟨rfl, ⟨nd, rfl⟩⟩; (try first | exact ⟨rfl, _, World.drewN_drewN _ _ _⟩ | exact ⟨rfl, _, Eq.trans (World.drewN_drewN _ _ _) (congrArg (World.drewN _) (Nat.add_assoc _ _ _))⟩)) | (go_at_call 14; (with_reducible refine (impl_SlotOf.calls t263 t264 t265 _ A48.out).mono ?_); rintro e w' ⟨rfl, ⟨nd, rfl⟩⟩; (try first | exact ⟨rfl, _, World.drewN_drewN _ _ _⟩ | exact ⟨rfl, _, Eq.trans (World.drewN_drewN _ _ _) (congrArg (World.drewN _) (Nat.add_assoc _ _ _))⟩)) | (go_at_call 14; (with_reducible refine (impl_SlotOf.calls (wrap64 (t263 + 1)) t266 t267 _ A49.out).mono ?_); rintro e w' ⟨rfl, ⟨nd, rfl⟩⟩; (try first | exact ⟨rfl, _, World.drewN_drewN _ _ _⟩ | exact ⟨rfl, _, Eq.trans (World.drewN_drewN _ _ _) (congrArg (World.drewN _) (Nat.add_assoc _ _ _))⟩))))
           go_ret
           exact ⟨by first | rfl | (simp [errW_none, errW_some] <;> rfl) | (simp [*, errW_none, errW_some] <;> rfl), zg_0 HB.out⟩
         ·rw [if_neg c52] at H
          have c52b0 : (t266 == (wrap64 (t264 + 6))) = false := beq_eq_false_iff_ne.mpr c52
          have c52b1 : (t266 != (wrap64 (t264 + 6))) = true := bne_iff_ne.mpr c52
          obtain rfl := Option.some.inj H
          obtain ⟨Ao56, co56, eo56⟩ := Kd.R_slice Za.out
          subst eo56
          go_wp2_with (first | (go_at_call 13; (with_reducible refine (laws_at.calls _ _ l1 0 3 t263 _ ?side1 ?side2 A47.out).mono ?_); (case side1 => repeat (first | exact (Kd.C_below HR1.out HB.out) | (with_reducible refine Kd.C_alloc ?_ _) | (with_reducible refine Kd.C_drewN ?_ _) | (with_reducible refine Kd.C_drew ?_))); (case side2 => exact HC1.out); rintro e w' ⟨rfl, ⟨nd, rfl⟩⟩; (try first | exact ⟨rfl, _, World.drewN_drewN _ _ _⟩ | exact ⟨rfl, _, Eq.trans (World.drewN_drewN _ _ _) (congrArg (World.drewN _) (Nat.add_assoc _ _ _))⟩)) | (go_at_call 14; (with_reducible refine (impl_SlotOf.calls t263 t264 t265 _ A48.out).mono ?_); rintro e w' ⟨rfl, ⟨nd, rfl⟩⟩; (try first | exact ⟨rfl, _, World.drewN_drewN _ _ _⟩ | exact ⟨rfl, _, Eq.trans (World.drewN_drewN _ _ _) (congrArg (World.drewN _) (Nat.add_assoc _ _ _))⟩)) | (go_at_call 14; (with_reducible refine (impl_SlotOf.calls (wrap64 (t263 + 1)) t266 t267 _ A49.out).mono ?_); rintro e w' ⟨rfl, ⟨nd, rfl⟩⟩; (try first | exact ⟨rfl, _, World.drewN_drewN _ _ _⟩ | exact ⟨rfl, _, Eq.trans (World.drewN_drewN _ _ _) (congrArg (World.drewN _) (Nat.add_assoc _ _ _))⟩)))
          repeat (go_quiet (first | (go_at_call 13; (with_reducible refine (laws_at.calls _ _ l1 0 3 t263 _ ?side1 ?side2 A47.out).mono ?_); (case side1 => repeat (first | exact (Kd.C_below HR1.out HB.out) | (with_reducible refine Kd.C_alloc ?_ _) | (with_reducible refine Kd.C_drewN ?_ _) | (with_reducible refine Kd.C_drew ?_))); (case side2 => exact HC1.out); rintro e w' ⟨rfl, ⟨nd, rfl⟩⟩; (try first | exact ⟨rfl, _, World.drewN_drewN _ _ _⟩ | exact ⟨rfl, _, Eq.trans (World.drewN_drewN _ _ _) (congrArg (World.drewN _) (Nat.add_assoc _ _ _))⟩)) | (go_at_call 14; (with_reducible refine (impl_SlotOf.calls t263 t264 t265 _ A48.out).mono ?_); rintro e w' ⟨rfl, ⟨nd, rfl⟩⟩; (try first | exact ⟨rfl, _, World.drewN_drewN _ _ _⟩ | exact ⟨rfl, _, Eq.trans (World.drewN_drewN _ _ _) (congrArg (World.drewN _) (Nat.add_assoc _ _ _))⟩)) | (go_at_call 14; (with_reducible refine (impl_SlotOf.calls (wrap64 (t263 + 1)) t266 t267 _ A49.out).mono ?_); rintro e w' ⟨rfl, ⟨nd, rfl⟩⟩; (try first | exact ⟨rfl, _, World.drewN_drewN _ _ _⟩ | exact ⟨rfl, _, Eq.trans (World.drewN_drewN _ _ _) (congrArg (World.drewN _) (Nat.add_assoc _ _ _))⟩))); try go_wp2_with (first | (go_at_call 13; (with_reducible refine (laws_at.calls _ _ l1 0 3 t263 _ ?side1 ?side2 A47.out).mono ?_); (case side1 => repeat (first | exact (Kd.C_below HR1.out HB.out) | (with_reducible refine Kd.C_alloc ?_ _) | (with_reducible refine Kd.C_drewN ?_ _) | (with_reducible refine Kd.C_drew ?_))); (case side2 => exact HC1.out); rintro e w' ⟨rfl, ⟨nd, rfl⟩⟩; (try first | exact ⟨rfl, _, World.drewN_drewN _ _ _⟩ | exact ⟨rfl, _, Eq.trans (World.drewN_drewN _ _ _) (congrArg (World.drewN _) (Nat.add_assoc _ _ _))⟩)) | (go_at_call 14; (with_reducible refine (impl_SlotOf.calls t263 t264 t265 _ A48.out).mono ?_); rintro e w' ⟨rfl, ⟨nd, rfl⟩⟩; (try first | exact ⟨rfl, _, World.drewN_drewN _ _ _⟩ | exact ⟨rfl, _, Eq.trans (World.drewN_drewN _ _ _) (congrArg (World.drewN _) (Nat.add_assoc _ _ _))⟩)) | (go_at_call 14; (with_reducible refine (impl_SlotOf.calls (wrap64 (t263 + 1)) t266 t267 _ A49.out).mono ?_); rintro e w' ⟨rfl, ⟨nd, rfl⟩⟩; (try first | exact ⟨rfl, _, World.drewN_drewN _ _ _⟩ | exact ⟨rfl, _, Eq.trans (World.drewN_drewN _ _ _) (congrArg (World.drewN _) (Nat.add_assoc _ _ _))⟩))))
          go_ret
          exact ⟨by first | rfl | (simp [errW_none, errW_some] <;> rfl) | (simp [*, errW_none, errW_some] <;> rfl), zg_0 HB.out⟩
        ·rw [if_neg c51] at H
         have c51b0 : (t267 == 0) = false := beq_eq_false_iff_ne.mpr c51
         have c51b1 : (t267 != 0) = true := bne_iff_ne.mpr c51
         obtain rfl := Option.some.inj H
         obtain ⟨Ao57, co57, eo57⟩ := Kd.R_slice Za.out
         subst eo57
         go_wp2_with (first | (go_at_call 13; (with_reducible refine (laws_at.calls _ _ l1 0 3 t263 _ ?side1 ?side2 A47.out).mono ?_); (case side1 => repeat (first | exact (Kd.C_below HR1.out HB.out) | (with_reducible refine Kd.C_alloc ?_ _) | (with_reducible refine Kd.C_drewN ?_ _) | (with_reducible refine Kd.C_drew ?_))); (case side2 => exact HC1.out); rintro e w' ⟨rfl, ⟨nd, rfl⟩⟩; (try first | exact ⟨rfl, _, World.drewN_drewN _ _ _⟩ | exact ⟨rfl, _, Eq.trans (World.drewN_drewN _ _ _) (congrArg (World.drewN _) (Nat.add_assoc _ _ _))⟩)) | (go_at_call 14; (with_reducible refine (impl_SlotOf.calls t263 t264 t265 _ A48.out).mono ?_); rintro e w' ⟨rfl, ⟨nd, rfl⟩⟩; (try first | exact ⟨rfl, _, World.drewN_drewN _ _ _⟩ | exact ⟨rfl, _, Eq.trans (World.drewN_drewN _ _ _) (congrArg (World.drewN _) (Nat.add_assoc _ _ _))⟩)) | (go_at_call 14; (with_reducible refine (impl_SlotOf.calls (wrap64 (t263 + 1)) t266 t267 _ A49.out).mono ?_); rintro e w' ⟨rfl, ⟨nd, rfl⟩⟩; (try first | exact ⟨rfl, _, World.drewN_drewN _ _ _⟩ | exact ⟨rfl, _, Eq.trans (World.drewN_drewN _ _ _) (congrArg (World.drewN _) (Nat.add_assoc _ _ _))⟩)))
         repeat (go_quiet (first | (go_at_call 13; (with_reducible refine (laws_at.calls _ _ l1 0 3 t263 _ ?side1 ?side2 A47.out).mono ?_); (case side1 => repeat (first | exact (Kd.C_below HR1.out HB.out) | (with_reducible refine Kd.C_alloc ?_ _) | (with_reducible refine Kd.C_drewN ?_ _) | (with_reducible refine Kd.C_drew ?_))); (case side2 => exact HC1.out); rintro e w' ⟨rfl, ⟨nd, rfl⟩⟩; (try first | exact ⟨rfl, _, World.drewN_drewN _ _ _⟩ | exact ⟨rfl, _, Eq.trans (World.drewN_drewN _ _ _) (congrArg (World.drewN _) (Nat.add_assoc _ _ _))⟩)) | (go_at_call 14; (with_reducible refine (impl_SlotOf.calls t263 t264 t265 _ A48.out).mono ?_); rintro e w' ⟨rfl, ⟨nd, rfl⟩⟩; (try first | exact ⟨rfl, _, World.drewN_drewN _ _ _⟩ | exact ⟨rfl, _, Eq.trans (World.drewN_drewN _ _ _) (congrArg (World.drewN _) (Nat.add_assoc _ _ _))⟩)) | (go_at_call 14; (with_reducible refine (impl_SlotOf.calls (wrap64 (t263 + 1)) t266 t267 _ A49.out).mono ?_); rintro e w' ⟨rfl, ⟨nd, rfl⟩⟩; (try first | exact ⟨rfl, _, World.drewN_drewN _ _ _⟩ | exact ⟨rfl, _, Eq.trans (World.drewN_drewN _ _ _) (congrArg (World.drewN _) (Nat.add_assoc _ _ _))⟩))); try go_wp2_with (first | (go_at_call 13; (with_reducible refine (laws_at.calls _ _ l1 0 3 t263 _ ?side1 ?side2 A47.out).mono ?_); (case side1 => repeat (first | exact (Kd.C_below HR1.out HB.out) | (with_reducible refine Kd.C_alloc ?_ _) | (with_reducible refine Kd.C_drewN ?_ _) | (with_reducible refine Kd.C_drew ?_))); (case side2 => exact HC1.out); rintro e w' ⟨rfl, ⟨nd, rfl⟩⟩; (try first | exact ⟨rfl, _, World.drewN_drewN _ _ _⟩ | exact ⟨rfl, _, Eq.trans (World.drewN_drewN _ _ _) (congrArg (World.drewN _) (Nat.add_assoc _ _ _))⟩)) | (go_at_call 14; (with_reducible refine (impl_SlotOf.calls t263 t264 t265 _ A48.out).mono ?_); rintro e w' ⟨rfl, ⟨nd, rfl⟩⟩; (try first | exact ⟨rfl, _, World.drewN_drewN _ _ _⟩ | exact ⟨rfl, _, Eq.trans (World.drewN_drewN _ _ _) (congrArg (World.drewN _) (Nat.add_assoc _ _ _))⟩)) | (go_at_call 14; (with_reducible refine (impl_SlotOf.calls (wrap64 (t263 + 1)) t266 t267 _ A49.out).mono ?_); rintro e w' ⟨rfl, ⟨nd, rfl⟩⟩; (try first | exact ⟨rfl, _, World.drewN_drewN _ _ _⟩ | exact ⟨rfl, _, Eq.trans (World.drewN_drewN _ _ _) (congrArg (World.drewN _) (Nat.add_assoc _ _ _))⟩))))
         go_ret
         exact ⟨by first | rfl | (simp [errW_none, errW_some] <;> rfl) | (simp [*, errW_none, errW_some] <;> rfl), zg_0 HB.out⟩
       ·rw [if_neg c50] at H
        have c50b0 : (t265 == 0) = false := beq_eq_false_iff_ne.mpr c50
        have c50b1 : (t265 != 0) = true := bne_iff_ne.mpr c50
        obtain rfl := Option.some.inj H
        obtain ⟨Ao58, co58, eo58⟩ := Kd.R_slice Za.out
        subst eo58
        go_wp2_with (first | (go_at_call 13; (with_reducible refine (laws_at.calls _ _ l1 0 3 t263 _ ?side1 ?side2 A47.out).mono ?_); (case side1 => repeat (first | exact (Kd.C_below HR1.out HB.out) | (with_reducible refine Kd.C_alloc ?_ _) | (with_reducible refine Kd.C_drewN ?_ _) | (with_reducible refine Kd.C_drew ?_))); (case side2 => exact HC1.out); rintro e w' ⟨rfl, ⟨nd, rfl⟩⟩; (try first | exact ⟨rfl, _, World.drewN_drewN _ _ _⟩ | exact ⟨rfl, _, Eq.trans (World.drewN_drewN _ _ _) (congrArg (World.drewN _) (Nat.add_assoc _ _ _))⟩)) | (go_at_call 14; (with_reducible refine (impl_SlotOf.calls t263 t264 t265 _ A48.out).mono ?_); rintro e w' ⟨rfl, ⟨nd, rfl⟩⟩; (try first | exact ⟨rfl, _, World.drewN_drewN _ _ _⟩ | exact ⟨rfl, _, Eq.trans (World.drewN_drewN _ _ _) (congrArg (World.drewN _) (Nat.add_assoc _ _ _))⟩)) | (go_at_call 14; (with_reducible refine (impl_SlotOf.calls (wrap64 (t263 + 1)) t266 t267 _ A49.out).mono ?_); rintro e w' ⟨rfl, ⟨nd, rfl⟩⟩; (try first | exact ⟨rfl, _, World.drewN_drewN _ _ _⟩ | exact ⟨rfl, _, Eq.trans (World.drewN_drewN _ _ _) (congrArg (World.drewN _) (Nat.add_assoc _ _ _))⟩)))
        repeat (go_quiet (first | (go_at_call 13; (with_reducible refine (laws_at.calls _ _ l1 0 3 t263 _ ?side1 ?side2 A47.out).mono ?_); (case side1 => repeat (first | exact (Kd.C_below HR1.out HB.out) | (with_reducible refine Kd.C_alloc ?_ _) | (with_reducible refine Kd.C_drewN ?_ _) | (with_reducible refine Kd.C_drew ?_))); (case side2 => exact HC1.out); rintro e w' ⟨rfl, ⟨nd, rfl⟩⟩; (try first | exact ⟨rfl, _, World.drewN_drewN _ _ _⟩ | exact ⟨rfl, _, Eq.trans (World.drewN_drewN _ _ _) (congrArg (World.drewN _) (Nat.add_assoc _ _ _))⟩)) | (go_at_call 14; (with_reducible refine (impl_SlotOf.calls t263 t264 t265 _ A48.out).mono ?_); rintro e w' ⟨rfl, ⟨nd, rfl⟩⟩; (try first | exact ⟨rfl, _, World.drewN_drewN _ _ _⟩ | exact ⟨rfl, _, Eq.trans (World.drewN_drewN _ _ _) (congrArg (World.drewN _) (Nat.add_assoc _ _ _))⟩)) | (go_at_call 14; (with_reducible refine (impl_SlotOf.calls (wrap64 (t263 + 1)) t266 t267 _ A49.out).mono ?_); rintro e w' ⟨rfl, ⟨nd, rfl⟩⟩; (try first | exact ⟨rfl, _, World.drewN_drewN _ _ _⟩ | exact ⟨rfl, _, Eq.trans (World.drewN_drewN _ _ _) (congrArg (World.drewN _) (Nat.add_assoc _ _ _))⟩))); try go_wp2_with (first | (go_at_call 13; (with_reducible refine (laws_at.calls _ _ l1 0 3 t263 _ ?side1 ?side2 A47.out).mono ?_); (case side1 => repeat (first | exact (Kd.C_below HR1.out HB.out) | (with_reducible refine Kd.C_alloc ?_ _) | (with_reducible refine Kd.C_drewN ?_ _) | (with_reducible refine Kd.C_drew ?_))); (case side2 => exact HC1.out); rintro e w' ⟨rfl, ⟨nd, rfl⟩⟩; (try first | exact ⟨rfl, _, World.drewN_drewN _ _ _⟩ | exact ⟨rfl, _, Eq.trans (World.drewN_drewN _ _ _) (congrArg (World.drewN _) (Nat.add_assoc _ _ _))⟩)) | (go_at_call 14; (with_reducible refine (impl_SlotOf.calls t263 t264 t265 _ A48.out).mono ?_); rintro e w' ⟨rfl, ⟨nd, rfl⟩⟩; (try first | exact ⟨rfl, _, World.drewN_drewN _ _ _⟩ | exact ⟨rfl, _, Eq.trans (World.drewN_drewN _ _ _) (congrArg (World.drewN _) (Nat.add_assoc _ _ _))⟩)) | (go_at_call 14; (with_reducible refine (impl_SlotOf.calls (wrap64 (t263 + 1)) t266 t267 _ A49.out).mono ?_); rintro e w' ⟨rfl, ⟨nd, rfl⟩⟩; (try first | exact ⟨rfl, _, World.drewN_drewN _ _ _⟩ | exact ⟨rfl, _, Eq.trans (World.drewN_drewN _ _ _) (congrArg (World.drewN _) (Nat.add_assoc _ _ _))⟩))))
        go_ret
        exact ⟨by first | rfl | (simp [errW_none, errW_some] <;> rfl) | (simp [*, errW_none, errW_some] <;> rfl), zg_0 HB.out⟩
end
/-! ### Base -/
def okI (x : Int) : Prop := (Lit.int .i64 x).wf = true
def okU8 (x : Int) : Prop := (Lit.int .u8 x).wf = true
def okB (_ : Bool) : Prop := True
def okS (x : ByteArray) : Prop := x.size ≤ maxLen
theorem w64 {n : Int} (h0 : -9223372036854775808 ≤ n) (h1 : n ≤ 9223372036854775807) : wrap64 n = n := by unfold wrap64; omega
theorem okI_iff {n : Int} (h : (Lit.int .i64 n).wf = true) : -9223372036854775808 ≤ n ∧ n ≤ 9223372036854775807 := by
  simp [Lit.wf, IntKind.min, IntKind.max, IntKind.signed, IntKind.bits] at h
  omega
theorem Ev.k {α : Type} {g : Nat → Option α} {r : α} (K : Nat) (h : ∀ k, K ≤ k → g k = some r) : Ev g r := ⟨K, h⟩
theorem ev_some {α : Type} (r : α) : Ev (fun _ => some r) r := ⟨0, fun _ _ => rfl⟩
theorem ev_of_eq {α : Type} {g : Nat → Option α} {r : α} (h : ∀ k, g k = some r) : Ev g r := ⟨0, fun k _ => h k⟩
theorem ev_bind {α β : Type} {g : Nat → Option α} {f : Nat → α → Option β} {a : α} {r : β} (h : Ev g a) (k : Ev (fun n => f n a) r) : Ev (fun n => (g n).bind (f n)) r := Ev.bind h k
theorem ev_if {α : Type} {c : Prop} [Decidable c] {g f : Nat → Option α} {r : α} (h : c → Ev g r) (h' : ¬ c → Ev f r) : Ev (fun n => if c then g n else f n) r := by
  by_cases hc : c
  · simp only [if_pos hc]; exact h hc
  · simp only [if_neg hc]; exact h' hc
theorem ev_pos {α : Type} {c : Prop} [Decidable c] {g f : Nat → Option α} {r : α} (hc : c) (h : Ev g r) : Ev (fun n => if c then g n else f n) r := by
  simp only [if_pos hc]; exact h
theorem ev_neg {α : Type} {c : Prop} [Decidable c] {g f : Nat → Option α} {r : α} (hc : ¬ c) (h : Ev f r) : Ev (fun n => if c then g n else f n) r := by
  simp only [if_neg hc]; exact h
theorem strOfNums_size (l : List Int) : (strOfNums l).size = l.length := by show (List.map _ l).toArray.size = _; simp
theorem ba_size_append (a b : ByteArray) : (a ++ b).size = a.size + b.size := by simp
theorem toList_inj {a b : ByteArray} : a.toList = b.toList ↔ a = b := by
  constructor
  · intro h
    have h1 : a.data.toList = b.data.toList := by simpa [ByteArray.toList_eq] using h
    have : a.data = b.data := Array.toList_inj.1 h1
    cases a; cases b; simp_all
  · rintro rfl; rfl
/-! ### Src -/
def srcOK (at_ seed : Int) (n : Nat) : Prop := 0 ≤ at_ ∧ at_ ≤ (n : Int) ∧ 0 ≤ seed ∧ seed < 2147483648
theorem rd_byte (l : List Int) (h : ∀ x ∈ l, 0 ≤ x ∧ x ≤ 255) (i : Int) : 0 ≤ rd l i ∧ rd l i ≤ 255 := by
  unfold rd
  by_cases hi : i.toNat < l.length
  · have : l.getD i.toNat 0 = l[i.toNat] := by simp [hi]
    rw [this]; exact h _ (List.getElem_mem hi)
  · have : l.getD i.toNat 0 = 0 := by simp [hi]
    rw [this]; omega
theorem byte_ok (l : List Int) (h : ∀ x ∈ l, 0 ≤ x ∧ x ≤ 255) (at_ seed : Int) (n : Nat) (hs : srcOK at_ seed n) (hn : n ≤ 1000000000000) :
    ∃ r a s, spec_l00Src_byte.f l at_ seed = some (r, a, s) ∧ 0 ≤ r ∧ r ≤ 255 ∧ srcOK a s (n + 1) := by
  obtain ⟨h0, h1, h2, h3⟩ := hs
  unfold spec_l00Src_byte.f
  have e1 : wrap64 (at_ + 1) = at_ + 1 := w64 (by omega) (by omega)
  have e2 : wrap64 (at_ + 1 - 1) = at_ := by rw [w64 (by omega) (by omega)]; omega
  rw [e1, e2]
  by_cases c1 : at_ + 1 ≤ (l.length : Int)
  · rw [if_pos c1, if_pos h0, if_pos (by omega)]
    have hb := rd_byte l h at_
    generalize rd l at_ = v at hb ⊢
    have e3 : wrap64 v = v := w64 (by omega) (by omega)
    have e4 : wrap64 (seed * 31) = seed * 31 := w64 (by omega) (by omega)
    rw [e3, e4]
    have e5 : wrap64 (seed * 31 + v) = seed * 31 + v := w64 (by omega) (by omega)
    rw [e5]
    have e6 : wrap64 (seed * 31 + v + 7) = seed * 31 + v + 7 := w64 (by omega) (by omega)
    rw [e6]
    refine ⟨_, _, _, rfl, hb.1, hb.2, by omega, by omega, ?_, ?_⟩
    · rw [Int.tmod_eq_emod_of_nonneg (by omega)]; omega
    · rw [Int.tmod_eq_emod_of_nonneg (by omega)]; omega
  · rw [if_neg c1]
    by_cases c2 : at_ + 1 > 3000
    · rw [if_pos c2]; exact ⟨_, _, _, rfl, by omega, by omega, by omega, by omega, h2, h3⟩
    · rw [if_neg c2]
      have e4 : wrap64 (seed * 1103515245) = seed * 1103515245 := w64 (by omega) (by omega)
      rw [e4]
      have e6 : wrap64 (seed * 1103515245 + 12345) = seed * 1103515245 + 12345 := w64 (by omega) (by omega)
      rw [e6, Int.tmod_eq_emod_of_nonneg (by omega : 0 ≤ seed * 1103515245 + 12345)]
      have hq0 : 0 ≤ (seed * 1103515245 + 12345) % 2147483648 := by omega
      have hq1 : (seed * 1103515245 + 12345) % 2147483648 < 2147483648 := by omega
      generalize (seed * 1103515245 + 12345) % 2147483648 = q at hq0 hq1 ⊢
      rw [Int.tdiv_eq_ediv_of_nonneg hq0]
      have e7 : wrap64 (q / 65536) = q / 65536 := w64 (by omega) (by omega)
      rw [e7, Int.tmod_eq_emod_of_nonneg (by omega)]
      exact ⟨_, _, _, rfl, by omega, by omega, by omega, by omega, hq0, hq1⟩
theorem srcOK_mono {a s : Int} {n m : Nat} (h : srcOK a s n) (hm : n ≤ m) : srcOK a s m := ⟨h.1, by have := h.2.1; omega, h.2.2.1, h.2.2.2⟩
theorem tmod_range {x n : Int} (h0 : 0 ≤ x) (hn : 0 < n) : 0 ≤ Int.tmod x n ∧ Int.tmod x n < n := by
  rw [Int.tmod_eq_emod_of_nonneg h0]; exact ⟨Int.emod_nonneg _ (by omega), Int.emod_lt_of_pos _ hn⟩
theorem next_ok (l : List Int) (h : ∀ x ∈ l, 0 ≤ x ∧ x ≤ 255) (at_ seed : Int) (n : Nat) (hs : srcOK at_ seed n) (hn : n ≤ 100000000000) (m : Int) :
    ∃ r a s, spec_l00Src_next.f l at_ seed m = some (r, a, s) ∧ 0 ≤ r ∧ (m ≤ 1 → r = 0) ∧ (1 ≤ m → r < m) ∧ srcOK a s (n + 3) := by
  unfold spec_l00Src_next.f
  by_cases c1 : m ≤ 1
  · rw [if_pos c1]; exact ⟨_, _, _, rfl, by omega, fun _ => rfl, fun _ => by omega, srcOK_mono hs (by omega)⟩
  · rw [if_neg c1]
    obtain ⟨r, a, s, e, r0, r1, ho⟩ := byte_ok l h at_ seed n hs (by omega)
    by_cases c2 : m ≤ 256
    · rw [if_pos c2, e, Option.bind_some, if_neg (by omega)]
      have := tmod_range r0 (show 0 < m by omega)
      exact ⟨_, _, _, rfl, this.1, fun h => absurd h c1, fun _ => this.2, srcOK_mono ho (by omega)⟩
    · rw [if_neg c2, e, Option.bind_some]
      obtain ⟨r', a', s', e', r0', r1', ho'⟩ := byte_ok l h a s (n + 1) ho (by omega)
      rw [e', Option.bind_some]
      obtain ⟨r'', a'', s'', e'', r0'', r1'', ho''⟩ := byte_ok l h a' s' (n + 2) ho' (by omega)
      rw [e'', Option.bind_some, if_neg (by omega)]
      dsimp only
      have x1 : wrap64 (r * 65536) = r * 65536 := w64 (by omega) (by omega)
      have x2 : wrap64 (r' * 256) = r' * 256 := w64 (by omega) (by omega)
      rw [x1, x2]
      have x3 : wrap64 (r * 65536 + r' * 256) = r * 65536 + r' * 256 := w64 (by omega) (by omega)
      rw [x3]
      have x4 : wrap64 (r * 65536 + r' * 256 + r'') = r * 65536 + r' * 256 + r'' := w64 (by omega) (by omega)
      rw [x4]
      have := tmod_range (show 0 ≤ r * 65536 + r' * 256 + r'' by omega) (show 0 < m by omega)
      exact ⟨_, _, _, rfl, this.1, fun h => absurd h c1, fun _ => this.2, ho''⟩
theorem source_ok (l : List Int) : srcOK 0 ((l.length : Int) % 1000) 0 := ⟨by omega, by omega, by omega, by omega⟩
theorem bytes_of {l : List Int} (h : ∀ x ∈ l, (Lit.int .u8 x).wf = true) : ∀ x ∈ l, 0 ≤ x ∧ x ≤ 255 := by
  intro x hx
  have := h x hx
  simp [Lit.wf, IntKind.min, IntKind.max, IntKind.signed, IntKind.bits] at this
  omega
/-! ### Mark -/
theorem ev_loop {α : Type} {g : Nat → Nat → Option α} {r : α} (n : Nat) (hend : Ev (fun k => g k n) r) (hstep : ∀ i, i < n → ∃ c, ∀ k, g (k + c) i = g k (i + 1) ∧ 1 ≤ c) : ∀ d i, i ≤ n → n - i = d → Ev (fun k => g k i) r := by
  intro d
  induction d with
  | zero =>
    intro i hi hd
    have e : i = n := by omega
    rw [e]; exact hend
  | succ d ih =>
    intro i hi hd
    obtain ⟨K, hK⟩ := ih (i + 1) (by omega) (by omega)
    obtain ⟨c, hc⟩ := hstep i (by omega)
    refine ⟨K + c, fun k hk => ?_⟩
    obtain ⟨m, rfl⟩ : ∃ m, k = m + c := ⟨k - c, by omega⟩
    show g (m + c) i = _
    rw [(hc m).1]; exact hK m (by omega)
theorem rdn (l : List Int) (i : Nat) (h : i < l.length) : rd l (i : Int) = l[i] := by simp [rd, h]
theorem wnext (i : Nat) (h : i < 1000000000000000000) : wrap64 ((i : Int) + 1) = ((i + 1 : Nat) : Int) := by rw [w64 (by omega) (by omega)]; omega
def countUp (a : Int) (n : Nat) : List Int := (List.range n).map (fun j : Nat => a + (j : Int))
theorem countUp_length (a : Int) (n : Nat) : (countUp a n).length = n := by simp [countUp]
theorem countUp_get (a : Int) (n i : Nat) (h : i < n) : (countUp a n)[i]'(by rw [countUp_length]; exact h) = a + (i : Int) := by simp [countUp]
theorem set_mid {α : Type} (l m : List α) (hlm : m.length = l.length) (i : Nat) (h : i < l.length) (x : α) (hx : m[i]'(by omega) = x) : (m.take i ++ l.drop i).set i x = m.take (i + 1) ++ l.drop (i + 1) := by
  subst hx
  rw [List.drop_eq_getElem_cons h, List.set_append_right _ _ (by rw [List.length_take]; omega)]
  have : i - (m.take i).length = 0 := by rw [List.length_take]; omega
  rw [this, List.set_cons_zero, List.take_succ_eq_append_getElem (by omega), List.append_assoc]
  rfl
/-! ### Ev -/
theorem Ev.succ {α : Type} {g : Nat → Option α} {r : α} (h : Ev (fun k => g (k + 1)) r) : Ev g r := Ev.step (f := fun k => g (k + 1)) (fun _ => rfl) h
theorem ev_all {α : Type} {g : Nat → Nat → Option Bool} (l : List α) (q : α → Bool) (r : Bool) (hend : Ev (fun k => g k l.length) r) (hstep : ∀ i (h : i < l.length) k, g (k + 1) i = if q l[i] = true then g k (i + 1) else some false) : Ev (fun k => g k 0) (l.all q && r) := by
  have hgo : ∀ d i, i ≤ l.length → l.length - i = d → Ev (fun k => g k i) ((l.drop i).all q && r) := by
    intro d
    induction d with
    | zero =>
      intro i hi hd
      have e : i = l.length := by omega
      subst e
      rw [List.drop_of_length_le (by omega)]; simp only [List.all_nil, Bool.true_and]; exact hend
    | succ d ih =>
      intro i hi hd
      have hlt : i < l.length := by omega
      refine Ev.step (f := fun k => if q l[i] = true then g k (i + 1) else some false) (hstep i hlt) ?_
      rw [List.drop_eq_getElem_cons hlt, List.all_cons]
      cases hq : q l[i]
      · simp only [Bool.false_and, Bool.false_eq_true, if_false]; exact ev_some _
      · simp only [Bool.true_and, if_true]; exact ih (i + 1) (by omega) (by omega)
  have := hgo l.length 0 (by omega) (by omega)
  rwa [List.drop_zero] at this
theorem ev_asks {α β : Type} {g : Nat → Nat → Option β} (l : List α) (q : α → Bool) (r bad : β) (hend : Ev (fun k => g k l.length) r) (hstep : ∀ i (h : i < l.length) k, g (k + 1) i = if q l[i] = true then g k (i + 1) else some bad) : Ev (fun k => g k 0) (if l.all q = true then r else bad) := by
  have hgo : ∀ d i, i ≤ l.length → l.length - i = d → Ev (fun k => g k i) (if (l.drop i).all q = true then r else bad) := by
    intro d
    induction d with
    | zero =>
      intro i hi hd
      have e : i = l.length := by omega
      subst e
      rw [List.drop_of_length_le (by omega)]; simp only [List.all_nil, if_true]; exact hend
    | succ d ih =>
      intro i hi hd
      have hlt : i < l.length := by omega
      refine Ev.step (f := fun k => if q l[i] = true then g k (i + 1) else some bad) (hstep i hlt) ?_
      rw [List.drop_eq_getElem_cons hlt, List.all_cons]
      cases hq : q l[i]
      · simp only [Bool.false_and, Bool.false_eq_true, if_false]; exact ev_some _
      · simp only [Bool.true_and, if_true]; exact ih (i + 1) (by omega) (by omega)
  have := hgo l.length 0 (by omega) (by omega)
  rwa [List.drop_zero] at this
/-! ### Draw -/
theorem some_fill (l : List Int) (h : ∀ x ∈ l, 0 ≤ x ∧ x ≤ 255) (m : Nat) (hm : m ≤ 1000000) : ∀ (d i : Nat) (out : List Int) (at_ seed : Int) (n : Nat), i + d = m → out.length = i → n + 3 * d ≤ 10000000000 → srcOK at_ seed n →
    ∃ t a s, Ev (fun k => spec_l00Src_some.l0 k (m : Int) out (i : Int) l at_ seed) (t, a, s) ∧ t.size = m ∧ srcOK a s (n + 3 * d) := by
  intro d
  induction d with
  | zero =>
    intro i out at_ seed n hi ho hn hs
    refine ⟨strOfNums out, at_, seed, Ev.step (f := fun _ => some (strOfNums out, at_, seed)) (fun k => ?_) (ev_some _), by rw [strOfNums_size]; omega, hs⟩
    simp only [spec_l00Src_some.l0]; rw [if_neg (by omega)]
  | succ d ih =>
    intro i out at_ seed n hi ho hn hs
    obtain ⟨r, a, s, e, r0, -, r1, o⟩ := next_ok l h at_ seed n hs (by omega) 26
    obtain ⟨t, a', s', e', ht, ho'⟩ := ih (i + 1) (out ++ [(wrap64 (97 + r)) % 256]) a s (n + 3) (by omega) (by simp; omega) (by omega) o
    refine ⟨t, a', s', Ev.step (f := fun k => spec_l00Src_some.l0 k (m : Int) (out ++ [(wrap64 (97 + r)) % 256]) ((i + 1 : Nat) : Int) l a s) (fun k => ?_) e', ht, srcOK_mono ho' (by omega)⟩
    simp only [spec_l00Src_some.l0]
    rw [if_pos (by omega), e, Option.bind_some, if_pos (by omega), wnext i (by omega)]
theorem some_ev (l : List Int) (h : ∀ x ∈ l, 0 ≤ x ∧ x ≤ 255) (m : Nat) (hm : m ≤ 1000000) (at_ seed : Int) (n : Nat) (hs : srcOK at_ seed n) (hn : n + 3 * m ≤ 10000000000) :
    ∃ t a s, Ev (fun k => spec_l00Src_some.f k l at_ seed (m : Int)) (t, a, s) ∧ t.size = m ∧ srcOK a s (n + 3 * m) :=
  some_fill l h m hm m 0 [] at_ seed n (by omega) rfl hn hs
/-! ### In -/
def inB (n a b : Int) : Bool := decide (a ≤ n) && decide (n ≤ b)
theorem inB_iff {n a b : Int} : inB n a b = true ↔ a ≤ n ∧ n ≤ b := by simp [inB]
theorem inB_no {n a b : Int} : inB n a b = false ↔ ¬ (a ≤ n ∧ n ≤ b) := by rw [← inB_iff]; simp
theorem l01In_eq (n a b : Int) : spec_l01In.f n a b = some (inB n a b) := by
  unfold spec_l01In.f inB; by_cases h : a ≤ n <;> simp [h]
theorem within_eq (n a b : Int) : impl_within.f n a b = some (inB n a b) := by
  unfold impl_within.f inB; by_cases h : a ≤ n <;> simp [h]
theorem and_opt {b : Bool} {c : Option Bool} {c' : Bool} (h : c = some c') : (if b = true then c else some false) = some (b && c') := by
  cases b <;> simp [h]
/-! ### Codec -/
/-- The bytes of a number. -/
def quad (n : Int) : List Int := [n % 256, n / 256 % 256, n / 65536 % 256, n / 16777216 % 256]
def packP (l : List Int) : List Int := l.flatMap quad
theorem packP_length (l : List Int) : (packP l).length = 4 * l.length := by
  induction l with
  | nil => rfl
  | cons x xs ih => simp only [packP, List.flatMap_cons, List.length_append] at ih ⊢; rw [ih]; simp [quad]; omega
theorem packP_snoc (l : List Int) (x : Int) : packP (l ++ [x]) = packP l ++ quad x := by simp [packP]
theorem rd_eq (l : List Int) (i : Nat) (h : i < l.length) : rd l (i : Int) = l[i] := by simp [rd, h]
theorem take_next {α : Type} (l : List α) (i : Nat) (h : i < l.length) : l.take (i + 1) = l.take i ++ [l[i]] := by
  rw [List.take_succ_eq_append_getElem h]
theorem spec_pack_in (l out : List Int) (i : Nat) (n : Int) (h : out.length + 4 < 140737488355328) (k : Nat) (hk : 5 ≤ k) :
    spec_l02Pack.l1 k l out i n 0 = spec_l02Pack.l0 (k - 5) l (out ++ quad n) (wrap64 ((i : Int) + 1)) := by
  obtain ⟨k, rfl⟩ : ∃ m, k = m + 5 := ⟨k - 5, by omega⟩
  have e1 : wrap64 (0 + 1) = 1 := by rw [w64 (by omega) (by omega)]; omega
  have e2 : wrap64 (1 + 1) = 2 := by rw [w64 (by omega) (by omega)]; omega
  have e3 : wrap64 (2 + 1) = 3 := by rw [w64 (by omega) (by omega)]; omega
  have e4 : wrap64 (3 + 1) = 4 := by rw [w64 (by omega) (by omega)]; omega
  simp only [spec_l02Pack.l1, e1, e2, e3, e4, List.length_append, List.length_cons, List.length_nil]
  rw [if_pos (by omega), if_pos (by omega), if_pos (by omega), if_pos (by omega), if_pos (by omega), if_pos (by omega), if_pos (by omega), if_pos (by omega), if_neg (by omega)]
  simp only [quad, Nat.add_sub_cancel, List.append_assoc, List.cons_append, List.nil_append]
  rw [Int.ediv_ediv_of_nonneg (by omega), Int.ediv_ediv_of_nonneg (by omega)]
  rfl
theorem spec_pack_from (l : List Int) (hl : l.length ≤ 1000000000) (d : Nat) : ∀ (k i : Nat), i ≤ l.length → l.length - i = d → 6 * d < k →
    spec_l02Pack.l0 k l (packP (l.take i)) i = some (strOfNums (packP l)) := by
  induction d with
  | zero =>
    intro k i hi hd hk
    obtain ⟨k, rfl⟩ : ∃ m, k = m + 1 := ⟨k - 1, by omega⟩
    simp only [spec_l02Pack.l0]
    rw [if_neg (by omega), List.take_of_length_le (by omega)]
  | succ d ih =>
    intro k i hi hd hk
    obtain ⟨k, rfl⟩ : ∃ m, k = m + 1 := ⟨k - 1, by omega⟩
    have hlt : i < l.length := by omega
    have hp := packP_length (l.take i)
    have hl2 : (l.take i).length ≤ i := List.length_take_le _ _
    simp only [spec_l02Pack.l0]
    rw [if_pos (by omega), if_pos (by omega), spec_pack_in _ _ _ _ (by omega) _ (by omega), rd_eq l i hlt, ← packP_snoc, ← take_next l i hlt, w64 (by omega) (by omega)]
    exact ih (k - 5) (i + 1) (by omega) (by omega) (by omega)
theorem spec_pack_ev (l : List Int) (hl : l.length ≤ 1000000000) : Ev (fun k => spec_l02Pack.f k l) (strOfNums (packP l)) :=
  ⟨6 * l.length + 1, fun k hk => by have := spec_pack_from l hl l.length k 0 (by omega) (by omega) (by omega); simpa [spec_l02Pack.f, packP] using this⟩
theorem impl_pack_from (l : List Int) (hl : l.length ≤ 1000000000) (d : Nat) : ∀ (k i : Nat), i ≤ l.length → l.length - i = d → d < k →
    impl_pack.l0 k (packP (l.take i)) l (l.length : Int) i = some (strOfNums (packP l)) := by
  induction d with
  | zero =>
    intro k i hi hd hk
    obtain ⟨k, rfl⟩ : ∃ m, k = m + 1 := ⟨k - 1, by omega⟩
    simp only [impl_pack.l0]
    rw [if_neg (by omega), List.take_of_length_le (by omega)]
  | succ d ih =>
    intro k i hi hd hk
    obtain ⟨k, rfl⟩ : ∃ m, k = m + 1 := ⟨k - 1, by omega⟩
    have hlt : i < l.length := by omega
    have hp := packP_length (l.take i)
    have hl2 : (l.take i).length ≤ i := List.length_take_le _ _
    simp only [impl_pack.l0]
    rw [if_pos (by omega), if_pos (by omega), if_pos (by omega)]
    simp only [Option.bind_some, List.length_cons, List.length_nil]
    rw [if_pos (by omega), rd_eq l i hlt]
    have : packP (l.take i) ++ [l[i] % 256, l[i] / 256 % 256, l[i] / 65536 % 256, l[i] / 16777216 % 256] = packP (l.take (i + 1)) := by
      rw [take_next l i hlt, packP_snoc]; rfl
    rw [this, w64 (by omega) (by omega)]
    exact ih k (i + 1) (by omega) (by omega) (by omega)
theorem impl_pack_ev (l : List Int) (hl : l.length ≤ 1000000000) : Ev (fun k => impl_pack.f k l) (strOfNums (packP l)) :=
  ⟨l.length + 1, fun k hk => by have := impl_pack_from l hl l.length k 0 (by omega) (by omega) (by omega); simpa [impl_pack.f, packP] using this⟩
/-- One step of the sum. -/
def sumStep (t : ByteArray) (n : Int) (i : Nat) : Int := Int.tmod (wrap64 (n + (wrap64 ((wrap64 ((i : Int) + 1)) * (wrap64 ((wrap64 (bt t i)) + 1)))))) 251
def sumP (t : ByteArray) : Int := (List.range t.size).foldl (sumStep t) 0
theorem range_split (i n : Nat) (h : i < n) : List.range' i (n - i) = i :: List.range' (i + 1) (n - (i + 1)) := by
  obtain ⟨d, rfl⟩ : ∃ d, n = i + 1 + d := ⟨n - (i + 1), by omega⟩
  rw [show i + 1 + d - i = d + 1 by omega, show i + 1 + d - (i + 1) = d by omega, List.range'_succ]
theorem spec_sum_from (t : ByteArray) (ht : t.size ≤ 1000000000000) (d : Nat) : ∀ (k i : Nat) (n : Int), i ≤ t.size → t.size - i = d → d < k →
    spec_l02Sum.l0 k t n i = some ((List.range' i (t.size - i)).foldl (sumStep t) n) := by
  induction d with
  | zero =>
    intro k i n hi hd hk
    obtain ⟨k, rfl⟩ : ∃ m, k = m + 1 := ⟨k - 1, by omega⟩
    simp only [spec_l02Sum.l0]
    rw [if_neg (by omega), hd]; rfl
  | succ d ih =>
    intro k i n hi hd hk
    obtain ⟨k, rfl⟩ : ∃ m, k = m + 1 := ⟨k - 1, by omega⟩
    simp only [spec_l02Sum.l0]
    rw [if_pos (by omega), if_pos (by omega), range_split i t.size (by omega)]
    have e : wrap64 ((i : Int) + 1) = ((i + 1 : Nat) : Int) := by rw [w64 (by omega) (by omega)]; rfl
    have := ih k (i + 1) (sumStep t n i) (by omega) (by omega) (by omega)
    rw [List.foldl_cons, ← this]
    simp only [sumStep, e]
theorem spec_sum_ev (t : ByteArray) (ht : t.size ≤ 1000000000000) : Ev (fun k => spec_l02Sum.f k t) (sumP t) :=
  ⟨t.size + 1, fun k hk => by have := spec_sum_from t ht t.size k 0 0 (by omega) (by omega) (by omega); simpa [spec_l02Sum.f, sumP, List.range_eq_range'] using this⟩
theorem impl_sum_from (t : ByteArray) (ht : t.size ≤ 1000000000000) (d : Nat) : ∀ (k i : Nat) (n : Int), i ≤ t.size → t.size - i = d → d < k →
    impl_sumOf.l0 k t n (t.size : Int) i = some ((List.range' i (t.size - i)).foldl (sumStep t) n) := by
  induction d with
  | zero =>
    intro k i n hi hd hk
    obtain ⟨k, rfl⟩ : ∃ m, k = m + 1 := ⟨k - 1, by omega⟩
    simp only [impl_sumOf.l0]
    rw [if_neg (by omega), hd]; rfl
  | succ d ih =>
    intro k i n hi hd hk
    obtain ⟨k, rfl⟩ : ∃ m, k = m + 1 := ⟨k - 1, by omega⟩
    simp only [impl_sumOf.l0]
    rw [if_pos (by omega), if_pos (by omega), if_pos (by omega), range_split i t.size (by omega)]
    have e : wrap64 ((i : Int) + 1) = ((i + 1 : Nat) : Int) := by rw [w64 (by omega) (by omega)]; rfl
    have := ih k (i + 1) (sumStep t n i) (by omega) (by omega) (by omega)
    rw [List.foldl_cons, ← this]
    simp only [sumStep, e]
theorem impl_sum_ev (t : ByteArray) (ht : t.size ≤ 1000000000000) : Ev (fun k => impl_sumOf.f k t) (sumP t) :=
  ⟨t.size + 1, fun k hk => by have := impl_sum_from t ht t.size k 0 0 (by omega) (by omega) (by omega); simpa [impl_sumOf.f, sumP, List.range_eq_range'] using this⟩
/-- A record. -/
def headP (kind : Int) (l : List Int) : ByteArray := strOfNums [kind % 256, (l.length : Int) % 256]
def sealP (kind : Int) (l : List Int) : ByteArray := headP kind l ++ strOfNums [sumP (headP kind l ++ strOfNums (packP l)) % 256, 0] ++ strOfNums (packP l)
theorem headP_size (kind : Int) (l : List Int) : (headP kind l).size = 2 := by simp [headP, strOfNums_size]
theorem sealP_size (kind : Int) (l : List Int) : (sealP kind l).size = 4 + 4 * l.length := by simp [sealP, headP_size, strOfNums_size, packP_length]
theorem spec_seal_ev (kind : Int) (l : List Int) (hl : l.length ≤ 1000000000) : Ev (fun k => spec_l02Seal.f k kind l) (sealP kind l) := by
  have hp : (strOfNums (packP l)).size = 4 * l.length := by rw [strOfNums_size, packP_length]
  have hh := headP_size kind l
  unfold spec_l02Seal.f
  refine ev_bind (spec_pack_ev l hl) ?_
  simp only [Option.bind_some]
  refine ev_pos (by rw [strOfNums_size, hp]; simp; omega) ?_
  refine ev_bind (spec_sum_ev _ (by rw [ba_size_append, strOfNums_size, hp]; simp; omega)) ?_
  refine ev_pos (by simp [strOfNums_size]) ?_
  refine ev_pos (by rw [ba_size_append, hp]; simp [strOfNums_size]; omega) ?_
  exact ev_some _
theorem impl_seal_ev (kind : Int) (l : List Int) (hl : l.length ≤ 1000000000) : Ev (fun k => impl_seal.f k kind l) (sealP kind l) := by
  have hp : (strOfNums (packP l)).size = 4 * l.length := by rw [strOfNums_size, packP_length]
  have hh := headP_size kind l
  unfold impl_seal.f
  simp only [Option.bind_some]
  refine ev_bind (impl_pack_ev l hl) ?_
  refine ev_pos (by rw [strOfNums_size, hp]; simp; omega) ?_
  refine ev_bind (impl_sum_ev _ (by rw [ba_size_append, strOfNums_size, hp]; simp; omega)) ?_
  refine ev_pos (by simp [strOfNums_size]) ?_
  refine ev_pos (by rw [ba_size_append, hp]; simp [strOfNums_size]; omega) ?_
  exact ev_some _
/-! ### Update -/
def updateOK (a : Int) (d : ByteArray) : Bool := inB a 9 38 && decide ((d.size : Int) ≤ 72)
theorem spec_Update_eq (a : Int) (d : ByteArray) : spec_l07Update.f a d = some (updateOK a d) := by
  simp only [spec_l07Update.f, l01In_eq, Option.bind_some]
  exact and_opt rfl
theorem impl_updateOK_eq (a : Int) (d : ByteArray) : impl_updateOK.f a d = some (updateOK a d) := by
  simp only [impl_updateOK.f, within_eq, Option.bind_some]
  exact and_opt rfl
theorem updateOK_size {a : Int} {d : ByteArray} (h : updateOK a d = true) : d.size ≤ 72 := by
  simp [updateOK] at h; omega
theorem spec_l07Encode_ev (a : Int) (d : ByteArray) (h : d.size ≤ 1000000) : Ev (fun k => spec_l07Encode.f k a d) (sealP 8 [a] ++ d) := by
  unfold spec_l07Encode.f
  refine ev_bind (spec_seal_ev 8 _ (by simp)) ?_
  exact ev_pos (by rw [sealP_size]; simp; omega) (ev_some _)
theorem impl_Update_text_ev (a : Int) (d : ByteArray) (h : d.size ≤ 1000000) : Ev (fun k => impl_Update_text.f k a d) (sealP 8 [a] ++ d) := by
  unfold impl_Update_text.f
  refine ev_bind (impl_seal_ev 8 _ (by simp)) ?_
  exact ev_pos (by rw [sealP_size]; simp; omega) (ev_some _)
theorem spec_EncodeUpdate_ev (a : Int) (d : ByteArray) : Ev (fun k => spec_EncodeUpdate.f k a d) (if updateOK a d = true then (sealP 8 [a] ++ d, 0) else ((⟨#[]⟩ : ByteArray), 1)) := by
  unfold spec_EncodeUpdate.f
  simp only [spec_Update_eq, Option.bind_some]
  cases h : updateOK a d
  · exact ev_some _
  · simp only [if_true]
    exact ev_bind (spec_l07Encode_ev a d (by have := updateOK_size h; omega)) (ev_some _)
theorem impl_EncodeUpdate_ev (a : Int) (d : ByteArray) : Ev (fun k => impl_EncodeUpdate.f k a d) (if updateOK a d = true then (sealP 8 [a] ++ d, 0) else ((⟨#[]⟩ : ByteArray), 1)) := by
  unfold impl_EncodeUpdate.f
  simp only [impl_updateOK_eq, Option.bind_some]
  cases h : updateOK a d
  · exact ev_some _
  · simp only [if_true]
    exact ev_bind (impl_Update_text_ev a d (by have := updateOK_size h; omega)) (ev_some _)
/-! ### DrawU -/
def updDrawn (x : S28) : Prop := 9 ≤ x.f0 ∧ x.f0 ≤ 28 ∧ x.f1.size ≤ 8
theorem update_drawn (l : List Int) (h : ∀ x ∈ l, 0 ≤ x ∧ x ≤ 255) (at_ seed : Int) (n : Nat) (hs : srcOK at_ seed n) (hn : n ≤ 1000000000) :
    ∃ p t a s, Ev (fun k => spec_l00Src_update.f k l at_ seed) (p, t, a, s) ∧ (9 ≤ p ∧ p ≤ 28 ∧ t.size ≤ 8) ∧ srcOK a s (n + 30) := by
  obtain ⟨p, a1, s1, e1, p0, -, p1, o1⟩ := next_ok l h at_ seed n hs (by omega) 20
  obtain ⟨m, a2, s2, e2, m0, -, m1, o2⟩ := next_ok l h a1 s1 _ o1 (by omega) 9
  have m1' := m1 (by omega)
  have p1' := p1 (by omega)
  obtain ⟨j, rfl⟩ : ∃ j : Nat, m = (j : Int) := ⟨m.toNat, by omega⟩
  obtain ⟨t, a3, s3, e3, ht, o3⟩ := some_ev l h j (by omega) a2 s2 _ o2 (by omega)
  refine ⟨9 + p, t, a3, s3, ?_, ⟨by omega, by omega, by omega⟩, srcOK_mono o3 (by omega)⟩
  unfold spec_l00Src_update.f
  simp only [e1, Option.bind_some, e2]
  refine ev_bind e3 ?_
  have hw : wrap64 (9 + p) = 9 + p := w64 (by omega) (by omega)
  simp only [hw]
  exact ev_some _
theorem updates_fill (l : List Int) (h : ∀ x ∈ l, 0 ≤ x ∧ x ≤ 255) : ∀ (d : Nat) (out : List S28) (at_ seed : Int) (n : Nat), out.length + d ≤ 100 → n + 30 * d ≤ 1000000000 → (∀ x ∈ out, updDrawn x) → srcOK at_ seed n →
    ∃ r a s, Ev (fun k => spec_l00Src_updates.l0 k out (d : Int) l at_ seed) (r, a, s) ∧ r.length ≤ out.length + d ∧ ∀ x ∈ r, updDrawn x := by
  intro d
  induction d with
  | zero =>
    intro out at_ seed n ho hn hx hs
    refine ⟨out, at_, seed, Ev.step (f := fun _ => some (out, at_, seed)) (fun k => ?_) (ev_some _), by omega, hx⟩
    simp only [spec_l00Src_updates.l0]; rw [if_neg (by omega)]
  | succ d ih =>
    intro out at_ seed n ho hn hx hs
    obtain ⟨p, t, a, s, e, hp, o⟩ := update_drawn l h at_ seed n hs (by omega)
    obtain ⟨r, a', s', e', h1, h2⟩ := ih (out ++ [(⟨p, t⟩ : S28)]) a s (n + 30) (by simp; omega) (by omega) (by
      intro x hm
      rcases List.mem_append.1 hm with hm | hm
      · exact hx x hm
      · rw [List.mem_singleton.1 hm]; exact hp) o
    refine ⟨r, a', s', Ev.succ ?_, by simp at h1; omega, h2⟩
    simp only [spec_l00Src_updates.l0]
    refine ev_pos (by omega) (ev_bind e (ev_pos (by omega) ?_))
    rw [w64 (n := ((d + 1 : Nat) : Int) - 1) (by omega) (by omega), show ((d + 1 : Nat) : Int) - 1 = (d : Int) by omega]
    exact e'
theorem updates_drawn (l : List Int) (h : ∀ x ∈ l, 0 ≤ x ∧ x ≤ 255) : ∃ r, Ev (fun k => spec_UpdatesOf.f k l) r ∧ r.length ≤ 4 ∧ ∀ x ∈ r, updDrawn x := by
  unfold spec_UpdatesOf.f spec_l00Source.f spec_l00Src_updates.f
  simp only [Option.bind_some]
  obtain ⟨m, a1, s1, e1, m0, -, m1, o1⟩ := next_ok l h _ _ _ (source_ok l) (by omega) 5
  have m1' := m1 (by omega)
  rw [e1]; simp only [Option.bind_some]
  obtain ⟨j, rfl⟩ : ∃ j : Nat, m = (j : Int) := ⟨m.toNat, by omega⟩
  obtain ⟨r, a, s, e, h1, h2⟩ := updates_fill l h j [] a1 s1 _ (by simp; omega) (by omega) (by simp) o1
  exact ⟨r, ev_bind e (ev_some _), by simp at h1; omega, h2⟩
theorem updDrawn_ok {x : S28} (h : updDrawn x) : updateOK x.f0 x.f1 = true := by
  unfold updDrawn at h
  unfold updateOK
  rw [inB_iff.2 ⟨h.1, by omega⟩, decide_eq_true (by omega)]; rfl
/-! ### First -/
theorem first1 (b : Bool) (c : Int) : impl_first.f [Any.b b, Any.n c] = some (if b = true then c else 0) := by
  unfold impl_first.f; cases b <;> simp [firstO]
theorem first2 (b b' : Bool) (c c' : Int) : impl_first.f [Any.b b, Any.n c, Any.b b', Any.n c'] = some (if b = true then c else if b' = true then c' else 0) := by
  unfold impl_first.f; cases b <;> cases b' <;> simp [firstO]
theorem first3 (b b' b'' : Bool) (c c' c'' : Int) : impl_first.f [Any.b b, Any.n c, Any.b b', Any.n c', Any.b b'', Any.n c''] = some (if b = true then c else if b' = true then c' else if b'' = true then c'' else 0) := by
  unfold impl_first.f; cases b <;> cases b' <;> cases b'' <;> simp [firstO]
theorem first4 (b b' b'' b3 : Bool) (c c' c'' c3 : Int) : impl_first.f [Any.b b, Any.n c, Any.b b', Any.n c', Any.b b'', Any.n c'', Any.b b3, Any.n c3] = some (if b = true then c else if b' = true then c' else if b'' = true then c'' else if b3 = true then c3 else 0) := by
  unfold impl_first.f; cases b <;> cases b' <;> cases b'' <;> cases b3 <;> simp [firstO]
theorem isLongText_eq (t : ByteArray) : impl_isLongText.f t = some (decide ((t.size : Int) > 65536)) := by unfold impl_isLongText.f; rfl
/-! ### Open -/
theorem bt_nn (t : ByteArray) (i : Int) : 0 ≤ bt t i := by unfold bt; split <;> omega
theorem bt_lt (t : ByteArray) (i : Int) : bt t i < 256 := by
  unfold bt; split
  · have := (t[i.toNat]).toNat_lt; omega
  · omega
theorem wraps_i64 (n : Int) (h0 : 0 ≤ n) (h1 : n < 2 ^ 63) : IntKind.i64.wrap n = n := by rw [IntKind.wrap_i64]; omega
theorem or64 (i : Nat) {x y : Int} (hx₀ : 0 ≤ x) (hx : x % 2 ^ i = 0) (hx₁ : x < 2 ^ 63) (h₀ : 0 ≤ y) (h₁ : y < 2 ^ i) (hy : y < 2 ^ 63) : Go.bits .or .i64 x y = x + y :=
  bits_join .i64 63 (by decide) wraps_i64 i x y hx₀ hx hx₁ h₀ h₁ hy
theorem or64' (i : Nat) {x y : Int} (hx₀ : 0 ≤ x) (hx : x % 2 ^ i = 0) (hx₁ : x < 2 ^ 63) (h₀ : 0 ≤ y) (h₁ : y < 2 ^ i) (hy : y < 2 ^ 63) : Go.bits .or .i64 y x = y + x := by
  obtain ⟨a, rfl⟩ := Int.eq_ofNat_of_zero_le hx₀
  obtain ⟨b, rfl⟩ := Int.eq_ofNat_of_zero_le h₀
  have ha : a < 2 ^ 63 := by exact_mod_cast hx₁
  have hb : b < 2 ^ 63 := by exact_mod_cast hy
  have h := or64 i (x := (a : Int)) (y := (b : Int)) hx₀ hx hx₁ h₀ h₁ hy
  rw [(bits_nat .i64 63 (by decide) wraps_i64 a b ha hb).2] at h
  rw [(bits_nat .i64 63 (by decide) wraps_i64 b a hb ha).2, Nat.or_comm, h]; omega
def numAt (t : ByteArray) (i : Nat) : Int := bt t (i : Int) + 256 * bt t ((i + 1 : Nat) : Int) + 65536 * bt t ((i + 2 : Nat) : Int) + 16777216 * bt t ((i + 3 : Nat) : Int)
def numsP (t : ByteArray) : List Int := (List.range (t.size / 4)).map (fun j => numAt t (4 * j))
theorem numsP_length (t : ByteArray) : (numsP t).length = t.size / 4 := by simp [numsP]
theorem numsP_take (t : ByteArray) (j : Nat) (h : j < t.size / 4) : (numsP t).take (j + 1) = (numsP t).take j ++ [numAt t (4 * j)] := by
  rw [take_next _ j (by rw [numsP_length]; exact h)]; simp [numsP]
def intsOK (l : List Int) : Bool := l.all (fun n => inB n 0 2147483647) && decide ((l.length : Int) ≤ 16)
theorem mul_wrap {a b c : Int} (h0 : 0 ≤ a) (h1 : a < c) (hb : 0 < b) (h : c * b ≤ 9223372036854775807) : wrap64 (a * b) = a * b := by
  have h2 : a * b ≤ c * b := Int.mul_le_mul_of_nonneg_right (by omega) (by omega)
  have h3 : 0 ≤ a * b := Int.mul_nonneg h0 (by omega)
  exact w64 (by omega) (by omega)
theorem four_up {a b c d : Int} (a0 : 0 ≤ a) (a1 : a < 256) (b0 : 0 ≤ b) (b1 : b < 256) (c0 : 0 ≤ c) (c1 : c < 256) (d0 : 0 ≤ d) (d1 : d < 256) :
    Go.bits .or .i64 (wrap64 (Go.bits .or .i64 (wrap64 (Go.bits .or .i64 (wrap64 (Go.bits .or .i64 (wrap64 (0 * 256)) (wrap64 d) * 256)) (wrap64 c) * 256)) (wrap64 b) * 256)) (wrap64 a) = a + 256 * b + 65536 * c + 16777216 * d := by
  rw [w64 (n := a) (by omega) (by omega), w64 (n := b) (by omega) (by omega), w64 (n := c) (by omega) (by omega), w64 (n := d) (by omega) (by omega)]
  rw [w64 (n := 0 * 256) (by omega) (by omega), or64 8 (x := 0 * 256) (by omega) (by omega) (by omega) d0 (by omega) (by omega)]
  obtain ⟨u, hu⟩ : ∃ u, u = 0 * 256 + d := ⟨_, rfl⟩
  rw [← hu, w64 (n := u * 256) (by omega) (by omega), or64 8 (x := u * 256) (by omega) (by omega) (by omega) c0 (by omega) (by omega)]
  obtain ⟨v, hv⟩ : ∃ v, v = u * 256 + c := ⟨_, rfl⟩
  rw [← hv, w64 (n := v * 256) (by omega) (by omega), or64 8 (x := v * 256) (by omega) (by omega) (by omega) b0 (by omega) (by omega)]
  obtain ⟨x, hx⟩ : ∃ x, x = v * 256 + b := ⟨_, rfl⟩
  rw [← hx, w64 (n := x * 256) (by omega) (by omega), or64 8 (x := x * 256) (by omega) (by omega) (by omega) a0 (by omega) (by omega)]
  omega
theorem four_down {a b c d : Int} (a0 : 0 ≤ a) (a1 : a < 256) (b0 : 0 ≤ b) (b1 : b < 256) (c0 : 0 ≤ c) (c1 : c < 256) (d0 : 0 ≤ d) (d1 : d < 256) :
    Go.bits .or .i64 (Go.bits .or .i64 (Go.bits .or .i64 (wrap64 a) (wrap64 (wrap64 b * 256))) (wrap64 (wrap64 c * 65536))) (wrap64 (wrap64 d * 16777216)) = a + 256 * b + 65536 * c + 16777216 * d := by
  rw [w64 (n := a) (by omega) (by omega), w64 (n := b) (by omega) (by omega), w64 (n := c) (by omega) (by omega), w64 (n := d) (by omega) (by omega)]
  rw [w64 (n := b * 256) (by omega) (by omega), w64 (n := c * 65536) (by omega) (by omega), w64 (n := d * 16777216) (by omega) (by omega)]
  rw [or64' 8 (x := b * 256) (by omega) (by omega) (by omega) a0 (by omega) (by omega)]
  obtain ⟨u, hu⟩ : ∃ u, u = a + b * 256 := ⟨_, rfl⟩
  rw [← hu, or64' 16 (x := c * 65536) (by omega) (by omega) (by omega) (y := u) (by omega) (by omega) (by omega)]
  obtain ⟨v, hv⟩ : ∃ v, v = u + c * 65536 := ⟨_, rfl⟩
  rw [← hv, or64' 24 (x := d * 16777216) (by omega) (by omega) (by omega) (y := v) (by omega) (by omega) (by omega)]
  omega
theorem up_to (i : Nat) (h : i < 1000000000000) (c : Nat) (hc : c ≤ 10) : wrap64 ((i : Int) + (c : Int)) = ((i + c : Nat) : Int) := by rw [w64 (by omega) (by omega)]; omega
def recNums (t : ByteArray) : List Int := numsP (t.extract 4 t.size)
def bodyOK (t : ByteArray) (kind : Int) : Bool := decide ((t.extract 4 t.size).size % 4 = 0 ∧ intsOK (recNums t) = true ∧ sealP kind (recNums t) = t)
theorem bodyOK_iff {t : ByteArray} {kind : Int} : bodyOK t kind = true ↔ (t.extract 4 t.size).size % 4 = 0 ∧ intsOK (recNums t) = true ∧ sealP kind (recNums t) = t := by simp only [bodyOK, decide_eq_true_eq]
def recOK (t : ByteArray) (kind : Int) : Bool := decide (4 ≤ t.size) && (bt t 0 == kind && (inB kind 1 9 && bodyOK t kind))
theorem recOK_iff {t : ByteArray} {kind : Int} : recOK t kind = true ↔ 4 ≤ t.size ∧ bt t 0 = kind ∧ inB kind 1 9 = true ∧ (t.extract 4 t.size).size % 4 = 0 ∧ intsOK (recNums t) = true ∧ sealP kind (recNums t) = t := by
  simp only [recOK, Bool.and_eq_true, decide_eq_true_eq, beq_iff_eq, bodyOK_iff]
theorem recOK_no {t : ByteArray} {kind : Int} (h : ¬ (4 ≤ t.size ∧ bt t 0 = kind ∧ inB kind 1 9 = true ∧ (t.extract 4 t.size).size % 4 = 0 ∧ intsOK (recNums t) = true ∧ sealP kind (recNums t) = t)) : recOK t kind = false := by
  cases hr : recOK t kind with
  | false => rfl
  | true => exact absurd (recOK_iff.1 hr) h
theorem ext_size (t : ByteArray) : (t.extract 4 t.size).size = t.size - 4 := by simp
theorem bt0 (t : ByteArray) : wrap64 (bt t 0) = bt t 0 := by have := bt_nn t 0; have := bt_lt t 0; exact w64 (by omega) (by omega)
/-! ### OpenI -/
theorem isNumber_eq (n : Int) : impl_isNumber.f n = some (inB n 0 2147483647) := by simp only [impl_isNumber.f, within_eq, Option.bind_some]
theorem all_number (l : List Int) : all107_impl_isNumber.f l () = some (l.all (fun n => inB n 0 2147483647)) := by
  unfold all107_impl_isNumber.f; exact allO_some _ _ (fun x _ => isNumber_eq x)
theorem impl_areInts_eq (l : List Int) : impl_areInts.f l = some (intsOK l) := by
  unfold impl_areInts.f intsOK
  by_cases h : (l.length : Int) ≤ 16
  · rw [if_pos h, all_number]; simp [h]
  · rw [if_neg h]; simp [h]
theorem intsOK_take (l : List Int) : intsOK (l.take 17) = intsOK l := by
  by_cases h : l.length ≤ 16
  · rw [List.take_of_length_le (by omega)]
  · have h1 : intsOK l = false := by simp [intsOK]; intro _; omega
    have h2 : intsOK (l.take 17) = false := by simp [intsOK]; intro _; omega
    rw [h1, h2]
theorem impl_unpack_end (t : ByteArray) (l : List Int) : (if ((t.size : Int) % 4) = 0 then ((impl_areInts.f l).bind fun t529 => (some (l, t529))) else (some (l, false))) = some (l, decide (t.size % 4 = 0) && intsOK l) := by
  by_cases h : t.size % 4 = 0
  · rw [if_pos (by omega), impl_areInts_eq]; simp [h]
  · rw [if_neg (by omega)]; simp [h]
theorem impl_unpack_from (t : ByteArray) (ht : t.size ≤ 1000000000) (d : Nat) : ∀ (k j : Nat), j ≤ 17 → j ≤ t.size / 4 → 17 - j = d → d < k →
    impl_unpack.l0 k t ((numsP t).take j) ((4 * j : Nat) : Int) = some ((numsP t).take 17, decide (t.size % 4 = 0) && intsOK ((numsP t).take 17)) := by
  induction d with
  | zero =>
    intro k j hj hj2 hd hk
    obtain ⟨k, rfl⟩ : ∃ m, k = m + 1 := ⟨k - 1, by omega⟩
    obtain rfl : j = 17 := by omega
    simp only [impl_unpack.l0]
    by_cases h : wrap64 (((4 * 17 : Nat) : Int) + 4) ≤ (t.size : Int)
    · rw [if_pos h, if_neg (by omega)]; exact impl_unpack_end t _
    · rw [if_neg h]; exact impl_unpack_end t _
  | succ d ih =>
    intro k j hj hj2 hd hk
    obtain ⟨k, rfl⟩ : ∃ m, k = m + 1 := ⟨k - 1, by omega⟩
    have hi : 4 * j < 1000000000000 := by omega
    have hlen : ((numsP t).take j).length ≤ t.size / 4 := by rw [List.length_take, numsP_length]; omega
    have e4 : wrap64 (((4 * j : Nat) : Int) + 4) = ((4 * j + 4 : Nat) : Int) := up_to _ hi 4 (by omega)
    have e3 : wrap64 (((4 * j : Nat) : Int) + 3) = ((4 * j + 3 : Nat) : Int) := up_to _ hi 3 (by omega)
    have e2 : wrap64 (((4 * j : Nat) : Int) + 2) = ((4 * j + 2 : Nat) : Int) := up_to _ hi 2 (by omega)
    have e1 : wrap64 (((4 * j : Nat) : Int) + 1) = ((4 * j + 1 : Nat) : Int) := up_to _ hi 1 (by omega)
    simp only [impl_unpack.l0]
    rw [e4, e3, e2, e1]
    by_cases h : 4 * j + 4 ≤ t.size
    · rw [if_pos (by omega), if_pos (by omega), if_pos (by omega), if_pos (by omega), if_pos (by omega), if_pos (by omega), if_pos (by omega), if_pos (by omega), if_pos (by omega), if_pos (by omega), if_pos (by omega)]
      rw [four_down (bt_nn _ _) (bt_lt _ _) (bt_nn _ _) (bt_lt _ _) (bt_nn _ _) (bt_lt _ _) (bt_nn _ _) (bt_lt _ _)]
      have := ih k (j + 1) (by omega) (by omega) (by omega) (by omega)
      rw [numsP_take t j (by omega)] at this
      exact this
    · rw [if_neg (by omega)]
      have e : (numsP t).take j = (numsP t).take 17 := by
        rw [List.take_of_length_le (by rw [numsP_length]; omega), List.take_of_length_le (by rw [numsP_length]; omega)]
      rw [e]; exact impl_unpack_end t _
theorem impl_unpack_ev (t : ByteArray) (ht : t.size ≤ 1000000000) : Ev (fun k => impl_unpack.f k t) ((numsP t).take 17, decide (t.size % 4 = 0) && intsOK (numsP t)) :=
  ⟨18, fun k hk => by have := impl_unpack_from t ht 17 k 0 (by omega) (by omega) (by omega) (by omega); rw [intsOK_take] at this; simpa [impl_unpack.f] using this⟩
def openL (t : ByteArray) : List Int := if t.size < 4 ∨ t.size > 80 ∨ inB (bt t 0) 1 9 = false then [] else (recNums t).take 17
theorem recOK_openL {t : ByteArray} {kind : Int} (h : recOK t kind = true) : openL t = recNums t := by
  obtain ⟨h1, h2, h3, h4, h5, h6⟩ := recOK_iff.1 h
  have hl : (recNums t).length ≤ 16 := by
    simp only [intsOK, Bool.and_eq_true, decide_eq_true_eq] at h5
    omega
  have hs : t.size ≤ 80 := by
    unfold recNums at hl; rw [numsP_length] at hl; rw [ext_size] at hl h4; omega
  unfold openL
  rw [if_neg (by rw [h2]; simp [h3]; omega), List.take_of_length_le (by omega)]
theorem recOK_long {t : ByteArray} {kind : Int} (h : t.size > 80) : recOK t kind = false := by
  refine recOK_no (fun hr => ?_)
  obtain ⟨h1, h2, h3, h4, h5, h6⟩ := hr
  simp only [intsOK, Bool.and_eq_true, decide_eq_true_eq] at h5
  have := h5.2
  unfold recNums at this
  rw [numsP_length] at this; rw [ext_size] at this h4; omega
theorem impl_open_ev (t : ByteArray) (kind : Int) (ht : t.size ≤ 1000000000) : Ev (fun k => impl_open.f k t kind) (openL t, recOK t kind) := by
  unfold impl_open.f impl_opened.f
  have hbad : ∀ (g : Nat → Option (Int × List Int × Bool)), openL t = [] → recOK t kind = false → Ev g (0, [], false) → Ev (fun k => (g k).bind fun bt537 => (if bt537.2.2 = true then (some (bt537.2.1, (bt537.1 == kind))) else (some (bt537.2.1, false)))) (openL t, recOK t kind) := by
    intro g h1 h2 hg
    rw [h1, h2]
    exact ev_bind hg (ev_neg (by simp) (ev_some _))
  by_cases h1 : t.size < 4
  · refine hbad _ (by simp [openL, h1]) (recOK_no (by omega)) (ev_pos (by omega) (Ev.step (f := fun _ => some (0, [], false)) (fun k => by simp [impl_opened.j0]) (ev_some _)))
  · by_cases h2 : t.size > 80
    · refine hbad _ (by simp [openL, h2]) (recOK_long h2) (ev_neg (by omega) (ev_pos (by omega) (Ev.step (f := fun _ => some (0, [], false)) (fun k => by simp [impl_opened.j0]) (ev_some _))))
    · by_cases h3 : inB (bt t 0) 1 9 = true
      · have hL : openL t = (recNums t).take 17 := by unfold openL; rw [if_neg (by simp [h3]; omega)]
        have hO : Ev (fun k => if (t.size : Int) < 4 then impl_opened.j0 k t true else (if (t.size : Int) > 80 then impl_opened.j0 k t true else (if 0 < (t.size : Int) then ((impl_isKind.f (wrap64 (bt t 0))).bind fun t531 => (impl_opened.j0 k t (!t531))) else none))) (bt t 0, openL t, bodyOK t (bt t 0)) := by
          refine ev_neg (by omega) (ev_neg (by omega) (ev_pos (by omega) ?_))
          rw [bt0]
          simp only [impl_isKind.f, within_eq, Option.bind_some, h3, Bool.not_true]
          refine Ev.step (f := fun k => (impl_unpack.f k (t.extract 4 t.size)).bind fun bt532 => (if bt532.2 = true then ((impl_seal.f k (bt t 0) bt532.1).bind fun t536 => (some (bt t 0, bt532.1, (t536.toList == t.toList)))) else (some (bt t 0, bt532.1, false)))) (fun k => ?_) ?_
          · simp only [impl_opened.j0, Bool.false_eq_true, if_false, bt0]; rw [if_pos (by omega)]
            congr 1; funext b; rw [if_pos (by omega)]
          · refine ev_bind (impl_unpack_ev _ (by rw [ext_size]; omega)) ?_
            show Ev (fun n => if (decide ((t.extract 4 t.size).size % 4 = 0) && intsOK (recNums t)) = true then ((impl_seal.f n (bt t 0) ((recNums t).take 17)).bind fun t536 => (some (bt t 0, (recNums t).take 17, (t536.toList == t.toList)))) else some (bt t 0, (recNums t).take 17, false)) _
            rw [hL]
            by_cases h4 : (t.extract 4 t.size).size % 4 = 0 ∧ intsOK (recNums t) = true
            · have hl : (recNums t).length ≤ 16 := by
                have := h4.2
                simp only [intsOK, Bool.and_eq_true, decide_eq_true_eq] at this
                omega
              have ht17 : (recNums t).take 17 = recNums t := List.take_of_length_le (by omega)
              refine ev_pos (by simp only [h4.1, h4.2, decide_true, Bool.and_self]) ?_
              rw [ht17]
              refine ev_bind (impl_seal_ev (bt t 0) _ (by omega)) ?_
              have e : (((sealP (bt t 0) (recNums t)).toList == t.toList) : Bool) = bodyOK t (bt t 0) := by
                rw [Bool.eq_iff_iff, bodyOK_iff]; simp only [beq_iff_eq, toList_inj]
                exact ⟨fun h => ⟨h4.1, h4.2, h⟩, fun h => h.2.2⟩
              rw [e]
              exact ev_some _
            · refine ev_neg (by simp only [Bool.and_eq_true, decide_eq_true_eq]; exact h4) ?_
              have : bodyOK t (bt t 0) = false := by
                cases hb : bodyOK t (bt t 0) with
                | false => rfl
                | true => have := bodyOK_iff.1 hb; exact absurd ⟨this.1, this.2.1⟩ h4
              rw [this]
              exact ev_some _
        refine ev_bind hO ?_
        show Ev (fun n => if bodyOK t (bt t 0) = true then some (openL t, bt t 0 == kind) else some (openL t, false)) _
        by_cases h5 : bodyOK t (bt t 0) = true
        · refine ev_pos h5 ?_
          by_cases h6 : bt t 0 = kind
          · have hr : recOK t kind = true := recOK_iff.2 ⟨by omega, h6, by rw [← h6]; exact h3, by rw [← h6]; exact bodyOK_iff.1 h5⟩
            rw [hr]
            simp only [h6, beq_self_eq_true]
            exact ev_some _
          · rw [recOK_no (fun h => h6 h.2.1)]
            have : (bt t 0 == kind) = false := by simp [h6]
            rw [this]
            exact ev_some _
        · refine ev_neg h5 ?_
          rw [recOK_no (fun h => h5 (bodyOK_iff.2 (by have := h.2.2.2; rw [← h.2.1] at this; exact this)))]
          exact ev_some _
      · have h3' : inB (bt t 0) 1 9 = false := by simpa using h3
        refine hbad _ (by simp [openL, h3']) (recOK_no (fun h => h3 (by have := h.2.2.1; rw [← h.2.1] at this; exact this))) (ev_neg (by omega) (ev_neg (by omega) (ev_pos (by omega) ?_)))
        rw [bt0]
        simp only [impl_isKind.f, within_eq, Option.bind_some, h3', Bool.not_false]
        exact Ev.step (f := fun _ => some (0, [], false)) (fun k => by simp [impl_opened.j0]) (ev_some _)
/-! ### UpdateD -/
def updHead (t : ByteArray) : ByteArray := t.extract 0 8
def updBody (t : ByteArray) : ByteArray := t.extract 8 t.size
def isUpdate (t : ByteArray) : Bool := decide (8 ≤ t.size) && (recOK (updHead t) 8 && (decide ((recNums (updHead t)).length = 1) && updateOK (rd (recNums (updHead t)) 0) (updBody t)))
def updateAt (t : ByteArray) : Int × ByteArray × Bool := if isUpdate t = true then (rd (recNums (updHead t)) 0, updBody t, true) else (0, (⟨#[]⟩ : ByteArray), false)
theorem updHead_size (t : ByteArray) (h : 8 ≤ t.size) : (updHead t).size = 8 := by unfold updHead; simp; omega
theorem impl_updateOf_ev (t : ByteArray) : Ev (fun k => impl_updateOf.f k t) (updateAt t) := by
  unfold impl_updateOf.f
  by_cases h0 : t.size < 8
  · have : updateAt t = (0, (⟨#[]⟩ : ByteArray), false) := by unfold updateAt isUpdate; rw [decide_eq_false (by omega)]; rfl
    rw [this]
    exact ev_pos (by omega) (ev_some _)
  · refine ev_neg (by omega) (ev_pos (by omega) (ev_pos (by omega) ?_))
    have e8 : decide (8 ≤ t.size) = true := decide_eq_true (by omega)
    refine ev_bind (impl_open_ev (updHead t) 8 (by rw [updHead_size t (by omega)]; omega)) ?_
    unfold updateAt isUpdate
    rw [e8]
    by_cases h1 : recOK (updHead t) 8 = true
    · simp only [h1, if_true, Bool.true_and, recOK_openL h1]
      by_cases h2 : (recNums (updHead t)).length = 1
      · refine ev_pos (by omega) (ev_pos (by omega) ?_)
        simp only [decide_eq_true h2, Bool.true_and, impl_updateOK_eq, Option.bind_some]
        show Ev (fun n => if updateOK (rd (recNums (updHead t)) 0) (updBody t) = true then some (rd (recNums (updHead t)) 0, updBody t, true) else some (0, (⟨#[]⟩ : ByteArray), false)) _
        cases updateOK (rd (recNums (updHead t)) 0) (updBody t)
        · exact ev_some _
        · exact ev_some _
      · simp only [decide_eq_false h2, Bool.false_and, Bool.false_eq_true, if_false]
        exact ev_neg (by omega) (ev_some _)
    · have h1' : recOK (updHead t) 8 = false := by simpa using h1
      simp only [h1', Bool.false_and, Bool.true_and, Bool.false_eq_true, if_false]
      exact ev_some _
/-! ### UpdateE -/
def decUpdate (t : ByteArray) : Int × ByteArray × Int := if (t.size : Int) > 65536 then (0, (⟨#[]⟩ : ByteArray), 2) else if isUpdate t = true then (rd (recNums (updHead t)) 0, updBody t, 0) else (0, (⟨#[]⟩ : ByteArray), 3)
theorem impl_DecodeUpdate_ev (t : ByteArray) : Ev (fun k => impl_DecodeUpdate.f k t) (decUpdate t) := by
  unfold impl_DecodeUpdate.f decUpdate
  refine ev_bind (impl_updateOf_ev t) ?_
  simp only [isLongText_eq, Option.bind_some, first2]
  unfold updateAt
  by_cases h1 : (t.size : Int) > 65536
  · simp only [h1, decide_true, if_true]
    exact ev_neg (by omega) (ev_some _)
  · simp only [h1, decide_false, Bool.false_eq_true, if_false]
    cases h2 : isUpdate t
    · exact ev_some _
    · exact ev_some _
/-! ### Trip -/
theorem packP_get? (l : List Int) : ∀ j c, c < 4 → (packP l)[4 * j + c]? = (l[j]?).bind (fun x => (quad x)[c]?) := by
  induction l with
  | nil => intro j c _; simp [packP]
  | cons x xs ih =>
    intro j c hc
    have e : packP (x :: xs) = quad x ++ packP xs := rfl
    have hq : (quad x).length = 4 := rfl
    rw [e]
    cases j with
    | zero => rw [List.getElem?_append_left (by rw [hq]; omega)]; simp
    | succ j =>
      rw [List.getElem?_append_right (by rw [hq]; omega), hq, show 4 * (j + 1) + c - 4 = 4 * j + c by omega, ih j c hc]
      simp
theorem quad_range (n : Int) : ∀ y ∈ quad n, 0 ≤ y ∧ y < 256 := by
  intro y hy
  simp only [quad, List.mem_cons, List.not_mem_nil, or_false] at hy
  rcases hy with rfl | rfl | rfl | rfl <;> omega
theorem packP_range (l : List Int) : ∀ y ∈ packP l, 0 ≤ y ∧ y < 256 := by
  intro y hy
  simp only [packP, List.mem_flatMap] at hy
  obtain ⟨x, _, hx⟩ := hy
  exact quad_range x y hx
theorem bt_str (l : List Int) (i : Nat) (y : Int) (h : l[i]? = some y) (h0 : 0 ≤ y) (h1 : y < 256) : bt (strOfNums l) (i : Int) = y := by
  obtain ⟨hi, rfl⟩ := List.getElem?_eq_some_iff.1 h
  have hs : ((i : Int)).toNat < (strOfNums l).size := by rw [strOfNums_size]; simpa using hi
  unfold bt
  rw [dif_pos hs]
  have : ((strOfNums l)[((i : Int)).toNat]'hs) = UInt8.ofNat (l[i]).toNat := by
    show (List.map _ l).toArray[((i : Int)).toNat] = _
    simp
  rw [this]
  simp only [UInt8.toNat_ofNat']
  omega
theorem numAt_pack (l : List Int) (j : Nat) (hj : j < l.length) (h0 : 0 ≤ l[j]) (h1 : l[j] < 4294967296) : numAt (strOfNums (packP l)) (4 * j) = l[j] := by
  have g : ∀ c, c < 4 → (packP l)[4 * j + c]? = (quad l[j])[c]? := by
    intro c hc; rw [packP_get? l j c hc, List.getElem?_eq_getElem hj]; rfl
  have b : ∀ c y, c < 4 → (quad l[j])[c]? = some y → bt (strOfNums (packP l)) ((4 * j + c : Nat) : Int) = y := by
    intro c y hc hy
    have hr := quad_range l[j] y (List.mem_of_getElem? hy)
    exact bt_str _ _ _ ((g c hc).trans hy) hr.1 hr.2
  unfold numAt
  have b0 := b 0 _ (by omega) (show (quad l[j])[0]? = some (l[j] % 256) from rfl)
  have b1 := b 1 _ (by omega) (show (quad l[j])[1]? = some (l[j] / 256 % 256) from rfl)
  have b2 := b 2 _ (by omega) (show (quad l[j])[2]? = some (l[j] / 65536 % 256) from rfl)
  have b3 := b 3 _ (by omega) (show (quad l[j])[3]? = some (l[j] / 16777216 % 256) from rfl)
  rw [Nat.add_zero] at b0
  rw [b0, b1, b2, b3]
  omega
theorem numsP_pack (l : List Int) (h : ∀ x ∈ l, 0 ≤ x ∧ x < 4294967296) : numsP (strOfNums (packP l)) = l := by
  have hs : (strOfNums (packP l)).size / 4 = l.length := by rw [strOfNums_size, packP_length]; omega
  refine List.ext_getElem (by rw [numsP_length, hs]) (fun i h1 h2 => ?_)
  simp only [numsP, List.getElem_map, List.getElem_range]
  exact numAt_pack l i h2 (h _ (List.getElem_mem h2)).1 (h _ (List.getElem_mem h2)).2
theorem recNums_seal (kind : Int) (l : List Int) (h : ∀ x ∈ l, 0 ≤ x ∧ x < 4294967296) : recNums (sealP kind l) = l := by
  have e : (sealP kind l).extract 4 (sealP kind l).size = strOfNums (packP l) := by
    unfold sealP
    rw [ByteArray.extract_append_eq_right]
    · simp [headP_size, strOfNums_size]
    · simp
  unfold recNums; rw [e]; exact numsP_pack l h
theorem bt_app (a b : ByteArray) (i : Nat) (h : i < a.size) : bt (a ++ b) (i : Int) = bt a (i : Int) := by
  have h1 : ((i : Int)).toNat < (a ++ b).size := by rw [ba_size_append]; omega
  have h2 : ((i : Int)).toNat < a.size := by omega
  unfold bt
  rw [dif_pos h1, dif_pos h2, ByteArray.getElem_append_left h2]
theorem bt_take (t : ByteArray) (n i : Nat) (h : i < n) (hn : n ≤ t.size) : bt (t.extract 0 n) (i : Int) = bt t (i : Int) := by
  have h1 : ((i : Int)).toNat < (t.extract 0 n).size := by rw [ByteArray.size_extract]; omega
  have h2 : ((i : Int)).toNat < t.size := by omega
  unfold bt
  rw [dif_pos h1, dif_pos h2, ByteArray.getElem_extract]
  simp only [Nat.zero_add]
theorem bt_head0 (kind : Int) (l : List Int) (h0 : 0 ≤ kind) (h1 : kind < 256) : bt (sealP kind l) 0 = kind := by
  have : bt (sealP kind l) ((0 : Nat) : Int) = bt (headP kind l) ((0 : Nat) : Int) := by
    unfold sealP; rw [bt_app _ _ 0 (by simp [headP_size, strOfNums_size]), bt_app _ _ 0 (by simp [headP_size])]
  rw [show (0 : Int) = ((0 : Nat) : Int) from rfl, this]
  unfold headP
  rw [bt_str _ 0 (kind % 256) rfl (by omega) (by omega)]; omega
theorem bt_head1 (kind : Int) (l : List Int) : bt (sealP kind l) 1 = (l.length : Int) % 256 := by
  have : bt (sealP kind l) ((1 : Nat) : Int) = bt (headP kind l) ((1 : Nat) : Int) := by
    unfold sealP; rw [bt_app _ _ 1 (by simp [headP_size, strOfNums_size]), bt_app _ _ 1 (by simp [headP_size])]
  rw [show (1 : Int) = ((1 : Nat) : Int) from rfl, this]
  unfold headP
  exact bt_str _ 1 _ rfl (by omega) (by omega)
theorem intsOK_of (l : List Int) (hl : l.length ≤ 16) (h : ∀ x ∈ l, 0 ≤ x ∧ x ≤ 2147483647) : intsOK l = true := by
  unfold intsOK
  rw [Bool.and_eq_true, List.all_eq_true]
  exact ⟨fun x hx => inB_iff.2 (h x hx), decide_eq_true (by omega)⟩
theorem recOK_seal (kind : Int) (l : List Int) (hk : inB kind 1 9 = true) (hl : l.length ≤ 16) (h : ∀ x ∈ l, 0 ≤ x ∧ x ≤ 2147483647) : recOK (sealP kind l) kind = true := by
  have hr := recNums_seal kind l (fun x hx => ⟨(h x hx).1, by have := (h x hx).2; omega⟩)
  have hk' := inB_iff.1 hk
  refine recOK_iff.2 ⟨by rw [sealP_size]; omega, bt_head0 kind l (by omega) (by omega), hk, ?_, by rw [hr]; exact intsOK_of l hl h, by rw [hr]⟩
  rw [ext_size, sealP_size]; omega
theorem recOK_cut (kind : Int) (l : List Int) (n : Nat) (hl : l.length ≤ 16) (hn : n < (sealP kind l).size) (kind' : Int) : recOK ((sealP kind l).extract 0 n) kind' = false := by
  refine recOK_no (fun hc => ?_)
  obtain ⟨h4, _, _, _, _, hs⟩ := hc
  have hz : ((sealP kind l).extract 0 n).size = n := by rw [ByteArray.size_extract]; omega
  rw [hz] at h4
  have h1 := bt_take (sealP kind l) n 1 (by omega) (by omega)
  have e1 : bt (sealP kind l) ((1 : Nat) : Int) = (l.length : Int) % 256 := bt_head1 kind l
  rw [e1] at h1
  have e2 := congrArg ByteArray.size hs
  rw [hz, sealP_size] at e2
  rw [sealP_size] at hn
  have e3 : bt (sealP kind' (recNums ((sealP kind l).extract 0 n))) ((1 : Nat) : Int) = _ := bt_head1 _ _
  rw [hs, h1] at e3
  omega
end Go.Proofs.Ytajflpcihblkfaa.Q
