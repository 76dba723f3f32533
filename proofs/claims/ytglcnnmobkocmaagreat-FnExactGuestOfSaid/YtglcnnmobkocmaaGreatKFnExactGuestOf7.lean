/- What laws.FnExactGuestOf reaches, part 7: the functions as Lean functions, the proofs that the program's functions answer so, and plain laws about them. -/
import Derived.Test.YtglcnnmobkocmaaGreatKFnExactGuestOf1
import Derived.Test.YtglcnnmobkocmaaGreatKFnExactGuestOf5
import Derived.Test.YtglcnnmobkocmaaGreatKFnExactGuestOf6
namespace Go.Proofs.YtglcnnmobkocmaaGreat.Q
open Go.RowKit Go.Proofs.YtglcnnmobkocmaaGreat.Ext Go.Proofs.YtglcnnmobkocmaaGreatW.PrintWords Go.Proofs.YtglcnnmobkocmaaGreatW.PrintLast Go.Proofs.YtglcnnmobkocmaaGreatW.PrintMore
attribute [local go_sem] max2_int min2_int max_two min_two max_three min_three max_four min_four   -- for this text's walks alone
set_option linter.unusedVariables false
set_option linter.unusedSimpArgs false

set_option linter.unusedVariables false
set_option linter.unusedSimpArgs false
/-! ### spec_l10Twice: function 85 -/
mutual
def spec_l10Twice.l0 : Nat → List Int → Int → Option (Bool)
  | 0, _, _ => none
  | k + 1, x3, x4 => if x4 < (x3.length : Int) then (spec_l10Twice.l1 k x3 x4 0) else (some false)
def spec_l10Twice.l1 : Nat → List Int → Int → Int → Option (Bool)
  | 0, _, _, _ => none
  | k + 1, x3, x4, x5 => if x5 < x4 then (if 0 ≤ x4 then (if x4 < (x3.length : Int) then (if 0 ≤ x5 then (if x5 < (x3.length : Int) then (if (rd x3 x4) = (rd x3 x5) then (some true) else (spec_l10Twice.l1 k x3 x4 (wrap64 (x5 + 1)))) else (none)) else (none)) else (none)) else (none)) else (spec_l10Twice.l0 k x3 (wrap64 (x4 + 1)))
end
def spec_l10Twice.f (k : Nat) (l0 : List Int) : Option (Bool) := (spec_l09Clusters.f k l0).bind fun t438 => (spec_l10Twice.l0 k t438 0)
theorem spec_l10Twice.mono_l : ∀ k, (∀ y0 y1, LeO (spec_l10Twice.l0 k y0 y1) (spec_l10Twice.l0 (k + 1) y0 y1)) ∧ (∀ y0 y1 y2, LeO (spec_l10Twice.l1 k y0 y1 y2) (spec_l10Twice.l1 (k + 1) y0 y1 y2))
  | 0 => ⟨fun _ _ r h => by simp [spec_l10Twice.l0] at h, fun _ _ _ r h => by simp [spec_l10Twice.l1] at h⟩
  | k + 1 => by
    obtain ⟨ih0, ih1⟩ := spec_l10Twice.mono_l k
    refine ⟨?_, ?_⟩
    · intro y0 y1
      unfold spec_l10Twice.l0
      repeat' first
      | (with_reducible exact ih0 _ _)
      | (with_reducible exact ih1 _ _ _)
      | (with_reducible exact spec_l09Clusters.mono _ _)
      | (with_reducible exact LeO.refl _)
      | (with_reducible exact LeO.none _)
      | (with_reducible refine LeO.ite ?_ ?_)
      | (with_reducible refine LeO.bind ?_ (fun _ => ?_))
      | exact ih0 _ _
      | exact ih1 _ _ _
      | exact spec_l09Clusters.mono _ _
      | exact LeO.none _
      | refine LeO.ite ?_ ?_
      | refine LeO.bind ?_ (fun _ => ?_)
    · intro y0 y1 y2
      unfold spec_l10Twice.l1
      repeat' first
      | (with_reducible exact ih0 _ _)
      | (with_reducible exact ih1 _ _ _)
      | (with_reducible exact spec_l09Clusters.mono _ _)
      | (with_reducible exact LeO.refl _)
      | (with_reducible exact LeO.none _)
      | (with_reducible refine LeO.ite ?_ ?_)
      | (with_reducible refine LeO.bind ?_ (fun _ => ?_))
      | exact ih0 _ _
      | exact ih1 _ _ _
      | exact spec_l09Clusters.mono _ _
      | exact LeO.none _
      | refine LeO.ite ?_ ?_
      | refine LeO.bind ?_ (fun _ => ?_)
theorem spec_l10Twice.mono : ∀ a0 k, LeO (spec_l10Twice.f k a0) (spec_l10Twice.f (k + 1) a0) := by
  intro a0 k
  obtain ⟨ih0, ih1⟩ := spec_l10Twice.mono_l k
  unfold spec_l10Twice.f
  repeat' first
      | (with_reducible exact ih0 _ _)
      | (with_reducible exact ih1 _ _ _)
      | (with_reducible exact spec_l09Clusters.mono _ _)
      | (with_reducible exact LeO.refl _)
      | (with_reducible exact LeO.none _)
      | (with_reducible refine LeO.ite ?_ ?_)
      | (with_reducible refine LeO.bind ?_ (fun _ => ?_))
      | exact ih0 _ _
      | exact ih1 _ _ _
      | exact spec_l09Clusters.mono _ _
      | exact LeO.none _
      | refine LeO.ite ?_ ?_
      | refine LeO.bind ?_ (fun _ => ?_)
set_option maxHeartbeats 8000000 in
set_option maxRecDepth 100000 in
theorem spec_l10Twice.calls (k : Nat) (A0 : Option Addr) (c0 : Nat) (l0 : List Int) (r : Bool) (w : World) (hr0 : Kd.C (Kd.int .i64) w A0 l0.length l0) (hc0 : l0.length ≤ c0) (h : spec_l10Twice.f k l0 = some r) :
    Calls Tryz.prog 85 #[.slice A0 l0.length c0] w fun e w' => e = .returned (.bool r) ∧ Below w.heap.size w w' := by
 have HR0 := zm hr0
 have HC0 := zm hc0
 clear hr0 hc0
 have HB := zm (Below.refl w.heap.size w)
 have H : ((spec_l09Clusters.f k l0).bind fun t438 => (spec_l10Twice.l0 k t438 0)) = some r := h
 clear h
 replace H := Option.bind_eq_some_iff.mp H
 obtain ⟨t438, A20, H⟩ := H
 replace H : (spec_l10Twice.l0 k t438 0) = some r := H
 have A2 := zm A20
 clear A20
 have H' := zm H
 clear H
 go_enter Tryz.func85, Tryz.ntmps85
 go_wp2_with (first | (go_at_call 128; (with_reducible refine (spec_l09Clusters.calls k _ _ l0 t438 _ ?side1 ?side2 A2.out).mono ?_); (case side1 => exact zC HR0.out); (case side2 => exact HC0.out); rintro e w3 ⟨v439, rfl, ho0, hb⟩; have n0_ := zm (Kd.R_lower ho0 (below_size (zg_1 HB.out))); have n1_ := zm (below_step (zg_1 HB.out) hb); clear HB; have Zb := n0_; have HB := n1_; clear n0_ n1_; (try clear hb); (try clear hb2); (try clear hk); (try clear hi); (try clear ho0)))
 repeat (go_quiet (first | (go_at_call 128; (with_reducible refine (spec_l09Clusters.calls k _ _ l0 t438 _ ?side1 ?side2 A2.out).mono ?_); (case side1 => exact zC HR0.out); (case side2 => exact HC0.out); rintro e w3 ⟨v439, rfl, ho0, hb⟩; have n0_ := zm (Kd.R_lower ho0 (below_size (zg_1 HB.out))); have n1_ := zm (below_step (zg_1 HB.out) hb); clear HB; have Zb := n0_; have HB := n1_; clear n0_ n1_; (try clear hb); (try clear hb2); (try clear hk); (try clear hi); (try clear ho0))); try go_wp2_with (first | (go_at_call 128; (with_reducible refine (spec_l09Clusters.calls k _ _ l0 t438 _ ?side1 ?side2 A2.out).mono ?_); (case side1 => exact zC HR0.out); (case side2 => exact HC0.out); rintro e w3 ⟨v439, rfl, ho0, hb⟩; have n0_ := zm (Kd.R_lower ho0 (below_size (zg_1 HB.out))); have n1_ := zm (below_step (zg_1 HB.out) hb); clear HB; have Zb := n0_; have HB := n1_; clear n0_ n1_; (try clear hb); (try clear hb2); (try clear hk); (try clear hi); (try clear ho0))))
 go_loopg [4] k (fun kq v4 w' => ∃ (x4_1 : Int), v4 = .int .i64 x4_1 ∧ Aside0 (spec_l10Twice.l0 kq t438 x4_1 = some r) ∧ Aside0 (kq ≤ k) ∧ Aside0 (Kd.R (Kd.int .i64) 3 w' w.heap.size (fun _ => True) v439 t438) ∧ Aside0 (Below w.heap.size w w'))
 case atStart => exact ⟨(0), zr, H', ⟨Nat.le_refl _⟩, ⟨by (with_reducible repeat (first | apply Kd.R_alloc | apply Kd.R_drewN | apply Kd.R_drew)); exact Zb.out⟩, ⟨zg_1 HB.out⟩⟩
 case round =>
  clear H'
  try clear p2
  obtain ⟨x4_1, rfl, HA, HK1, Za, HB⟩ := hrel
  cases gk with
  | zero => exact absurd HA.out (by simp [spec_l10Twice.l0])
  | succ k1 =>
   have H := HA.out
   clear HA
   simp only [spec_l10Twice.l0] at H
   by_cases c4 : x4_1 < (t438.length : Int)
   ·rw [if_pos c4] at H
    have c4b0 : decide (x4_1 < (t438.length : Int)) = true := decide_eq_true c4
    clear c4
    have H' := zm H
    clear H
    obtain ⟨Ao5, co5, eo5⟩ := Kd.R_slice Za.out
    subst eo5
    go_wp2
    repeat (go_quiet (fail); try go_wp2)
    go_loopg [5] k1 (fun kq v5 w' => ∃ (x5_2 : Int), v5 = .int .i64 x5_2 ∧ Aside0 (spec_l10Twice.l1 kq t438 x4_1 x5_2 = some r) ∧ Aside0 (kq ≤ k1) ∧ Aside0 (Kd.R (Kd.int .i64) 3 w' w.heap.size (fun _ => True) (.slice Ao5 t438.length co5) t438) ∧ Aside0 (Below w.heap.size w w'))
    case atStart => exact ⟨(0), zr, H', ⟨Nat.le_refl _⟩, ⟨by (with_reducible repeat (first | apply Kd.R_alloc | apply Kd.R_drewN | apply Kd.R_drew)); exact Za.out⟩, ⟨zg_1 HB.out⟩⟩
    case round =>
     clear H'
     try clear p2
     try clear c4
     try clear c4b0
     try clear p2
     obtain ⟨x5_2, rfl, HA, HK2, Za, HB⟩ := hrel
     cases gk with
     | zero => exact absurd HA.out (by simp [spec_l10Twice.l1])
     | succ k2 =>
      have H := HA.out
      clear HA
      simp only [spec_l10Twice.l1] at H
      by_cases c6 : x5_2 < x4_1
      ·rw [if_pos c6] at H
       have c6b0 : decide (x5_2 < x4_1) = true := decide_eq_true c6
       clear c6
       by_cases c7 : 0 ≤ x4_1
       ·rw [if_pos c7] at H
        have c7b0 : decide (0 ≤ x4_1) = true := decide_eq_true c7
        clear c7
        by_cases c8 : x4_1 < (t438.length : Int)
        ·rw [if_pos c8] at H
         have c8b0 : decide (x4_1 < (t438.length : Int)) = true := decide_eq_true c8
         clear c8
         by_cases c9 : 0 ≤ x5_2
         ·rw [if_pos c9] at H
          have c9b0 : decide (0 ≤ x5_2) = true := decide_eq_true c9
          clear c9
          by_cases c10 : x5_2 < (t438.length : Int)
          ·rw [if_pos c10] at H
           have c10b0 : decide (x5_2 < (t438.length : Int)) = true := decide_eq_true c10
           clear c10
           by_cases c11 : (rd t438 x4_1) = (rd t438 x5_2)
           ·rw [if_pos c11] at H
            have c11b0 : ((rd t438 x4_1) == (rd t438 x5_2)) = true := beq_iff_eq.mpr c11
            have c11b1 : ((rd t438 x4_1) != (rd t438 x5_2)) = false := bne_eq_false_iff_eq.mpr c11
            clear c11
            obtain rfl := Option.some.inj H
            have p441 : 0 ≤ (x4_1 : Int) := zd
            have q441 : x4_1 < (t438.length : Int) := zd
            obtain ⟨ad441, e441, hx441_0⟩ := Kd.at_int (Kd.R_reads' Za.out).2.2 x4_1 p441 q441
            cases e441
            replace p441 := eq_true p441
            replace q441 := eq_true q441
            have p442 : 0 ≤ (x5_2 : Int) := zd
            have q442 : x5_2 < (t438.length : Int) := zd
            obtain ⟨ad442, e442, hx442_0⟩ := Kd.at_int (Kd.R_reads' Za.out).2.2 x5_2 p442 q442
            obtain rfl : ad441 = ad442 := (by injection e442)
            replace p442 := eq_true p442
            replace q442 := eq_true q442
            go_wp2
            repeat (go_quiet (fail); try go_wp2)
            go_ret
            exact ⟨by first | rfl | (simp [errW_none, errW_some] <;> rfl) | (simp [*, errW_none, errW_some] <;> rfl), zg_1 HB.out⟩
           ·rw [if_neg c11] at H
            have c11b0 : ((rd t438 x4_1) == (rd t438 x5_2)) = false := beq_eq_false_iff_ne.mpr c11
            have c11b1 : ((rd t438 x4_1) != (rd t438 x5_2)) = true := bne_iff_ne.mpr c11
            have H' := zm H
            clear H
            have p441 : 0 ≤ (x4_1 : Int) := zd
            have q441 : x4_1 < (t438.length : Int) := zd
            obtain ⟨ad441, e441, hx441_0⟩ := Kd.at_int (Kd.R_reads' Za.out).2.2 x4_1 p441 q441
            cases e441
            replace p441 := eq_true p441
            replace q441 := eq_true q441
            have p442 : 0 ≤ (x5_2 : Int) := zd
            have q442 : x5_2 < (t438.length : Int) := zd
            obtain ⟨ad442, e442, hx442_0⟩ := Kd.at_int (Kd.R_reads' Za.out).2.2 x5_2 p442 q442
            obtain rfl : ad441 = ad442 := (by injection e442)
            replace p442 := eq_true p442
            replace q442 := eq_true q442
            go_wp2
            repeat (go_quiet (fail); try go_wp2)
            go_roundg k2
            case measure => have := HK1.out; have := HK2.out; omega
            case rel => exact ⟨(wrap64 (x5_2 + 1)), zr, H', ⟨by have := HK1.out; have := HK2.out; omega⟩, ⟨by (with_reducible repeat (first | apply Kd.R_alloc | apply Kd.R_drewN | apply Kd.R_drew)); exact Za.out⟩, ⟨zg_1 HB.out⟩⟩
          ·rw [if_neg c10] at H
           exact absurd H (by simp)
         ·rw [if_neg c9] at H
          exact absurd H (by simp)
        ·rw [if_neg c8] at H
         exact absurd H (by simp)
       ·rw [if_neg c7] at H
        exact absurd H (by simp)
      ·rw [if_neg c6] at H
       have c6b0 : decide (x5_2 < x4_1) = false := decide_eq_false c6
       clear c6
       have H' := zm H
       clear H
       go_wp2
       repeat (go_quiet (fail); try go_wp2)
       go_roundg k2
       case measure => have := HK1.out; have := HK2.out; omega
       case rel => exact ⟨(wrap64 (x4_1 + 1)), zr, H', ⟨by have := HK1.out; have := HK2.out; omega⟩, ⟨by (with_reducible repeat (first | apply Kd.R_alloc | apply Kd.R_drewN | apply Kd.R_drew)); exact Za.out⟩, ⟨zg_1 HB.out⟩⟩
   ·rw [if_neg c4] at H
    have c4b0 : decide (x4_1 < (t438.length : Int)) = false := decide_eq_false c4
    clear c4
    obtain rfl := Option.some.inj H
    obtain ⟨Ao12, co12, eo12⟩ := Kd.R_slice Za.out
    subst eo12
    go_wp2
    repeat (go_quiet (fail); try go_wp2)
    go_ret
    exact ⟨by first | rfl | (simp [errW_none, errW_some] <;> rfl) | (simp [*, errW_none, errW_some] <;> rfl), zg_1 HB.out⟩
/-! ### spec_ImageOK: function 40 -/
mutual
def spec_ImageOK.j0 : Nat → Bool → List Int → List Int → List (S103) → List Int → Option (Bool)
  | 0, _, _, _, _, _ => none
  | k + 1, x13, x462000, x462001, x462002, x462003 => if x13 = true then (some false) else (spec_ImageOK.l0 k 0 x462000 x462001 x462002 x462003)
def spec_ImageOK.l0 : Nat → Int → List Int → List Int → List (S103) → List Int → Option (Bool)
  | 0, _, _, _, _, _ => none
  | k + 1, x3, x462000, x462001, x462002, x462003 => if x3 < (x462002.length : Int) then (if 0 ≤ x3 then ((spec_l10Twice.f k ((rd_T103 x462002 x3).f1)).bind fun t465 => (if t465 = true then (some false) else (spec_ImageOK.l0 k (wrap64 (x3 + 1)) x462000 x462001 x462002 x462003))) else (none)) else ((spec_l10Count.f k x462000 x462001 x462002 x462003).bind fun t466 => (spec_ImageOK.l1 k t466 0 x462000 x462001 x462002 x462003))
def spec_ImageOK.l1 : Nat → List Int → Int → List Int → List Int → List (S103) → List Int → Option (Bool)
  | 0, _, _, _, _, _, _ => none
  | k + 1, x4, x5, x462000, x462001, x462002, x462003 => if x5 < 24 then (if 0 ≤ x5 then (if x5 < (x4.length : Int) then (if x5 < (x462000.length : Int) then (if (rd x4 x5) = (rd x462000 x5) then (if (rd x4 x5) = 0 then (if x5 < (x462003.length : Int) then (if (rd x462003 x5) = 0 then (spec_ImageOK.l1 k x4 (wrap64 (x5 + 1)) x462000 x462001 x462002 x462003) else (some false)) else (none)) else (spec_ImageOK.l1 k x4 (wrap64 (x5 + 1)) x462000 x462001 x462002 x462003)) else (some false)) else (none)) else (none)) else (none)) else (some true)
end
def spec_ImageOK.f (k : Nat) (l0_0 : List Int) (l0_1 : List Int) (l0_2 : List (S103)) (l0_3 : List Int) : Option (Bool) := (spec_l10Form.f k l0_0 l0_1 l0_2 l0_3).bind fun t462 => (if t462 = true then ((spec_l10Twice.f k l0_1).bind fun t463 => (spec_ImageOK.j0 k t463 l0_0 l0_1 l0_2 l0_3)) else (spec_ImageOK.j0 k true l0_0 l0_1 l0_2 l0_3))
theorem spec_ImageOK.mono_l : ∀ k, (∀ y0 y1 y2 y3 y4, LeO (spec_ImageOK.j0 k y0 y1 y2 y3 y4) (spec_ImageOK.j0 (k + 1) y0 y1 y2 y3 y4)) ∧ (∀ y0 y1 y2 y3 y4, LeO (spec_ImageOK.l0 k y0 y1 y2 y3 y4) (spec_ImageOK.l0 (k + 1) y0 y1 y2 y3 y4)) ∧ (∀ y0 y1 y2 y3 y4 y5, LeO (spec_ImageOK.l1 k y0 y1 y2 y3 y4 y5) (spec_ImageOK.l1 (k + 1) y0 y1 y2 y3 y4 y5))
  | 0 => ⟨fun _ _ _ _ _ r h => by simp [spec_ImageOK.j0] at h, fun _ _ _ _ _ r h => by simp [spec_ImageOK.l0] at h, fun _ _ _ _ _ _ r h => by simp [spec_ImageOK.l1] at h⟩
  | k + 1 => by
    obtain ⟨ih0, ih1, ih2⟩ := spec_ImageOK.mono_l k
    refine ⟨?_, ?_, ?_⟩
    · intro y0 y1 y2 y3 y4
      unfold spec_ImageOK.j0
      repeat' first
      | (with_reducible exact ih0 _ _ _ _ _)
      | (with_reducible exact ih1 _ _ _ _ _)
      | (with_reducible exact ih2 _ _ _ _ _ _)
      | (with_reducible exact spec_l10Count.mono _ _ _ _ _)
      | (with_reducible exact spec_l10Form.mono _ _ _ _ _)
      | (with_reducible exact spec_l10Twice.mono _ _)
      | (with_reducible exact LeO.refl _)
      | (with_reducible exact LeO.none _)
      | (with_reducible refine LeO.ite ?_ ?_)
      | (with_reducible refine LeO.bind ?_ (fun _ => ?_))
      | exact ih0 _ _ _ _ _
      | exact ih1 _ _ _ _ _
      | exact ih2 _ _ _ _ _ _
      | exact spec_l10Count.mono _ _ _ _ _
      | exact spec_l10Form.mono _ _ _ _ _
      | exact spec_l10Twice.mono _ _
      | exact LeO.none _
      | refine LeO.ite ?_ ?_
      | refine LeO.bind ?_ (fun _ => ?_)
    · intro y0 y1 y2 y3 y4
      unfold spec_ImageOK.l0
      repeat' first
      | (with_reducible exact ih0 _ _ _ _ _)
      | (with_reducible exact ih1 _ _ _ _ _)
      | (with_reducible exact ih2 _ _ _ _ _ _)
      | (with_reducible exact spec_l10Count.mono _ _ _ _ _)
      | (with_reducible exact spec_l10Form.mono _ _ _ _ _)
      | (with_reducible exact spec_l10Twice.mono _ _)
      | (with_reducible exact LeO.refl _)
      | (with_reducible exact LeO.none _)
      | (with_reducible refine LeO.ite ?_ ?_)
      | (with_reducible refine LeO.bind ?_ (fun _ => ?_))
      | exact ih0 _ _ _ _ _
      | exact ih1 _ _ _ _ _
      | exact ih2 _ _ _ _ _ _
      | exact spec_l10Count.mono _ _ _ _ _
      | exact spec_l10Form.mono _ _ _ _ _
      | exact spec_l10Twice.mono _ _
      | exact LeO.none _
      | refine LeO.ite ?_ ?_
      | refine LeO.bind ?_ (fun _ => ?_)
    · intro y0 y1 y2 y3 y4 y5
      unfold spec_ImageOK.l1
      repeat' first
      | (with_reducible exact ih0 _ _ _ _ _)
      | (with_reducible exact ih1 _ _ _ _ _)
      | (with_reducible exact ih2 _ _ _ _ _ _)
      | (with_reducible exact spec_l10Count.mono _ _ _ _ _)
      | (with_reducible exact spec_l10Form.mono _ _ _ _ _)
      | (with_reducible exact spec_l10Twice.mono _ _)
      | (with_reducible exact LeO.refl _)
      | (with_reducible exact LeO.none _)
      | (with_reducible refine LeO.ite ?_ ?_)
      | (with_reducible refine LeO.bind ?_ (fun _ => ?_))
      | exact ih0 _ _ _ _ _
      | exact ih1 _ _ _ _ _
      | exact ih2 _ _ _ _ _ _
      | exact spec_l10Count.mono _ _ _ _ _
      | exact spec_l10Form.mono _ _ _ _ _
      | exact spec_l10Twice.mono _ _
      | exact LeO.none _
      | refine LeO.ite ?_ ?_
      | refine LeO.bind ?_ (fun _ => ?_)
theorem spec_ImageOK.mono : ∀ a0 a1 a2 a3 k, LeO (spec_ImageOK.f k a0 a1 a2 a3) (spec_ImageOK.f (k + 1) a0 a1 a2 a3) := by
  intro a0 a1 a2 a3 k
  obtain ⟨ih0, ih1, ih2⟩ := spec_ImageOK.mono_l k
  unfold spec_ImageOK.f
  repeat' first
      | (with_reducible exact ih0 _ _ _ _ _)
      | (with_reducible exact ih1 _ _ _ _ _)
      | (with_reducible exact ih2 _ _ _ _ _ _)
      | (with_reducible exact spec_l10Count.mono _ _ _ _ _)
      | (with_reducible exact spec_l10Form.mono _ _ _ _ _)
      | (with_reducible exact spec_l10Twice.mono _ _)
      | (with_reducible exact LeO.refl _)
      | (with_reducible exact LeO.none _)
      | (with_reducible refine LeO.ite ?_ ?_)
      | (with_reducible refine LeO.bind ?_ (fun _ => ?_))
      | exact ih0 _ _ _ _ _
      | exact ih1 _ _ _ _ _
      | exact ih2 _ _ _ _ _ _
      | exact spec_l10Count.mono _ _ _ _ _
      | exact spec_l10Form.mono _ _ _ _ _
      | exact spec_l10Twice.mono _ _
      | exact LeO.none _
      | refine LeO.ite ?_ ?_
      | refine LeO.bind ?_ (fun _ => ?_)
set_option maxHeartbeats 8000000 in
set_option maxRecDepth 100000 in
theorem spec_ImageOK.calls (k : Nat) (A0_0 : Option Addr) (c0_0 : Nat) (l0_0 : List Int) (A0_1 : Option Addr) (c0_1 : Nat) (l0_1 : List Int) (A0_2 : Option Addr) (c0_2 : Nat) (l0_2 : List (S103)) (A0_3 : Option Addr) (c0_3 : Nat) (l0_3 : List Int) (r : Bool) (w : World) (hr0_0 : Kd.C (Kd.int .i64) w A0_0 l0_0.length l0_0) (hc0_0 : l0_0.length ≤ c0_0) (hr0_1 : Kd.C (Kd.int .i64) w A0_1 l0_1.length l0_1) (hc0_1 : l0_1.length ≤ c0_1) (hr0_2 : Kd.C k103 w A0_2 l0_2.length l0_2) (hc0_2 : l0_2.length ≤ c0_2) (hr0_3 : Kd.C (Kd.int .i64) w A0_3 l0_3.length l0_3) (hc0_3 : l0_3.length ≤ c0_3) (h : spec_ImageOK.f k l0_0 l0_1 l0_2 l0_3 = some r) :
    Calls Tryz.prog 40 #[.agg #[.slice A0_0 l0_0.length c0_0, .slice A0_1 l0_1.length c0_1, .slice A0_2 l0_2.length c0_2, .slice A0_3 l0_3.length c0_3]] w fun e w' => e = .returned (.bool r) ∧ Below w.heap.size w w' := by
 have hu26 := Tryz.underlying26
 have Zc := zm hr0_0
 have Zj := zm hc0_0
 clear hr0_0 hc0_0
 have Zf := zm hr0_1
 have Zg := zm hc0_1
 clear hr0_1 hc0_1
 have Zh := zm hr0_2
 have Zk := zm hc0_2
 clear hr0_2 hc0_2
 have Zi := zm hr0_3
 have Zl := zm hc0_3
 clear hr0_3 hc0_3
 have HB := zm (Below.refl w.heap.size w)
 have H : ((spec_l10Form.f k l0_0 l0_1 l0_2 l0_3).bind fun t462 => (if t462 = true then ((spec_l10Twice.f k l0_1).bind fun t463 => (spec_ImageOK.j0 k t463 l0_0 l0_1 l0_2 l0_3)) else (spec_ImageOK.j0 k true l0_0 l0_1 l0_2 l0_3))) = some r := h
 clear h
 have HC2 := zm H
 clear H
 go_enter Tryz.func40, Tryz.ntmps40
 go_upto_region 1 with (first | ((with_reducible refine gate_dst (N := 1) rfl ?_); refine box_event ?hg (N := 1) ?hd (cs := #[.slice A0_0 l0_0.length c0_0, .slice A0_1 l0_1.length c0_1, .slice A0_2 l0_2.length c0_2, .slice A0_3 l0_3.length c0_3]) (t := 26) ?hr ?_; (case hd => rfl); (case hg => rfl); (case hr => first | (go_simp; done) | (go_simp; rfl)); intro gb461 hg w3 hbox hb; have n0_ := zm (below_step (zg_1 HB.out) hb); have n1_ := zm (hbox); have n2_ := zm ((by rw [hg]; exact (below_size (zg_1 HB.out)) : w.heap.size ≤ gb461)); have n3_ := zm ((by rw [hg]; exact (below_size (zg_1 HB.out)) : w.heap.size ≤ gb461)); clear HB; have HB := n0_; have Za := n1_; have Zo := n2_; have Zb := n3_; clear n0_ n1_ n2_ n3_; clear hb hbox hg))
 repeat (go_quiet (first | ((with_reducible refine gate_dst (N := 1) rfl ?_); refine box_event ?hg (N := 1) ?hd (cs := #[.slice A0_0 l0_0.length c0_0, .slice A0_1 l0_1.length c0_1, .slice A0_2 l0_2.length c0_2, .slice A0_3 l0_3.length c0_3]) (t := 26) ?hr ?_; (case hd => rfl); (case hg => rfl); (case hr => first | (go_simp; done) | (go_simp; rfl)); intro gb461 hg w3 hbox hb; have n0_ := zm (below_step (zg_1 HB.out) hb); have n1_ := zm (hbox); have n2_ := zm ((by rw [hg]; exact (below_size (zg_1 HB.out)) : w.heap.size ≤ gb461)); have n3_ := zm ((by rw [hg]; exact (below_size (zg_1 HB.out)) : w.heap.size ≤ gb461)); clear HB; have HB := n0_; have Za := n1_; have Zo := n2_; have Zb := n3_; clear n0_ n1_ n2_ n3_; clear hb hbox hg)); go_upto_region 1 with (first | ((with_reducible refine gate_dst (N := 1) rfl ?_); refine box_event ?hg (N := 1) ?hd (cs := #[.slice A0_0 l0_0.length c0_0, .slice A0_1 l0_1.length c0_1, .slice A0_2 l0_2.length c0_2, .slice A0_3 l0_3.length c0_3]) (t := 26) ?hr ?_; (case hd => rfl); (case hg => rfl); (case hr => first | (go_simp; done) | (go_simp; rfl)); intro gb461 hg w3 hbox hb; have n0_ := zm (below_step (zg_1 HB.out) hb); have n1_ := zm (hbox); have n2_ := zm ((by rw [hg]; exact (below_size (zg_1 HB.out)) : w.heap.size ≤ gb461)); have n3_ := zm ((by rw [hg]; exact (below_size (zg_1 HB.out)) : w.heap.size ≤ gb461)); clear HB; have HB := n0_; have Za := n1_; have Zo := n2_; have Zb := n3_; clear n0_ n1_ n2_ n3_; clear hb hbox hg)))
 (try simp only [Act.put, zs, zz, zt])
 go_cut [13] (fun v13 wc => ∃ (kq : Nat) (x13_1 : Bool), v13 = .bool x13_1 ∧ Aside0 (spec_ImageOK.j0 kq x13_1 l0_0 l0_1 l0_2 l0_3 = some r) ∧ Aside0 (kq ≤ k) ∧ Aside0 (wc.heap[gb461]? = some (.cells #[(.slice A0_0 l0_0.length c0_0), (.slice A0_1 l0_1.length c0_1), (.slice A0_2 l0_2.length c0_2), (.slice A0_3 l0_3.length c0_3)] 26 (0, 0))) ∧ Aside0 (Below w.heap.size w wc))
 case first =>
  have H := HC2.out
  clear HC2
  replace H := Option.bind_eq_some_iff.mp H
  obtain ⟨t462, A40, H⟩ := H
  replace H : (if t462 = true then ((spec_l10Twice.f k l0_1).bind fun t463 => (spec_ImageOK.j0 k t463 l0_0 l0_1 l0_2 l0_3)) else (spec_ImageOK.j0 k true l0_0 l0_1 l0_2 l0_3)) = some r := H
  have A4 := zm A40
  clear A40
  by_cases c5 : t462 = true
  ·subst c5
   have H1 : ((spec_l10Twice.f k l0_1).bind fun t463 => (spec_ImageOK.j0 k t463 l0_0 l0_1 l0_2 l0_3)) = some r := by rw [if_pos rfl] at H; exact H
   clear H
   have H := H1
   clear H1
   replace H := Option.bind_eq_some_iff.mp H
   obtain ⟨t463, A60, H⟩ := H
   replace H : (spec_ImageOK.j0 k t463 l0_0 l0_1 l0_2 l0_3) = some r := H
   have A6 := zm A60
   clear A60
   have H' := zm H
   clear H
   have hcz7_0 : w3.cell? ⟨gb461, 0, none⟩ = some (.slice A0_0 l0_0.length c0_0) := (blk_cell Za.out 0).trans rfl
   have hcz7_1 : w3.cell? ⟨gb461, 1, none⟩ = some (.slice A0_1 l0_1.length c0_1) := (blk_cell Za.out 1).trans rfl
   have hcz7_2 : w3.cell? ⟨gb461, 2, none⟩ = some (.slice A0_2 l0_2.length c0_2) := (blk_cell Za.out 2).trans rfl
   have hcz7_3 : w3.cell? ⟨gb461, 3, none⟩ = some (.slice A0_3 l0_3.length c0_3) := (blk_cell Za.out 3).trans rfl
   have hfz7_0 := blk_frozen Za.out 0
   have hfz7_1 := blk_frozen Za.out 1
   have hfz7_2 := blk_frozen Za.out 2
   have hfz7_3 := blk_frozen Za.out 3
   go_wp2_with (first | (go_at_call 84; (with_reducible refine (spec_l10Form.calls k _ _ l0_0 _ _ l0_1 _ _ l0_2 _ _ l0_3 true _ ?side1 ?side2 ?side3 ?side4 ?side5 ?side6 ?side7 ?side8 A4.out).mono ?_); (case side1 => exact zC (Kd.C_below Zc.out HB.out)); (case side2 => exact Zj.out); (case side3 => exact zC (Kd.C_below Zf.out HB.out)); (case side4 => exact Zg.out); (case side5 => exact zC (Kd.C_below Zh.out HB.out)); (case side6 => exact Zk.out); (case side7 => exact zC (Kd.C_below Zi.out HB.out)); (case side8 => exact Zl.out); rintro e w8 ⟨rfl, hb⟩; have n0_ := zm (blk_below (g := gb461) (o := .cells #[.slice A0_0 l0_0.length c0_0, .slice A0_1 l0_1.length c0_1, .slice A0_2 l0_2.length c0_2, .slice A0_3 l0_3.length c0_3] 26 (0, 0)) (zg_3 Za.out) hb); have n1_ := zm (below_step (zg_2 HB.out Zb.out) hb); clear Za; clear HB; have Za := n0_; have HB := n1_; clear n0_ n1_; (try clear hb); (try clear hb2); (try clear hk); (try clear hi); have hcz9_0 : w8.cell? ⟨gb461, 0, none⟩ = some (.slice A0_0 l0_0.length c0_0) := (blk_cell Za.out 0).trans rfl; have hcz9_1 : w8.cell? ⟨gb461, 1, none⟩ = some (.slice A0_1 l0_1.length c0_1) := (blk_cell Za.out 1).trans rfl; have hcz9_2 : w8.cell? ⟨gb461, 2, none⟩ = some (.slice A0_2 l0_2.length c0_2) := (blk_cell Za.out 2).trans rfl; have hcz9_3 : w8.cell? ⟨gb461, 3, none⟩ = some (.slice A0_3 l0_3.length c0_3) := (blk_cell Za.out 3).trans rfl; have hfz9_0 := blk_frozen Za.out 0; have hfz9_1 := blk_frozen Za.out 1; have hfz9_2 := blk_frozen Za.out 2; have hfz9_3 := blk_frozen Za.out 3) | (go_at_call 85; (with_reducible refine (spec_l10Twice.calls k _ _ l0_1 t463 _ ?side1 ?side2 A6.out).mono ?_); (case side1 => exact zC (Kd.C_below Zf.out HB.out)); (case side2 => exact Zg.out); rintro e w10 ⟨rfl, hb⟩; have n0_ := zm (blk_below (g := gb461) (o := .cells #[.slice A0_0 l0_0.length c0_0, .slice A0_1 l0_1.length c0_1, .slice A0_2 l0_2.length c0_2, .slice A0_3 l0_3.length c0_3] 26 (0, 0)) (zg_3 Za.out) hb); have n1_ := zm (below_step (zg_2 HB.out Zb.out) hb); clear Za; clear HB; have Za := n0_; have HB := n1_; clear n0_ n1_; (try clear hb); (try clear hb2); (try clear hk); (try clear hi)))
   repeat (go_quiet (first | (go_at_call 84; (with_reducible refine (spec_l10Form.calls k _ _ l0_0 _ _ l0_1 _ _ l0_2 _ _ l0_3 true _ ?side1 ?side2 ?side3 ?side4 ?side5 ?side6 ?side7 ?side8 A4.out).mono ?_); (case side1 => exact zC (Kd.C_below Zc.out HB.out)); (case side2 => exact Zj.out); (case side3 => exact zC (Kd.C_below Zf.out HB.out)); (case side4 => exact Zg.out); (case side5 => exact zC (Kd.C_below Zh.out HB.out)); (case side6 => exact Zk.out); (case side7 => exact zC (Kd.C_below Zi.out HB.out)); (case side8 => exact Zl.out); rintro e w8 ⟨rfl, hb⟩; have n0_ := zm (blk_below (g := gb461) (o := .cells #[.slice A0_0 l0_0.length c0_0, .slice A0_1 l0_1.length c0_1, .slice A0_2 l0_2.length c0_2, .slice A0_3 l0_3.length c0_3] 26 (0, 0)) (zg_3 Za.out) hb); have n1_ := zm (below_step (zg_2 HB.out Zb.out) hb); clear Za; clear HB; have Za := n0_; have HB := n1_; clear n0_ n1_; (try clear hb); (try clear hb2); (try clear hk); (try clear hi); have hcz9_0 : w8.cell? ⟨gb461, 0, none⟩ = some (.slice A0_0 l0_0.length c0_0) := (blk_cell Za.out 0).trans rfl; have hcz9_1 : w8.cell? ⟨gb461, 1, none⟩ = some (.slice A0_1 l0_1.length c0_1) := (blk_cell Za.out 1).trans rfl; have hcz9_2 : w8.cell? ⟨gb461, 2, none⟩ = some (.slice A0_2 l0_2.length c0_2) := (blk_cell Za.out 2).trans rfl; have hcz9_3 : w8.cell? ⟨gb461, 3, none⟩ = some (.slice A0_3 l0_3.length c0_3) := (blk_cell Za.out 3).trans rfl; have hfz9_0 := blk_frozen Za.out 0; have hfz9_1 := blk_frozen Za.out 1; have hfz9_2 := blk_frozen Za.out 2; have hfz9_3 := blk_frozen Za.out 3) | (go_at_call 85; (with_reducible refine (spec_l10Twice.calls k _ _ l0_1 t463 _ ?side1 ?side2 A6.out).mono ?_); (case side1 => exact zC (Kd.C_below Zf.out HB.out)); (case side2 => exact Zg.out); rintro e w10 ⟨rfl, hb⟩; have n0_ := zm (blk_below (g := gb461) (o := .cells #[.slice A0_0 l0_0.length c0_0, .slice A0_1 l0_1.length c0_1, .slice A0_2 l0_2.length c0_2, .slice A0_3 l0_3.length c0_3] 26 (0, 0)) (zg_3 Za.out) hb); have n1_ := zm (below_step (zg_2 HB.out Zb.out) hb); clear Za; clear HB; have Za := n0_; have HB := n1_; clear n0_ n1_; (try clear hb); (try clear hb2); (try clear hk); (try clear hi))); try go_wp2_with (first | (go_at_call 84; (with_reducible refine (spec_l10Form.calls k _ _ l0_0 _ _ l0_1 _ _ l0_2 _ _ l0_3 true _ ?side1 ?side2 ?side3 ?side4 ?side5 ?side6 ?side7 ?side8 A4.out).mono ?_); (case side1 => exact zC (Kd.C_below Zc.out HB.out)); (case side2 => exact Zj.out); (case side3 => exact zC (Kd.C_below Zf.out HB.out)); (case side4 => exact Zg.out); (case side5 => exact zC (Kd.C_below Zh.out HB.out)); (case side6 => exact Zk.out); (case side7 => exact zC (Kd.C_below Zi.out HB.out)); (case side8 => exact Zl.out); rintro e w8 ⟨rfl, hb⟩; have n0_ := zm (blk_below (g := gb461) (o := .cells #[.slice A0_0 l0_0.length c0_0, .slice A0_1 l0_1.length c0_1, .slice A0_2 l0_2.length c0_2, .slice A0_3 l0_3.length c0_3] 26 (0, 0)) (zg_3 Za.out) hb); have n1_ := zm (below_step (zg_2 HB.out Zb.out) hb); clear Za; clear HB; have Za := n0_; have HB := n1_; clear n0_ n1_; (try clear hb); (try clear hb2); (try clear hk); (try clear hi); have hcz9_0 : w8.cell? ⟨gb461, 0, none⟩ = some (.slice A0_0 l0_0.length c0_0) := (blk_cell Za.out 0).trans rfl; have hcz9_1 : w8.cell? ⟨gb461, 1, none⟩ = some (.slice A0_1 l0_1.length c0_1) := (blk_cell Za.out 1).trans rfl; have hcz9_2 : w8.cell? ⟨gb461, 2, none⟩ = some (.slice A0_2 l0_2.length c0_2) := (blk_cell Za.out 2).trans rfl; have hcz9_3 : w8.cell? ⟨gb461, 3, none⟩ = some (.slice A0_3 l0_3.length c0_3) := (blk_cell Za.out 3).trans rfl; have hfz9_0 := blk_frozen Za.out 0; have hfz9_1 := blk_frozen Za.out 1; have hfz9_2 := blk_frozen Za.out 2; have hfz9_3 := blk_frozen Za.out 3) | (go_at_call 85; (with_reducible refine (spec_l10Twice.calls k _ _ l0_1 t463 _ ?side1 ?side2 A6.out).mono ?_); (case side1 => exact zC (Kd.C_below Zf.out HB.out)); (case side2 => exact Zg.out); rintro e w10 ⟨rfl, hb⟩; have n0_ := zm (blk_below (g := gb461) (o := .cells #[.slice A0_0 l0_0.length c0_0, .slice A0_1 l0_1.length c0_1, .slice A0_2 l0_2.length c0_2, .slice A0_3 l0_3.length c0_3] 26 (0, 0)) (zg_3 Za.out) hb); have n1_ := zm (below_step (zg_2 HB.out Zb.out) hb); clear Za; clear HB; have Za := n0_; have HB := n1_; clear n0_ n1_; (try clear hb); (try clear hb2); (try clear hk); (try clear hi))))
   go_meet
   case rel => exact ⟨_, (t463), zr, H', ⟨by first | omega | exact Nat.le_refl _⟩, ⟨by (with_reducible repeat (first | refine blk_drewN ?_ _ | refine blk_drew ?_ | refine blk_alloc ?_ _)); exact Za.out⟩, ⟨zg_2 HB.out Zb.out⟩⟩
  ·replace c5 := Bool.eq_false_iff.mpr c5
   subst c5
   have H1 : (spec_ImageOK.j0 k true l0_0 l0_1 l0_2 l0_3) = some r := by rw [if_neg (show ¬ (false = true) by decide)] at H; exact H
   clear H
   have H := H1
   clear H1
   have H' := zm H
   clear H
   have hcz11_0 : w3.cell? ⟨gb461, 0, none⟩ = some (.slice A0_0 l0_0.length c0_0) := (blk_cell Za.out 0).trans rfl
   have hcz11_1 : w3.cell? ⟨gb461, 1, none⟩ = some (.slice A0_1 l0_1.length c0_1) := (blk_cell Za.out 1).trans rfl
   have hcz11_2 : w3.cell? ⟨gb461, 2, none⟩ = some (.slice A0_2 l0_2.length c0_2) := (blk_cell Za.out 2).trans rfl
   have hcz11_3 : w3.cell? ⟨gb461, 3, none⟩ = some (.slice A0_3 l0_3.length c0_3) := (blk_cell Za.out 3).trans rfl
   have hfz11_0 := blk_frozen Za.out 0
   have hfz11_1 := blk_frozen Za.out 1
   have hfz11_2 := blk_frozen Za.out 2
   have hfz11_3 := blk_frozen Za.out 3
   go_wp2_with (first | (go_at_call 84; (with_reducible refine (spec_l10Form.calls k _ _ l0_0 _ _ l0_1 _ _ l0_2 _ _ l0_3 false _ ?side1 ?side2 ?side3 ?side4 ?side5 ?side6 ?side7 ?side8 A4.out).mono ?_); (case side1 => exact zC (Kd.C_below Zc.out HB.out)); (case side2 => exact Zj.out); (case side3 => exact zC (Kd.C_below Zf.out HB.out)); (case side4 => exact Zg.out); (case side5 => exact zC (Kd.C_below Zh.out HB.out)); (case side6 => exact Zk.out); (case side7 => exact zC (Kd.C_below Zi.out HB.out)); (case side8 => exact Zl.out); rintro e w12 ⟨rfl, hb⟩; have n0_ := zm (blk_below (g := gb461) (o := .cells #[.slice A0_0 l0_0.length c0_0, .slice A0_1 l0_1.length c0_1, .slice A0_2 l0_2.length c0_2, .slice A0_3 l0_3.length c0_3] 26 (0, 0)) (zg_3 Za.out) hb); have n1_ := zm (below_step (zg_2 HB.out Zb.out) hb); clear Za; clear HB; have Za := n0_; have HB := n1_; clear n0_ n1_; (try clear hb); (try clear hb2); (try clear hk); (try clear hi)))
   repeat (go_quiet (first | (go_at_call 84; (with_reducible refine (spec_l10Form.calls k _ _ l0_0 _ _ l0_1 _ _ l0_2 _ _ l0_3 false _ ?side1 ?side2 ?side3 ?side4 ?side5 ?side6 ?side7 ?side8 A4.out).mono ?_); (case side1 => exact zC (Kd.C_below Zc.out HB.out)); (case side2 => exact Zj.out); (case side3 => exact zC (Kd.C_below Zf.out HB.out)); (case side4 => exact Zg.out); (case side5 => exact zC (Kd.C_below Zh.out HB.out)); (case side6 => exact Zk.out); (case side7 => exact zC (Kd.C_below Zi.out HB.out)); (case side8 => exact Zl.out); rintro e w12 ⟨rfl, hb⟩; have n0_ := zm (blk_below (g := gb461) (o := .cells #[.slice A0_0 l0_0.length c0_0, .slice A0_1 l0_1.length c0_1, .slice A0_2 l0_2.length c0_2, .slice A0_3 l0_3.length c0_3] 26 (0, 0)) (zg_3 Za.out) hb); have n1_ := zm (below_step (zg_2 HB.out Zb.out) hb); clear Za; clear HB; have Za := n0_; have HB := n1_; clear n0_ n1_; (try clear hb); (try clear hb2); (try clear hk); (try clear hi))); try go_wp2_with (first | (go_at_call 84; (with_reducible refine (spec_l10Form.calls k _ _ l0_0 _ _ l0_1 _ _ l0_2 _ _ l0_3 false _ ?side1 ?side2 ?side3 ?side4 ?side5 ?side6 ?side7 ?side8 A4.out).mono ?_); (case side1 => exact zC (Kd.C_below Zc.out HB.out)); (case side2 => exact Zj.out); (case side3 => exact zC (Kd.C_below Zf.out HB.out)); (case side4 => exact Zg.out); (case side5 => exact zC (Kd.C_below Zh.out HB.out)); (case side6 => exact Zk.out); (case side7 => exact zC (Kd.C_below Zi.out HB.out)); (case side8 => exact Zl.out); rintro e w12 ⟨rfl, hb⟩; have n0_ := zm (blk_below (g := gb461) (o := .cells #[.slice A0_0 l0_0.length c0_0, .slice A0_1 l0_1.length c0_1, .slice A0_2 l0_2.length c0_2, .slice A0_3 l0_3.length c0_3] 26 (0, 0)) (zg_3 Za.out) hb); have n1_ := zm (below_step (zg_2 HB.out Zb.out) hb); clear Za; clear HB; have Za := n0_; have HB := n1_; clear n0_ n1_; (try clear hb); (try clear hb2); (try clear hk); (try clear hi))))
   go_meet
   case rel => exact ⟨_, (true), zr, H', ⟨by first | omega | exact Nat.le_refl _⟩, ⟨by (with_reducible repeat (first | refine blk_drewN ?_ _ | refine blk_drew ?_ | refine blk_alloc ?_ _)); exact Za.out⟩, ⟨zg_2 HB.out Zb.out⟩⟩
 case rest =>
  clear HC2
  try clear p2
  try clear c4
  try clear c5
  try clear hcz11_0
  try clear hcz11_1
  try clear hcz11_2
  try clear hcz11_3
  try clear hcz7_0
  try clear hcz7_1
  try clear hcz7_2
  try clear hcz7_3
  try clear hcz9_0
  try clear hcz9_1
  try clear hcz9_2
  try clear hcz9_3
  try clear hfz11_0
  try clear hfz11_1
  try clear hfz11_2
  try clear hfz11_3
  try clear hfz7_0
  try clear hfz7_1
  try clear hfz7_2
  try clear hfz7_3
  try clear hfz9_0
  try clear hfz9_1
  try clear hfz9_2
  try clear hfz9_3
  obtain ⟨kq, x13_1, rfl, HA, HJ1, Za, HB⟩ := hcut
  cases kq with
  | zero => exact absurd HA.out (by simp [spec_ImageOK.j0])
  | succ kj1 =>
   have H := HA.out
   clear HA
   simp only [spec_ImageOK.j0] at H
   by_cases c13 : x13_1 = true
   ·subst c13
    have H1 : (some false) = some r := by rw [if_pos rfl] at H; exact H
    clear H
    have H := H1
    clear H1
    obtain rfl := Option.some.inj H
    go_wp2
    repeat (go_quiet (fail); try go_wp2)
    go_ret
    exact ⟨by first | rfl | (simp [errW_none, errW_some] <;> rfl) | (simp [*, errW_none, errW_some] <;> rfl), zg_2 HB.out Zb.out⟩
   ·replace c13 := Bool.eq_false_iff.mpr c13
    subst c13
    have H1 : (spec_ImageOK.l0 kj1 0 l0_0 l0_1 l0_2 l0_3) = some r := by rw [if_neg (show ¬ (false = true) by decide)] at H; exact H
    clear H
    have H := H1
    clear H1
    have H' := zm H
    clear H
    go_wp2
    repeat (go_quiet (fail); try go_wp2)
    go_loopg [3] kj1 (fun kq v3 w' => ∃ (x3_2 : Int), v3 = .int .i64 x3_2 ∧ Aside0 (spec_ImageOK.l0 kq x3_2 l0_0 l0_1 l0_2 l0_3 = some r) ∧ Aside0 (kq ≤ kj1) ∧ Aside0 (w'.heap[gb461]? = some (.cells #[(.slice A0_0 l0_0.length c0_0), (.slice A0_1 l0_1.length c0_1), (.slice A0_2 l0_2.length c0_2), (.slice A0_3 l0_3.length c0_3)] 26 (0, 0))) ∧ Aside0 (Below w.heap.size w w'))
    case atStart => exact ⟨(0), zr, H', ⟨Nat.le_refl _⟩, ⟨by (with_reducible repeat (first | refine blk_drewN ?_ _ | refine blk_drew ?_ | refine blk_alloc ?_ _)); exact Za.out⟩, ⟨zg_2 HB.out Zb.out⟩⟩
    case round =>
     clear H'
     try clear c1
     try clear p2
     try clear c4
     try clear c5
     try clear c13
     try clear hcz11_0
     try clear hcz11_1
     try clear hcz11_2
     try clear hcz11_3
     try clear hcz7_0
     try clear hcz7_1
     try clear hcz7_2
     try clear hcz7_3
     try clear hcz9_0
     try clear hcz9_1
     try clear hcz9_2
     try clear hcz9_3
     try clear hfz11_0
     try clear hfz11_1
     try clear hfz11_2
     try clear hfz11_3
     try clear hfz7_0
     try clear hfz7_1
     try clear hfz7_2
     try clear hfz7_3
     try clear hfz9_0
     try clear hfz9_1
     try clear hfz9_2
     try clear hfz9_3
     try clear p2
     obtain ⟨x3_2, rfl, HA, HK2, Za, HB⟩ := hrel
     cases gk with
     | zero => exact absurd HA.out (by simp [spec_ImageOK.l0])
     | succ k2 =>
      have H := HA.out
      clear HA
      simp only [spec_ImageOK.l0] at H
      by_cases c14 : x3_2 < (l0_2.length : Int)
      ·rw [if_pos c14] at H
       have c14b0 : decide (x3_2 < (l0_2.length : Int)) = true := decide_eq_true c14
       clear c14
       by_cases c15 : 0 ≤ x3_2
       ·rw [if_pos c15] at H
        have c15b0 : decide (0 ≤ x3_2) = true := decide_eq_true c15
        clear c15
        replace H := Option.bind_eq_some_iff.mp H
        obtain ⟨t465, A160, H⟩ := H
        replace H : (if t465 = true then (some false) else (spec_ImageOK.l0 k2 (wrap64 (x3_2 + 1)) l0_0 l0_1 l0_2 l0_3)) = some r := H
        have A16 := zm A160
        clear A160
        by_cases c17 : t465 = true
        ·subst c17
         have H1 : (some false) = some r := by rw [if_pos rfl] at H; exact H
         clear H
         have H := H1
         clear H1
         obtain rfl := Option.some.inj H
         have hcz18_0 : wr.cell? ⟨gb461, 0, none⟩ = some (.slice A0_0 l0_0.length c0_0) := (blk_cell Za.out 0).trans rfl
         have hcz18_1 : wr.cell? ⟨gb461, 1, none⟩ = some (.slice A0_1 l0_1.length c0_1) := (blk_cell Za.out 1).trans rfl
         have hcz18_2 : wr.cell? ⟨gb461, 2, none⟩ = some (.slice A0_2 l0_2.length c0_2) := (blk_cell Za.out 2).trans rfl
         have hcz18_3 : wr.cell? ⟨gb461, 3, none⟩ = some (.slice A0_3 l0_3.length c0_3) := (blk_cell Za.out 3).trans rfl
         have hfz18_0 := blk_frozen Za.out 0
         have hfz18_1 := blk_frozen Za.out 1
         have hfz18_2 := blk_frozen Za.out 2
         have hfz18_3 := blk_frozen Za.out 3
         have p464 : 0 ≤ (x3_2 : Int) := zd
         have q464 : x3_2 < (l0_2.length : Int) := zd
         obtain ⟨ad464, A464_1, c464_1, e464, hx464_0, hx464_1, hl464_1, hi464_1⟩ := at_T103 Zh.out x3_2 p464 q464
         cases e464
         replace hx464_0 := (HB.out.cell (World.block_lt_of_cell? w _ hx464_0)).trans hx464_0
         replace hx464_1 := (HB.out.cell (World.block_lt_of_cell? w _ hx464_1)).trans hx464_1
         have Zd := zm hi464_1
         have Ze := zm hl464_1
         clear hi464_1 hl464_1
         replace p464 := eq_true p464
         replace q464 := eq_true q464
         go_wp2_with (first | (go_at_call 85; (with_reducible refine (spec_l10Twice.calls k2 _ _ ((rd_T103 l0_2 x3_2).f1) true _ ?side1 ?side2 A16.out).mono ?_); (case side1 => exact zC (Kd.C_below Zd.out HB.out)); (case side2 => exact Ze.out); rintro e w19 ⟨rfl, hb⟩; have n0_ := zm (blk_below (g := gb461) (o := .cells #[.slice A0_0 l0_0.length c0_0, .slice A0_1 l0_1.length c0_1, .slice (some ad464) l0_2.length c0_2, .slice A0_3 l0_3.length c0_3] 26 (0, 0)) (zg_3 Za.out) hb); have n1_ := zm (below_step (zg_2 HB.out Zb.out) hb); clear Za; clear HB; have Za := n0_; have HB := n1_; clear n0_ n1_; (try clear hb); (try clear hb2); (try clear hk); (try clear hi)))
         repeat (go_quiet (first | (go_at_call 85; (with_reducible refine (spec_l10Twice.calls k2 _ _ ((rd_T103 l0_2 x3_2).f1) true _ ?side1 ?side2 A16.out).mono ?_); (case side1 => exact zC (Kd.C_below Zd.out HB.out)); (case side2 => exact Ze.out); rintro e w19 ⟨rfl, hb⟩; have n0_ := zm (blk_below (g := gb461) (o := .cells #[.slice A0_0 l0_0.length c0_0, .slice A0_1 l0_1.length c0_1, .slice (some ad464) l0_2.length c0_2, .slice A0_3 l0_3.length c0_3] 26 (0, 0)) (zg_3 Za.out) hb); have n1_ := zm (below_step (zg_2 HB.out Zb.out) hb); clear Za; clear HB; have Za := n0_; have HB := n1_; clear n0_ n1_; (try clear hb); (try clear hb2); (try clear hk); (try clear hi))); try go_wp2_with (first | (go_at_call 85; (with_reducible refine (spec_l10Twice.calls k2 _ _ ((rd_T103 l0_2 x3_2).f1) true _ ?side1 ?side2 A16.out).mono ?_); (case side1 => exact zC (Kd.C_below Zd.out HB.out)); (case side2 => exact Ze.out); rintro e w19 ⟨rfl, hb⟩; have n0_ := zm (blk_below (g := gb461) (o := .cells #[.slice A0_0 l0_0.length c0_0, .slice A0_1 l0_1.length c0_1, .slice (some ad464) l0_2.length c0_2, .slice A0_3 l0_3.length c0_3] 26 (0, 0)) (zg_3 Za.out) hb); have n1_ := zm (below_step (zg_2 HB.out Zb.out) hb); clear Za; clear HB; have Za := n0_; have HB := n1_; clear n0_ n1_; (try clear hb); (try clear hb2); (try clear hk); (try clear hi))))
         go_ret
         exact ⟨by first | rfl | (simp [errW_none, errW_some] <;> rfl) | (simp [*, errW_none, errW_some] <;> rfl), zg_2 HB.out Zb.out⟩
        ·replace c17 := Bool.eq_false_iff.mpr c17
         subst c17
         have H1 : (spec_ImageOK.l0 k2 (wrap64 (x3_2 + 1)) l0_0 l0_1 l0_2 l0_3) = some r := by rw [if_neg (show ¬ (false = true) by decide)] at H; exact H
         clear H
         have H := H1
         clear H1
         have H' := zm H
         clear H
         have hcz20_0 : wr.cell? ⟨gb461, 0, none⟩ = some (.slice A0_0 l0_0.length c0_0) := (blk_cell Za.out 0).trans rfl
         have hcz20_1 : wr.cell? ⟨gb461, 1, none⟩ = some (.slice A0_1 l0_1.length c0_1) := (blk_cell Za.out 1).trans rfl
         have hcz20_2 : wr.cell? ⟨gb461, 2, none⟩ = some (.slice A0_2 l0_2.length c0_2) := (blk_cell Za.out 2).trans rfl
         have hcz20_3 : wr.cell? ⟨gb461, 3, none⟩ = some (.slice A0_3 l0_3.length c0_3) := (blk_cell Za.out 3).trans rfl
         have hfz20_0 := blk_frozen Za.out 0
         have hfz20_1 := blk_frozen Za.out 1
         have hfz20_2 := blk_frozen Za.out 2
         have hfz20_3 := blk_frozen Za.out 3
         have p464 : 0 ≤ (x3_2 : Int) := zd
         have q464 : x3_2 < (l0_2.length : Int) := zd
         obtain ⟨ad464, A464_1, c464_1, e464, hx464_0, hx464_1, hl464_1, hi464_1⟩ := at_T103 Zh.out x3_2 p464 q464
         cases e464
         replace hx464_0 := (HB.out.cell (World.block_lt_of_cell? w _ hx464_0)).trans hx464_0
         replace hx464_1 := (HB.out.cell (World.block_lt_of_cell? w _ hx464_1)).trans hx464_1
         have Zd := zm hi464_1
         have Ze := zm hl464_1
         clear hi464_1 hl464_1
         replace p464 := eq_true p464
         replace q464 := eq_true q464
         go_wp2_with (first | (go_at_call 85; (with_reducible refine (spec_l10Twice.calls k2 _ _ ((rd_T103 l0_2 x3_2).f1) false _ ?side1 ?side2 A16.out).mono ?_); (case side1 => exact zC (Kd.C_below Zd.out HB.out)); (case side2 => exact Ze.out); rintro e w21 ⟨rfl, hb⟩; have n0_ := zm (blk_below (g := gb461) (o := .cells #[.slice A0_0 l0_0.length c0_0, .slice A0_1 l0_1.length c0_1, .slice (some ad464) l0_2.length c0_2, .slice A0_3 l0_3.length c0_3] 26 (0, 0)) (zg_3 Za.out) hb); have n1_ := zm (below_step (zg_2 HB.out Zb.out) hb); clear Za; clear HB; have Za := n0_; have HB := n1_; clear n0_ n1_; (try clear hb); (try clear hb2); (try clear hk); (try clear hi)))
         repeat (go_quiet (first | (go_at_call 85; (with_reducible refine (spec_l10Twice.calls k2 _ _ ((rd_T103 l0_2 x3_2).f1) false _ ?side1 ?side2 A16.out).mono ?_); (case side1 => exact zC (Kd.C_below Zd.out HB.out)); (case side2 => exact Ze.out); rintro e w21 ⟨rfl, hb⟩; have n0_ := zm (blk_below (g := gb461) (o := .cells #[.slice A0_0 l0_0.length c0_0, .slice A0_1 l0_1.length c0_1, .slice (some ad464) l0_2.length c0_2, .slice A0_3 l0_3.length c0_3] 26 (0, 0)) (zg_3 Za.out) hb); have n1_ := zm (below_step (zg_2 HB.out Zb.out) hb); clear Za; clear HB; have Za := n0_; have HB := n1_; clear n0_ n1_; (try clear hb); (try clear hb2); (try clear hk); (try clear hi))); try go_wp2_with (first | (go_at_call 85; (with_reducible refine (spec_l10Twice.calls k2 _ _ ((rd_T103 l0_2 x3_2).f1) false _ ?side1 ?side2 A16.out).mono ?_); (case side1 => exact zC (Kd.C_below Zd.out HB.out)); (case side2 => exact Ze.out); rintro e w21 ⟨rfl, hb⟩; have n0_ := zm (blk_below (g := gb461) (o := .cells #[.slice A0_0 l0_0.length c0_0, .slice A0_1 l0_1.length c0_1, .slice (some ad464) l0_2.length c0_2, .slice A0_3 l0_3.length c0_3] 26 (0, 0)) (zg_3 Za.out) hb); have n1_ := zm (below_step (zg_2 HB.out Zb.out) hb); clear Za; clear HB; have Za := n0_; have HB := n1_; clear n0_ n1_; (try clear hb); (try clear hb2); (try clear hk); (try clear hi))))
         go_roundg k2
         case measure => have := HJ1.out; have := HK2.out; omega
         case rel => exact ⟨(wrap64 (x3_2 + 1)), zr, H', ⟨by have := HJ1.out; have := HK2.out; omega⟩, ⟨by (with_reducible repeat (first | refine blk_drewN ?_ _ | refine blk_drew ?_ | refine blk_alloc ?_ _)); exact Za.out⟩, ⟨zg_2 HB.out Zb.out⟩⟩
       ·rw [if_neg c15] at H
        exact absurd H (by simp)
      ·rw [if_neg c14] at H
       have c14b0 : decide (x3_2 < (l0_2.length : Int)) = false := decide_eq_false c14
       clear c14
       replace H := Option.bind_eq_some_iff.mp H
       obtain ⟨t466, A220, H⟩ := H
       replace H : (spec_ImageOK.l1 k2 t466 0 l0_0 l0_1 l0_2 l0_3) = some r := H
       have A22 := zm A220
       clear A220
       have H' := zm H
       clear H
       have hcz23_0 : wr.cell? ⟨gb461, 0, none⟩ = some (.slice A0_0 l0_0.length c0_0) := (blk_cell Za.out 0).trans rfl
       have hcz23_1 : wr.cell? ⟨gb461, 1, none⟩ = some (.slice A0_1 l0_1.length c0_1) := (blk_cell Za.out 1).trans rfl
       have hcz23_2 : wr.cell? ⟨gb461, 2, none⟩ = some (.slice A0_2 l0_2.length c0_2) := (blk_cell Za.out 2).trans rfl
       have hcz23_3 : wr.cell? ⟨gb461, 3, none⟩ = some (.slice A0_3 l0_3.length c0_3) := (blk_cell Za.out 3).trans rfl
       have hfz23_0 := blk_frozen Za.out 0
       have hfz23_1 := blk_frozen Za.out 1
       have hfz23_2 := blk_frozen Za.out 2
       have hfz23_3 := blk_frozen Za.out 3
       go_wp2_with (first | (go_at_call 86; (with_reducible refine (spec_l10Count.calls k2 _ _ l0_0 (fun k_ => k_ < w.heap.size) _ _ l0_1 (fun k_ => k_ < w.heap.size) _ _ l0_2 _ _ l0_3 t466 _ ?side1 ?side2 ?side3 ?side4 ?side5 ?side6 A22.out).mono ?_); (case side1 => exact zC (Kd.C_below Zc.out HB.out)); (case side2 => exact Zj.out); (case side3 => exact Kd.V_mk Zg.out (Kd.F_below (Kd.C_F (Kd.heap_int .i64) Zf.out) (zg_2 HB.out Zb.out))); (case side4 => exact Kd.V_mk Zk.out (Kd.F_below (Kd.C_F k103_heap Zh.out) (zg_2 HB.out Zb.out))); (case side5 => exact zC (Kd.C_below Zi.out HB.out)); (case side6 => exact Zl.out); rintro e w24 ⟨v467, rfl, ho0, hb⟩; have n0_ := zm (Kd.R_lower (Kd.R_mono (ok' := fun k_ => True) ho0 (fun _ hk_ => trivial)) (below_size (zg_2 HB.out Zb.out))); have n1_ := zm (blk_below (g := gb461) (o := .cells #[.slice A0_0 l0_0.length c0_0, .slice A0_1 l0_1.length c0_1, .slice A0_2 l0_2.length c0_2, .slice A0_3 l0_3.length c0_3] 26 (0, 0)) (zg_3 Za.out) hb); have n2_ := zm (below_step (zg_2 HB.out Zb.out) hb); clear Za; clear HB; have Zn := n0_; have Za := n1_; have HB := n2_; clear n0_ n1_ n2_; (try clear hb); (try clear hb2); (try clear hk); (try clear hi); (try clear ho0)))
       repeat (go_quiet (first | (go_at_call 86; (with_reducible refine (spec_l10Count.calls k2 _ _ l0_0 (fun k_ => k_ < w.heap.size) _ _ l0_1 (fun k_ => k_ < w.heap.size) _ _ l0_2 _ _ l0_3 t466 _ ?side1 ?side2 ?side3 ?side4 ?side5 ?side6 A22.out).mono ?_); (case side1 => exact zC (Kd.C_below Zc.out HB.out)); (case side2 => exact Zj.out); (case side3 => exact Kd.V_mk Zg.out (Kd.F_below (Kd.C_F (Kd.heap_int .i64) Zf.out) (zg_2 HB.out Zb.out))); (case side4 => exact Kd.V_mk Zk.out (Kd.F_below (Kd.C_F k103_heap Zh.out) (zg_2 HB.out Zb.out))); (case side5 => exact zC (Kd.C_below Zi.out HB.out)); (case side6 => exact Zl.out); rintro e w24 ⟨v467, rfl, ho0, hb⟩; have n0_ := zm (Kd.R_lower (Kd.R_mono (ok' := fun k_ => True) ho0 (fun _ hk_ => trivial)) (below_size (zg_2 HB.out Zb.out))); have n1_ := zm (blk_below (g := gb461) (o := .cells #[.slice A0_0 l0_0.length c0_0, .slice A0_1 l0_1.length c0_1, .slice A0_2 l0_2.length c0_2, .slice A0_3 l0_3.length c0_3] 26 (0, 0)) (zg_3 Za.out) hb); have n2_ := zm (below_step (zg_2 HB.out Zb.out) hb); clear Za; clear HB; have Zn := n0_; have Za := n1_; have HB := n2_; clear n0_ n1_ n2_; (try clear hb); (try clear hb2); (try clear hk); (try clear hi); (try clear ho0))); try go_wp2_with (first | (go_at_call 86; (with_reducible refine (spec_l10Count.calls k2 _ _ l0_0 (fun k_ => k_ < w.heap.size) _ _ l0_1 (fun k_ => k_ < w.heap.size) _ _ l0_2 _ _ l0_3 t466 _ ?side1 ?side2 ?side3 ?side4 ?side5 ?side6 A22.out).mono ?_); (case side1 => exact zC (Kd.C_below Zc.out HB.out)); (case side2 => exact Zj.out); (case side3 => exact Kd.V_mk Zg.out (Kd.F_below (Kd.C_F (Kd.heap_int .i64) Zf.out) (zg_2 HB.out Zb.out))); (case side4 => exact Kd.V_mk Zk.out (Kd.F_below (Kd.C_F k103_heap Zh.out) (zg_2 HB.out Zb.out))); (case side5 => exact zC (Kd.C_below Zi.out HB.out)); (case side6 => exact Zl.out); rintro e w24 ⟨v467, rfl, ho0, hb⟩; have n0_ := zm (Kd.R_lower (Kd.R_mono (ok' := fun k_ => True) ho0 (fun _ hk_ => trivial)) (below_size (zg_2 HB.out Zb.out))); have n1_ := zm (blk_below (g := gb461) (o := .cells #[.slice A0_0 l0_0.length c0_0, .slice A0_1 l0_1.length c0_1, .slice A0_2 l0_2.length c0_2, .slice A0_3 l0_3.length c0_3] 26 (0, 0)) (zg_3 Za.out) hb); have n2_ := zm (below_step (zg_2 HB.out Zb.out) hb); clear Za; clear HB; have Zn := n0_; have Za := n1_; have HB := n2_; clear n0_ n1_ n2_; (try clear hb); (try clear hb2); (try clear hk); (try clear hi); (try clear ho0))))
       go_loopg [5] k2 (fun kq v5 w' => ∃ (x5_3 : Int), v5 = .int .i64 x5_3 ∧ Aside0 (spec_ImageOK.l1 kq t466 x5_3 l0_0 l0_1 l0_2 l0_3 = some r) ∧ Aside0 (kq ≤ k2) ∧ Aside0 (Kd.R (Kd.int .i64) 3 w' w.heap.size (fun _ => True) v467 t466) ∧ Aside0 (w'.heap[gb461]? = some (.cells #[(.slice A0_0 l0_0.length c0_0), (.slice A0_1 l0_1.length c0_1), (.slice A0_2 l0_2.length c0_2), (.slice A0_3 l0_3.length c0_3)] 26 (0, 0))) ∧ Aside0 (Below w.heap.size w w'))
       case atStart => exact ⟨(0), zr, H', ⟨Nat.le_refl _⟩, ⟨by (with_reducible repeat (first | apply Kd.R_alloc | apply Kd.R_drewN | apply Kd.R_drew)); exact Zn.out⟩, ⟨by (with_reducible repeat (first | refine blk_drewN ?_ _ | refine blk_drew ?_ | refine blk_alloc ?_ _)); exact Za.out⟩, ⟨zg_2 HB.out Zb.out⟩⟩
       case round =>
        clear H'
        try clear c1
        try clear p2
        try clear c4
        try clear p4
        try clear q4
        try clear hx4
        try clear c5
        try clear p6
        try clear c13
        try clear c14
        try clear c14b0
        try clear c15
        try clear c15b0
        try clear c17
        try clear hcz11_0
        try clear hcz11_1
        try clear hcz11_2
        try clear hcz11_3
        try clear hcz18_0
        try clear hcz18_1
        try clear hcz18_2
        try clear hcz18_3
        try clear hcz20_0
        try clear hcz20_1
        try clear hcz20_2
        try clear hcz20_3
        try clear hcz23_0
        try clear hcz23_1
        try clear hcz23_2
        try clear hcz23_3
        try clear hcz7_0
        try clear hcz7_1
        try clear hcz7_2
        try clear hcz7_3
        try clear hcz9_0
        try clear hcz9_1
        try clear hcz9_2
        try clear hcz9_3
        try clear hfz11_0
        try clear hfz11_1
        try clear hfz11_2
        try clear hfz11_3
        try clear hfz18_0
        try clear hfz18_1
        try clear hfz18_2
        try clear hfz18_3
        try clear hfz20_0
        try clear hfz20_1
        try clear hfz20_2
        try clear hfz20_3
        try clear hfz23_0
        try clear hfz23_1
        try clear hfz23_2
        try clear hfz23_3
        try clear hfz7_0
        try clear hfz7_1
        try clear hfz7_2
        try clear hfz7_3
        try clear hfz9_0
        try clear hfz9_1
        try clear hfz9_2
        try clear hfz9_3
        try clear hx464_0
        try clear hx464_1
        try clear p2
        try clear p464
        try clear q464
        obtain ⟨x5_3, rfl, HA, HK3, Zm, Za, HB⟩ := hrel
        cases gk with
        | zero => exact absurd HA.out (by simp [spec_ImageOK.l1])
        | succ k3 =>
         have H := HA.out
         clear HA
         simp only [spec_ImageOK.l1] at H
         by_cases c25 : x5_3 < 24
         ·rw [if_pos c25] at H
          have c25b0 : decide (x5_3 < 24) = true := decide_eq_true c25
          clear c25
          by_cases c26 : 0 ≤ x5_3
          ·rw [if_pos c26] at H
           have c26b0 : decide (0 ≤ x5_3) = true := decide_eq_true c26
           clear c26
           by_cases c27 : x5_3 < (t466.length : Int)
           ·rw [if_pos c27] at H
            have c27b0 : decide (x5_3 < (t466.length : Int)) = true := decide_eq_true c27
            clear c27
            by_cases c28 : x5_3 < (l0_0.length : Int)
            ·rw [if_pos c28] at H
             have c28b0 : decide (x5_3 < (l0_0.length : Int)) = true := decide_eq_true c28
             clear c28
             by_cases c29 : (rd t466 x5_3) = (rd l0_0 x5_3)
             ·rw [if_pos c29] at H
              have c29b0 : ((rd t466 x5_3) == (rd l0_0 x5_3)) = true := beq_iff_eq.mpr c29
              have c29b1 : ((rd t466 x5_3) != (rd l0_0 x5_3)) = false := bne_eq_false_iff_eq.mpr c29
              clear c29
              by_cases c30 : (rd t466 x5_3) = 0
              ·rw [if_pos c30] at H
               have c30b0 : ((rd t466 x5_3) == 0) = true := beq_iff_eq.mpr c30
               have c30b1 : ((rd t466 x5_3) != 0) = false := bne_eq_false_iff_eq.mpr c30
               clear c30
               by_cases c31 : x5_3 < (l0_3.length : Int)
               ·rw [if_pos c31] at H
                have c31b0 : decide (x5_3 < (l0_3.length : Int)) = true := decide_eq_true c31
                clear c31
                by_cases c32 : (rd l0_3 x5_3) = 0
                ·rw [if_pos c32] at H
                 have c32b0 : ((rd l0_3 x5_3) == 0) = true := beq_iff_eq.mpr c32
                 have c32b1 : ((rd l0_3 x5_3) != 0) = false := bne_eq_false_iff_eq.mpr c32
                 clear c32
                 have H' := zm H
                 clear H
                 obtain ⟨Ao33, co33, eo33⟩ := Kd.R_slice Zm.out
                 subst eo33
                 have p469 : 0 ≤ (x5_3 : Int) := zd
                 have q469 : x5_3 < (t466.length : Int) := zd
                 obtain ⟨ad469, e469, hx469_0⟩ := Kd.at_int (Kd.R_reads' Zm.out).2.2 x5_3 p469 q469
                 cases e469
                 replace p469 := eq_true p469
                 replace q469 := eq_true q469
                 have hcz34_0 : wr.cell? ⟨gb461, 0, none⟩ = some (.slice A0_0 l0_0.length c0_0) := (blk_cell Za.out 0).trans rfl
                 have hcz34_1 : wr.cell? ⟨gb461, 1, none⟩ = some (.slice A0_1 l0_1.length c0_1) := (blk_cell Za.out 1).trans rfl
                 have hcz34_2 : wr.cell? ⟨gb461, 2, none⟩ = some (.slice A0_2 l0_2.length c0_2) := (blk_cell Za.out 2).trans rfl
                 have hcz34_3 : wr.cell? ⟨gb461, 3, none⟩ = some (.slice A0_3 l0_3.length c0_3) := (blk_cell Za.out 3).trans rfl
                 have hfz34_0 := blk_frozen Za.out 0
                 have hfz34_1 := blk_frozen Za.out 1
                 have hfz34_2 := blk_frozen Za.out 2
                 have hfz34_3 := blk_frozen Za.out 3
                 have p470 : 0 ≤ (x5_3 : Int) := zd
                 have q470 : x5_3 < (l0_0.length : Int) := zd
                 obtain ⟨ad470, e470, hx470_0⟩ := Kd.at_int Zc.out x5_3 p470 q470
                 cases e470
                 replace hx470_0 := (HB.out.cell (World.block_lt_of_cell? w _ hx470_0)).trans hx470_0
                 replace p470 := eq_true p470
                 replace q470 := eq_true q470
                 have p471 : 0 ≤ (x5_3 : Int) := zd
                 have q471 : x5_3 < (t466.length : Int) := zd
                 obtain ⟨ad471, e471, hx471_0⟩ := Kd.at_int (Kd.R_reads' Zm.out).2.2 x5_3 p471 q471
                 obtain rfl : ad469 = ad471 := (by injection e471)
                 replace p471 := eq_true p471
                 replace q471 := eq_true q471
                 have p472 : 0 ≤ (x5_3 : Int) := zd
                 have q472 : x5_3 < (l0_3.length : Int) := zd
                 obtain ⟨ad472, e472, hx472_0⟩ := Kd.at_int Zi.out x5_3 p472 q472
                 cases e472
                 replace hx472_0 := (HB.out.cell (World.block_lt_of_cell? w _ hx472_0)).trans hx472_0
                 replace p472 := eq_true p472
                 replace q472 := eq_true q472
                 go_wp2
                 repeat (go_quiet (fail); try go_wp2)
                 go_roundg k3
                 case measure => have := HJ1.out; have := HK2.out; have := HK3.out; omega
                 case rel => exact ⟨(wrap64 (x5_3 + 1)), zr, H', ⟨by have := HJ1.out; have := HK2.out; have := HK3.out; omega⟩, ⟨by (with_reducible repeat (first | apply Kd.R_alloc | apply Kd.R_drewN | apply Kd.R_drew)); exact Zm.out⟩, ⟨by (with_reducible repeat (first | refine blk_drewN ?_ _ | refine blk_drew ?_ | refine blk_alloc ?_ _)); exact Za.out⟩, ⟨zg_2 HB.out Zb.out⟩⟩
                ·rw [if_neg c32] at H
                 have c32b0 : ((rd l0_3 x5_3) == 0) = false := beq_eq_false_iff_ne.mpr c32
                 have c32b1 : ((rd l0_3 x5_3) != 0) = true := bne_iff_ne.mpr c32
                 obtain rfl := Option.some.inj H
                 obtain ⟨Ao35, co35, eo35⟩ := Kd.R_slice Zm.out
                 subst eo35
                 have p469 : 0 ≤ (x5_3 : Int) := zd
                 have q469 : x5_3 < (t466.length : Int) := zd
                 obtain ⟨ad469, e469, hx469_0⟩ := Kd.at_int (Kd.R_reads' Zm.out).2.2 x5_3 p469 q469
                 cases e469
                 replace p469 := eq_true p469
                 replace q469 := eq_true q469
                 have hcz36_0 : wr.cell? ⟨gb461, 0, none⟩ = some (.slice A0_0 l0_0.length c0_0) := (blk_cell Za.out 0).trans rfl
                 have hcz36_1 : wr.cell? ⟨gb461, 1, none⟩ = some (.slice A0_1 l0_1.length c0_1) := (blk_cell Za.out 1).trans rfl
                 have hcz36_2 : wr.cell? ⟨gb461, 2, none⟩ = some (.slice A0_2 l0_2.length c0_2) := (blk_cell Za.out 2).trans rfl
                 have hcz36_3 : wr.cell? ⟨gb461, 3, none⟩ = some (.slice A0_3 l0_3.length c0_3) := (blk_cell Za.out 3).trans rfl
                 have hfz36_0 := blk_frozen Za.out 0
                 have hfz36_1 := blk_frozen Za.out 1
                 have hfz36_2 := blk_frozen Za.out 2
                 have hfz36_3 := blk_frozen Za.out 3
                 have p470 : 0 ≤ (x5_3 : Int) := zd
                 have q470 : x5_3 < (l0_0.length : Int) := zd
                 obtain ⟨ad470, e470, hx470_0⟩ := Kd.at_int Zc.out x5_3 p470 q470
                 cases e470
                 replace hx470_0 := (HB.out.cell (World.block_lt_of_cell? w _ hx470_0)).trans hx470_0
                 replace p470 := eq_true p470
                 replace q470 := eq_true q470
                 have p471 : 0 ≤ (x5_3 : Int) := zd
                 have q471 : x5_3 < (t466.length : Int) := zd
                 obtain ⟨ad471, e471, hx471_0⟩ := Kd.at_int (Kd.R_reads' Zm.out).2.2 x5_3 p471 q471
                 obtain rfl : ad469 = ad471 := (by injection e471)
                 replace p471 := eq_true p471
                 replace q471 := eq_true q471
                 have p472 : 0 ≤ (x5_3 : Int) := zd
                 have q472 : x5_3 < (l0_3.length : Int) := zd
                 obtain ⟨ad472, e472, hx472_0⟩ := Kd.at_int Zi.out x5_3 p472 q472
                 cases e472
                 replace hx472_0 := (HB.out.cell (World.block_lt_of_cell? w _ hx472_0)).trans hx472_0
                 replace p472 := eq_true p472
                 replace q472 := eq_true q472
                 go_wp2
                 repeat (go_quiet (fail); try go_wp2)
                 go_ret
                 exact ⟨by first | rfl | (simp [errW_none, errW_some] <;> rfl) | (simp [*, errW_none, errW_some] <;> rfl), zg_2 HB.out Zb.out⟩
               ·rw [if_neg c31] at H
                exact absurd H (by simp)
              ·rw [if_neg c30] at H
               have c30b0 : ((rd t466 x5_3) == 0) = false := beq_eq_false_iff_ne.mpr c30
               have c30b1 : ((rd t466 x5_3) != 0) = true := bne_iff_ne.mpr c30
               have H' := zm H
               clear H
               obtain ⟨Ao37, co37, eo37⟩ := Kd.R_slice Zm.out
               subst eo37
               have p469 : 0 ≤ (x5_3 : Int) := zd
               have q469 : x5_3 < (t466.length : Int) := zd
               obtain ⟨ad469, e469, hx469_0⟩ := Kd.at_int (Kd.R_reads' Zm.out).2.2 x5_3 p469 q469
               cases e469
               replace p469 := eq_true p469
               replace q469 := eq_true q469
               have hcz38_0 : wr.cell? ⟨gb461, 0, none⟩ = some (.slice A0_0 l0_0.length c0_0) := (blk_cell Za.out 0).trans rfl
               have hcz38_1 : wr.cell? ⟨gb461, 1, none⟩ = some (.slice A0_1 l0_1.length c0_1) := (blk_cell Za.out 1).trans rfl
               have hcz38_2 : wr.cell? ⟨gb461, 2, none⟩ = some (.slice A0_2 l0_2.length c0_2) := (blk_cell Za.out 2).trans rfl
               have hcz38_3 : wr.cell? ⟨gb461, 3, none⟩ = some (.slice A0_3 l0_3.length c0_3) := (blk_cell Za.out 3).trans rfl
               have hfz38_0 := blk_frozen Za.out 0
               have hfz38_1 := blk_frozen Za.out 1
               have hfz38_2 := blk_frozen Za.out 2
               have hfz38_3 := blk_frozen Za.out 3
               have p470 : 0 ≤ (x5_3 : Int) := zd
               have q470 : x5_3 < (l0_0.length : Int) := zd
               obtain ⟨ad470, e470, hx470_0⟩ := Kd.at_int Zc.out x5_3 p470 q470
               cases e470
               replace hx470_0 := (HB.out.cell (World.block_lt_of_cell? w _ hx470_0)).trans hx470_0
               replace p470 := eq_true p470
               replace q470 := eq_true q470
               have p471 : 0 ≤ (x5_3 : Int) := zd
               have q471 : x5_3 < (t466.length : Int) := zd
               obtain ⟨ad471, e471, hx471_0⟩ := Kd.at_int (Kd.R_reads' Zm.out).2.2 x5_3 p471 q471
               obtain rfl : ad469 = ad471 := (by injection e471)
               replace p471 := eq_true p471
               replace q471 := eq_true q471
               go_wp2
               repeat (go_quiet (fail); try go_wp2)
               go_roundg k3
               case measure => have := HJ1.out; have := HK2.out; have := HK3.out; omega
               case rel => exact ⟨(wrap64 (x5_3 + 1)), zr, H', ⟨by have := HJ1.out; have := HK2.out; have := HK3.out; omega⟩, ⟨by (with_reducible repeat (first | apply Kd.R_alloc | apply Kd.R_drewN | apply Kd.R_drew)); exact Zm.out⟩, ⟨by (with_reducible repeat (first | refine blk_drewN ?_ _ | refine blk_drew ?_ | refine blk_alloc ?_ _)); exact Za.out⟩, ⟨zg_2 HB.out Zb.out⟩⟩
             ·rw [if_neg c29] at H
              have c29b0 : ((rd t466 x5_3) == (rd l0_0 x5_3)) = false := beq_eq_false_iff_ne.mpr c29
              have c29b1 : ((rd t466 x5_3) != (rd l0_0 x5_3)) = true := bne_iff_ne.mpr c29
              obtain rfl := Option.some.inj H
              obtain ⟨Ao39, co39, eo39⟩ := Kd.R_slice Zm.out
              subst eo39
              have p469 : 0 ≤ (x5_3 : Int) := zd
              have q469 : x5_3 < (t466.length : Int) := zd
              obtain ⟨ad469, e469, hx469_0⟩ := Kd.at_int (Kd.R_reads' Zm.out).2.2 x5_3 p469 q469
              cases e469
              replace p469 := eq_true p469
              replace q469 := eq_true q469
              have hcz40_0 : wr.cell? ⟨gb461, 0, none⟩ = some (.slice A0_0 l0_0.length c0_0) := (blk_cell Za.out 0).trans rfl
              have hcz40_1 : wr.cell? ⟨gb461, 1, none⟩ = some (.slice A0_1 l0_1.length c0_1) := (blk_cell Za.out 1).trans rfl
              have hcz40_2 : wr.cell? ⟨gb461, 2, none⟩ = some (.slice A0_2 l0_2.length c0_2) := (blk_cell Za.out 2).trans rfl
              have hcz40_3 : wr.cell? ⟨gb461, 3, none⟩ = some (.slice A0_3 l0_3.length c0_3) := (blk_cell Za.out 3).trans rfl
              have hfz40_0 := blk_frozen Za.out 0
              have hfz40_1 := blk_frozen Za.out 1
              have hfz40_2 := blk_frozen Za.out 2
              have hfz40_3 := blk_frozen Za.out 3
              have p470 : 0 ≤ (x5_3 : Int) := zd
              have q470 : x5_3 < (l0_0.length : Int) := zd
              obtain ⟨ad470, e470, hx470_0⟩ := Kd.at_int Zc.out x5_3 p470 q470
              cases e470
              replace hx470_0 := (HB.out.cell (World.block_lt_of_cell? w _ hx470_0)).trans hx470_0
              replace p470 := eq_true p470
              replace q470 := eq_true q470
              go_wp2
              repeat (go_quiet (fail); try go_wp2)
              go_ret
              exact ⟨by first | rfl | (simp [errW_none, errW_some] <;> rfl) | (simp [*, errW_none, errW_some] <;> rfl), zg_2 HB.out Zb.out⟩
            ·rw [if_neg c28] at H
             exact absurd H (by simp)
           ·rw [if_neg c27] at H
            exact absurd H (by simp)
          ·rw [if_neg c26] at H
           exact absurd H (by simp)
         ·rw [if_neg c25] at H
          have c25b0 : decide (x5_3 < 24) = false := decide_eq_false c25
          clear c25
          obtain rfl := Option.some.inj H
          go_wp2
          repeat (go_quiet (fail); try go_wp2)
          go_ret
          exact ⟨by first | rfl | (simp [errW_none, errW_some] <;> rfl) | (simp [*, errW_none, errW_some] <;> rfl), zg_2 HB.out Zb.out⟩
/-! ### spec_l10Value: function 129 -/
def spec_l10Value.f (l0_0 : List Int) (l0_1 : List Int) (l0_2 : List (S103)) (l0_3 : List Int) (a1 : Int) : Option (Int) := if a1 < 2 then (some 0) else (if 0 ≤ (wrap64 (a1 - 2)) then (if (wrap64 (a1 - 2)) < (l0_3.length : Int) then (some (rd l0_3 (wrap64 (a1 - 2)))) else (none)) else (none))
set_option maxHeartbeats 8000000 in
set_option maxRecDepth 100000 in
theorem spec_l10Value.calls (A0_0 : Option Addr) (c0_0 : Nat) (l0_0 : List Int) (A0_1 : Option Addr) (c0_1 : Nat) (l0_1 : List Int) (A0_2 : Option Addr) (c0_2 : Nat) (l0_2 : List (S103)) (A0_3 : Option Addr) (c0_3 : Nat) (l0_3 : List Int) (a1 : Int) (r : Int) (w : World) (hr0_0 : Kd.C (Kd.int .i64) w A0_0 l0_0.length l0_0) (hc0_0 : l0_0.length ≤ c0_0) (hr0_1 : Kd.C (Kd.int .i64) w A0_1 l0_1.length l0_1) (hc0_1 : l0_1.length ≤ c0_1) (hr0_2 : Kd.C k103 w A0_2 l0_2.length l0_2) (hc0_2 : l0_2.length ≤ c0_2) (hr0_3 : Kd.C (Kd.int .i64) w A0_3 l0_3.length l0_3) (hc0_3 : l0_3.length ≤ c0_3) (h : spec_l10Value.f l0_0 l0_1 l0_2 l0_3 a1 = some r) :
    Calls Tryz.prog 129 #[.agg #[.slice A0_0 l0_0.length c0_0, .slice A0_1 l0_1.length c0_1, .slice A0_2 l0_2.length c0_2, .slice A0_3 l0_3.length c0_3], .int .i64 a1] w fun e w' => e = .returned (.int .i64 r) ∧ Below w.heap.size w w' := by
 have hu26 := Tryz.underlying26
 have HR0_0 := zm hr0_0
 have HC0_0 := zm hc0_0
 clear hr0_0 hc0_0
 have HR0_1 := zm hr0_1
 have HC0_1 := zm hc0_1
 clear hr0_1 hc0_1
 have HR0_2 := zm hr0_2
 have HC0_2 := zm hc0_2
 clear hr0_2 hc0_2
 have HR0_3 := zm hr0_3
 have HC0_3 := zm hc0_3
 clear hr0_3 hc0_3
 have HB := zm (Below.refl w.heap.size w)
 have H : (if a1 < 2 then (some 0) else (if 0 ≤ (wrap64 (a1 - 2)) then (if (wrap64 (a1 - 2)) < (l0_3.length : Int) then (some (rd l0_3 (wrap64 (a1 - 2)))) else (none)) else (none))) = some r := h
 clear h
 by_cases c3 : a1 < 2
 ·rw [if_pos c3] at H
  have c3b0 : decide (a1 < 2) = true := decide_eq_true c3
  clear c3
  obtain rfl := Option.some.inj H
  go_enter Tryz.func129, Tryz.ntmps129
  go_wp2_with (first | ((with_reducible refine gate_dst (N := 2) rfl ?_); refine box_event ?hg (N := 2) ?hd (cs := #[.slice A0_0 l0_0.length c0_0, .slice A0_1 l0_1.length c0_1, .slice A0_2 l0_2.length c0_2, .slice A0_3 l0_3.length c0_3]) (t := 26) ?hr ?_; (case hd => rfl); (case hg => rfl); (case hr => first | (go_simp; done) | (go_simp; rfl)); intro gb473 hg w4 hbox hb; have n0_ := zm (below_step (zg_1 HB.out) hb); have n1_ := zm (hbox); have n2_ := zm ((by rw [hg]; exact (below_size (zg_1 HB.out)) : w.heap.size ≤ gb473)); have n3_ := zm ((by rw [hg]; exact (below_size (zg_1 HB.out)) : w.heap.size ≤ gb473)); clear HB; have HB := n0_; have BK473 := n1_; have GW473 := n2_; have GE473 := n3_; clear n0_ n1_ n2_ n3_; clear hb hbox hg))
  go_ret
  exact ⟨by first | rfl | (simp [errW_none, errW_some] <;> rfl) | (simp [*, errW_none, errW_some] <;> rfl), zg_2 HB.out GE473.out⟩
 ·rw [if_neg c3] at H
  have c3b0 : decide (a1 < 2) = false := decide_eq_false c3
  clear c3
  obtain ⟨ji5, hji5⟩ : ∃ j_ : Int, (wrap64 (a1 - 2)) = j_ := ⟨_, rfl⟩
  replace H : (if 0 ≤ (ji5) then (if (ji5) < (l0_3.length : Int) then (some (rd l0_3 (ji5))) else (none)) else (none)) = some r := by first | (rw [hji5] at H; exact H) | (simp only [hji5] at H ⊢; exact H)
  have hji5w : (IntKind.i64.wrap (a1 - 2)) = ji5 := (i64_w _).trans hji5
  by_cases c6 : 0 ≤ (ji5)
  ·rw [if_pos c6] at H
   have c6b0 : decide (0 ≤ (ji5)) = true := decide_eq_true c6
   clear c6
   by_cases c7 : (ji5) < (l0_3.length : Int)
   ·rw [if_pos c7] at H
    have c7b0 : decide ((ji5) < (l0_3.length : Int)) = true := decide_eq_true c7
    clear c7
    obtain rfl := Option.some.inj H
    go_enter Tryz.func129, Tryz.ntmps129
    go_wp2_with (first | ((with_reducible refine gate_dst (N := 2) rfl ?_); refine box_event ?hg (N := 2) ?hd (cs := #[.slice A0_0 l0_0.length c0_0, .slice A0_1 l0_1.length c0_1, .slice A0_2 l0_2.length c0_2, .slice A0_3 l0_3.length c0_3]) (t := 26) ?hr ?_; (case hd => rfl); (case hg => rfl); (case hr => first | (go_simp; done) | (go_simp; rfl)); intro gb473 hg w8 hbox hb; have n0_ := zm (below_step (zg_1 HB.out) hb); have n1_ := zm (hbox); have n2_ := zm ((by rw [hg]; exact (below_size (zg_1 HB.out)) : w.heap.size ≤ gb473)); have n3_ := zm ((by rw [hg]; exact (below_size (zg_1 HB.out)) : w.heap.size ≤ gb473)); clear HB; have HB := n0_; have BK473 := n1_; have GW473 := n2_; have GE473 := n3_; clear n0_ n1_ n2_ n3_; clear hb hbox hg; have hcz9_0 : w8.cell? ⟨gb473, 0, none⟩ = some (.slice A0_0 l0_0.length c0_0) := (blk_cell BK473.out 0).trans rfl; have hcz9_1 : w8.cell? ⟨gb473, 1, none⟩ = some (.slice A0_1 l0_1.length c0_1) := (blk_cell BK473.out 1).trans rfl; have hcz9_2 : w8.cell? ⟨gb473, 2, none⟩ = some (.slice A0_2 l0_2.length c0_2) := (blk_cell BK473.out 2).trans rfl; have hcz9_3 : w8.cell? ⟨gb473, 3, none⟩ = some (.slice A0_3 l0_3.length c0_3) := (blk_cell BK473.out 3).trans rfl; have hfz9_0 := blk_frozen BK473.out 0; have hfz9_1 := blk_frozen BK473.out 1; have hfz9_2 := blk_frozen BK473.out 2; have hfz9_3 := blk_frozen BK473.out 3; have p474 : 0 ≤ ((ji5) : Int) := zd; have q474 : (ji5) < (l0_3.length : Int) := zd; obtain ⟨ad474, e474, hx474_0⟩ := Kd.at_int HR0_3.out (ji5) p474 q474; cases e474; replace hx474_0 := (HB.out.cell (World.block_lt_of_cell? w _ hx474_0)).trans hx474_0; replace p474 := eq_true p474; replace q474 := eq_true q474))
    go_ret
    exact ⟨by first | rfl | (simp [errW_none, errW_some] <;> rfl) | (simp only [← hji5]; first | rfl | (simp [errW_none, errW_some] <;> rfl)) | (simp [*, errW_none, errW_some] <;> rfl), zg_2 HB.out GE473.out⟩
   ·rw [if_neg c7] at H
    exact absurd H (by simp)
  ·rw [if_neg c6] at H
   exact absurd H (by simp)
/-! ### spec_l14Table: function 87 -/
def spec_l14Table.l0 : Nat → List Int → List Int → Int → List Int → List Int → List (S103) → List Int → Option (List Int)
  | 0, _, _, _, _, _, _, _ => none
  | k + 1, x1, x5, x6, x476000, x476001, x476002, x476003 => if x6 < (x1.length : Int) then (if 0 ≤ x6 then ((spec_l10Value.f x476000 x476001 x476002 x476003 (rd x1 x6)).bind fun t480 => (if x5.length < 17592186044416 then (spec_l14Table.l0 k x1 (x5 ++ [t480]) (wrap64 (x6 + 1)) x476000 x476001 x476002 x476003) else (none))) else (none)) else (some x5)
def spec_l14Table.f (k : Nat) (l0_0 : List Int) (l0_1 : List Int) (l0_2 : List (S103)) (l0_3 : List Int) (l1 : List Int) : Option (List Int) := spec_l14Table.l0 k l1 (([] : List Int)) 0 l0_0 l0_1 l0_2 l0_3
theorem spec_l14Table.mono_l : ∀ k, (∀ y0 y1 y2 y3 y4 y5 y6, LeO (spec_l14Table.l0 k y0 y1 y2 y3 y4 y5 y6) (spec_l14Table.l0 (k + 1) y0 y1 y2 y3 y4 y5 y6))
  | 0 => fun _ _ _ _ _ _ _ r h => by simp [spec_l14Table.l0] at h
  | k + 1 => by
    have ih0 := spec_l14Table.mono_l k
    · intro y0 y1 y2 y3 y4 y5 y6
      unfold spec_l14Table.l0
      repeat' first
      | (with_reducible exact ih0 _ _ _ _ _ _ _)
      | (with_reducible exact LeO.refl _)
      | (with_reducible exact LeO.none _)
      | (with_reducible refine LeO.ite ?_ ?_)
      | (with_reducible refine LeO.bind ?_ (fun _ => ?_))
      | exact ih0 _ _ _ _ _ _ _
      | exact LeO.none _
      | refine LeO.ite ?_ ?_
      | refine LeO.bind ?_ (fun _ => ?_)
theorem spec_l14Table.mono : ∀ a0 a1 a2 a3 a4 k, LeO (spec_l14Table.f k a0 a1 a2 a3 a4) (spec_l14Table.f (k + 1) a0 a1 a2 a3 a4) := by
  intro a0 a1 a2 a3 a4 k
  have ih0 := spec_l14Table.mono_l k
  unfold spec_l14Table.f
  repeat' first
      | (with_reducible exact ih0 _ _ _ _ _ _ _)
      | (with_reducible exact LeO.refl _)
      | (with_reducible exact LeO.none _)
      | (with_reducible refine LeO.ite ?_ ?_)
      | (with_reducible refine LeO.bind ?_ (fun _ => ?_))
      | exact ih0 _ _ _ _ _ _ _
      | exact LeO.none _
      | refine LeO.ite ?_ ?_
      | refine LeO.bind ?_ (fun _ => ?_)
def spec_l14Table.T5 : Bool × List (List Nat × List Nat) := (true, [([], []), ([], []), ([], []), ([], []), ([2, 3], [2, 3]), ([4], [4]), ([1, 5], [1, 5]), ([6], [6]), ([0, 7, 6], [0, 7]), ([8, 8, 0, 1, 2, 3, 4, 5, 6, 7, 8], [0, 8])])
def spec_l14Table.B5 : List Nat := [0, 0, 0, 0, 12, 28, 62, 126, 255, 511]
theorem spec_l14Table.tab5 : rtab .any (opsOf Tryz.f87 5) = spec_l14Table.T5 := by kernel_rfl
theorem spec_l14Table.bits5 : waitsOk spec_l14Table.T5.2 spec_l14Table.B5 = true := by kernel_rfl
set_option maxHeartbeats 8000000 in
set_option maxRecDepth 100000 in
theorem spec_l14Table.calls (k : Nat) (A0_0 : Option Addr) (c0_0 : Nat) (l0_0 : List Int) (A0_1 : Option Addr) (c0_1 : Nat) (l0_1 : List Int) (A0_2 : Option Addr) (c0_2 : Nat) (l0_2 : List (S103)) (A0_3 : Option Addr) (c0_3 : Nat) (l0_3 : List Int) (A1 : Option Addr) (c1 : Nat) (l1 : List Int) (r : List Int) (w : World) (hr0_0 : Kd.C (Kd.int .i64) w A0_0 l0_0.length l0_0) (hc0_0 : l0_0.length ≤ c0_0) (hr0_1 : Kd.C (Kd.int .i64) w A0_1 l0_1.length l0_1) (hc0_1 : l0_1.length ≤ c0_1) (hr0_2 : Kd.C k103 w A0_2 l0_2.length l0_2) (hc0_2 : l0_2.length ≤ c0_2) (hr0_3 : Kd.C (Kd.int .i64) w A0_3 l0_3.length l0_3) (hc0_3 : l0_3.length ≤ c0_3) (hr1 : Kd.C (Kd.int .i64) w A1 l1.length l1) (hc1 : l1.length ≤ c1) (h : spec_l14Table.f k l0_0 l0_1 l0_2 l0_3 l1 = some r) :
    Calls Tryz.prog 87 #[.agg #[.slice A0_0 l0_0.length c0_0, .slice A0_1 l0_1.length c0_1, .slice A0_2 l0_2.length c0_2, .slice A0_3 l0_3.length c0_3], .slice A1 l1.length c1] w fun e w' => ∃ v0_ : Value, e = .returned (v0_) ∧ Kd.R (Kd.int .i64) 3 w' w.heap.size (fun _ => True) v0_ r ∧ Below w.heap.size w w' := by
 have hu26 := Tryz.underlying26
 have Zd := zm hr0_0
 have Ze := zm hc0_0
 clear hr0_0 hc0_0
 have Zf := zm hr0_1
 have Zg := zm hc0_1
 clear hr0_1 hc0_1
 have Zh := zm hr0_2
 have Zi := zm hc0_2
 clear hr0_2 hc0_2
 have Zj := zm hr0_3
 have Zk := zm hc0_3
 clear hr0_3 hc0_3
 have HR1 := zm hr1
 have HC1 := zm hc1
 clear hr1 hc1
 have HB := zm (Below.refl w.heap.size w)
 have H : (spec_l14Table.l0 k l1 (([] : List Int)) 0 l0_0 l0_1 l0_2 l0_3) = some r := h
 clear h
 obtain ⟨y476, hy476⟩ : ∃ y_ : List Int, y_ = (([] : List Int)) := ⟨_, rfl⟩
 replace H : (spec_l14Table.l0 k l1 y476 0 l0_0 l0_1 l0_2 l0_3) = some r := by first | (rw [hy476]; with_reducible exact H) | (have H2_ := (Option.bind_some _ _).symm.trans H; rw [hy476]; with_reducible exact H2_) | (have H2_ := (Option.bind_some _ _).symm.trans H; with_reducible exact H2_) | with_reducible exact H | (rw [hy476]; exact H) | exact H
 have Ny476 := zm hy476
 clear hy476
 have H' := zm H
 clear H
 go_enter Tryz.func87, Tryz.ntmps87
 go_wp2_with (first | ((with_reducible refine gate_dst (N := 2) rfl ?_); refine box_event ?hg (N := 2) ?hd (cs := #[.slice A0_0 l0_0.length c0_0, .slice A0_1 l0_1.length c0_1, .slice A0_2 l0_2.length c0_2, .slice A0_3 l0_3.length c0_3]) (t := 26) ?hr ?_; (case hd => rfl); (case hg => rfl); (case hr => first | (go_simp; done) | (go_simp; rfl)); intro gb475 hg w3 hbox hb; have n0_ := zm (below_step (zg_1 HB.out) hb); have n1_ := zm (hbox); have n2_ := zm ((by rw [hg]; exact (below_size (zg_1 HB.out)) : w.heap.size ≤ gb475)); have n3_ := zm ((by rw [hg]; exact (below_size (zg_1 HB.out)) : w.heap.size ≤ gb475)); clear HB; have HB := n0_; have Za := n1_; have Zn := n2_; have Zb := n3_; clear n0_ n1_ n2_ n3_; clear hb hbox hg) | ((with_reducible refine gate_dst (N := 7) rfl ?_); refine Kd.R_lit (Kd.int .i64) _ 3 ?hg (N := 7) ?hd (xs := ([] : List Int)) (inner := []) (ok := fun _ => True) (okp := fun _ => True) ?hr ?hp (fun _ hk => hk) trivial (Below.refl _ _) (Nat.le_refl _) (by simp) ?_; (case hd => rfl); (case hg => rfl); (case hr => first | (go_simp; done) | (go_simp; rfl)); (case hp => exact (Reps.none _ _)); intro v477 w4 ho5 hb hg_ hnew_; clear hg_ hnew_; (first | rw [← Ny476.out] at ho5 | (simp only [Int.reduceToNat] at ho5; rw [← Ny476.out] at ho5)); have n0_ := zm (Kd.R_lower ho5 (below_size (zg_2 HB.out Zb.out))); have n1_ := zm (blk_below (g := gb475) (o := .cells #[.slice A0_0 l0_0.length c0_0, .slice A0_1 l0_1.length c0_1, .slice A0_2 l0_2.length c0_2, .slice A0_3 l0_3.length c0_3] 26 (0, 0)) (zg_3 Za.out) hb); have n2_ := zm (below_step (zg_2 HB.out Zb.out) hb); clear Za; clear HB; have Zl := n0_; have Za := n1_; have HB := n2_; clear n0_ n1_ n2_; clear hb ho5))
 go_loopg [5, 6] k (fun kq v5 v6 w' => ∃ (x5_1 : List Int) (x6_1 : Int), v6 = .int .i64 x6_1 ∧ Aside0 (spec_l14Table.l0 kq l1 x5_1 x6_1 l0_0 l0_1 l0_2 l0_3 = some r) ∧ Aside0 (kq ≤ k) ∧ Aside0 (Kd.R (Kd.int .i64) 3 w' w.heap.size (fun _ => True) v5 x5_1) ∧ Aside0 (w'.heap[gb475]? = some (.cells #[(.slice A0_0 l0_0.length c0_0), (.slice A0_1 l0_1.length c0_1), (.slice A0_2 l0_2.length c0_2), (.slice A0_3 l0_3.length c0_3)] 26 (0, 0))) ∧ Aside0 (Below w.heap.size w w'))
 case atStart => exact ⟨(y476), (0), zr, H', ⟨Nat.le_refl _⟩, ⟨by (with_reducible repeat (first | apply Kd.R_alloc | apply Kd.R_drewN | apply Kd.R_drew)); exact Zl.out⟩, ⟨by (with_reducible repeat (first | refine blk_drewN ?_ _ | refine blk_drew ?_ | refine blk_alloc ?_ _)); exact Za.out⟩, ⟨zg_2 HB.out Zb.out⟩⟩
 case round =>
  clear H'
  try clear c1
  try clear p2
  obtain ⟨x5_1, x6_1, rfl, HA, HK1, Zc, Za, HB⟩ := hrel
  cases gk with
  | zero => exact absurd HA.out (by simp [spec_l14Table.l0])
  | succ k1 =>
   have H := HA.out
   clear HA
   simp only [spec_l14Table.l0] at H
   by_cases c6 : x6_1 < (l1.length : Int)
   ·rw [if_pos c6] at H
    have c6b0 : decide (x6_1 < (l1.length : Int)) = true := decide_eq_true c6
    clear c6
    by_cases c7 : 0 ≤ x6_1
    ·rw [if_pos c7] at H
     have c7b0 : decide (0 ≤ x6_1) = true := decide_eq_true c7
     clear c7
     replace H := Option.bind_eq_some_iff.mp H
     obtain ⟨t480, A80, H⟩ := H
     replace H : (if x5_1.length < 17592186044416 then (spec_l14Table.l0 k1 l1 (x5_1 ++ [t480]) (wrap64 (x6_1 + 1)) l0_0 l0_1 l0_2 l0_3) else (none)) = some r := H
     have A8 := zm A80
     clear A80
     by_cases c9 : x5_1.length < 17592186044416
     ·rw [if_pos c9] at H
      have LMc9 := zm c9
      clear c9
      obtain ⟨y481, hy481⟩ : ∃ y_ : List Int, y_ = (x5_1 ++ [t480]) := ⟨_, rfl⟩
      replace H : (spec_l14Table.l0 k1 l1 y481 (wrap64 (x6_1 + 1)) l0_0 l0_1 l0_2 l0_3) = some r := by first | (rw [hy481]; with_reducible exact H) | (have H2_ := (Option.bind_some _ _).symm.trans H; rw [hy481]; with_reducible exact H2_) | (have H2_ := (Option.bind_some _ _).symm.trans H; with_reducible exact H2_) | with_reducible exact H | (rw [hy481]; exact H) | exact H
      have Ny481 := zm hy481
      clear hy481
      have H' := zm H
      clear H
      try go_wp2
      have n0_ := zm (Kd.R_drew Zc.out)
      have n1_ := zm (blk_drew Za.out)
      have n2_ := zm (below_drew1 HB.out)
      clear Zc
      clear Za
      clear HB
      have Zc := n0_
      have Za := n1_
      have HB := n2_
      clear n0_ n1_ n2_
      have p479 : 0 ≤ (x6_1 : Int) := zd
      have q479 : x6_1 < (l1.length : Int) := zd
      obtain ⟨ad479, e479, hx479_0⟩ := Kd.at_int HR1.out x6_1 p479 q479
      have hw479_0 := hx479_0
      cases e479
      replace hx479_0 := (HB.out.cell (World.block_lt_of_cell? w _ hx479_0)).trans hx479_0
      replace p479 := eq_true p479
      replace q479 := eq_true q479
      refine start_ (n := 10) (S := fun w' => w'.cell? ⟨gb475, 0, none⟩ = some (.slice A0_0 l0_0.length c0_0) ∧ w'.cell? ⟨gb475, 1, none⟩ = some (.slice A0_1 l0_1.length c0_1) ∧ w'.cell? ⟨gb475, 2, none⟩ = some (.slice A0_2 l0_2.length c0_2) ∧ w'.cell? ⟨gb475, 3, none⟩ = some (.slice A0_3 l0_3.length c0_3) ∧ w'.cell? (ad479.add (x6_1).toNat) = some (.int .i64 (rd l1 x6_1))) (ds := []) #[false, false, false, false, false, false, false, false, false, false] (by kernel_rfl) rfl rfl ⟨(blk_cell Za.out 0).trans rfl, (blk_cell Za.out 1).trans rfl, (blk_cell Za.out 2).trans rfl, (blk_cell Za.out 3).trans rfl, ((HB.out.cell (World.block_lt_of_cell? w _ hw479_0)).trans hw479_0)⟩ (fun hHeld => ?_); refine with_tabW spec_l14Table.tab5 spec_l14Table.bits5 (fun HT_ HW_ => ?_)
      generalize wr.drew = w10 at Zc Za HB hx479_0 hHeld ⊢
      refine pure_ (i := 0) (N := some 14) (v := ?_) (a' := ?_) #[true, false, false, false, false, false, false, false, false, false] rfl rfl (any_of HT_.out (by kernel_rfl)) (fun _ _ _ h => h) (Or.inl ⟨by rfl, ?_⟩) ?_ ?_
      rotate_left
      ·intro w'
       go_simp
       with_reducible rfl
      rotate_left
      ·simp only [Act.put, zs, zz, zt, i64_w, i32_w]
       rfl
      refine pure_ (i := 2) (N := some 16) (v := ?_) (a' := ?_) #[true, false, true, false, false, false, false, false, false, false] rfl rfl (any_of HT_.out (by kernel_rfl)) (fun _ _ _ h => h) (Or.inl ⟨by rfl, ?_⟩) ?_ ?_
      rotate_left
      ·intro w'
       go_simp
       with_reducible rfl
      rotate_left
      ·simp only [Act.put, zs, zz, zt, i64_w, i32_w]
       rfl
      refine pure_ (i := 3) (N := some 17) (v := ?_) (a' := ?_) #[true, false, true, true, false, false, false, false, false, false] rfl rfl (any_of HT_.out (by kernel_rfl)) (fun _ _ _ h => h) (Or.inl ⟨by rfl, ?_⟩) ?_ ?_
      rotate_left
      ·intro w'
       go_simp
       with_reducible rfl
      rotate_left
      ·simp only [Act.put, zs, zz, zt, i64_w, i32_w]
       rfl
      refine pure_ (i := 4) (N := some 18) (v := ?_) (a' := ?_) #[true, false, true, true, true, false, false, false, false, false] rfl rfl (any_of HT_.out (by kernel_rfl)) (fun _ _ _ h => h) (Or.inl ⟨by rfl, ?_⟩) ?_ ?_
      rotate_left
      ·intro w'
       go_simp
       with_reducible rfl
      rotate_left
      ·simp only [Act.put, zs, zz, zt, i64_w, i32_w]
       rfl
      refine take_ (i := 1) (N := some 15) (v := ?_) (a' := ?_) #[true, true, true, true, true, false, false, false, false, false] rfl rfl (take_ofW HT_.out HW_.out (by kernel_rfl)) (fun _ _ _ h => h) (Or.inl ⟨by rfl, ?_⟩) hHeld ?_ ?_
      rotate_left
      ·rintro w' ⟨s0, s1, s2, s3, s4⟩
       go_simp
       with_reducible rfl
      rotate_left
      ·simp only [Act.put, zs, zz, zt, i64_w, i32_w]
       rfl
      refine take_ (i := 5) (N := some 19) (v := ?_) (a' := ?_) #[true, true, true, true, true, true, false, false, false, false] rfl rfl (take_ofW HT_.out HW_.out (by kernel_rfl)) (fun _ _ _ h => h) (Or.inl ⟨by rfl, ?_⟩) hHeld ?_ ?_
      rotate_left
      ·rintro w' ⟨s0, s1, s2, s3, s4⟩
       go_simp
       with_reducible rfl
      rotate_left
      ·simp only [Act.put, zs, zz, zt, i64_w, i32_w]
       rfl
      refine one_ (i := 6) (N := some 20) #[true, true, true, true, true, true, true, false, false, false] rfl rfl (one_of HT_.out (by kernel_rfl)) (by decide) (fun K hK => ?_)
      refine goes_ Tryz.func129 (by kernel_rfl) rfl #[.agg #[.slice A0_0 l0_0.length c0_0, .slice A0_1 l0_1.length c0_1, .slice A0_2 l0_2.length c0_2, .slice A0_3 l0_3.length c0_3], .int .i64 (rd l1 x6_1)] (by rfl) rfl rfl zq ?_
      with_reducible refine (spec_l10Value.calls _ _ l0_0 _ _ l0_1 _ _ l0_2 _ _ l0_3 (rd l1 x6_1) t480 _ ?side1 ?side2 ?side3 ?side4 ?side5 ?side6 ?side7 ?side8 A8.out).mono ?_
      (case side1 => exact zC (Kd.C_below Zd.out HB.out))
      (case side2 => exact Ze.out)
      (case side3 => exact zC (Kd.C_below Zf.out HB.out))
      (case side4 => exact Zg.out)
      (case side5 => exact zC (Kd.C_below Zh.out HB.out))
      (case side6 => exact Zi.out)
      (case side7 => exact zC (Kd.C_below Zj.out HB.out))
      (case side8 => exact Zk.out)
      rintro e w11 ⟨rfl, hb⟩
      refine ⟨_, rfl, ?_⟩
      have n0_ := zm (Kd.R_below (zg_6 Zc.out) hb)
      have n1_ := zm (blk_below (g := gb475) (o := .cells #[.slice A0_0 l0_0.length c0_0, .slice A0_1 l0_1.length c0_1, .slice A0_2 l0_2.length c0_2, .slice A0_3 l0_3.length c0_3] 26 (0, 0)) (zg_3 Za.out) hb)
      have n2_ := zm (below_step (zg_2 HB.out Zb.out) hb)
      clear Zc
      clear Za
      clear HB
      have Zc := n0_
      have Za := n1_
      have HB := n2_
      clear n0_ n1_ n2_
      (try clear hb)
      (try clear hb2)
      (try clear hk)
      (try clear hi)
      refine hK.out _ _ ⟨(blk_cell Za.out 0).trans rfl, (blk_cell Za.out 1).trans rfl, (blk_cell Za.out 2).trans rfl, (blk_cell Za.out 3).trans rfl, ((HB.out.cell (World.block_lt_of_cell? w _ hw479_0)).trans hw479_0)⟩ (fun hHeld => ?_)
      clear hK K
      refine norm_ (a' := ?_) ?_ ?_
      rotate_left
      ·show Act.put _ (some 20) _ = _
       simp only [Act.put, zs, zz, zt, i64_w, i32_w]
       rfl
      refine one_ (i := 7) (N := some 21) #[true, true, true, true, true, true, true, true, false, false] rfl rfl (one_of HT_.out (by kernel_rfl)) (by decide) (fun K hK => ?_)
      refine value_ (w1 := ?_) (v := ?_) (by rfl) rfl ?_ ?_
      rotate_left 2
      ·go_simp
       constructor
       ·rfl
       ·rfl
      refine hK.out _ _ ⟨(blk_cell (blk_alloc Za.out _) 0).trans rfl, (blk_cell (blk_alloc Za.out _) 1).trans rfl, (blk_cell (blk_alloc Za.out _) 2).trans rfl, (blk_cell (blk_alloc Za.out _) 3).trans rfl, (World.cell?_alloc_lt _ _ _ (World.block_lt_of_cell? _ _ (((HB.out.cell (World.block_lt_of_cell? w _ hw479_0)).trans hw479_0)))).trans (((HB.out.cell (World.block_lt_of_cell? w _ hw479_0)).trans hw479_0))⟩ (fun hHeld => ?_)
      clear hK K
      refine norm_ (a' := ?_) ?_ ?_
      rotate_left
      ·show Act.put _ (some 21) _ = _
       simp only [Act.put, zs, zz, zt, i64_w, i32_w]
       rfl
      refine one_ (i := 8) (N := some 22) #[true, true, true, true, true, true, true, true, true, false] rfl rfl (one_of HT_.out (by kernel_rfl)) (by decide) (fun K hK => ?_)
      refine Kd.R_append_step (Kd.int .i64) (w0 := w) w.heap.size (by rfl) (.tmp 14) (.tmp 21) 23 3 (.int .i64 0) 8 rfl Tryz.underlying23 info3 rfl (by decide) (by omega) u5 x5_1 t480 [.int .i64 t480] (fun _ => True) (fun _ => False) rfl rfl ?aP (fun _ hk => hk.elim) ?aF ?aO ?aB ?aS ?aL ?_
      (case aP => exact rfl)
      (case aB => exact (zg_2 HB.out Zb.out))
      (case aF => exact (fun _ _ => trivial))
      (case aO => exact (zg_6 Zc.out))
      (case aS => exact (below_size (zg_2 HB.out Zb.out)))
      (case aL => have := LMc9.out; omega)
      intro v482 w12 ho hb hg hat
      rw [← Ny481.out] at ho
      have n0_ := zm (blk_grown (g := gb475) (o := .cells #[.slice A0_0 l0_0.length c0_0, .slice A0_1 l0_1.length c0_1, .slice A0_2 l0_2.length c0_2, .slice A0_3 l0_3.length c0_3] 26 (0, 0)) (zg_3 Za.out) hg (Kd.R_ne Zc.out Za.out (by decide)))
      have n1_ := zm (hb)
      have n2_ := zm (ho)
      clear Za
      clear HB
      clear Zc
      have Za := n0_
      have HB := n1_
      have Zm := n2_
      clear n0_ n1_ n2_
      clear ho hb hg hat
      refine hK.out _ _ ⟨(blk_cell Za.out 0).trans rfl, (blk_cell Za.out 1).trans rfl, (blk_cell Za.out 2).trans rfl, (blk_cell Za.out 3).trans rfl, ((HB.out.cell (World.block_lt_of_cell? w _ hw479_0)).trans hw479_0)⟩ (fun hHeld => ?_)
      clear hK K
      refine norm_ (a' := ?_) ?_ ?_
      rotate_left
      ·show Act.put _ (some 22) _ = _
       simp only [Act.put, zs, zz, zt, i64_w, i32_w]
       rfl
      refine pure_ (i := 9) (N := some 5) (v := ?_) (a' := ?_) #[true, true, true, true, true, true, true, true, true, true] rfl rfl (any_of HT_.out (by kernel_rfl)) (fun _ _ _ h => h) (Or.inl ⟨by rfl, ?_⟩) ?_ ?_
      rotate_left
      ·intro w'
       go_simp
       with_reducible rfl
      rotate_left
      ·simp only [Act.put, zs, zz, zt, i64_w, i32_w]
       rfl
      refine done_ (done_of HT_.out (by kernel_rfl)) ?_
      try go_wp2
      go_roundg k1
      case measure => have := HK1.out; omega
      case rel => exact ⟨(y481), (wrap64 (x6_1 + 1)), zr, H', ⟨by have := HK1.out; omega⟩, ⟨by (with_reducible repeat (first | apply Kd.R_alloc | apply Kd.R_drewN | apply Kd.R_drew)); exact Zm.out⟩, ⟨by (with_reducible repeat (first | refine blk_drewN ?_ _ | refine blk_drew ?_ | refine blk_alloc ?_ _)); exact Za.out⟩, ⟨zg_2 HB.out Zb.out⟩⟩
     ·rw [if_neg c9] at H
      exact absurd H (by simp)
    ·rw [if_neg c7] at H
     exact absurd H (by simp)
   ·rw [if_neg c6] at H
    have c6b0 : decide (x6_1 < (l1.length : Int)) = false := decide_eq_false c6
    clear c6
    obtain rfl := Option.some.inj H
    go_wp2
    go_ret
    exact ⟨_, by first | rfl | (simp [errW_none, errW_some] <;> rfl) | (simp [*, errW_none, errW_some] <;> rfl), by (with_reducible repeat (first | apply Kd.R_alloc | apply Kd.R_drewN | apply Kd.R_drew)); exact Zc.out, zg_2 HB.out Zb.out⟩
/-! ### spec_l14Of: function 41 -/
def spec_l14Of.l0 : Nat → Int → List Int → List Int → List (S103) → List Int → List Int → List (S107) → Option (List Int × (List (S107)))
  | 0, _, _, _, _, _, _, _ => none
  | k + 1, x4, x485000, x485001, x485002, x485003, x493000, x493001 => if x4 < (x485002.length : Int) then (if 0 ≤ x4 then ((spec_l14Table.f k x485000 x485001 x485002 x485003 ((rd_T103 x485002 x4).f1)).bind fun t495 => (if x493001.length < 3518437208883 then (spec_l14Of.l0 k (wrap64 (x4 + 1)) x485000 x485001 x485002 x485003 x493000 (x493001 ++ [(⟨(rd_T103 x485002 x4).f0, t495⟩ : S107)])) else (none))) else (none)) else (some (x493000, x493001))
def spec_l14Of.f (k : Nat) (l0_0 : List Int) (l0_1 : List Int) (l0_2 : List (S103)) (l0_3 : List Int) : Option (List Int × (List (S107))) := (spec_l14Table.f k l0_0 l0_1 l0_2 l0_3 l0_1).bind fun t486 => (spec_l14Of.l0 k 0 l0_0 l0_1 l0_2 l0_3 t486 (([] : List (S107))))
theorem spec_l14Of.mono_l : ∀ k, (∀ y0 y1 y2 y3 y4 y5 y6, LeO (spec_l14Of.l0 k y0 y1 y2 y3 y4 y5 y6) (spec_l14Of.l0 (k + 1) y0 y1 y2 y3 y4 y5 y6))
  | 0 => fun _ _ _ _ _ _ _ r h => by simp [spec_l14Of.l0] at h
  | k + 1 => by
    have ih0 := spec_l14Of.mono_l k
    · intro y0 y1 y2 y3 y4 y5 y6
      unfold spec_l14Of.l0
      repeat' first
      | (with_reducible exact ih0 _ _ _ _ _ _ _)
      | (with_reducible exact spec_l14Table.mono _ _ _ _ _ _)
      | (with_reducible exact LeO.refl _)
      | (with_reducible exact LeO.none _)
      | (with_reducible refine LeO.ite ?_ ?_)
      | (with_reducible refine LeO.bind ?_ (fun _ => ?_))
      | exact ih0 _ _ _ _ _ _ _
      | exact spec_l14Table.mono _ _ _ _ _ _
      | exact LeO.none _
      | refine LeO.ite ?_ ?_
      | refine LeO.bind ?_ (fun _ => ?_)
theorem spec_l14Of.mono : ∀ a0 a1 a2 a3 k, LeO (spec_l14Of.f k a0 a1 a2 a3) (spec_l14Of.f (k + 1) a0 a1 a2 a3) := by
  intro a0 a1 a2 a3 k
  have ih0 := spec_l14Of.mono_l k
  unfold spec_l14Of.f
  repeat' first
      | (with_reducible exact ih0 _ _ _ _ _ _ _)
      | (with_reducible exact spec_l14Table.mono _ _ _ _ _ _)
      | (with_reducible exact LeO.refl _)
      | (with_reducible exact LeO.none _)
      | (with_reducible refine LeO.ite ?_ ?_)
      | (with_reducible refine LeO.bind ?_ (fun _ => ?_))
      | exact ih0 _ _ _ _ _ _ _
      | exact spec_l14Table.mono _ _ _ _ _ _
      | exact LeO.none _
      | refine LeO.ite ?_ ?_
      | refine LeO.bind ?_ (fun _ => ?_)
def spec_l14Of.T5 : Bool × List (List Nat × List Nat) := (true, [([], []), ([0], [0]), ([], []), ([2], [2]), ([], []), ([3, 4], [3, 4]), ([5], [5]), ([6], [6]), ([], []), ([], []), ([9], [9]), ([], []), ([10, 11], [10, 11]), ([12], [12]), ([13], [13]), ([8, 14], [8, 14]), ([7, 15], [7, 15]), ([16], [16]), ([1, 17, 15], [1, 17]), ([0, 1, 2, 3, 4, 5, 6, 7, 8, 9, 10, 11, 12, 13, 14, 15, 16, 17, 18], []), ([19, 18, 18, 0, 1, 2, 3, 4, 5, 6, 7, 8, 9, 10, 11, 12, 13, 14, 15, 16, 17, 18], [18, 19])])
def spec_l14Of.B5 : List Nat := [0, 1, 0, 4, 0, 28, 60, 124, 0, 0, 512, 0, 3584, 7680, 15872, 32512, 65532, 131068, 262143, 524287, 1048575]
theorem spec_l14Of.tab5 : rtab .any (opsOf Tryz.f41 5) = spec_l14Of.T5 := by kernel_rfl
theorem spec_l14Of.bits5 : waitsOk spec_l14Of.T5.2 spec_l14Of.B5 = true := by kernel_rfl
set_option maxHeartbeats 8000000 in
set_option maxRecDepth 100000 in
theorem spec_l14Of.calls (k : Nat) (A0_0 : Option Addr) (c0_0 : Nat) (l0_0 : List Int) (A0_1 : Option Addr) (c0_1 : Nat) (l0_1 : List Int) (A0_2 : Option Addr) (c0_2 : Nat) (l0_2 : List (S103)) (A0_3 : Option Addr) (c0_3 : Nat) (l0_3 : List Int) (r1 : List Int) (r2 : List (S107)) (w : World) (hr0_0 : Kd.C (Kd.int .i64) w A0_0 l0_0.length l0_0) (hc0_0 : l0_0.length ≤ c0_0) (hr0_1 : Kd.C (Kd.int .i64) w A0_1 l0_1.length l0_1) (hc0_1 : l0_1.length ≤ c0_1) (hr0_2 : Kd.C k103 w A0_2 l0_2.length l0_2) (hc0_2 : l0_2.length ≤ c0_2) (hr0_3 : Kd.C (Kd.int .i64) w A0_3 l0_3.length l0_3) (hc0_3 : l0_3.length ≤ c0_3) (h : spec_l14Of.f k l0_0 l0_1 l0_2 l0_3 = some (r1, r2)) :
    Calls Tryz.prog 41 #[.agg #[.slice A0_0 l0_0.length c0_0, .slice A0_1 l0_1.length c0_1, .slice A0_2 l0_2.length c0_2, .slice A0_3 l0_3.length c0_3]] w fun e w' => ∃ v0_ v1_ : Value, e = .returned (.agg #[v0_, v1_]) ∧ Kd.R (Kd.int .i64) 3 w' w.heap.size (fun _ => True) v0_ r1 ∧ Kd.S k107 107 w' w.heap.size (fun k_ => some k_ ≠ (v0_ : Value).ownBlock) v1_ r2 ∧ Below w.heap.size w w' := by
 have hu26 := Tryz.underlying26
 have hu40 := Tryz.underlying40
 have hu107 := Tryz.underlying107
 have Zx := zm hr0_0
 have Zy := zm hc0_0
 clear hr0_0 hc0_0
 have Zt := zm hr0_1
 have Zu := zm hc0_1
 clear hr0_1 hc0_1
 have Zq := zm hr0_2
 have Zz := zm hc0_2
 clear hr0_2 hc0_2
 have ZA := zm hr0_3
 have ZB := zm hc0_3
 clear hr0_3 hc0_3
 have HB := zm (Below.refl w.heap.size w)
 have H : ((spec_l14Table.f k l0_0 l0_1 l0_2 l0_3 l0_1).bind fun t486 => (spec_l14Of.l0 k 0 l0_0 l0_1 l0_2 l0_3 t486 (([] : List (S107))))) = some (r1, r2) := h
 clear h
 replace H := Option.bind_eq_some_iff.mp H
 obtain ⟨t486, A20, H⟩ := H
 replace H : (spec_l14Of.l0 k 0 l0_0 l0_1 l0_2 l0_3 t486 (([] : List (S107)))) = some (r1, r2) := H
 have A2 := zm A20
 clear A20
 obtain ⟨y489, hy489⟩ : ∃ y_ : List (S107), y_ = (([] : List (S107))) := ⟨_, rfl⟩
 replace H : (spec_l14Of.l0 k 0 l0_0 l0_1 l0_2 l0_3 t486 y489) = some (r1, r2) := by first | (rw [hy489]; with_reducible exact H) | (have H2_ := (Option.bind_some _ _).symm.trans H; rw [hy489]; with_reducible exact H2_) | (have H2_ := (Option.bind_some _ _).symm.trans H; with_reducible exact H2_) | with_reducible exact H | (rw [hy489]; exact H) | exact H
 have Ny489 := zm hy489
 clear hy489
 have H' := zm H
 clear H
 go_enter Tryz.func41, Tryz.ntmps41
 go_wp2_with (first | ((with_reducible refine gate_dst (N := 1) rfl ?_); refine box_event ?hg (N := 1) ?hd (cs := #[.slice A0_0 l0_0.length c0_0, .slice A0_1 l0_1.length c0_1, .slice A0_2 l0_2.length c0_2, .slice A0_3 l0_3.length c0_3]) (t := 26) ?hr ?_; (case hd => rfl); (case hg => rfl); (case hr => first | (go_simp; done) | (go_simp; rfl)); intro gb484 hg w3 hbox hb; have n0_ := zm (below_step (zg_1 HB.out) hb); have n1_ := zm (hbox); have n2_ := zm ((by rw [hg]; exact (below_size (zg_1 HB.out)) : w.heap.size ≤ gb484)); have n3_ := zm ((by rw [hg]; exact (below_size (zg_1 HB.out)) : w.heap.size ≤ gb484)); clear HB; have HB := n0_; have Za := n1_; have ZE := n2_; have Zg := n3_; clear n0_ n1_ n2_ n3_; clear hb hbox hg) | ((with_reducible refine gate_dst (N := 2) rfl ?_); refine box_event ?hg (N := 2) ?hd (cs := #[.slice none 0 0, .slice none 0 0]) (t := 40) ?hr ?_; (case hd => rfl); (case hg => rfl); (case hr => first | (go_simp; done) | (go_simp; rfl)); intro gb485 hg w4 hbox hb; have n0_ := zm (blk_below (g := gb484) (o := .cells #[.slice A0_0 l0_0.length c0_0, .slice A0_1 l0_1.length c0_1, .slice A0_2 l0_2.length c0_2, .slice A0_3 l0_3.length c0_3] 26 (0, 0)) (zg_3 Za.out) hb); have n1_ := zm (below_step (zg_2 HB.out Zg.out) hb); have n2_ := zm (hbox); have n3_ := zm ((by rw [hg]; exact (below_size (zg_2 HB.out Zg.out)) : w.heap.size ≤ gb485)); have n4_ := zm ((by rw [hg]; exact (below_size (zg_2 HB.out Zg.out)) : w.heap.size ≤ gb485)); have n5_ := zm ((by rw [hg]; exact Nat.ne_of_lt (blk_lt (g := gb484) (o := .cells #[.slice A0_0 l0_0.length c0_0, .slice A0_1 l0_1.length c0_1, .slice A0_2 l0_2.length c0_2, .slice A0_3 l0_3.length c0_3] 26 (0, 0)) (zg_3 Za.out)) : gb484 ≠ gb485)); have n6_ := zm ((by rw [hg]; exact Nat.ne_of_gt (blk_lt (g := gb484) (o := .cells #[.slice A0_0 l0_0.length c0_0, .slice A0_1 l0_1.length c0_1, .slice A0_2 l0_2.length c0_2, .slice A0_3 l0_3.length c0_3] 26 (0, 0)) (zg_3 Za.out)) : gb485 ≠ gb484)); clear Za; clear HB; have Za := n0_; have HB := n1_; have Ze := n2_; have ZF := n3_; have Zi := n4_; have Zl := n5_; have Zm := n6_; clear n0_ n1_ n2_ n3_ n4_ n5_ n6_; clear hb hbox hg; have hnb5 := Zl.out; have hnc5 := Zm.out; have hcz6_0 : w4.cell? ⟨gb484, 0, none⟩ = some (.slice A0_0 l0_0.length c0_0) := (blk_cell Za.out 0).trans rfl; have hcz6_1 : w4.cell? ⟨gb484, 1, none⟩ = some (.slice A0_1 l0_1.length c0_1) := (blk_cell Za.out 1).trans rfl; have hcz6_2 : w4.cell? ⟨gb484, 2, none⟩ = some (.slice A0_2 l0_2.length c0_2) := (blk_cell Za.out 2).trans rfl; have hcz6_3 : w4.cell? ⟨gb484, 3, none⟩ = some (.slice A0_3 l0_3.length c0_3) := (blk_cell Za.out 3).trans rfl; have hfz6_0 := blk_frozen Za.out 0; have hfz6_1 := blk_frozen Za.out 1; have hfz6_2 := blk_frozen Za.out 2; have hfz6_3 := blk_frozen Za.out 3) | ((with_reducible refine gate_callee (f := 87) rfl ?_); refine goesL_ (some 8) rfl rfl Tryz.func87 (by kernel_rfl) rfl #[.agg #[.slice A0_0 l0_0.length c0_0, .slice A0_1 l0_1.length c0_1, .slice A0_2 l0_2.length c0_2, .slice A0_3 l0_3.length c0_3], .slice A0_1 l0_1.length c0_1] rfl zq ?_; (with_reducible refine (spec_l14Table.calls k _ _ l0_0 _ _ l0_1 _ _ l0_2 _ _ l0_3 _ _ l0_1 t486 _ ?side1 ?side2 ?side3 ?side4 ?side5 ?side6 ?side7 ?side8 ?side9 ?side10 A2.out).mono ?_); (case side1 => exact zC (Kd.C_below Zx.out HB.out)); (case side2 => exact Zy.out); (case side3 => exact zC (Kd.C_below Zt.out HB.out)); (case side4 => exact Zu.out); (case side5 => exact zC (Kd.C_below Zq.out HB.out)); (case side6 => exact Zz.out); (case side7 => exact zC (Kd.C_below ZA.out HB.out)); (case side8 => exact ZB.out); (case side9 => exact zC (Kd.C_below Zt.out HB.out)); (case side10 => exact Zu.out); rintro e w7 ⟨v487, rfl, ho0, hb⟩; refine ⟨_, rfl, ?_⟩; have n0_ := zm (Kd.R_lower ho0 (below_size (zg_5 HB.out Zg.out Zi.out))); have n1_ := zm (blk_below (g := gb484) (o := .cells #[.slice A0_0 l0_0.length c0_0, .slice A0_1 l0_1.length c0_1, .slice A0_2 l0_2.length c0_2, .slice A0_3 l0_3.length c0_3] 26 (0, 0)) (zg_3 Za.out) hb); have n2_ := zm (blk_below (g := gb485) (o := .cells #[.slice none 0 0, .slice none 0 0] 40 (0, 0)) (zg_3 Ze.out) hb); have n3_ := zm (below_step (zg_5 HB.out Zg.out Zi.out) hb); clear Za; clear Ze; clear HB; have Zk := n0_; have Za := n1_; have Ze := n2_; have HB := n3_; clear n0_ n1_ n2_ n3_; (try clear hb); (try clear hb2); (try clear hk); (try clear hi); (try clear ho0)) | ((with_reducible refine gate_dst (N := 9) rfl ?_); refine Kd.S_lit k107 _ 107 ?hg (N := 9) ?hd (xs := ([] : List (S107))) (inner := []) (ok := fun _ => True) (okp := fun _ => True) ?hr ?hp (fun _ hk => hk) trivial (Below.refl _ _) (Nat.le_refl _) (by simp) ?_; (case hd => rfl); (case hg => rfl); (case hr => first | (go_simp; done) | (go_simp; rfl)); (case hp => exact (Reps.none _ _)); intro v490 w8 ho9 hb hg_ hnew_; clear hg_ hnew_; (first | rw [← Ny489.out] at ho9 | (simp only [Int.reduceToNat] at ho9; rw [← Ny489.out] at ho9)); have n0_ := zm (Kd.R_below (zg_6 Zk.out) hb); have n1_ := zm (Kd.S_lower (Kd.S_new' ho9 (Kd.R_lt (zg_6 Zk.out))) (below_size (zg_5 HB.out Zg.out Zi.out))); have n2_ := zm (blk_below (g := gb484) (o := .cells #[.slice A0_0 l0_0.length c0_0, .slice A0_1 l0_1.length c0_1, .slice A0_2 l0_2.length c0_2, .slice A0_3 l0_3.length c0_3] 26 (0, 0)) (zg_3 Za.out) hb); have n3_ := zm (blk_below (g := gb485) (o := .cells #[.slice none 0 0, .slice none 0 0] 40 (0, 0)) (zg_3 Ze.out) hb); have n4_ := zm (below_step (zg_5 HB.out Zg.out Zi.out) hb); clear Zk; clear Za; clear Ze; clear HB; have Zk := n0_; have Zp := n1_; have Za := n2_; have Ze := n3_; have HB := n4_; clear n0_ n1_ n2_ n3_ n4_; clear hb ho9; obtain ⟨Ao10, co10, eo10⟩ := Kd.S_slice Zp.out; subst eo10; obtain ⟨Ao11, co11, eo11⟩ := Kd.R_slice Zk.out; subst eo11) | ((with_reducible refine gate_dst (N := 3) rfl ?_); refine box_event ?hg (N := 3) ?hd (cs := #[.slice none 0 0, .slice none 0 0]) (t := 40) ?hr ?_; (case hd => rfl); (case hg => rfl); (case hr => first | (go_simp; done) | (go_simp; rfl)); intro gb492 hg w12 hbox hb; have n0_ := zm (Kd.R_below (zg_6 Zk.out) hb); have n1_ := zm (Kd.S_below (zg_7 Zp.out) hb); have n2_ := zm (blk_below (g := gb484) (o := .cells #[.slice A0_0 l0_0.length c0_0, .slice A0_1 l0_1.length c0_1, .slice A0_2 l0_2.length c0_2, .slice A0_3 l0_3.length c0_3] 26 (0, 0)) (zg_3 Za.out) hb); have n3_ := zm (blk_below (g := gb485) (o := .cells #[.slice none 0 0, .slice none 0 0] 40 (0, 0)) (zg_3 Ze.out) hb); have n4_ := zm (below_step (zg_5 HB.out Zg.out Zi.out) hb); have n5_ := zm (hbox); have n6_ := zm ((by rw [hg]; exact (below_size (zg_5 HB.out Zg.out Zi.out)) : w.heap.size ≤ gb492)); have n7_ := zm ((by rw [hg]; exact (below_size (zg_5 HB.out Zg.out Zi.out)) : w.heap.size ≤ gb492)); have n8_ := zm ((by rw [hg]; exact Nat.ne_of_lt (blk_lt (g := gb484) (o := .cells #[.slice A0_0 l0_0.length c0_0, .slice A0_1 l0_1.length c0_1, .slice A0_2 l0_2.length c0_2, .slice A0_3 l0_3.length c0_3] 26 (0, 0)) (zg_3 Za.out)) : gb484 ≠ gb492)); have n9_ := zm ((by rw [hg]; exact Nat.ne_of_gt (blk_lt (g := gb484) (o := .cells #[.slice A0_0 l0_0.length c0_0, .slice A0_1 l0_1.length c0_1, .slice A0_2 l0_2.length c0_2, .slice A0_3 l0_3.length c0_3] 26 (0, 0)) (zg_3 Za.out)) : gb492 ≠ gb484)); have n10_ := zm ((by rw [hg]; exact Nat.ne_of_lt (blk_lt (g := gb485) (o := .cells #[.slice none 0 0, .slice none 0 0] 40 (0, 0)) (zg_3 Ze.out)) : gb485 ≠ gb492)); have n11_ := zm ((by rw [hg]; exact Nat.ne_of_gt (blk_lt (g := gb485) (o := .cells #[.slice none 0 0, .slice none 0 0] 40 (0, 0)) (zg_3 Ze.out)) : gb492 ≠ gb485)); clear Zk; clear Zp; clear Za; clear Ze; clear HB; have Zk := n0_; have Zp := n1_; have Za := n2_; have Ze := n3_; have HB := n4_; have Zc := n5_; have ZG := n6_; have Zo := n7_; have Zf := n8_; have Zj := n9_; have Zh := n10_; have Zn := n11_; clear n0_ n1_ n2_ n3_ n4_ n5_ n6_ n7_ n8_ n9_ n10_ n11_; clear hb hbox hg; have hnb13 := Zj.out; have hnc13 := Zf.out; have hnb14 := Zn.out; have hnc14 := Zh.out; have hcz15_0 : w12.cell? ⟨gb492, 0, none⟩ = some (.slice none 0 0) := (blk_cell Zc.out 0).trans rfl; have hcz15_1 : w12.cell? ⟨gb492, 1, none⟩ = some (.slice none 0 0) := (blk_cell Zc.out 1).trans rfl; have hfz15_0 := blk_frozen Zc.out 0; have hfz15_1 := blk_frozen Zc.out 1))
 go_loopg [4] k (fun kq v4 w' => ∃ (x4_1 : Int) (x493001_1 : List (S107)) (u493001 : Value), v4 = .int .i64 x4_1 ∧ Aside0 (spec_l14Of.l0 kq x4_1 l0_0 l0_1 l0_2 l0_3 t486 x493001_1 = some (r1, r2)) ∧ Aside0 (kq ≤ k) ∧ Aside0 (Kd.R (Kd.int .i64) 3 w' w.heap.size (fun _ => True) (.slice Ao11 t486.length co11) t486) ∧ Aside0 (Kd.S k107 107 w' w.heap.size (fun k_ => some k_ ≠ ((.slice Ao11 t486.length co11) : Value).ownBlock) u493001 x493001_1) ∧ Aside0 (w'.heap[gb484]? = some (.cells #[(.slice A0_0 l0_0.length c0_0), (.slice A0_1 l0_1.length c0_1), (.slice A0_2 l0_2.length c0_2), (.slice A0_3 l0_3.length c0_3)] 26 (0, 0))) ∧ Aside0 (w'.heap[gb485]? = some (.cells #[(.slice none 0 0), (.slice none 0 0)] 40 (0, 0))) ∧ Aside0 (w'.heap[gb492]? = some (.cells #[(.slice Ao11 t486.length co11), u493001] 40 (0, 0))) ∧ Aside0 (Below w.heap.size w w'))
 case atStart => exact ⟨(0), (y489), (.slice Ao10 y489.length co10), zr, H', ⟨Nat.le_refl _⟩, ⟨by (with_reducible repeat (first | apply Kd.R_alloc | apply Kd.R_drewN | apply Kd.R_drew)); exact Kd.R_mono (Kd.R_far (p := ⟨gb492, 1, none⟩) (Kd.R_far (p := ⟨gb492, 0, none⟩) (Kd.R_types Zk.out Zc.out (by decide)) (fun _ hk => hk.2) (.slice Ao11 t486.length co11)) (fun _ hk => hk.2) (.slice Ao10 y489.length co10)) (fun _ hk => trivial)⟩, ⟨by (with_reducible repeat (first | apply Kd.S_alloc | apply Kd.S_drewN | apply Kd.S_drew)); exact Kd.S_mono (Kd.S_far (p := ⟨gb492, 1, none⟩) (Kd.S_far (p := ⟨gb492, 0, none⟩) (Kd.S_types Zp.out Zc.out (by decide)) (fun _ hk => hk.2) (.slice Ao11 t486.length co11)) (fun _ hk => hk.2) (.slice Ao10 y489.length co10)) (fun _ hk => hk.1.2)⟩, ⟨by (with_reducible repeat (first | refine blk_drewN ?_ _ | refine blk_drew ?_ | refine blk_alloc ?_ _)); refine blk_far ?_ Zf.out _; (with_reducible repeat (first | refine blk_drewN ?_ _ | refine blk_drew ?_ | refine blk_alloc ?_ _)); refine blk_far ?_ Zf.out _; (with_reducible repeat (first | refine blk_drewN ?_ _ | refine blk_drew ?_ | refine blk_alloc ?_ _)); exact Za.out⟩, ⟨by (with_reducible repeat (first | refine blk_drewN ?_ _ | refine blk_drew ?_ | refine blk_alloc ?_ _)); refine blk_far ?_ Zh.out _; (with_reducible repeat (first | refine blk_drewN ?_ _ | refine blk_drew ?_ | refine blk_alloc ?_ _)); refine blk_far ?_ Zh.out _; (with_reducible repeat (first | refine blk_drewN ?_ _ | refine blk_drew ?_ | refine blk_alloc ?_ _)); exact Ze.out⟩, ⟨by (with_reducible repeat (first | refine blk_drewN ?_ _ | refine blk_drew ?_ | refine blk_alloc ?_ _)); refine blk_put (cs := #[.slice Ao11 t486.length co11, .slice none 0 0]) ?_ 1 _ rfl; (with_reducible repeat (first | refine blk_drewN ?_ _ | refine blk_drew ?_ | refine blk_alloc ?_ _)); refine blk_put (cs := #[.slice none 0 0, .slice none 0 0]) ?_ 0 _ rfl; (with_reducible repeat (first | refine blk_drewN ?_ _ | refine blk_drew ?_ | refine blk_alloc ?_ _)); exact Zc.out⟩, ⟨zg_8 HB.out Zg.out Zi.out Zo.out⟩⟩
 case round =>
  clear H'
  try clear c1
  try clear p2
  try clear c4
  try clear c5
  try clear c8
  try clear c13
  try clear c14
  try clear hcz15_0
  try clear hcz15_1
  try clear hcz6_0
  try clear hcz6_1
  try clear hcz6_2
  try clear hcz6_3
  try clear hfz15_0
  try clear hfz15_1
  try clear hfz6_0
  try clear hfz6_1
  try clear hfz6_2
  try clear hfz6_3
  obtain ⟨x4_1, x493001_1, u493001, rfl, HA, HK1, Zd, Zb, Za, Ze, Zc, HB⟩ := hrel
  cases gk with
  | zero => exact absurd HA.out (by simp [spec_l14Of.l0])
  | succ k1 =>
   have H := HA.out
   clear HA
   simp only [spec_l14Of.l0] at H
   by_cases c16 : x4_1 < (l0_2.length : Int)
   ·rw [if_pos c16] at H
    have c16b0 : decide (x4_1 < (l0_2.length : Int)) = true := decide_eq_true c16
    clear c16
    by_cases c17 : 0 ≤ x4_1
    ·rw [if_pos c17] at H
     have c17b0 : decide (0 ≤ x4_1) = true := decide_eq_true c17
     clear c17
     replace H := Option.bind_eq_some_iff.mp H
     obtain ⟨t495, A180, H⟩ := H
     replace H : (if x493001_1.length < 3518437208883 then (spec_l14Of.l0 k1 (wrap64 (x4_1 + 1)) l0_0 l0_1 l0_2 l0_3 t486 (x493001_1 ++ [(⟨(rd_T103 l0_2 x4_1).f0, t495⟩ : S107)])) else (none)) = some (r1, r2) := H
     have A18 := zm A180
     clear A180
     by_cases c19 : x493001_1.length < 3518437208883
     ·rw [if_pos c19] at H
      have LMc19 := zm c19
      clear c19
      obtain ⟨y498, hy498⟩ : ∃ y_ : List (S107), y_ = (x493001_1 ++ [(⟨(rd_T103 l0_2 x4_1).f0, t495⟩ : S107)]) := ⟨_, rfl⟩
      replace H : (spec_l14Of.l0 k1 (wrap64 (x4_1 + 1)) l0_0 l0_1 l0_2 l0_3 t486 y498) = some (r1, r2) := by first | (rw [hy498]; with_reducible exact H) | (have H2_ := (Option.bind_some _ _).symm.trans H; rw [hy498]; with_reducible exact H2_) | (have H2_ := (Option.bind_some _ _).symm.trans H; with_reducible exact H2_) | with_reducible exact H | (rw [hy498]; exact H) | exact H
      have Ny498 := zm hy498
      clear hy498
      have H' := zm H
      clear H
      have hnb20 := Zl.out
      have hnc20 := Zm.out
      have hnb21 := Zf.out
      have hnc21 := Zj.out
      have hcz22_0 : wr.cell? ⟨gb484, 0, none⟩ = some (.slice A0_0 l0_0.length c0_0) := (blk_cell Za.out 0).trans rfl
      have hcz22_1 : wr.cell? ⟨gb484, 1, none⟩ = some (.slice A0_1 l0_1.length c0_1) := (blk_cell Za.out 1).trans rfl
      have hcz22_2 : wr.cell? ⟨gb484, 2, none⟩ = some (.slice A0_2 l0_2.length c0_2) := (blk_cell Za.out 2).trans rfl
      have hcz22_3 : wr.cell? ⟨gb484, 3, none⟩ = some (.slice A0_3 l0_3.length c0_3) := (blk_cell Za.out 3).trans rfl
      have hfz22_0 := blk_frozen Za.out 0
      have hfz22_1 := blk_frozen Za.out 1
      have hfz22_2 := blk_frozen Za.out 2
      have hfz22_3 := blk_frozen Za.out 3
      try go_wp2
      have n0_ := zm (Kd.R_drew Zd.out)
      have n1_ := zm (Kd.S_drew Zb.out)
      have n2_ := zm (blk_drew Za.out)
      have n3_ := zm (blk_drew Ze.out)
      have n4_ := zm (blk_drew Zc.out)
      have n5_ := zm (below_drew1 HB.out)
      clear Zd
      clear Zb
      clear Za
      clear Ze
      clear Zc
      clear HB
      have Zd := n0_
      have Zb := n1_
      have Za := n2_
      have Ze := n3_
      have Zc := n4_
      have HB := n5_
      clear n0_ n1_ n2_ n3_ n4_ n5_
      have p493 : 0 ≤ (x4_1 : Int) := zd
      have q493 : x4_1 < (l0_2.length : Int) := zd
      obtain ⟨ad493, A493_1, c493_1, e493, hx493_0, hx493_1, hl493_1, hi493_1⟩ := at_T103 Zq.out x4_1 p493 q493
      have hw493_1 := hx493_1
      have hw493_0 := hx493_0
      cases e493
      replace hx493_0 := (HB.out.cell (World.block_lt_of_cell? w _ hx493_0)).trans hx493_0
      replace hx493_1 := (HB.out.cell (World.block_lt_of_cell? w _ hx493_1)).trans hx493_1
      have Zv := zm hi493_1
      have ZD := zm hl493_1
      clear hi493_1 hl493_1
      replace p493 := eq_true p493
      replace q493 := eq_true q493
      have p494 : 0 ≤ (x4_1 : Int) := zd
      have q494 : x4_1 < (l0_2.length : Int) := zd
      obtain ⟨ad494, A494_1, c494_1, e494, hx494_0, hx494_1, hl494_1, hi494_1⟩ := at_T103 Zq.out x4_1 p494 q494
      have hw494_1 := hx494_1
      have hw494_0 := hx494_0
      obtain rfl : ad493 = ad494 := (by injection e494)
      replace hx494_0 := (HB.out.cell (World.block_lt_of_cell? w _ hx494_0)).trans hx494_0
      replace hx494_1 := (HB.out.cell (World.block_lt_of_cell? w _ hx494_1)).trans hx494_1
      have Zr := zm hi494_1
      have Zw := zm hl494_1
      clear hi494_1 hl494_1
      replace p494 := eq_true p494
      replace q494 := eq_true q494
      have ea_ := Option.some.inj (hx493_1.symm.trans hx494_1)
      injection ea_ with ea_ en_ ec_
      subst ea_
      subst ec_
      clear en_
      refine start_ (n := 21) (S := fun w' => w'.cell? ⟨gb492, 0, none⟩ = some (.slice Ao11 t486.length co11) ∧ w'.cell? ⟨gb492, 1, none⟩ = some (u493001) ∧ w'.cell? ⟨gb484, 0, none⟩ = some (.slice A0_0 l0_0.length c0_0) ∧ w'.cell? ⟨gb484, 1, none⟩ = some (.slice A0_1 l0_1.length c0_1) ∧ w'.cell? ⟨gb484, 2, none⟩ = some (.slice (some ad493) l0_2.length c0_2) ∧ w'.cell? ⟨gb484, 3, none⟩ = some (.slice A0_3 l0_3.length c0_3) ∧ w'.cell? (ad493.add ((x4_1).toNat * 2)) = some (.string ((rd_T103 l0_2 x4_1).f0)) ∧ w'.cell? ⟨(ad493.add ((x4_1).toNat * 2)).block, (ad493.add ((x4_1).toNat * 2)).off + 1, none⟩ = some (.slice A493_1 ((rd_T103 l0_2 x4_1).f1).length c493_1) ∧ w'.cell? (ad493.add ((x4_1).toNat * 2)) = some (.string ((rd_T103 l0_2 x4_1).f0)) ∧ w'.cell? ⟨(ad493.add ((x4_1).toNat * 2)).block, (ad493.add ((x4_1).toNat * 2)).off + 1, none⟩ = some (.slice A493_1 ((rd_T103 l0_2 x4_1).f1).length c493_1)) (ds := [20]) #[false, false, false, false, false, false, false, false, false, false, false, false, false, false, false, false, false, false, false, false, false] (by kernel_rfl) rfl rfl ⟨(blk_cell Zc.out 0).trans rfl, (blk_cell Zc.out 1).trans rfl, (blk_cell Za.out 0).trans rfl, (blk_cell Za.out 1).trans rfl, (blk_cell Za.out 2).trans rfl, (blk_cell Za.out 3).trans rfl, ((HB.out.cell (World.block_lt_of_cell? w _ hw493_0)).trans hw493_0), ((HB.out.cell (World.block_lt_of_cell? w _ hw493_1)).trans hw493_1), ((HB.out.cell (World.block_lt_of_cell? w _ hw494_0)).trans hw494_0), ((HB.out.cell (World.block_lt_of_cell? w _ hw494_1)).trans hw494_1)⟩ (fun hHeld => ?_); refine with_tabW spec_l14Of.tab5 spec_l14Of.bits5 (fun HT_ HW_ => ?_)
      generalize wr.drew = w23 at Zd Zb Za Ze Zc HB Zv Zr hx493_0 hx493_1 hx494_0 hx494_1 hHeld ⊢
      refine pure_ (i := 0) (N := some 18) (v := ?_) (a' := ?_) #[true, false, false, false, false, false, false, false, false, false, false, false, false, false, false, false, false, false, false, false, false] rfl rfl (any_of HT_.out (by kernel_rfl)) (fun _ _ _ h => h) (Or.inl ⟨by rfl, ?_⟩) ?_ ?_
      rotate_left
      ·intro w'
       go_simp
       with_reducible rfl
      rotate_left
      ·simp only [Act.put, zs, zz, zt, i64_w, i32_w]
       rfl
      refine pure_ (i := 2) (N := some 20) (v := ?_) (a' := ?_) #[true, false, true, false, false, false, false, false, false, false, false, false, false, false, false, false, false, false, false, false, false] rfl rfl (any_of HT_.out (by kernel_rfl)) (fun _ _ _ h => h) (Or.inl ⟨by rfl, ?_⟩) ?_ ?_
      rotate_left
      ·intro w'
       go_simp
       with_reducible rfl
      rotate_left
      ·simp only [Act.put, zs, zz, zt, i64_w, i32_w]
       rfl
      refine pure_ (i := 4) (N := some 22) (v := ?_) (a' := ?_) #[true, false, true, false, true, false, false, false, false, false, false, false, false, false, false, false, false, false, false, false, false] rfl rfl (any_of HT_.out (by kernel_rfl)) (fun _ _ _ h => h) (Or.inl ⟨by rfl, ?_⟩) ?_ ?_
      rotate_left
      ·intro w'
       go_simp
       with_reducible rfl
      rotate_left
      ·simp only [Act.put, zs, zz, zt, i64_w, i32_w]
       rfl
      refine pure_ (i := 9) (N := some 27) (v := ?_) (a' := ?_) #[true, false, true, false, true, false, false, false, false, true, false, false, false, false, false, false, false, false, false, false, false] rfl rfl (any_of HT_.out (by kernel_rfl)) (fun _ _ _ h => h) (Or.inl ⟨by rfl, ?_⟩) ?_ ?_
      rotate_left
      ·intro w'
       go_simp
       with_reducible rfl
      rotate_left
      ·simp only [Act.put, zs, zz, zt, i64_w, i32_w]
       rfl
      refine pure_ (i := 11) (N := some 29) (v := ?_) (a' := ?_) #[true, false, true, false, true, false, false, false, false, true, false, true, false, false, false, false, false, false, false, false, false] rfl rfl (any_of HT_.out (by kernel_rfl)) (fun _ _ _ h => h) (Or.inl ⟨by rfl, ?_⟩) ?_ ?_
      rotate_left
      ·intro w'
       go_simp
       with_reducible rfl
      rotate_left
      ·simp only [Act.put, zs, zz, zt, i64_w, i32_w]
       rfl
      refine take_ (i := 1) (N := some 19) (v := ?_) (a' := ?_) #[true, true, true, false, true, false, false, false, false, true, false, true, false, false, false, false, false, false, false, false, false] rfl rfl (take_ofW HT_.out HW_.out (by kernel_rfl)) (fun _ _ _ h => h) (Or.inl ⟨by rfl, ?_⟩) hHeld ?_ ?_
      rotate_left
      ·rintro w' ⟨s0, s1, s2, s3, s4, s5, s6, s7, s8, s9⟩
       go_simp
       with_reducible rfl
      rotate_left
      ·simp only [Act.put, zs, zz, zt, i64_w, i32_w]
       rfl
      refine take_ (i := 3) (N := some 21) (v := ?_) (a' := ?_) #[true, true, true, true, true, false, false, false, false, true, false, true, false, false, false, false, false, false, false, false, false] rfl rfl (take_ofW HT_.out HW_.out (by kernel_rfl)) (fun _ _ _ h => h) (Or.inl ⟨by rfl, ?_⟩) hHeld ?_ ?_
      rotate_left
      ·rintro w' ⟨s0, s1, s2, s3, s4, s5, s6, s7, s8, s9⟩
       go_simp
       with_reducible rfl
      rotate_left
      ·simp only [Act.put, zs, zz, zt, i64_w, i32_w]
       rfl
      refine pure_ (i := 5) (N := some 23) (v := ?_) (a' := ?_) #[true, true, true, true, true, true, false, false, false, true, false, true, false, false, false, false, false, false, false, false, false] rfl rfl (any_of HT_.out (by kernel_rfl)) (fun _ _ _ h => h) (Or.inl ⟨by rfl, ?_⟩) ?_ ?_
      rotate_left
      ·intro w'
       go_simp
       with_reducible rfl
      rotate_left
      ·simp only [Act.put, zs, zz, zt, i64_w, i32_w]
       rfl
      refine pure_ (i := 6) (N := some 24) (v := ?_) (a' := ?_) #[true, true, true, true, true, true, true, false, false, true, false, true, false, false, false, false, false, false, false, false, false] rfl rfl (any_of HT_.out (by kernel_rfl)) (fun _ _ _ h => h) (Or.inl ⟨by rfl, ?_⟩) ?_ ?_
      rotate_left
      ·intro w'
       go_simp
       with_reducible rfl
      rotate_left
      ·simp only [Act.put, zs, zz, zt, i64_w, i32_w]
       rfl
      refine take_ (i := 7) (N := some 25) (v := ?_) (a' := ?_) #[true, true, true, true, true, true, true, true, false, true, false, true, false, false, false, false, false, false, false, false, false] rfl rfl (take_ofW HT_.out HW_.out (by kernel_rfl)) (fun _ _ _ h => h) (Or.inl ⟨by rfl, ?_⟩) hHeld ?_ ?_
      rotate_left
      ·rintro w' ⟨s0, s1, s2, s3, s4, s5, s6, s7, s8, s9⟩
       go_simp
       with_reducible rfl
      rotate_left
      ·simp only [Act.put, zs, zz, zt, i64_w, i32_w]
       rfl
      refine take_ (i := 8) (N := some 26) (v := ?_) (a' := ?_) #[true, true, true, true, true, true, true, true, true, true, false, true, false, false, false, false, false, false, false, false, false] rfl rfl (take_ofW HT_.out HW_.out (by kernel_rfl)) (fun _ _ _ h => h) (Or.inl ⟨by rfl, ?_⟩) hHeld ?_ ?_
      rotate_left
      ·rintro w' ⟨s0, s1, s2, s3, s4, s5, s6, s7, s8, s9⟩
       go_simp
       with_reducible rfl
      rotate_left
      ·simp only [Act.put, zs, zz, zt, i64_w, i32_w]
       rfl
      refine take_ (i := 10) (N := some 28) (v := ?_) (a' := ?_) #[true, true, true, true, true, true, true, true, true, true, true, true, false, false, false, false, false, false, false, false, false] rfl rfl (take_ofW HT_.out HW_.out (by kernel_rfl)) (fun _ _ _ h => h) (Or.inl ⟨by rfl, ?_⟩) hHeld ?_ ?_
      rotate_left
      ·rintro w' ⟨s0, s1, s2, s3, s4, s5, s6, s7, s8, s9⟩
       go_simp
       with_reducible rfl
      rotate_left
      ·simp only [Act.put, zs, zz, zt, i64_w, i32_w]
       rfl
      refine pure_ (i := 12) (N := some 30) (v := ?_) (a' := ?_) #[true, true, true, true, true, true, true, true, true, true, true, true, true, false, false, false, false, false, false, false, false] rfl rfl (any_of HT_.out (by kernel_rfl)) (fun _ _ _ h => h) (Or.inl ⟨by rfl, ?_⟩) ?_ ?_
      rotate_left
      ·intro w'
       go_simp
       with_reducible rfl
      rotate_left
      ·simp only [Act.put, zs, zz, zt, i64_w, i32_w]
       rfl
      refine pure_ (i := 13) (N := some 31) (v := ?_) (a' := ?_) #[true, true, true, true, true, true, true, true, true, true, true, true, true, true, false, false, false, false, false, false, false] rfl rfl (any_of HT_.out (by kernel_rfl)) (fun _ _ _ h => h) (Or.inl ⟨by rfl, ?_⟩) ?_ ?_
      rotate_left
      ·intro w'
       go_simp
       with_reducible rfl
      rotate_left
      ·simp only [Act.put, zs, zz, zt, i64_w, i32_w]
       rfl
      refine take_ (i := 14) (N := some 32) (v := ?_) (a' := ?_) #[true, true, true, true, true, true, true, true, true, true, true, true, true, true, true, false, false, false, false, false, false] rfl rfl (take_ofW HT_.out HW_.out (by kernel_rfl)) (fun _ _ _ h => h) (Or.inl ⟨by rfl, ?_⟩) hHeld ?_ ?_
      rotate_left
      ·rintro w' ⟨s0, s1, s2, s3, s4, s5, s6, s7, s8, s9⟩
       go_simp
       with_reducible rfl
      rotate_left
      ·simp only [Act.put, zs, zz, zt, i64_w, i32_w]
       rfl
      refine one_ (i := 15) (N := some 33) #[true, true, true, true, true, true, true, true, true, true, true, true, true, true, true, true, false, false, false, false, false] rfl rfl (one_of HT_.out (by kernel_rfl)) (by decide) (fun K hK => ?_)
      refine goes_ Tryz.func87 (by kernel_rfl) rfl #[.agg #[.slice A0_0 l0_0.length c0_0, .slice A0_1 l0_1.length c0_1, .slice (some ad493) l0_2.length c0_2, .slice A0_3 l0_3.length c0_3], .slice A493_1 ((rd_T103 l0_2 x4_1).f1).length c493_1] (by rfl) rfl rfl zq ?_
      with_reducible refine (spec_l14Table.calls k1 _ _ l0_0 _ _ l0_1 _ _ l0_2 _ _ l0_3 _ _ ((rd_T103 l0_2 x4_1).f1) t495 _ ?side1 ?side2 ?side3 ?side4 ?side5 ?side6 ?side7 ?side8 ?side9 ?side10 A18.out).mono ?_
      (case side1 => exact zC (Kd.C_below Zx.out HB.out))
      (case side2 => exact Zy.out)
      (case side3 => exact zC (Kd.C_below Zt.out HB.out))
      (case side4 => exact Zu.out)
      (case side5 => exact zC (Kd.C_below Zq.out HB.out))
      (case side6 => exact Zz.out)
      (case side7 => exact zC (Kd.C_below ZA.out HB.out))
      (case side8 => exact ZB.out)
      (case side9 => exact zC (Kd.C_below Zr.out HB.out))
      (case side10 => exact Zw.out)
      rintro e w24 ⟨v496, rfl, ho0, hb⟩
      refine ⟨_, rfl, ?_⟩
      have n0_ := zm (Kd.R_elder' (zg_6 Zd.out) (Kd.R_base ho0) hb)
      have n1_ := zm (Kd.S_elder' (zg_7 Zb.out) (Kd.R_base ho0) hb)
      have n2_ := zm (Kd.R_lower (Kd.R_new' ho0 (Kd.R_lt (zg_6 Zd.out))) (below_size (zg_8 HB.out Zg.out Zi.out Zo.out)))
      have n3_ := zm (blk_below (g := gb484) (o := .cells #[.slice A0_0 l0_0.length c0_0, .slice A0_1 l0_1.length c0_1, .slice (some ad493) l0_2.length c0_2, .slice A0_3 l0_3.length c0_3] 26 (0, 0)) (zg_3 Za.out) hb)
      have n4_ := zm (blk_below (g := gb485) (o := .cells #[.slice none 0 0, .slice none 0 0] 40 (0, 0)) (zg_3 Ze.out) hb)
      have n5_ := zm (blk_below (g := gb492) (o := .cells #[.slice Ao11 t486.length co11, u493001] 40 (0, 0)) (zg_3 Zc.out) hb)
      have n6_ := zm (below_step (zg_8 HB.out Zg.out Zi.out Zo.out) hb)
      clear Zd
      clear Zb
      clear Za
      clear Ze
      clear Zc
      clear HB
      have Zd := n0_
      have Zb := n1_
      have Zs := n2_
      have Za := n3_
      have Ze := n4_
      have Zc := n5_
      have HB := n6_
      clear n0_ n1_ n2_ n3_ n4_ n5_ n6_
      (try clear hb)
      (try clear hb2)
      (try clear hk)
      (try clear hi)
      (try clear ho0)
      obtain ⟨Ao25, co25, eo25⟩ := Kd.R_slice Zs.out
      (first | subst eo25 | (injection eo25 with f1_ f2_ f3_; have f4_ := f1_.symm; have f5_ := f3_.symm; clear f1_ f2_ f3_; subst f4_; subst f5_))
      refine hK.out _ _ ⟨(blk_cell Zc.out 0).trans rfl, (blk_cell Zc.out 1).trans rfl, (blk_cell Za.out 0).trans rfl, (blk_cell Za.out 1).trans rfl, (blk_cell Za.out 2).trans rfl, (blk_cell Za.out 3).trans rfl, ((HB.out.cell (World.block_lt_of_cell? w _ hw493_0)).trans hw493_0), ((HB.out.cell (World.block_lt_of_cell? w _ hw493_1)).trans hw493_1), ((HB.out.cell (World.block_lt_of_cell? w _ hw494_0)).trans hw494_0), ((HB.out.cell (World.block_lt_of_cell? w _ hw494_1)).trans hw494_1)⟩ (fun hHeld => ?_)
      clear hK K
      refine norm_ (a' := ?_) ?_ ?_
      rotate_left
      ·show Act.put _ (some 33) _ = _
       simp only [Act.put, zs, zz, zt, i64_w, i32_w]
       rfl
      refine pure_ (i := 16) (N := some 34) (v := ?_) (a' := ?_) #[true, true, true, true, true, true, true, true, true, true, true, true, true, true, true, true, true, false, false, false, false] rfl rfl (any_of HT_.out (by kernel_rfl)) (fun _ _ _ h => h) (Or.inl ⟨by rfl, ?_⟩) ?_ ?_
      rotate_left
      ·intro w'
       go_simp
       with_reducible rfl
      rotate_left
      ·simp only [Act.put, zs, zz, zt, i64_w, i32_w]
       rfl
      refine one_ (i := 17) (N := some 35) #[true, true, true, true, true, true, true, true, true, true, true, true, true, true, true, true, true, true, false, false, false] rfl rfl (one_of HT_.out (by kernel_rfl)) (by decide) (fun K hK => ?_)
      refine value_ (w1 := ?_) (v := ?_) (by rfl) rfl ?_ ?_
      rotate_left 2
      ·go_simp
       constructor
       ·rfl
       ·rfl
      refine hK.out _ _ ⟨(blk_cell (blk_alloc Zc.out _) 0).trans rfl, (blk_cell (blk_alloc Zc.out _) 1).trans rfl, (blk_cell (blk_alloc Za.out _) 0).trans rfl, (blk_cell (blk_alloc Za.out _) 1).trans rfl, (blk_cell (blk_alloc Za.out _) 2).trans rfl, (blk_cell (blk_alloc Za.out _) 3).trans rfl, (World.cell?_alloc_lt _ _ _ (World.block_lt_of_cell? _ _ (((HB.out.cell (World.block_lt_of_cell? w _ hw493_0)).trans hw493_0)))).trans (((HB.out.cell (World.block_lt_of_cell? w _ hw493_0)).trans hw493_0)), (World.cell?_alloc_lt _ _ _ (World.block_lt_of_cell? _ _ (((HB.out.cell (World.block_lt_of_cell? w _ hw493_1)).trans hw493_1)))).trans (((HB.out.cell (World.block_lt_of_cell? w _ hw493_1)).trans hw493_1)), (World.cell?_alloc_lt _ _ _ (World.block_lt_of_cell? _ _ (((HB.out.cell (World.block_lt_of_cell? w _ hw494_0)).trans hw494_0)))).trans (((HB.out.cell (World.block_lt_of_cell? w _ hw494_0)).trans hw494_0)), (World.cell?_alloc_lt _ _ _ (World.block_lt_of_cell? _ _ (((HB.out.cell (World.block_lt_of_cell? w _ hw494_1)).trans hw494_1)))).trans (((HB.out.cell (World.block_lt_of_cell? w _ hw494_1)).trans hw494_1))⟩ (fun hHeld => ?_)
      clear hK K
      refine norm_ (a' := ?_) ?_ ?_
      rotate_left
      ·show Act.put _ (some 35) _ = _
       simp only [Act.put, zs, zz, zt, i64_w, i32_w]
       rfl
      refine one_ (i := 18) (N := some 36) #[true, true, true, true, true, true, true, true, true, true, true, true, true, true, true, true, true, true, true, false, false] rfl rfl (one_of HT_.out (by kernel_rfl)) (by decide) (fun K hK => ?_)
      refine Kd.S_append_step k107 (w0 := w) w.heap.size (by rfl) (.tmp 19) (.tmp 35) 38 107 (.agg #[(.string ⟨#[]⟩), (.slice none 0 0)]) 40 rfl Tryz.underlying38 info107 rfl (by decide) (by omega) u493001 x493001_1 (⟨(rd_T103 l0_2 x4_1).f0, t495⟩ : S107) [.string ((rd_T103 l0_2 x4_1).f0), .slice Ao25 t495.length co25] (fun k_ => some k_ ≠ (.slice Ao11 t486.length co11 : Value).ownBlock) (fun k_ => some k_ = (.slice Ao25 t495.length co25 : Value).ownBlock) rfl rfl ?aP (fun k_ hk_ => ((Kd.R_mono (ok' := fun k_ => ((fun k_ => some k_ ≠ (.slice Ao11 t486.length co11 : Value).ownBlock)) k_ ∧ some k_ ≠ (u493001 : Value).ownBlock) (Kd.R_apart' (Zs.out) (Kd.S_typed Zb.out) (by decide)) (fun k_ hk => ⟨hk.1.2, hk.2⟩))).1 k_ hk_.symm) ?aF ?aO ?aB ?aS ?aL ?_
      (case aP => exact k107_mkM _ _ _ (⟨(rd_T103 l0_2 x4_1).f0, t495⟩ : S107) (Kd.R_mono (Kd.R_tight rfl (Kd.R_mono (ok' := fun k_ => ((fun k_ => some k_ ≠ (.slice Ao11 t486.length co11 : Value).ownBlock)) k_ ∧ some k_ ≠ (u493001 : Value).ownBlock) (Kd.R_apart' (Zs.out) (Kd.S_typed Zb.out) (by decide)) (fun k_ hk => ⟨hk.1.2, hk.2⟩))) (fun _ h_ => h_)))
      (case aB => exact (zg_8 HB.out Zg.out Zi.out Zo.out))
      (case aF => exact (fun k_ hk => Kd.fresh' (Kd.R_lt (zg_6 Zd.out)) k_ hk))
      (case aO => exact (by (with_reducible repeat (first | apply Kd.S_alloc | apply Kd.S_drewN | apply Kd.S_drew)); exact Kd.S_mono Zb.out (fun k_ hk => ⟨hk.1, fun e_ => hk.2 e_⟩)))
      (case aS => exact (below_size (zg_8 HB.out Zg.out Zi.out Zo.out)))
      (case aL => have := LMc19.out; omega)
      intro v499 w26 ho hb hg hat
      rw [← Ny498.out] at ho
      have n0_ := zm (Kd.R_over' (zg_6 Zd.out) (Kd.S_typed (zg_7 Zb.out)) (by decide) hg)
      have n1_ := zm (blk_grown (g := gb484) (o := .cells #[.slice A0_0 l0_0.length c0_0, .slice A0_1 l0_1.length c0_1, .slice (some ad493) l0_2.length c0_2, .slice A0_3 l0_3.length c0_3] 26 (0, 0)) (zg_3 Za.out) hg (Kd.S_ne Zb.out Za.out (by decide)))
      have n2_ := zm (blk_grown (g := gb485) (o := .cells #[.slice none 0 0, .slice none 0 0] 40 (0, 0)) (zg_3 Ze.out) hg (Kd.S_ne Zb.out Ze.out (by decide)))
      have n3_ := zm (blk_grown (g := gb492) (o := .cells #[.slice Ao11 t486.length co11, u493001] 40 (0, 0)) (zg_3 Zc.out) hg (Kd.S_ne Zb.out Zc.out (by decide)))
      have n4_ := zm (hb)
      have n5_ := zm (ho)
      clear Zd
      clear Za
      clear Ze
      clear Zc
      clear HB
      clear Zb
      clear Zs
      have Zd := n0_
      have Za := n1_
      have Ze := n2_
      have Zc := n3_
      have HB := n4_
      have ZC := n5_
      clear n0_ n1_ n2_ n3_ n4_ n5_
      clear ho hb hg hat
      obtain ⟨Ao27, co27, eo27⟩ := Kd.S_slice ZC.out
      (first | subst eo27 | (injection eo27 with f1_ f2_ f3_; have f4_ := f1_.symm; have f5_ := f3_.symm; clear f1_ f2_ f3_; subst f4_; subst f5_))
      refine hK.out _ _ ⟨(blk_cell Zc.out 0).trans rfl, (blk_cell Zc.out 1).trans rfl, (blk_cell Za.out 0).trans rfl, (blk_cell Za.out 1).trans rfl, (blk_cell Za.out 2).trans rfl, (blk_cell Za.out 3).trans rfl, ((HB.out.cell (World.block_lt_of_cell? w _ hw493_0)).trans hw493_0), ((HB.out.cell (World.block_lt_of_cell? w _ hw493_1)).trans hw493_1), ((HB.out.cell (World.block_lt_of_cell? w _ hw494_0)).trans hw494_0), ((HB.out.cell (World.block_lt_of_cell? w _ hw494_1)).trans hw494_1)⟩ (fun hHeld => ?_)
      clear hK K
      refine norm_ (a' := ?_) ?_ ?_
      rotate_left
      ·show Act.put _ (some 36) _ = _
       simp only [Act.put, zs, zz, zt, i64_w, i32_w]
       rfl
      refine pure_ (i := 19) (N := some 37) (v := ?_) (a' := ?_) #[true, true, true, true, true, true, true, true, true, true, true, true, true, true, true, true, true, true, true, true, false] rfl rfl (any_of HT_.out (by kernel_rfl)) (fun _ _ _ h => h) (Or.inl ⟨by rfl, ?_⟩) ?_ ?_
      rotate_left
      ·intro w'
       go_simp
       with_reducible rfl
      rotate_left
      ·simp only [Act.put, zs, zz, zt, i64_w, i32_w]
       rfl
      refine last_ (i := 20) (N := none) #[true, true, true, true, true, true, true, true, true, true, true, true, true, true, true, true, true, true, true, true, true] rfl rfl (one_of HT_.out (by kernel_rfl)) (by decide) (fun K hK => ?_)
      have hs28 : w26.cell? ⟨gb492, 1, none⟩ = some (u493001) := (blk_cell Zc.out 1).trans rfl
      have hfs28 := blk_frozen Zc.out 1
      have hns28_0 := Zf.out
      have hns28_1 := Zh.out
      have hms28_0 := Zj.out
      have hms28_1 := Zn.out
      refine skip_ (w1 := ?_) (by rfl) rfl ?_ ?_
      rotate_left
      ·go_simp
       rfl
      refine hK.out _ _ ?_
      clear hK K
      refine done_ (done_of HT_.out (by kernel_rfl)) ?_
      try go_wp2
      go_roundg k1
      case measure => have := HK1.out; omega
      case rel => exact ⟨(wrap64 (x4_1 + 1)), (y498), (.slice Ao27 y498.length co27), zr, H', ⟨by have := HK1.out; omega⟩, ⟨by (with_reducible repeat (first | apply Kd.R_alloc | apply Kd.R_drewN | apply Kd.R_drew)); exact Kd.R_mono (Kd.R_far (p := ⟨gb492, 1, none⟩) (Kd.R_types Zd.out Zc.out (by decide)) (fun _ hk => hk.2) (.slice Ao27 y498.length co27)) (fun _ hk => trivial)⟩, ⟨by (with_reducible repeat (first | apply Kd.S_alloc | apply Kd.S_drewN | apply Kd.S_drew)); exact Kd.S_mono (Kd.S_far (p := ⟨gb492, 1, none⟩) (Kd.S_types ZC.out Zc.out (by decide)) (fun _ hk => hk.2) (.slice Ao27 y498.length co27)) (fun _ hk => hk.1)⟩, ⟨by (with_reducible repeat (first | refine blk_drewN ?_ _ | refine blk_drew ?_ | refine blk_alloc ?_ _)); refine blk_far ?_ Zf.out _; (with_reducible repeat (first | refine blk_drewN ?_ _ | refine blk_drew ?_ | refine blk_alloc ?_ _)); exact Za.out⟩, ⟨by (with_reducible repeat (first | refine blk_drewN ?_ _ | refine blk_drew ?_ | refine blk_alloc ?_ _)); refine blk_far ?_ Zh.out _; (with_reducible repeat (first | refine blk_drewN ?_ _ | refine blk_drew ?_ | refine blk_alloc ?_ _)); exact Ze.out⟩, ⟨by (with_reducible repeat (first | refine blk_drewN ?_ _ | refine blk_drew ?_ | refine blk_alloc ?_ _)); refine blk_put (cs := #[.slice Ao11 t486.length co11, u493001]) ?_ 1 _ rfl; (with_reducible repeat (first | refine blk_drewN ?_ _ | refine blk_drew ?_ | refine blk_alloc ?_ _)); exact Zc.out⟩, ⟨zg_8 HB.out Zg.out Zi.out Zo.out⟩⟩
     ·rw [if_neg c19] at H
      exact absurd H (by simp)
    ·rw [if_neg c17] at H
     exact absurd H (by simp)
   ·rw [if_neg c16] at H
    have c16b0 : decide (x4_1 < (l0_2.length : Int)) = false := decide_eq_false c16
    clear c16
    simp only [Option.some.injEq, Prod.mk.injEq] at H
    obtain ⟨rfl, rfl⟩ := H
    have hnb29 := Zl.out
    have hnc29 := Zm.out
    have hnb30 := Zf.out
    have hnc30 := Zj.out
    have hcz31_0 : wr.cell? ⟨gb484, 0, none⟩ = some (.slice A0_0 l0_0.length c0_0) := (blk_cell Za.out 0).trans rfl
    have hcz31_1 : wr.cell? ⟨gb484, 1, none⟩ = some (.slice A0_1 l0_1.length c0_1) := (blk_cell Za.out 1).trans rfl
    have hcz31_2 : wr.cell? ⟨gb484, 2, none⟩ = some (.slice A0_2 l0_2.length c0_2) := (blk_cell Za.out 2).trans rfl
    have hcz31_3 : wr.cell? ⟨gb484, 3, none⟩ = some (.slice A0_3 l0_3.length c0_3) := (blk_cell Za.out 3).trans rfl
    have hfz31_0 := blk_frozen Za.out 0
    have hfz31_1 := blk_frozen Za.out 1
    have hfz31_2 := blk_frozen Za.out 2
    have hfz31_3 := blk_frozen Za.out 3
    have hnb32 := Zn.out
    have hnc32 := Zh.out
    have hcz33_0 : wr.cell? ⟨gb492, 0, none⟩ = some (.slice Ao11 t486.length co11) := (blk_cell Zc.out 0).trans rfl
    have hcz33_1 : wr.cell? ⟨gb492, 1, none⟩ = some (u493001) := (blk_cell Zc.out 1).trans rfl
    have hfz33_0 := blk_frozen Zc.out 0
    have hfz33_1 := blk_frozen Zc.out 1
    have hcz34_0 : wr.cell? ⟨gb485, 0, none⟩ = some (.slice none 0 0) := (blk_cell Ze.out 0).trans rfl
    have hcz34_1 : wr.cell? ⟨gb485, 1, none⟩ = some (.slice none 0 0) := (blk_cell Ze.out 1).trans rfl
    have hfz34_0 := blk_frozen Ze.out 0
    have hfz34_1 := blk_frozen Ze.out 1
    obtain ⟨Ao35, co35, eo35⟩ := Kd.S_slice Zb.out
    subst eo35
    go_wp2
    refine bodyPost_ret (results_cell_row rfl _ _ gb485 40 #[.slice Ao11 t486.length co11, .slice Ao35 x493001_1.length co35] (0, 0) _ rfl (by (with_reducible repeat (first | refine blk_drewN ?_ _ | refine blk_drew ?_ | refine blk_alloc ?_ _)); refine blk_put (cs := #[.slice Ao11 t486.length co11, .slice none 0 0]) ?_ 1 _ rfl; (with_reducible repeat (first | refine blk_drewN ?_ _ | refine blk_drew ?_ | refine blk_alloc ?_ _)); refine blk_put (cs := #[.slice none 0 0, .slice none 0 0]) ?_ 0 _ rfl; (with_reducible repeat (first | refine blk_drewN ?_ _ | refine blk_drew ?_ | refine blk_alloc ?_ _)); exact Ze.out) Tryz.underlying40 rfl (by kernel_rfl)) rfl ?_
    exact ⟨_, _, by first | rfl | (simp [errW_none, errW_some] <;> rfl) | (simp [*, errW_none, errW_some] <;> rfl), by (with_reducible repeat (first | apply Kd.R_alloc | apply Kd.R_drewN | apply Kd.R_drew)); exact Kd.R_mono (Kd.R_far (p := ⟨gb485, 1, none⟩) (Kd.R_far (p := ⟨gb485, 0, none⟩) (Kd.R_types Zd.out Ze.out (by decide)) (fun _ hk => hk.2) (.slice Ao11 t486.length co11)) (fun _ hk => hk.2) (.slice Ao35 x493001_1.length co35)) (fun _ hk => trivial), by (with_reducible repeat (first | apply Kd.S_alloc | apply Kd.S_drewN | apply Kd.S_drew)); exact Kd.S_mono (Kd.S_far (p := ⟨gb485, 1, none⟩) (Kd.S_far (p := ⟨gb485, 0, none⟩) (Kd.S_types Zb.out Ze.out (by decide)) (fun _ hk => hk.2) (.slice Ao11 t486.length co11)) (fun _ hk => hk.2) (.slice Ao35 x493001_1.length co35)) (fun _ hk => hk.1), zg_8 HB.out Zg.out Zi.out Zo.out⟩
end Go.Proofs.YtglcnnmobkocmaaGreat.Q
