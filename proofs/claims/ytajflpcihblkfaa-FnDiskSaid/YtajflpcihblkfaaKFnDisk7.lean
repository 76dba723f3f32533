/- What laws.FnDisk reaches, part 7: the functions as Lean functions, the proofs that the program's functions answer so, and plain laws about them. -/
import Derived.Test.YtajflpcihblkfaaKFnDisk1
import Derived.Test.YtajflpcihblkfaaKFnDisk2
import Derived.Test.YtajflpcihblkfaaKFnDisk3
import Derived.Test.YtajflpcihblkfaaKFnDisk4
import Derived.Test.YtajflpcihblkfaaKFnDisk6
namespace Go.Proofs.Ytajflpcihblkfaa.Q
open Go.RowKit Go.Proofs.Ytajflpcihblkfaa.Ext Go.Proofs.YtajflpcihblkfaaW.PrintWords Go.Proofs.YtajflpcihblkfaaW.PrintLast Go.Proofs.YtajflpcihblkfaaW.PrintMore
attribute [local go_sem] max2_int min2_int max_two min_two max_three min_three max_four min_four   -- for this text's walks alone
set_option linter.unusedVariables false
set_option linter.unusedSimpArgs false

set_option linter.unusedVariables false
set_option linter.unusedSimpArgs false
/-! ### laws_FnDisk: function 7 -/
def laws_FnDisk.j0 : Nat → List Int → List Int → Bool → Option (Bool)
  | 0, _, _, _ => none
  | k + 1, x0, x1, x35 => if x35 = true then (some true) else ((spec_DiskOf.f k x0).bind fun bt861 => ((laws_at.f x1 0 4).bind fun t868 => ((laws_at.f x1 1 64).bind fun t869 => ((spec_TextOf.f k x1 6).bind fun t870 => ((impl_WriteSector.f bt861.1 bt861.2 t868 t869 t870).bind fun bt871 => ((impl_ReadSector.f bt871.1 bt871.2.1 t868 t869).bind fun bt879 => ((impl_ReadSector.f bt871.1 bt871.2.1 (Int.tmod (wrap64 (t868 + 1)) 4) t869).bind fun bt881 => ((impl_ReadSector.f bt861.1 bt861.2 (Int.tmod (wrap64 (t868 + 1)) 4) t869).bind fun bt883 => ((impl_Flush.f bt871.1 bt871.2.1 t868).bind fun bt885 => ((laws_at.f x1 2 4).bind fun t893 => ((impl_LoseHost.f bt885.1 bt885.2.1 t868 t893).bind fun bt894 => ((impl_ReadSector.f bt894.1 bt894.2.1 t868 t869).bind fun bt902 => ((spec_Flush.f k bt871.1 bt871.2.1 t868).bind fun bt904 => ((impl_PendingOf.f k bt885.1 bt885.2.1 t868).bind fun bt912 => (if bt871.2.2 = 0 then (if bt879.2 = 0 then (if bt879.1.toList = t870.toList then (if bt881.2 = 0 then (if bt883.2 = 0 then (if bt881.1.toList = bt883.1.toList then (if bt885.2.2 = 0 then ((laws_sameDisk.f k bt885.1 bt885.2.1 bt904.1 bt904.2.1).bind fun t914 => (if t914 = true then (if bt894.2.2 = 0 then (if bt902.2 = 0 then (if bt902.1.toList = t870.toList then (if bt912.2 = 0 then (if bt912.1 = 0 then ((impl_DiskOK.f bt894.1 bt894.2.1).bind fun t915 => (some t915)) else (some false)) else (some false)) else (some false)) else (some false)) else (some false)) else (some false))) else (some false)) else (some false)) else (some false)) else (some false)) else (some false)) else (some false)) else (some false))))))))))))))))
def laws_FnDisk.f (k : Nat) (l0 : List Int) (l1 : List Int) : Option (Bool) := if (l0.length : Int) > 1048576 then (laws_FnDisk.j0 k l0 l1 true) else (laws_FnDisk.j0 k l0 l1 (decide ((l1.length : Int) > 1048576)))
theorem laws_FnDisk.mono_l : ∀ k, (∀ y0 y1 y2, LeO (laws_FnDisk.j0 k y0 y1 y2) (laws_FnDisk.j0 (k + 1) y0 y1 y2))
  | 0 => fun _ _ _ r h => by simp [laws_FnDisk.j0] at h
  | k + 1 => by
    have ih0 := laws_FnDisk.mono_l k
    · intro y0 y1 y2
      unfold laws_FnDisk.j0
      repeat' first
      | (with_reducible exact ih0 _ _ _)
      | (with_reducible exact impl_PendingOf.mono _ _ _ _)
      | (with_reducible exact laws_sameDisk.mono _ _ _ _ _)
      | (with_reducible exact spec_DiskOf.mono _ _)
      | (with_reducible exact spec_Flush.mono _ _ _ _)
      | (with_reducible exact spec_TextOf.mono _ _ _)
      | (with_reducible exact LeO.refl _)
      | (with_reducible exact LeO.none _)
      | (with_reducible refine LeO.ite ?_ ?_)
      | (with_reducible refine LeO.bind ?_ (fun _ => ?_))
      | exact ih0 _ _ _
      | exact impl_PendingOf.mono _ _ _ _
      | exact laws_sameDisk.mono _ _ _ _ _
      | exact spec_DiskOf.mono _ _
      | exact spec_Flush.mono _ _ _ _
      | exact spec_TextOf.mono _ _ _
      | exact LeO.none _
      | refine LeO.ite ?_ ?_
      | refine LeO.bind ?_ (fun _ => ?_)
theorem laws_FnDisk.mono : ∀ a0 a1 k, LeO (laws_FnDisk.f k a0 a1) (laws_FnDisk.f (k + 1) a0 a1) := by
  intro a0 a1 k
  have ih0 := laws_FnDisk.mono_l k
  unfold laws_FnDisk.f
  repeat' first
      | (with_reducible exact ih0 _ _ _)
      | (with_reducible exact impl_PendingOf.mono _ _ _ _)
      | (with_reducible exact laws_sameDisk.mono _ _ _ _ _)
      | (with_reducible exact spec_DiskOf.mono _ _)
      | (with_reducible exact spec_Flush.mono _ _ _ _)
      | (with_reducible exact spec_TextOf.mono _ _ _)
      | (with_reducible exact LeO.refl _)
      | (with_reducible exact LeO.none _)
      | (with_reducible refine LeO.ite ?_ ?_)
      | (with_reducible refine LeO.bind ?_ (fun _ => ?_))
      | exact ih0 _ _ _
      | exact impl_PendingOf.mono _ _ _ _
      | exact laws_sameDisk.mono _ _ _ _ _
      | exact spec_DiskOf.mono _ _
      | exact spec_Flush.mono _ _ _ _
      | exact spec_TextOf.mono _ _ _
      | exact LeO.none _
      | refine LeO.ite ?_ ?_
      | refine LeO.bind ?_ (fun _ => ?_)
def laws_FnDisk.T13 : Bool × List (List Nat × List Nat) := (true, [([], []), ([], []), ([], []), ([2], [2]), ([0, 1, 3, 3], [0, 1, 3]), ([4], [4]), ([5], [5]), ([5], [5]), ([], []), ([8, 6, 4, 0, 1, 2, 3, 4, 5, 6, 8], [6, 8]), ([7, 9, 0, 1, 2, 3, 4, 5, 6, 7, 8, 9], [7])])
def laws_FnDisk.B13 : List Nat := [0, 0, 0, 4, 15, 31, 63, 63, 0, 383, 1023]
theorem laws_FnDisk.tab13 : rtab .any (opsOf Try.f7 13) = laws_FnDisk.T13 := by kernel_rfl
theorem laws_FnDisk.bits13 : waitsOk laws_FnDisk.T13.2 laws_FnDisk.B13 = true := by kernel_rfl
set_option maxHeartbeats 8000000 in
set_option maxRecDepth 100000 in
theorem laws_FnDisk.calls (k : Nat) (A0 : Option Addr) (c0 : Nat) (l0 : List Int) (A1 : Option Addr) (c1 : Nat) (l1 : List Int) (r : Bool) (w : World) (hr0 : Kd.C (Kd.int .u8) w A0 l0.length l0) (hc0 : l0.length ≤ c0) (hr1 : Kd.C (Kd.int .u8) w A1 l1.length l1) (hc1 : l1.length ≤ c1) (h : laws_FnDisk.f k l0 l1 = some r) (hr_ : Aside0 (r = true)) :
    Calls Try.prog 7 #[.slice A0 l0.length c0, .slice A1 l1.length c1] w fun e w' => e = .returned (.bool r) ∧ Below w.heap.size w w' := by
 have hu48 := Try.underlying48
 have HR0 := zm hr0
 have HC0 := zm hc0
 clear hr0 hc0
 have HR1 := zm hr1
 have HC1 := zm hc1
 clear hr1 hc1
 have HB := zm (Below.refl w.heap.size w)
 have H : (if (l0.length : Int) > 1048576 then (laws_FnDisk.j0 k l0 l1 true) else (laws_FnDisk.j0 k l0 l1 (decide ((l1.length : Int) > 1048576)))) = some r := h
 clear h
 have HC3 := zm H
 clear H
 go_enter Try.func7, Try.ntmps7
 go_upto_region 1 with (fail)
 go_cut [35] (fun v35 wc => ∃ (kq : Nat) (x35_2 : Bool), v35 = .bool x35_2 ∧ Aside0 (laws_FnDisk.j0 kq l0 l1 x35_2 = some r) ∧ Aside0 (kq ≤ k) ∧ Aside0 (Below w.heap.size w wc))
 case first =>
  have H := HC3.out
  clear HC3
  by_cases c4 : (l0.length : Int) > 1048576
  ·rw [if_pos c4] at H
   have c4b0 : decide (1048576 < (l0.length : Int)) = true := decide_eq_true c4
   have c4b1 : decide (1048576 < l0.length) = true := decide_eq_true (by omega)
   clear c4
   (first | rw [c4b0] | (simp only [i64_w, i32_w]; rw [c4b0]) | skip)
   have H' := zm H
   clear H
   go_wp2
   go_meet
   case rel => exact ⟨_, (true), zr, H', ⟨by first | omega | exact Nat.le_refl _⟩, ⟨zg_0 HB.out⟩⟩
  ·rw [if_neg c4] at H
   have c4b0 : decide (1048576 < (l0.length : Int)) = false := decide_eq_false c4
   have c4b1 : decide (1048576 < l0.length) = false := decide_eq_false (by omega)
   clear c4
   (first | rw [c4b0] | (simp only [i64_w, i32_w]; rw [c4b0]) | skip)
   have H' := zm H
   clear H
   go_wp2
   go_meet
   case rel => exact ⟨_, (decide ((l1.length : Int) > 1048576)), zr, H', ⟨by first | omega | exact Nat.le_refl _⟩, ⟨zg_0 HB.out⟩⟩
 case rest =>
  clear HC3
  try clear c1
  try clear p2
  try clear c4
  try clear c4b0
  try clear c4b1
  obtain ⟨kq, x35_2, rfl, HA, HJ2, HB⟩ := hcut
  cases kq with
  | zero => exact absurd HA.out (by simp [laws_FnDisk.j0])
  | succ kj2 =>
   have H := HA.out
   clear HA
   simp only [laws_FnDisk.j0] at H
   by_cases c5 : x35_2 = true
   ·subst c5
    have H1 : (some true) = some r := by rw [if_pos rfl] at H; exact H
    clear H
    have H := H1
    clear H1
    obtain rfl := Option.some.inj H
    go_wp2
    go_ret
    exact ⟨by first | rfl | (simp [errW_none, errW_some] <;> rfl) | (simp [*, errW_none, errW_some] <;> rfl), zg_0 HB.out⟩
   ·replace c5 := Bool.eq_false_iff.mpr c5
    subst c5
    have H1 : ((spec_DiskOf.f kj2 l0).bind fun bt861 => ((laws_at.f l1 0 4).bind fun t868 => ((laws_at.f l1 1 64).bind fun t869 => ((spec_TextOf.f kj2 l1 6).bind fun t870 => ((impl_WriteSector.f bt861.1 bt861.2 t868 t869 t870).bind fun bt871 => ((impl_ReadSector.f bt871.1 bt871.2.1 t868 t869).bind fun bt879 => ((impl_ReadSector.f bt871.1 bt871.2.1 (Int.tmod (wrap64 (t868 + 1)) 4) t869).bind fun bt881 => ((impl_ReadSector.f bt861.1 bt861.2 (Int.tmod (wrap64 (t868 + 1)) 4) t869).bind fun bt883 => ((impl_Flush.f bt871.1 bt871.2.1 t868).bind fun bt885 => ((laws_at.f l1 2 4).bind fun t893 => ((impl_LoseHost.f bt885.1 bt885.2.1 t868 t893).bind fun bt894 => ((impl_ReadSector.f bt894.1 bt894.2.1 t868 t869).bind fun bt902 => ((spec_Flush.f kj2 bt871.1 bt871.2.1 t868).bind fun bt904 => ((impl_PendingOf.f kj2 bt885.1 bt885.2.1 t868).bind fun bt912 => (if bt871.2.2 = 0 then (if bt879.2 = 0 then (if bt879.1.toList = t870.toList then (if bt881.2 = 0 then (if bt883.2 = 0 then (if bt881.1.toList = bt883.1.toList then (if bt885.2.2 = 0 then ((laws_sameDisk.f kj2 bt885.1 bt885.2.1 bt904.1 bt904.2.1).bind fun t914 => (if t914 = true then (if bt894.2.2 = 0 then (if bt902.2 = 0 then (if bt902.1.toList = t870.toList then (if bt912.2 = 0 then (if bt912.1 = 0 then ((impl_DiskOK.f bt894.1 bt894.2.1).bind fun t915 => (some t915)) else (some false)) else (some false)) else (some false)) else (some false)) else (some false)) else (some false))) else (some false)) else (some false)) else (some false)) else (some false)) else (some false)) else (some false)) else (some false)))))))))))))))) = some r := by rw [if_neg (show ¬ (false = true) by decide)] at H; exact H
    clear H
    have H := H1
    clear H1
    replace H := Option.bind_eq_some_iff.mp H
    obtain ⟨⟨t861, t864⟩, A60, H⟩ := H
    replace H : ((laws_at.f l1 0 4).bind fun t868 => ((laws_at.f l1 1 64).bind fun t869 => ((spec_TextOf.f kj2 l1 6).bind fun t870 => ((impl_WriteSector.f t861 t864 t868 t869 t870).bind fun bt871 => ((impl_ReadSector.f bt871.1 bt871.2.1 t868 t869).bind fun bt879 => ((impl_ReadSector.f bt871.1 bt871.2.1 (Int.tmod (wrap64 (t868 + 1)) 4) t869).bind fun bt881 => ((impl_ReadSector.f t861 t864 (Int.tmod (wrap64 (t868 + 1)) 4) t869).bind fun bt883 => ((impl_Flush.f bt871.1 bt871.2.1 t868).bind fun bt885 => ((laws_at.f l1 2 4).bind fun t893 => ((impl_LoseHost.f bt885.1 bt885.2.1 t868 t893).bind fun bt894 => ((impl_ReadSector.f bt894.1 bt894.2.1 t868 t869).bind fun bt902 => ((spec_Flush.f kj2 bt871.1 bt871.2.1 t868).bind fun bt904 => ((impl_PendingOf.f kj2 bt885.1 bt885.2.1 t868).bind fun bt912 => (if bt871.2.2 = 0 then (if bt879.2 = 0 then (if bt879.1.toList = t870.toList then (if bt881.2 = 0 then (if bt883.2 = 0 then (if bt881.1.toList = bt883.1.toList then (if bt885.2.2 = 0 then ((laws_sameDisk.f kj2 bt885.1 bt885.2.1 bt904.1 bt904.2.1).bind fun t914 => (if t914 = true then (if bt894.2.2 = 0 then (if bt902.2 = 0 then (if bt902.1.toList = t870.toList then (if bt912.2 = 0 then (if bt912.1 = 0 then ((impl_DiskOK.f bt894.1 bt894.2.1).bind fun t915 => (some t915)) else (some false)) else (some false)) else (some false)) else (some false)) else (some false)) else (some false))) else (some false)) else (some false)) else (some false)) else (some false)) else (some false)) else (some false)) else (some false))))))))))))))) = some r := H
    have A6 := zm A60
    clear A60
    replace H := Option.bind_eq_some_iff.mp H
    obtain ⟨t868, A70, H⟩ := H
    replace H : ((laws_at.f l1 1 64).bind fun t869 => ((spec_TextOf.f kj2 l1 6).bind fun t870 => ((impl_WriteSector.f t861 t864 t868 t869 t870).bind fun bt871 => ((impl_ReadSector.f bt871.1 bt871.2.1 t868 t869).bind fun bt879 => ((impl_ReadSector.f bt871.1 bt871.2.1 (Int.tmod (wrap64 (t868 + 1)) 4) t869).bind fun bt881 => ((impl_ReadSector.f t861 t864 (Int.tmod (wrap64 (t868 + 1)) 4) t869).bind fun bt883 => ((impl_Flush.f bt871.1 bt871.2.1 t868).bind fun bt885 => ((laws_at.f l1 2 4).bind fun t893 => ((impl_LoseHost.f bt885.1 bt885.2.1 t868 t893).bind fun bt894 => ((impl_ReadSector.f bt894.1 bt894.2.1 t868 t869).bind fun bt902 => ((spec_Flush.f kj2 bt871.1 bt871.2.1 t868).bind fun bt904 => ((impl_PendingOf.f kj2 bt885.1 bt885.2.1 t868).bind fun bt912 => (if bt871.2.2 = 0 then (if bt879.2 = 0 then (if bt879.1.toList = t870.toList then (if bt881.2 = 0 then (if bt883.2 = 0 then (if bt881.1.toList = bt883.1.toList then (if bt885.2.2 = 0 then ((laws_sameDisk.f kj2 bt885.1 bt885.2.1 bt904.1 bt904.2.1).bind fun t914 => (if t914 = true then (if bt894.2.2 = 0 then (if bt902.2 = 0 then (if bt902.1.toList = t870.toList then (if bt912.2 = 0 then (if bt912.1 = 0 then ((impl_DiskOK.f bt894.1 bt894.2.1).bind fun t915 => (some t915)) else (some false)) else (some false)) else (some false)) else (some false)) else (some false)) else (some false))) else (some false)) else (some false)) else (some false)) else (some false)) else (some false)) else (some false)) else (some false)))))))))))))) = some r := H
    have A7 := zm A70
    clear A70
    replace H := Option.bind_eq_some_iff.mp H
    obtain ⟨t869, A80, H⟩ := H
    replace H : ((spec_TextOf.f kj2 l1 6).bind fun t870 => ((impl_WriteSector.f t861 t864 t868 t869 t870).bind fun bt871 => ((impl_ReadSector.f bt871.1 bt871.2.1 t868 t869).bind fun bt879 => ((impl_ReadSector.f bt871.1 bt871.2.1 (Int.tmod (wrap64 (t868 + 1)) 4) t869).bind fun bt881 => ((impl_ReadSector.f t861 t864 (Int.tmod (wrap64 (t868 + 1)) 4) t869).bind fun bt883 => ((impl_Flush.f bt871.1 bt871.2.1 t868).bind fun bt885 => ((laws_at.f l1 2 4).bind fun t893 => ((impl_LoseHost.f bt885.1 bt885.2.1 t868 t893).bind fun bt894 => ((impl_ReadSector.f bt894.1 bt894.2.1 t868 t869).bind fun bt902 => ((spec_Flush.f kj2 bt871.1 bt871.2.1 t868).bind fun bt904 => ((impl_PendingOf.f kj2 bt885.1 bt885.2.1 t868).bind fun bt912 => (if bt871.2.2 = 0 then (if bt879.2 = 0 then (if bt879.1.toList = t870.toList then (if bt881.2 = 0 then (if bt883.2 = 0 then (if bt881.1.toList = bt883.1.toList then (if bt885.2.2 = 0 then ((laws_sameDisk.f kj2 bt885.1 bt885.2.1 bt904.1 bt904.2.1).bind fun t914 => (if t914 = true then (if bt894.2.2 = 0 then (if bt902.2 = 0 then (if bt902.1.toList = t870.toList then (if bt912.2 = 0 then (if bt912.1 = 0 then ((impl_DiskOK.f bt894.1 bt894.2.1).bind fun t915 => (some t915)) else (some false)) else (some false)) else (some false)) else (some false)) else (some false)) else (some false))) else (some false)) else (some false)) else (some false)) else (some false)) else (some false)) else (some false)) else (some false))))))))))))) = some r := H
    have A8 := zm A80
    clear A80
    replace H := Option.bind_eq_some_iff.mp H
    obtain ⟨t870, A90, H⟩ := H
    replace H : ((impl_WriteSector.f t861 t864 t868 t869 t870).bind fun bt871 => ((impl_ReadSector.f bt871.1 bt871.2.1 t868 t869).bind fun bt879 => ((impl_ReadSector.f bt871.1 bt871.2.1 (Int.tmod (wrap64 (t868 + 1)) 4) t869).bind fun bt881 => ((impl_ReadSector.f t861 t864 (Int.tmod (wrap64 (t868 + 1)) 4) t869).bind fun bt883 => ((impl_Flush.f bt871.1 bt871.2.1 t868).bind fun bt885 => ((laws_at.f l1 2 4).bind fun t893 => ((impl_LoseHost.f bt885.1 bt885.2.1 t868 t893).bind fun bt894 => ((impl_ReadSector.f bt894.1 bt894.2.1 t868 t869).bind fun bt902 => ((spec_Flush.f kj2 bt871.1 bt871.2.1 t868).bind fun bt904 => ((impl_PendingOf.f kj2 bt885.1 bt885.2.1 t868).bind fun bt912 => (if bt871.2.2 = 0 then (if bt879.2 = 0 then (if bt879.1.toList = t870.toList then (if bt881.2 = 0 then (if bt883.2 = 0 then (if bt881.1.toList = bt883.1.toList then (if bt885.2.2 = 0 then ((laws_sameDisk.f kj2 bt885.1 bt885.2.1 bt904.1 bt904.2.1).bind fun t914 => (if t914 = true then (if bt894.2.2 = 0 then (if bt902.2 = 0 then (if bt902.1.toList = t870.toList then (if bt912.2 = 0 then (if bt912.1 = 0 then ((impl_DiskOK.f bt894.1 bt894.2.1).bind fun t915 => (some t915)) else (some false)) else (some false)) else (some false)) else (some false)) else (some false)) else (some false))) else (some false)) else (some false)) else (some false)) else (some false)) else (some false)) else (some false)) else (some false)))))))))))) = some r := H
    have A9 := zm A90
    clear A90
    replace H := Option.bind_eq_some_iff.mp H
    obtain ⟨⟨t871, t874, t877⟩, A100, H⟩ := H
    replace H : ((impl_ReadSector.f t871 t874 t868 t869).bind fun bt879 => ((impl_ReadSector.f t871 t874 (Int.tmod (wrap64 (t868 + 1)) 4) t869).bind fun bt881 => ((impl_ReadSector.f t861 t864 (Int.tmod (wrap64 (t868 + 1)) 4) t869).bind fun bt883 => ((impl_Flush.f t871 t874 t868).bind fun bt885 => ((laws_at.f l1 2 4).bind fun t893 => ((impl_LoseHost.f bt885.1 bt885.2.1 t868 t893).bind fun bt894 => ((impl_ReadSector.f bt894.1 bt894.2.1 t868 t869).bind fun bt902 => ((spec_Flush.f kj2 t871 t874 t868).bind fun bt904 => ((impl_PendingOf.f kj2 bt885.1 bt885.2.1 t868).bind fun bt912 => (if t877 = 0 then (if bt879.2 = 0 then (if bt879.1.toList = t870.toList then (if bt881.2 = 0 then (if bt883.2 = 0 then (if bt881.1.toList = bt883.1.toList then (if bt885.2.2 = 0 then ((laws_sameDisk.f kj2 bt885.1 bt885.2.1 bt904.1 bt904.2.1).bind fun t914 => (if t914 = true then (if bt894.2.2 = 0 then (if bt902.2 = 0 then (if bt902.1.toList = t870.toList then (if bt912.2 = 0 then (if bt912.1 = 0 then ((impl_DiskOK.f bt894.1 bt894.2.1).bind fun t915 => (some t915)) else (some false)) else (some false)) else (some false)) else (some false)) else (some false)) else (some false))) else (some false)) else (some false)) else (some false)) else (some false)) else (some false)) else (some false)) else (some false))))))))))) = some r := H
    have A10 := zm A100
    clear A100
    replace H := Option.bind_eq_some_iff.mp H
    obtain ⟨⟨t879, t880⟩, A110, H⟩ := H
    replace H : ((impl_ReadSector.f t871 t874 (Int.tmod (wrap64 (t868 + 1)) 4) t869).bind fun bt881 => ((impl_ReadSector.f t861 t864 (Int.tmod (wrap64 (t868 + 1)) 4) t869).bind fun bt883 => ((impl_Flush.f t871 t874 t868).bind fun bt885 => ((laws_at.f l1 2 4).bind fun t893 => ((impl_LoseHost.f bt885.1 bt885.2.1 t868 t893).bind fun bt894 => ((impl_ReadSector.f bt894.1 bt894.2.1 t868 t869).bind fun bt902 => ((spec_Flush.f kj2 t871 t874 t868).bind fun bt904 => ((impl_PendingOf.f kj2 bt885.1 bt885.2.1 t868).bind fun bt912 => (if t877 = 0 then (if t880 = 0 then (if t879.toList = t870.toList then (if bt881.2 = 0 then (if bt883.2 = 0 then (if bt881.1.toList = bt883.1.toList then (if bt885.2.2 = 0 then ((laws_sameDisk.f kj2 bt885.1 bt885.2.1 bt904.1 bt904.2.1).bind fun t914 => (if t914 = true then (if bt894.2.2 = 0 then (if bt902.2 = 0 then (if bt902.1.toList = t870.toList then (if bt912.2 = 0 then (if bt912.1 = 0 then ((impl_DiskOK.f bt894.1 bt894.2.1).bind fun t915 => (some t915)) else (some false)) else (some false)) else (some false)) else (some false)) else (some false)) else (some false))) else (some false)) else (some false)) else (some false)) else (some false)) else (some false)) else (some false)) else (some false)))))))))) = some r := H
    have A11 := zm A110
    clear A110
    replace H := Option.bind_eq_some_iff.mp H
    obtain ⟨⟨t881, t882⟩, A120, H⟩ := H
    replace H : ((impl_ReadSector.f t861 t864 (Int.tmod (wrap64 (t868 + 1)) 4) t869).bind fun bt883 => ((impl_Flush.f t871 t874 t868).bind fun bt885 => ((laws_at.f l1 2 4).bind fun t893 => ((impl_LoseHost.f bt885.1 bt885.2.1 t868 t893).bind fun bt894 => ((impl_ReadSector.f bt894.1 bt894.2.1 t868 t869).bind fun bt902 => ((spec_Flush.f kj2 t871 t874 t868).bind fun bt904 => ((impl_PendingOf.f kj2 bt885.1 bt885.2.1 t868).bind fun bt912 => (if t877 = 0 then (if t880 = 0 then (if t879.toList = t870.toList then (if t882 = 0 then (if bt883.2 = 0 then (if t881.toList = bt883.1.toList then (if bt885.2.2 = 0 then ((laws_sameDisk.f kj2 bt885.1 bt885.2.1 bt904.1 bt904.2.1).bind fun t914 => (if t914 = true then (if bt894.2.2 = 0 then (if bt902.2 = 0 then (if bt902.1.toList = t870.toList then (if bt912.2 = 0 then (if bt912.1 = 0 then ((impl_DiskOK.f bt894.1 bt894.2.1).bind fun t915 => (some t915)) else (some false)) else (some false)) else (some false)) else (some false)) else (some false)) else (some false))) else (some false)) else (some false)) else (some false)) else (some false)) else (some false)) else (some false)) else (some false))))))))) = some r := H
    have A12 := zm A120
    clear A120
    replace H := Option.bind_eq_some_iff.mp H
    obtain ⟨⟨t883, t884⟩, A130, H⟩ := H
    replace H : ((impl_Flush.f t871 t874 t868).bind fun bt885 => ((laws_at.f l1 2 4).bind fun t893 => ((impl_LoseHost.f bt885.1 bt885.2.1 t868 t893).bind fun bt894 => ((impl_ReadSector.f bt894.1 bt894.2.1 t868 t869).bind fun bt902 => ((spec_Flush.f kj2 t871 t874 t868).bind fun bt904 => ((impl_PendingOf.f kj2 bt885.1 bt885.2.1 t868).bind fun bt912 => (if t877 = 0 then (if t880 = 0 then (if t879.toList = t870.toList then (if t882 = 0 then (if t884 = 0 then (if t881.toList = t883.toList then (if bt885.2.2 = 0 then ((laws_sameDisk.f kj2 bt885.1 bt885.2.1 bt904.1 bt904.2.1).bind fun t914 => (if t914 = true then (if bt894.2.2 = 0 then (if bt902.2 = 0 then (if bt902.1.toList = t870.toList then (if bt912.2 = 0 then (if bt912.1 = 0 then ((impl_DiskOK.f bt894.1 bt894.2.1).bind fun t915 => (some t915)) else (some false)) else (some false)) else (some false)) else (some false)) else (some false)) else (some false))) else (some false)) else (some false)) else (some false)) else (some false)) else (some false)) else (some false)) else (some false)))))))) = some r := H
    have A13 := zm A130
    clear A130
    replace H := Option.bind_eq_some_iff.mp H
    obtain ⟨⟨t885, t888, t891⟩, A140, H⟩ := H
    replace H : ((laws_at.f l1 2 4).bind fun t893 => ((impl_LoseHost.f t885 t888 t868 t893).bind fun bt894 => ((impl_ReadSector.f bt894.1 bt894.2.1 t868 t869).bind fun bt902 => ((spec_Flush.f kj2 t871 t874 t868).bind fun bt904 => ((impl_PendingOf.f kj2 t885 t888 t868).bind fun bt912 => (if t877 = 0 then (if t880 = 0 then (if t879.toList = t870.toList then (if t882 = 0 then (if t884 = 0 then (if t881.toList = t883.toList then (if t891 = 0 then ((laws_sameDisk.f kj2 t885 t888 bt904.1 bt904.2.1).bind fun t914 => (if t914 = true then (if bt894.2.2 = 0 then (if bt902.2 = 0 then (if bt902.1.toList = t870.toList then (if bt912.2 = 0 then (if bt912.1 = 0 then ((impl_DiskOK.f bt894.1 bt894.2.1).bind fun t915 => (some t915)) else (some false)) else (some false)) else (some false)) else (some false)) else (some false)) else (some false))) else (some false)) else (some false)) else (some false)) else (some false)) else (some false)) else (some false)) else (some false))))))) = some r := H
    have A14 := zm A140
    clear A140
    replace H := Option.bind_eq_some_iff.mp H
    obtain ⟨t893, A150, H⟩ := H
    replace H : ((impl_LoseHost.f t885 t888 t868 t893).bind fun bt894 => ((impl_ReadSector.f bt894.1 bt894.2.1 t868 t869).bind fun bt902 => ((spec_Flush.f kj2 t871 t874 t868).bind fun bt904 => ((impl_PendingOf.f kj2 t885 t888 t868).bind fun bt912 => (if t877 = 0 then (if t880 = 0 then (if t879.toList = t870.toList then (if t882 = 0 then (if t884 = 0 then (if t881.toList = t883.toList then (if t891 = 0 then ((laws_sameDisk.f kj2 t885 t888 bt904.1 bt904.2.1).bind fun t914 => (if t914 = true then (if bt894.2.2 = 0 then (if bt902.2 = 0 then (if bt902.1.toList = t870.toList then (if bt912.2 = 0 then (if bt912.1 = 0 then ((impl_DiskOK.f bt894.1 bt894.2.1).bind fun t915 => (some t915)) else (some false)) else (some false)) else (some false)) else (some false)) else (some false)) else (some false))) else (some false)) else (some false)) else (some false)) else (some false)) else (some false)) else (some false)) else (some false)))))) = some r := H
    have A15 := zm A150
    clear A150
    replace H := Option.bind_eq_some_iff.mp H
    obtain ⟨⟨t894, t897, t900⟩, A160, H⟩ := H
    replace H : ((impl_ReadSector.f t894 t897 t868 t869).bind fun bt902 => ((spec_Flush.f kj2 t871 t874 t868).bind fun bt904 => ((impl_PendingOf.f kj2 t885 t888 t868).bind fun bt912 => (if t877 = 0 then (if t880 = 0 then (if t879.toList = t870.toList then (if t882 = 0 then (if t884 = 0 then (if t881.toList = t883.toList then (if t891 = 0 then ((laws_sameDisk.f kj2 t885 t888 bt904.1 bt904.2.1).bind fun t914 => (if t914 = true then (if t900 = 0 then (if bt902.2 = 0 then (if bt902.1.toList = t870.toList then (if bt912.2 = 0 then (if bt912.1 = 0 then ((impl_DiskOK.f t894 t897).bind fun t915 => (some t915)) else (some false)) else (some false)) else (some false)) else (some false)) else (some false)) else (some false))) else (some false)) else (some false)) else (some false)) else (some false)) else (some false)) else (some false)) else (some false))))) = some r := H
    have A16 := zm A160
    clear A160
    replace H := Option.bind_eq_some_iff.mp H
    obtain ⟨⟨t902, t903⟩, A170, H⟩ := H
    replace H : ((spec_Flush.f kj2 t871 t874 t868).bind fun bt904 => ((impl_PendingOf.f kj2 t885 t888 t868).bind fun bt912 => (if t877 = 0 then (if t880 = 0 then (if t879.toList = t870.toList then (if t882 = 0 then (if t884 = 0 then (if t881.toList = t883.toList then (if t891 = 0 then ((laws_sameDisk.f kj2 t885 t888 bt904.1 bt904.2.1).bind fun t914 => (if t914 = true then (if t900 = 0 then (if t903 = 0 then (if t902.toList = t870.toList then (if bt912.2 = 0 then (if bt912.1 = 0 then ((impl_DiskOK.f t894 t897).bind fun t915 => (some t915)) else (some false)) else (some false)) else (some false)) else (some false)) else (some false)) else (some false))) else (some false)) else (some false)) else (some false)) else (some false)) else (some false)) else (some false)) else (some false)))) = some r := H
    have A17 := zm A170
    clear A170
    replace H := Option.bind_eq_some_iff.mp H
    obtain ⟨⟨t904, t907, t910⟩, A180, H⟩ := H
    replace H : ((impl_PendingOf.f kj2 t885 t888 t868).bind fun bt912 => (if t877 = 0 then (if t880 = 0 then (if t879.toList = t870.toList then (if t882 = 0 then (if t884 = 0 then (if t881.toList = t883.toList then (if t891 = 0 then ((laws_sameDisk.f kj2 t885 t888 t904 t907).bind fun t914 => (if t914 = true then (if t900 = 0 then (if t903 = 0 then (if t902.toList = t870.toList then (if bt912.2 = 0 then (if bt912.1 = 0 then ((impl_DiskOK.f t894 t897).bind fun t915 => (some t915)) else (some false)) else (some false)) else (some false)) else (some false)) else (some false)) else (some false))) else (some false)) else (some false)) else (some false)) else (some false)) else (some false)) else (some false)) else (some false))) = some r := H
    have A18 := zm A180
    clear A180
    replace H := Option.bind_eq_some_iff.mp H
    obtain ⟨⟨t912, t913⟩, A190, H⟩ := H
    replace H : (if t877 = 0 then (if t880 = 0 then (if t879.toList = t870.toList then (if t882 = 0 then (if t884 = 0 then (if t881.toList = t883.toList then (if t891 = 0 then ((laws_sameDisk.f kj2 t885 t888 t904 t907).bind fun t914 => (if t914 = true then (if t900 = 0 then (if t903 = 0 then (if t902.toList = t870.toList then (if t913 = 0 then (if t912 = 0 then ((impl_DiskOK.f t894 t897).bind fun t915 => (some t915)) else (some false)) else (some false)) else (some false)) else (some false)) else (some false)) else (some false))) else (some false)) else (some false)) else (some false)) else (some false)) else (some false)) else (some false)) else (some false)) = some r := H
    have A19 := zm A190
    clear A190
    by_cases c20 : t877 = 0
    ·rw [if_pos c20] at H
     have c20b0 : (t877 == 0) = true := beq_iff_eq.mpr c20
     have c20b1 : (t877 != 0) = false := bne_eq_false_iff_eq.mpr c20
     clear c20
     by_cases c21 : t880 = 0
     ·rw [if_pos c21] at H
      have c21b0 : (t880 == 0) = true := beq_iff_eq.mpr c21
      have c21b1 : (t880 != 0) = false := bne_eq_false_iff_eq.mpr c21
      clear c21
      by_cases c22 : t879.toList = t870.toList
      ·rw [if_pos c22] at H
       have c22b0 : (t879.toList == t870.toList) = true := beq_iff_eq.mpr c22
       have c22b1 : (t879.toList != t870.toList) = false := bne_eq_false_iff_eq.mpr c22
       clear c22
       by_cases c23 : t882 = 0
       ·rw [if_pos c23] at H
        have c23b0 : (t882 == 0) = true := beq_iff_eq.mpr c23
        have c23b1 : (t882 != 0) = false := bne_eq_false_iff_eq.mpr c23
        clear c23
        by_cases c24 : t884 = 0
        ·rw [if_pos c24] at H
         have c24b0 : (t884 == 0) = true := beq_iff_eq.mpr c24
         have c24b1 : (t884 != 0) = false := bne_eq_false_iff_eq.mpr c24
         clear c24
         by_cases c25 : t881.toList = t883.toList
         ·rw [if_pos c25] at H
          have c25b0 : (t881.toList == t883.toList) = true := beq_iff_eq.mpr c25
          have c25b1 : (t881.toList != t883.toList) = false := bne_eq_false_iff_eq.mpr c25
          clear c25
          by_cases c26 : t891 = 0
          ·rw [if_pos c26] at H
           have c26b0 : (t891 == 0) = true := beq_iff_eq.mpr c26
           have c26b1 : (t891 != 0) = false := bne_eq_false_iff_eq.mpr c26
           clear c26
           replace H := Option.bind_eq_some_iff.mp H
           obtain ⟨t914, A270, H⟩ := H
           replace H : (if t914 = true then (if t900 = 0 then (if t903 = 0 then (if t902.toList = t870.toList then (if t913 = 0 then (if t912 = 0 then ((impl_DiskOK.f t894 t897).bind fun t915 => (some t915)) else (some false)) else (some false)) else (some false)) else (some false)) else (some false)) else (some false)) = some r := H
           have A27 := zm A270
           clear A270
           by_cases c28 : t914 = true
           ·subst c28
            have H1 : (if t900 = 0 then (if t903 = 0 then (if t902.toList = t870.toList then (if t913 = 0 then (if t912 = 0 then ((impl_DiskOK.f t894 t897).bind fun t915 => (some t915)) else (some false)) else (some false)) else (some false)) else (some false)) else (some false)) = some r := by rw [if_pos rfl] at H; exact H
            clear H
            have H := H1
            clear H1
            by_cases c29 : t900 = 0
            ·rw [if_pos c29] at H
             have c29b0 : (t900 == 0) = true := beq_iff_eq.mpr c29
             have c29b1 : (t900 != 0) = false := bne_eq_false_iff_eq.mpr c29
             clear c29
             by_cases c30 : t903 = 0
             ·rw [if_pos c30] at H
              have c30b0 : (t903 == 0) = true := beq_iff_eq.mpr c30
              have c30b1 : (t903 != 0) = false := bne_eq_false_iff_eq.mpr c30
              clear c30
              by_cases c31 : t902.toList = t870.toList
              ·rw [if_pos c31] at H
               have c31b0 : (t902.toList == t870.toList) = true := beq_iff_eq.mpr c31
               have c31b1 : (t902.toList != t870.toList) = false := bne_eq_false_iff_eq.mpr c31
               clear c31
               by_cases c32 : t913 = 0
               ·rw [if_pos c32] at H
                have c32b0 : (t913 == 0) = true := beq_iff_eq.mpr c32
                have c32b1 : (t913 != 0) = false := bne_eq_false_iff_eq.mpr c32
                clear c32
                by_cases c33 : t912 = 0
                ·rw [if_pos c33] at H
                 have c33b0 : (t912 == 0) = true := beq_iff_eq.mpr c33
                 have c33b1 : (t912 != 0) = false := bne_eq_false_iff_eq.mpr c33
                 clear c33
                 replace H := Option.bind_eq_some_iff.mp H
                 obtain ⟨t915, A340, H⟩ := H
                 replace H : (some t915) = some r := H
                 have A34 := zm A340
                 clear A340
                 obtain rfl := Option.some.inj H
                 try go_wp2_with (first | ((with_reducible refine gate_callee (f := 24) rfl ?_); refine goesL_ (some 37) rfl rfl Try.func24 (by kernel_rfl) rfl #[.slice A0 l0.length c0] rfl zq ?_; (with_reducible refine (spec_DiskOf.calls kj2 _ _ l0 t861 t864 _ ?side1 ?side2 A6.out).mono ?_); (case side1 => repeat (first | exact (Kd.C_below HR0.out HB.out) | (with_reducible refine Kd.C_alloc ?_ _) | (with_reducible refine Kd.C_drewN ?_ _) | (with_reducible refine Kd.C_drew ?_))); (case side2 => exact HC0.out); rintro e w35 ⟨v862, v865, rfl, ho0, ho1, hb⟩; refine ⟨_, rfl, ?_⟩; have n0_ := zm (Kd.R_lower ho0 (below_size (zg_0 HB.out))); have n1_ := zm (Kd.R_lower ho1 (below_size (zg_0 HB.out))); have n2_ := zm (below_step (zg_0 HB.out) hb); clear HB; have Zd := n0_; have Ze := n1_; have HB := n2_; clear n0_ n1_ n2_; (try clear hb); (try clear hb2); (try clear hk); (try clear hi); (try clear ho0); (try clear ho1)) | ((with_reducible refine gate_dst (N := 5) rfl ?_); (try (refine gate_guard (by rfl) ?_; dsimp only)); refine box_event ?hg (N := 5) ?hd (cs := #[.slice none 0 0, .slice none 0 0]) (t := 48) ?hr ?_; (case hd => rfl); (case hg => rfl); (case hr => first | (go_simp; done) | (go_simp; rfl)); intro gb867 hg w36 hbox hb; have n0_ := zm (Kd.R_below (zg_4 Zd.out) hb); have n1_ := zm (Kd.R_below (zg_4 Ze.out) hb); have n2_ := zm (below_step (zg_0 HB.out) hb); have n3_ := zm (hbox); have n4_ := zm ((by rw [hg]; exact (below_size (zg_0 HB.out)) : w.heap.size ≤ gb867)); have n5_ := zm ((by rw [hg]; exact (below_size (zg_0 HB.out)) : w.heap.size ≤ gb867)); clear Zd; clear Ze; clear HB; have Zd := n0_; have Ze := n1_; have HB := n2_; have Za := n3_; have ZP := n4_; have Zk := n5_; clear n0_ n1_ n2_ n3_ n4_ n5_; clear hb hbox hg; obtain ⟨Ao37, co37, eo37⟩ := Kd.R_slice Zd.out; subst eo37; have hcz38_0 : w36.cell? ⟨gb867, 0, none⟩ = some (.slice none 0 0) := (blk_cell Za.out 0).trans rfl; have hcz38_1 : w36.cell? ⟨gb867, 1, none⟩ = some (.slice none 0 0) := (blk_cell Za.out 1).trans rfl; have hfz38_0 := blk_frozen Za.out 0; have hfz38_1 := blk_frozen Za.out 1; obtain ⟨Ao39, co39, eo39⟩ := Kd.R_slice Ze.out; subst eo39) | ((with_reducible refine gate_callee (f := 13) rfl ?_); refine goesL_ (some 39) rfl rfl Try.func13 (by kernel_rfl) rfl #[.slice A1 l1.length c1, .int .i64 0, .int .i64 4] rfl zq ?_; (with_reducible refine (laws_at.calls _ _ l1 0 4 t868 _ ?side1 ?side2 A7.out).mono ?_); (case side1 => exact Kd.C_below HR1.out (zg_1 HB.out Zk.out)); (case side2 => exact HC1.out); rintro e w' ⟨rfl, ⟨nd, rfl⟩⟩; refine ⟨_, rfl, ?_⟩) | ((with_reducible refine gate_callee (f := 13) rfl ?_); refine goesL_ (some 41) rfl rfl Try.func13 (by kernel_rfl) rfl #[.slice A1 l1.length c1, .int .i64 1, .int .i64 64] rfl zq ?_; (with_reducible refine (laws_at.calls _ _ l1 1 64 t869 _ ?side1 ?side2 A8.out).mono ?_); (case side1 => exact Kd.C_below HR1.out (zg_1 HB.out Zk.out)); (case side2 => exact HC1.out); rintro e w' ⟨rfl, ⟨nd, rfl⟩⟩; refine ⟨_, rfl, ?_⟩) | ((with_reducible refine gate_callee (f := 37) rfl ?_); refine goesL_ (some 43) rfl rfl Try.func37 (by kernel_rfl) rfl #[.slice A1 l1.length c1, .int .i64 6] rfl zq ?_; (with_reducible refine (spec_TextOf.calls kj2 _ _ l1 6 t870 _ ?side1 ?side2 A9.out).mono ?_); (case side1 => exact Kd.C_below HR1.out (zg_1 HB.out Zk.out)); (case side2 => exact HC1.out); rintro e w40 ⟨rfl, hb⟩; refine ⟨_, rfl, ?_⟩; have n0_ := zm (Kd.R_below (by (with_reducible repeat (first | apply Kd.R_alloc | apply Kd.R_drewN | apply Kd.R_drew)); exact (Kd.R_mono (Kd.R_far (p := ⟨gb867, 1, none⟩) (Kd.R_far (p := ⟨gb867, 0, none⟩) (Kd.R_types Zd.out Za.out (by decide)) (fun _ hk => hk.2) (.slice Ao37 t861.length co37)) (fun _ hk => hk.2) (.slice Ao39 t864.length co39)) (fun _ h_ => h_.1))) hb); have n1_ := zm (Kd.R_below (by (with_reducible repeat (first | apply Kd.R_alloc | apply Kd.R_drewN | apply Kd.R_drew)); exact (Kd.R_mono (Kd.R_far (p := ⟨gb867, 1, none⟩) (Kd.R_far (p := ⟨gb867, 0, none⟩) (Kd.R_types Ze.out Za.out (by decide)) (fun _ hk => hk.2) (.slice Ao37 t861.length co37)) (fun _ hk => hk.2) (.slice Ao39 t864.length co39)) (fun _ h_ => h_.1))) hb); have n2_ := zm (blk_below (g := gb867) (o := .cells #[.slice Ao37 t861.length co37, .slice Ao39 t864.length co39] 48 (0, 0)) (by (with_reducible repeat (first | refine blk_drewN ?_ _ | refine blk_drew ?_ | refine blk_alloc ?_ _)); refine blk_put (cs := #[.slice Ao37 t861.length co37, .slice none 0 0]) ?_ 1 _ rfl; (with_reducible repeat (first | refine blk_drewN ?_ _ | refine blk_drew ?_ | refine blk_alloc ?_ _)); refine blk_put (cs := #[.slice none 0 0, .slice none 0 0]) ?_ 0 _ rfl; (with_reducible repeat (first | refine blk_drewN ?_ _ | refine blk_drew ?_ | refine blk_alloc ?_ _)); exact Za.out) hb); have n3_ := zm (below_step (zg_1 HB.out Zk.out) hb); clear Zd; clear Ze; clear Za; clear HB; have Zd := n0_; have Ze := n1_; have Za := n2_; have HB := n3_; clear n0_ n1_ n2_ n3_; (try clear hb); (try clear hb2); (try clear hk); (try clear hi); have hcz41_0 : w40.cell? ⟨gb867, 0, none⟩ = some (.slice Ao37 t861.length co37) := (blk_cell Za.out 0).trans rfl; have hcz41_1 : w40.cell? ⟨gb867, 1, none⟩ = some (.slice Ao39 t864.length co39) := (blk_cell Za.out 1).trans rfl; have hfz41_0 := blk_frozen Za.out 0; have hfz41_1 := blk_frozen Za.out 1) | ((with_reducible refine gate_callee (f := 38) rfl ?_); refine goesL_ (some 49) rfl rfl Try.func38 (by kernel_rfl) rfl #[.agg #[.slice Ao37 t861.length co37, .slice Ao39 t864.length co39], .int .i64 t868, .int .i64 t869, .string t870] rfl zq ?_; (with_reducible refine (impl_WriteSector.calls _ _ t861 _ _ t864 t868 t869 t870 t871 t874 t877 _ ?side1 ?side2 ?side3 ?side4 A10.out).mono ?_); (case side1 => repeat (first | exact (Kd.R_reads' Zd.out).2.2 | (with_reducible refine Kd.C_alloc ?_ _) | (with_reducible refine Kd.C_drewN ?_ _) | (with_reducible refine Kd.C_drew ?_))); (case side2 => exact (Kd.R_reads' Zd.out).2.1); (case side3 => repeat (first | exact (Kd.R_reads' Ze.out).2.2 | (with_reducible refine Kd.C_alloc ?_ _) | (with_reducible refine Kd.C_drewN ?_ _) | (with_reducible refine Kd.C_drew ?_))); (case side4 => exact (Kd.R_reads' Ze.out).2.1); rintro e w42 ⟨v872, v875, rfl, ho0, ho1, hb⟩; refine ⟨_, rfl, ?_⟩; have n0_ := zm (Kd.R_elder' (zg_4 Zd.out) (Kd.R_base ho0) hb); have n1_ := zm (Kd.R_elder' (zg_4 Ze.out) (Kd.R_base ho1) hb); have n2_ := zm (Kd.R_lower (Kd.R_new' ho0 (Kd.R_lt (zg_4 Zd.out))) (below_size (zg_1 HB.out Zk.out))); have n3_ := zm (Kd.R_lower (Kd.R_new' ho1 (Kd.R_lt (zg_4 Ze.out))) (below_size (zg_1 HB.out Zk.out))); have n4_ := zm (blk_below (g := gb867) (o := .cells #[.slice Ao37 t861.length co37, .slice Ao39 t864.length co39] 48 (0, 0)) (zg_2 Za.out) hb); have n5_ := zm (below_step (zg_1 HB.out Zk.out) hb); clear Zd; clear Ze; clear Za; clear HB; have Zd := n0_; have Ze := n1_; have Zf := n2_; have Zg := n3_; have Za := n4_; have HB := n5_; clear n0_ n1_ n2_ n3_ n4_ n5_; (try clear hb); (try clear hb2); (try clear hk); (try clear hi); (try clear ho0); (try clear ho1)) | ((with_reducible refine gate_dst (N := 9) rfl ?_); (try (refine gate_guard (by rfl) ?_; dsimp only)); refine box_event ?hg (N := 9) ?hd (cs := #[.slice none 0 0, .slice none 0 0]) (t := 48) ?hr ?_; (case hd => rfl); (case hg => rfl); (case hr => first | (go_simp; done) | (go_simp; rfl)); intro gb878 hg w43 hbox hb; have n0_ := zm (Kd.R_below (zg_4 Zd.out) hb); have n1_ := zm (Kd.R_below (zg_4 Ze.out) hb); have n2_ := zm (Kd.R_below (zg_4 Zf.out) hb); have n3_ := zm (Kd.R_below (zg_4 Zg.out) hb); have n4_ := zm (blk_below (g := gb867) (o := .cells #[.slice Ao37 t861.length co37, .slice Ao39 t864.length co39] 48 (0, 0)) (zg_2 Za.out) hb); have n5_ := zm (below_step (zg_1 HB.out Zk.out) hb); have n6_ := zm (hbox); have n7_ := zm ((by rw [hg]; exact (below_size (zg_1 HB.out Zk.out)) : w.heap.size ≤ gb878)); have n8_ := zm ((by rw [hg]; exact (below_size (zg_1 HB.out Zk.out)) : w.heap.size ≤ gb878)); have n9_ := zm ((by rw [hg]; exact Nat.ne_of_lt (blk_lt (g := gb867) (o := .cells #[.slice Ao37 t861.length co37, .slice Ao39 t864.length co39] 48 (0, 0)) (zg_2 Za.out)) : gb867 ≠ gb878)); have n10_ := zm ((by rw [hg]; exact Nat.ne_of_gt (blk_lt (g := gb867) (o := .cells #[.slice Ao37 t861.length co37, .slice Ao39 t864.length co39] 48 (0, 0)) (zg_2 Za.out)) : gb878 ≠ gb867)); clear Zd; clear Ze; clear Zf; clear Zg; clear Za; clear HB; have Zd := n0_; have Ze := n1_; have Zf := n2_; have Zg := n3_; have Za := n4_; have HB := n5_; have Zb := n6_; have ZQ := n7_; have Zl := n8_; have Zz := n9_; have ZI := n10_; clear n0_ n1_ n2_ n3_ n4_ n5_ n6_ n7_ n8_ n9_ n10_; clear hb hbox hg; obtain ⟨Ao44, co44, eo44⟩ := Kd.R_slice Zf.out; subst eo44; have hnb45 := ZI.out; have hnc45 := Zz.out; have hcz46_0 : w43.cell? ⟨gb878, 0, none⟩ = some (.slice none 0 0) := (blk_cell Zb.out 0).trans rfl; have hcz46_1 : w43.cell? ⟨gb878, 1, none⟩ = some (.slice none 0 0) := (blk_cell Zb.out 1).trans rfl; have hfz46_0 := blk_frozen Zb.out 0; have hfz46_1 := blk_frozen Zb.out 1; obtain ⟨Ao47, co47, eo47⟩ := Kd.R_slice Zg.out; subst eo47) | ((with_reducible refine gate_callee (f := 39) rfl ?_); refine goesL_ (some 56) rfl rfl Try.func39 (by kernel_rfl) rfl #[.agg #[.slice Ao44 t871.length co44, .slice Ao47 t874.length co47], .int .i64 t868, .int .i64 t869] rfl zq ?_; (with_reducible refine (impl_ReadSector.calls _ _ t871 _ _ t874 t868 t869 t879 t880 _ ?side1 ?side2 ?side3 ?side4 A11.out).mono ?_); (case side1 => refine (Kd.R_reads' (e := 9) (base := w.heap.size) (ok := fun k_ => (True ∧ some k_ ≠ (.slice Ao37 t861.length co37 : Value).ownBlock)) (n := t871.length) (c := co44) ?_).2.2; exact (by (with_reducible repeat (first | apply Kd.R_alloc | apply Kd.R_drewN | apply Kd.R_drew)); exact (Kd.R_mono (Kd.R_far (p := ⟨gb878, 1, none⟩) (Kd.R_far (p := ⟨gb878, 0, none⟩) (Kd.R_types Zf.out Zb.out (by decide)) (fun _ hk => hk.2) (.slice Ao44 t871.length co44)) (fun _ hk => hk.2) (.slice Ao47 t874.length co47)) (fun _ h_ => h_.1)))); (case side2 => exact (Kd.R_reads' Zf.out).2.1); (case side3 => refine (Kd.R_reads' (e := 92) (base := w.heap.size) (ok := fun k_ => (True ∧ some k_ ≠ (.slice Ao39 t864.length co39 : Value).ownBlock)) (n := t874.length) (c := co47) ?_).2.2; exact (by (with_reducible repeat (first | apply Kd.R_alloc | apply Kd.R_drewN | apply Kd.R_drew)); exact (Kd.R_mono (Kd.R_far (p := ⟨gb878, 1, none⟩) (Kd.R_far (p := ⟨gb878, 0, none⟩) (Kd.R_types Zg.out Zb.out (by decide)) (fun _ hk => hk.2) (.slice Ao44 t871.length co44)) (fun _ hk => hk.2) (.slice Ao47 t874.length co47)) (fun _ h_ => h_.1)))); (case side4 => exact (Kd.R_reads' Zg.out).2.1); rintro e w48 ⟨rfl, hb⟩; refine ⟨_, rfl, ?_⟩; have n0_ := zm (Kd.R_below (by (with_reducible repeat (first | apply Kd.R_alloc | apply Kd.R_drewN | apply Kd.R_drew)); exact (Kd.R_mono (Kd.R_far (p := ⟨gb878, 1, none⟩) (Kd.R_far (p := ⟨gb878, 0, none⟩) (Kd.R_types Zd.out Zb.out (by decide)) (fun _ hk => hk.2) (.slice Ao44 t871.length co44)) (fun _ hk => hk.2) (.slice Ao47 t874.length co47)) (fun _ h_ => h_.1))) hb); have n1_ := zm (Kd.R_below (by (with_reducible repeat (first | apply Kd.R_alloc | apply Kd.R_drewN | apply Kd.R_drew)); exact (Kd.R_mono (Kd.R_far (p := ⟨gb878, 1, none⟩) (Kd.R_far (p := ⟨gb878, 0, none⟩) (Kd.R_types Ze.out Zb.out (by decide)) (fun _ hk => hk.2) (.slice Ao44 t871.length co44)) (fun _ hk => hk.2) (.slice Ao47 t874.length co47)) (fun _ h_ => h_.1))) hb); have n2_ := zm (Kd.R_below (by (with_reducible repeat (first | apply Kd.R_alloc | apply Kd.R_drewN | apply Kd.R_drew)); exact (Kd.R_mono (Kd.R_far (p := ⟨gb878, 1, none⟩) (Kd.R_far (p := ⟨gb878, 0, none⟩) (Kd.R_types Zf.out Zb.out (by decide)) (fun _ hk => hk.2) (.slice Ao44 t871.length co44)) (fun _ hk => hk.2) (.slice Ao47 t874.length co47)) (fun _ h_ => h_.1))) hb); have n3_ := zm (Kd.R_below (by (with_reducible repeat (first | apply Kd.R_alloc | apply Kd.R_drewN | apply Kd.R_drew)); exact (Kd.R_mono (Kd.R_far (p := ⟨gb878, 1, none⟩) (Kd.R_far (p := ⟨gb878, 0, none⟩) (Kd.R_types Zg.out Zb.out (by decide)) (fun _ hk => hk.2) (.slice Ao44 t871.length co44)) (fun _ hk => hk.2) (.slice Ao47 t874.length co47)) (fun _ h_ => h_.1))) hb); have n4_ := zm (blk_below (g := gb867) (o := .cells #[.slice Ao37 t861.length co37, .slice Ao39 t864.length co39] 48 (0, 0)) (by (with_reducible repeat (first | refine blk_drewN ?_ _ | refine blk_drew ?_ | refine blk_alloc ?_ _)); refine blk_far ?_ Zz.out _; (with_reducible repeat (first | refine blk_drewN ?_ _ | refine blk_drew ?_ | refine blk_alloc ?_ _)); refine blk_far ?_ Zz.out _; (with_reducible repeat (first | refine blk_drewN ?_ _ | refine blk_drew ?_ | refine blk_alloc ?_ _)); exact Za.out) hb); have n5_ := zm (blk_below (g := gb878) (o := .cells #[.slice Ao44 t871.length co44, .slice Ao47 t874.length co47] 48 (0, 0)) (by (with_reducible repeat (first | refine blk_drewN ?_ _ | refine blk_drew ?_ | refine blk_alloc ?_ _)); refine blk_put (cs := #[.slice Ao44 t871.length co44, .slice none 0 0]) ?_ 1 _ rfl; (with_reducible repeat (first | refine blk_drewN ?_ _ | refine blk_drew ?_ | refine blk_alloc ?_ _)); refine blk_put (cs := #[.slice none 0 0, .slice none 0 0]) ?_ 0 _ rfl; (with_reducible repeat (first | refine blk_drewN ?_ _ | refine blk_drew ?_ | refine blk_alloc ?_ _)); exact Zb.out) hb); have n6_ := zm (below_step (zg_3 HB.out Zk.out Zl.out) hb); clear Zd; clear Ze; clear Zf; clear Zg; clear Za; clear Zb; clear HB; have Zd := n0_; have Ze := n1_; have Zf := n2_; have Zg := n3_; have Za := n4_; have Zb := n5_; have HB := n6_; clear n0_ n1_ n2_ n3_ n4_ n5_ n6_; (try clear hb); (try clear hb2); (try clear hk); (try clear hi); have hcz49_0 : w48.cell? ⟨gb878, 0, none⟩ = some (.slice Ao44 t871.length co44) := (blk_cell Zb.out 0).trans rfl; have hcz49_1 : w48.cell? ⟨gb878, 1, none⟩ = some (.slice Ao47 t874.length co47) := (blk_cell Zb.out 1).trans rfl; have hfz49_0 := blk_frozen Zb.out 0; have hfz49_1 := blk_frozen Zb.out 1) | ((with_reducible refine gate_callee (f := 39) rfl ?_); refine goesL_ (some 66) rfl rfl Try.func39 (by kernel_rfl) rfl #[.agg #[.slice Ao44 t871.length co44, .slice Ao47 t874.length co47], .int .i64 (Int.tmod (wrap64 (t868 + 1)) 4), .int .i64 t869] rfl zq ?_; (with_reducible refine (impl_ReadSector.calls _ _ t871 _ _ t874 (Int.tmod (wrap64 (t868 + 1)) 4) t869 t881 t882 _ ?side1 ?side2 ?side3 ?side4 A12.out).mono ?_); (case side1 => repeat (first | exact (Kd.R_reads' Zf.out).2.2 | (with_reducible refine Kd.C_alloc ?_ _) | (with_reducible refine Kd.C_drewN ?_ _) | (with_reducible refine Kd.C_drew ?_))); (case side2 => exact (Kd.R_reads' Zf.out).2.1); (case side3 => repeat (first | exact (Kd.R_reads' Zg.out).2.2 | (with_reducible refine Kd.C_alloc ?_ _) | (with_reducible refine Kd.C_drewN ?_ _) | (with_reducible refine Kd.C_drew ?_))); (case side4 => exact (Kd.R_reads' Zg.out).2.1); rintro e w50 ⟨rfl, hb⟩; refine ⟨_, rfl, ?_⟩; have n0_ := zm (Kd.R_below (zg_4 Zd.out) hb); have n1_ := zm (Kd.R_below (zg_4 Ze.out) hb); have n2_ := zm (Kd.R_below (zg_4 Zf.out) hb); have n3_ := zm (Kd.R_below (zg_4 Zg.out) hb); have n4_ := zm (blk_below (g := gb867) (o := .cells #[.slice Ao37 t861.length co37, .slice Ao39 t864.length co39] 48 (0, 0)) (zg_2 Za.out) hb); have n5_ := zm (blk_below (g := gb878) (o := .cells #[.slice Ao44 t871.length co44, .slice Ao47 t874.length co47] 48 (0, 0)) (zg_2 Zb.out) hb); have n6_ := zm (below_step (zg_3 HB.out Zk.out Zl.out) hb); clear Zd; clear Ze; clear Zf; clear Zg; clear Za; clear Zb; clear HB; have Zd := n0_; have Ze := n1_; have Zf := n2_; have Zg := n3_; have Za := n4_; have Zb := n5_; have HB := n6_; clear n0_ n1_ n2_ n3_ n4_ n5_ n6_; (try clear hb); (try clear hb2); (try clear hk); (try clear hi); have hcz51_0 : w50.cell? ⟨gb867, 0, none⟩ = some (.slice Ao37 t861.length co37) := (blk_cell Za.out 0).trans rfl; have hcz51_1 : w50.cell? ⟨gb867, 1, none⟩ = some (.slice Ao39 t864.length co39) := (blk_cell Za.out 1).trans rfl; have hfz51_0 := blk_frozen Za.out 0; have hfz51_1 := blk_frozen Za.out 1) | ((with_reducible refine gate_callee (f := 39) rfl ?_); refine goesL_ (some 73) rfl rfl Try.func39 (by kernel_rfl) rfl #[.agg #[.slice Ao37 t861.length co37, .slice Ao39 t864.length co39], .int .i64 (Int.tmod (wrap64 (t868 + 1)) 4), .int .i64 t869] rfl zq ?_; (with_reducible refine (impl_ReadSector.calls _ _ t861 _ _ t864 (Int.tmod (wrap64 (t868 + 1)) 4) t869 t883 t884 _ ?side1 ?side2 ?side3 ?side4 A13.out).mono ?_); (case side1 => repeat (first | exact (Kd.R_reads' Zd.out).2.2 | (with_reducible refine Kd.C_alloc ?_ _) | (with_reducible refine Kd.C_drewN ?_ _) | (with_reducible refine Kd.C_drew ?_))); (case side2 => exact (Kd.R_reads' Zd.out).2.1); (case side3 => repeat (first | exact (Kd.R_reads' Ze.out).2.2 | (with_reducible refine Kd.C_alloc ?_ _) | (with_reducible refine Kd.C_drewN ?_ _) | (with_reducible refine Kd.C_drew ?_))); (case side4 => exact (Kd.R_reads' Ze.out).2.1); rintro e w52 ⟨rfl, hb⟩; refine ⟨_, rfl, ?_⟩; have n0_ := zm (Kd.R_below (zg_4 Zd.out) hb); have n1_ := zm (Kd.R_below (zg_4 Ze.out) hb); have n2_ := zm (Kd.R_below (zg_4 Zf.out) hb); have n3_ := zm (Kd.R_below (zg_4 Zg.out) hb); have n4_ := zm (blk_below (g := gb867) (o := .cells #[.slice Ao37 t861.length co37, .slice Ao39 t864.length co39] 48 (0, 0)) (zg_2 Za.out) hb); have n5_ := zm (blk_below (g := gb878) (o := .cells #[.slice Ao44 t871.length co44, .slice Ao47 t874.length co47] 48 (0, 0)) (zg_2 Zb.out) hb); have n6_ := zm (below_step (zg_3 HB.out Zk.out Zl.out) hb); clear Zd; clear Ze; clear Zf; clear Zg; clear Za; clear Zb; clear HB; have Zd := n0_; have Ze := n1_; have Zf := n2_; have Zg := n3_; have Za := n4_; have Zb := n5_; have HB := n6_; clear n0_ n1_ n2_ n3_ n4_ n5_ n6_; (try clear hb); (try clear hb2); (try clear hk); (try clear hi); have hcz53_0 : w52.cell? ⟨gb878, 0, none⟩ = some (.slice Ao44 t871.length co44) := (blk_cell Zb.out 0).trans rfl; have hcz53_1 : w52.cell? ⟨gb878, 1, none⟩ = some (.slice Ao47 t874.length co47) := (blk_cell Zb.out 1).trans rfl; have hfz53_0 := blk_frozen Zb.out 0; have hfz53_1 := blk_frozen Zb.out 1) | ((with_reducible refine gate_callee (f := 40) rfl ?_); refine goesL_ (some 79) rfl rfl Try.func40 (by kernel_rfl) rfl #[.agg #[.slice Ao44 t871.length co44, .slice Ao47 t874.length co47], .int .i64 t868] rfl zq ?_; (with_reducible refine (impl_Flush.calls _ _ t871 _ _ t874 t868 t885 t888 t891 _ ?side1 ?side2 ?side3 ?side4 A14.out).mono ?_); (case side1 => repeat (first | exact (Kd.R_reads' Zf.out).2.2 | (with_reducible refine Kd.C_alloc ?_ _) | (with_reducible refine Kd.C_drewN ?_ _) | (with_reducible refine Kd.C_drew ?_))); (case side2 => exact (Kd.R_reads' Zf.out).2.1); (case side3 => repeat (first | exact (Kd.R_reads' Zg.out).2.2 | (with_reducible refine Kd.C_alloc ?_ _) | (with_reducible refine Kd.C_drewN ?_ _) | (with_reducible refine Kd.C_drew ?_))); (case side4 => exact (Kd.R_reads' Zg.out).2.1); rintro e w54 ⟨v886, v889, rfl, ho0, ho1, hb⟩; refine ⟨_, rfl, ?_⟩; have n0_ := zm (Kd.R_elder' (zg_4 Zd.out) (Kd.R_base ho0) hb); have n1_ := zm (Kd.R_elder' (zg_4 Ze.out) (Kd.R_base ho1) hb); have n2_ := zm (Kd.R_elder' (zg_4 Zf.out) (Kd.R_base ho0) hb); have n3_ := zm (Kd.R_elder' (zg_4 Zg.out) (Kd.R_base ho1) hb); have n4_ := zm (Kd.R_lower (Kd.R_new' (Kd.R_new' ho0 (Kd.R_lt (zg_4 Zd.out))) (Kd.R_lt (zg_4 Zf.out))) (below_size (zg_3 HB.out Zk.out Zl.out))); have n5_ := zm (Kd.R_lower (Kd.R_new' (Kd.R_new' ho1 (Kd.R_lt (zg_4 Ze.out))) (Kd.R_lt (zg_4 Zg.out))) (below_size (zg_3 HB.out Zk.out Zl.out))); have n6_ := zm (blk_below (g := gb867) (o := .cells #[.slice Ao37 t861.length co37, .slice Ao39 t864.length co39] 48 (0, 0)) (zg_2 Za.out) hb); have n7_ := zm (blk_below (g := gb878) (o := .cells #[.slice Ao44 t871.length co44, .slice Ao47 t874.length co47] 48 (0, 0)) (zg_2 Zb.out) hb); have n8_ := zm (below_step (zg_3 HB.out Zk.out Zl.out) hb); clear Zd; clear Ze; clear Zf; clear Zg; clear Za; clear Zb; clear HB; have Zd := n0_; have Ze := n1_; have Zf := n2_; have Zg := n3_; have Zh := n4_; have Zi := n5_; have Za := n6_; have Zb := n7_; have HB := n8_; clear n0_ n1_ n2_ n3_ n4_ n5_ n6_ n7_ n8_; (try clear hb); (try clear hb2); (try clear hk); (try clear hi); (try clear ho0); (try clear ho1)) | ((with_reducible refine gate_dst (N := 18) rfl ?_); (try (refine gate_guard (by rfl) ?_; dsimp only)); refine box_event ?hg (N := 18) ?hd (cs := #[.slice none 0 0, .slice none 0 0]) (t := 48) ?hr ?_; (case hd => rfl); (case hg => rfl); (case hr => first | (go_simp; done) | (go_simp; rfl)); intro gb892 hg w55 hbox hb; have n0_ := zm (Kd.R_below (zg_4 Zd.out) hb); have n1_ := zm (Kd.R_below (zg_4 Ze.out) hb); have n2_ := zm (Kd.R_below (zg_4 Zf.out) hb); have n3_ := zm (Kd.R_below (zg_4 Zg.out) hb); have n4_ := zm (Kd.R_below (zg_4 Zh.out) hb); have n5_ := zm (Kd.R_below (zg_4 Zi.out) hb); have n6_ := zm (blk_below (g := gb867) (o := .cells #[.slice Ao37 t861.length co37, .slice Ao39 t864.length co39] 48 (0, 0)) (zg_2 Za.out) hb); have n7_ := zm (blk_below (g := gb878) (o := .cells #[.slice Ao44 t871.length co44, .slice Ao47 t874.length co47] 48 (0, 0)) (zg_2 Zb.out) hb); have n8_ := zm (below_step (zg_3 HB.out Zk.out Zl.out) hb); have n9_ := zm (hbox); have n10_ := zm ((by rw [hg]; exact (below_size (zg_3 HB.out Zk.out Zl.out)) : w.heap.size ≤ gb892)); have n11_ := zm ((by rw [hg]; exact (below_size (zg_3 HB.out Zk.out Zl.out)) : w.heap.size ≤ gb892)); have n12_ := zm ((by rw [hg]; exact Nat.ne_of_lt (blk_lt (g := gb867) (o := .cells #[.slice Ao37 t861.length co37, .slice Ao39 t864.length co39] 48 (0, 0)) (zg_2 Za.out)) : gb867 ≠ gb892)); have n13_ := zm ((by rw [hg]; exact Nat.ne_of_gt (blk_lt (g := gb867) (o := .cells #[.slice Ao37 t861.length co37, .slice Ao39 t864.length co39] 48 (0, 0)) (zg_2 Za.out)) : gb892 ≠ gb867)); have n14_ := zm ((by rw [hg]; exact Nat.ne_of_lt (blk_lt (g := gb878) (o := .cells #[.slice Ao44 t871.length co44, .slice Ao47 t874.length co47] 48 (0, 0)) (zg_2 Zb.out)) : gb878 ≠ gb892)); have n15_ := zm ((by rw [hg]; exact Nat.ne_of_gt (blk_lt (g := gb878) (o := .cells #[.slice Ao44 t871.length co44, .slice Ao47 t874.length co47] 48 (0, 0)) (zg_2 Zb.out)) : gb892 ≠ gb878)); clear Zd; clear Ze; clear Zf; clear Zg; clear Zh; clear Zi; clear Za; clear Zb; clear HB; have Zd := n0_; have Ze := n1_; have Zf := n2_; have Zg := n3_; have Zh := n4_; have Zi := n5_; have Za := n6_; have Zb := n7_; have HB := n8_; have Zc := n9_; have ZR := n10_; have Zn := n11_; have ZA := n12_; have ZJ := n13_; have ZB := n14_; have ZK := n15_; clear n0_ n1_ n2_ n3_ n4_ n5_ n6_ n7_ n8_ n9_ n10_ n11_ n12_ n13_ n14_ n15_; clear hb hbox hg; obtain ⟨Ao56, co56, eo56⟩ := Kd.R_slice Zh.out; subst eo56; have hnb57 := ZJ.out; have hnc57 := ZA.out; have hnb58 := ZK.out; have hnc58 := ZB.out; have hcz59_0 : w55.cell? ⟨gb892, 0, none⟩ = some (.slice none 0 0) := (blk_cell Zc.out 0).trans rfl; have hcz59_1 : w55.cell? ⟨gb892, 1, none⟩ = some (.slice none 0 0) := (blk_cell Zc.out 1).trans rfl; have hfz59_0 := blk_frozen Zc.out 0; have hfz59_1 := blk_frozen Zc.out 1; obtain ⟨Ao60, co60, eo60⟩ := Kd.R_slice Zi.out; subst eo60))
                 have n0_ : Aside0 (Kd.R Kd.string 9 ((w55.setCell ⟨gb892, 0, none⟩ (.slice Ao56 t885.length co56)).setCell ⟨gb892, 1, none⟩ (.slice Ao60 t888.length co60)) w.heap.size (fun k_ => some k_ ≠ (.slice Ao44 t871.length co44 : Value).ownBlock ∧ some k_ ≠ (.slice Ao56 t885.length co56 : Value).ownBlock) (.slice Ao37 t861.length co37) t861) := ⟨by (with_reducible repeat (first | apply Kd.R_alloc | apply Kd.R_drewN | apply Kd.R_drew)); exact Kd.R_mono (Kd.R_far (p := ⟨gb892, 1, none⟩) (Kd.R_far (p := ⟨gb892, 0, none⟩) (Kd.R_types Zd.out Zc.out (by decide)) (fun _ hk => hk.2) (.slice Ao56 t885.length co56)) (fun _ hk => hk.2) (.slice Ao60 t888.length co60)) (fun _ hk => ⟨hk.1.1.2, hk.1.2⟩)⟩
                 have n1_ : Aside0 (Kd.R k92 92 ((w55.setCell ⟨gb892, 0, none⟩ (.slice Ao56 t885.length co56)).setCell ⟨gb892, 1, none⟩ (.slice Ao60 t888.length co60)) w.heap.size (fun k_ => some k_ ≠ (.slice Ao47 t874.length co47 : Value).ownBlock ∧ some k_ ≠ (.slice Ao60 t888.length co60 : Value).ownBlock) (.slice Ao39 t864.length co39) t864) := ⟨by (with_reducible repeat (first | apply Kd.R_alloc | apply Kd.R_drewN | apply Kd.R_drew)); exact Kd.R_mono (Kd.R_far (p := ⟨gb892, 1, none⟩) (Kd.R_far (p := ⟨gb892, 0, none⟩) (Kd.R_types Ze.out Zc.out (by decide)) (fun _ hk => hk.2) (.slice Ao56 t885.length co56)) (fun _ hk => hk.2) (.slice Ao60 t888.length co60)) (fun _ hk => ⟨hk.1.1.2, hk.1.2⟩)⟩
                 have n2_ : Aside0 (Kd.R Kd.string 9 ((w55.setCell ⟨gb892, 0, none⟩ (.slice Ao56 t885.length co56)).setCell ⟨gb892, 1, none⟩ (.slice Ao60 t888.length co60)) w.heap.size (fun k_ => some k_ ≠ (.slice Ao37 t861.length co37 : Value).ownBlock ∧ some k_ ≠ (.slice Ao56 t885.length co56 : Value).ownBlock) (.slice Ao44 t871.length co44) t871) := ⟨by (with_reducible repeat (first | apply Kd.R_alloc | apply Kd.R_drewN | apply Kd.R_drew)); exact Kd.R_mono (Kd.R_far (p := ⟨gb892, 1, none⟩) (Kd.R_far (p := ⟨gb892, 0, none⟩) (Kd.R_types Zf.out Zc.out (by decide)) (fun _ hk => hk.2) (.slice Ao56 t885.length co56)) (fun _ hk => hk.2) (.slice Ao60 t888.length co60)) (fun _ hk => ⟨hk.1.1.2, hk.1.2⟩)⟩
                 have n3_ : Aside0 (Kd.R k92 92 ((w55.setCell ⟨gb892, 0, none⟩ (.slice Ao56 t885.length co56)).setCell ⟨gb892, 1, none⟩ (.slice Ao60 t888.length co60)) w.heap.size (fun k_ => some k_ ≠ (.slice Ao39 t864.length co39 : Value).ownBlock ∧ some k_ ≠ (.slice Ao60 t888.length co60 : Value).ownBlock) (.slice Ao47 t874.length co47) t874) := ⟨by (with_reducible repeat (first | apply Kd.R_alloc | apply Kd.R_drewN | apply Kd.R_drew)); exact Kd.R_mono (Kd.R_far (p := ⟨gb892, 1, none⟩) (Kd.R_far (p := ⟨gb892, 0, none⟩) (Kd.R_types Zg.out Zc.out (by decide)) (fun _ hk => hk.2) (.slice Ao56 t885.length co56)) (fun _ hk => hk.2) (.slice Ao60 t888.length co60)) (fun _ hk => ⟨hk.1.1.2, hk.1.2⟩)⟩
                 have n4_ : Aside0 (Kd.R Kd.string 9 ((w55.setCell ⟨gb892, 0, none⟩ (.slice Ao56 t885.length co56)).setCell ⟨gb892, 1, none⟩ (.slice Ao60 t888.length co60)) w.heap.size (fun k_ => some k_ ≠ (.slice Ao37 t861.length co37 : Value).ownBlock ∧ some k_ ≠ (.slice Ao44 t871.length co44 : Value).ownBlock) (.slice Ao56 t885.length co56) t885) := ⟨by (with_reducible repeat (first | apply Kd.R_alloc | apply Kd.R_drewN | apply Kd.R_drew)); exact Kd.R_mono (Kd.R_far (p := ⟨gb892, 1, none⟩) (Kd.R_far (p := ⟨gb892, 0, none⟩) (Kd.R_types Zh.out Zc.out (by decide)) (fun _ hk => hk.2) (.slice Ao56 t885.length co56)) (fun _ hk => hk.2) (.slice Ao60 t888.length co60)) (fun _ hk => ⟨hk.1.1.2, hk.1.2⟩)⟩
                 have n5_ : Aside0 (Kd.R k92 92 ((w55.setCell ⟨gb892, 0, none⟩ (.slice Ao56 t885.length co56)).setCell ⟨gb892, 1, none⟩ (.slice Ao60 t888.length co60)) w.heap.size (fun k_ => some k_ ≠ (.slice Ao39 t864.length co39 : Value).ownBlock ∧ some k_ ≠ (.slice Ao47 t874.length co47 : Value).ownBlock) (.slice Ao60 t888.length co60) t888) := ⟨by (with_reducible repeat (first | apply Kd.R_alloc | apply Kd.R_drewN | apply Kd.R_drew)); exact Kd.R_mono (Kd.R_far (p := ⟨gb892, 1, none⟩) (Kd.R_far (p := ⟨gb892, 0, none⟩) (Kd.R_types Zi.out Zc.out (by decide)) (fun _ hk => hk.2) (.slice Ao56 t885.length co56)) (fun _ hk => hk.2) (.slice Ao60 t888.length co60)) (fun _ hk => ⟨hk.1.1.2, hk.1.2⟩)⟩
                 have n6_ : Aside0 (((w55.setCell ⟨gb892, 0, none⟩ (.slice Ao56 t885.length co56)).setCell ⟨gb892, 1, none⟩ (.slice Ao60 t888.length co60)).heap[gb867]? = some (.cells #[.slice Ao37 t861.length co37, .slice Ao39 t864.length co39] 48 (0, 0))) := ⟨by (with_reducible repeat (first | refine blk_drewN ?_ _ | refine blk_drew ?_ | refine blk_alloc ?_ _)); refine blk_far ?_ ZA.out _; (with_reducible repeat (first | refine blk_drewN ?_ _ | refine blk_drew ?_ | refine blk_alloc ?_ _)); refine blk_far ?_ ZA.out _; (with_reducible repeat (first | refine blk_drewN ?_ _ | refine blk_drew ?_ | refine blk_alloc ?_ _)); exact Za.out⟩
                 have n7_ : Aside0 (((w55.setCell ⟨gb892, 0, none⟩ (.slice Ao56 t885.length co56)).setCell ⟨gb892, 1, none⟩ (.slice Ao60 t888.length co60)).heap[gb878]? = some (.cells #[.slice Ao44 t871.length co44, .slice Ao47 t874.length co47] 48 (0, 0))) := ⟨by (with_reducible repeat (first | refine blk_drewN ?_ _ | refine blk_drew ?_ | refine blk_alloc ?_ _)); refine blk_far ?_ ZB.out _; (with_reducible repeat (first | refine blk_drewN ?_ _ | refine blk_drew ?_ | refine blk_alloc ?_ _)); refine blk_far ?_ ZB.out _; (with_reducible repeat (first | refine blk_drewN ?_ _ | refine blk_drew ?_ | refine blk_alloc ?_ _)); exact Zb.out⟩
                 have n8_ : Aside0 (((w55.setCell ⟨gb892, 0, none⟩ (.slice Ao56 t885.length co56)).setCell ⟨gb892, 1, none⟩ (.slice Ao60 t888.length co60)).heap[gb892]? = some (.cells #[.slice Ao56 t885.length co56, .slice Ao60 t888.length co60] 48 (0, 0))) := ⟨by (with_reducible repeat (first | refine blk_drewN ?_ _ | refine blk_drew ?_ | refine blk_alloc ?_ _)); refine blk_put (cs := #[.slice Ao56 t885.length co56, .slice none 0 0]) ?_ 1 _ rfl; (with_reducible repeat (first | refine blk_drewN ?_ _ | refine blk_drew ?_ | refine blk_alloc ?_ _)); refine blk_put (cs := #[.slice none 0 0, .slice none 0 0]) ?_ 0 _ rfl; (with_reducible repeat (first | refine blk_drewN ?_ _ | refine blk_drew ?_ | refine blk_alloc ?_ _)); exact Zc.out⟩
                 have n9_ : Aside0 (Below w.heap.size w ((w55.setCell ⟨gb892, 0, none⟩ (.slice Ao56 t885.length co56)).setCell ⟨gb892, 1, none⟩ (.slice Ao60 t888.length co60))) := ⟨zg_5 HB.out Zk.out Zl.out Zn.out⟩
                 (try clear Zd)
                 (try clear Ze)
                 (try clear Zf)
                 (try clear Zg)
                 (try clear Zh)
                 (try clear Zi)
                 (try clear Za)
                 (try clear Zb)
                 (try clear Zc)
                 (try clear HB)
                 generalize ((w55.setCell ⟨gb892, 0, none⟩ (.slice Ao56 t885.length co56)).setCell ⟨gb892, 1, none⟩ (.slice Ao60 t888.length co60)) = w61 at n0_ n1_ n2_ n3_ n4_ n5_ n6_ n7_ n8_ n9_ ⊢
                 have Zd := n0_
                 have Ze := n1_
                 have Zf := n2_
                 have Zg := n3_
                 have Zh := n4_
                 have Zi := n5_
                 have Za := n6_
                 have Zb := n7_
                 have Zc := n8_
                 have HB := n9_
                 clear n0_ n1_ n2_ n3_ n4_ n5_ n6_ n7_ n8_ n9_
                 have n0_ := zm (Kd.R_drew Zd.out)
                 have n1_ := zm (Kd.R_drew Ze.out)
                 have n2_ := zm (Kd.R_drew Zf.out)
                 have n3_ := zm (Kd.R_drew Zg.out)
                 have n4_ := zm (Kd.R_drew Zh.out)
                 have n5_ := zm (Kd.R_drew Zi.out)
                 have n6_ := zm (blk_drew Za.out)
                 have n7_ := zm (blk_drew Zb.out)
                 have n8_ := zm (blk_drew Zc.out)
                 have n9_ := zm (below_drew1 HB.out)
                 clear Zd
                 clear Ze
                 clear Zf
                 clear Zg
                 clear Zh
                 clear Zi
                 clear Za
                 clear Zb
                 clear Zc
                 clear HB
                 have Zd := n0_
                 have Ze := n1_
                 have Zf := n2_
                 have Zg := n3_
                 have Zh := n4_
                 have Zi := n5_
                 have Za := n6_
                 have Zb := n7_
                 have Zc := n8_
                 have HB := n9_
                 clear n0_ n1_ n2_ n3_ n4_ n5_ n6_ n7_ n8_ n9_
                 refine start_ (n := 11) (S := fun w' => w'.cell? ⟨gb892, 0, none⟩ = some (.slice Ao56 t885.length co56) ∧ w'.cell? ⟨gb892, 1, none⟩ = some (.slice Ao60 t888.length co60)) (ds := []) #[false, false, false, false, false, false, false, false, false, false, false] (by kernel_rfl) rfl rfl ⟨(blk_cell Zc.out 0).trans rfl, (blk_cell Zc.out 1).trans rfl⟩ (fun hHeld => ?_); refine with_tabW laws_FnDisk.tab13 laws_FnDisk.bits13 (fun HT_ HW_ => ?_)
                 generalize w61.drew = w62 at Zd Ze Zf Zg Zh Zi Za Zb Zc HB hHeld ⊢
                 refine pure_ (i := 1) (N := some 84) (v := ?_) (a' := ?_) #[false, true, false, false, false, false, false, false, false, false, false] rfl rfl (any_of HT_.out (by kernel_rfl)) (fun _ _ _ h => h) (Or.inl ⟨by rfl, ?_⟩) ?_ ?_
                 rotate_left
                 ·intro w'
                  go_simp
                  with_reducible rfl
                 rotate_left
                 ·simp only [Act.put, zs, zz, zt, i64_w, i32_w]
                  rfl
                 refine pure_ (i := 2) (N := some 85) (v := ?_) (a' := ?_) #[false, true, true, false, false, false, false, false, false, false, false] rfl rfl (any_of HT_.out (by kernel_rfl)) (fun _ _ _ h => h) (Or.inl ⟨by rfl, ?_⟩) ?_ ?_
                 rotate_left
                 ·intro w'
                  go_simp
                  with_reducible rfl
                 rotate_left
                 ·simp only [Act.put, zs, zz, zt, i64_w, i32_w]
                  rfl
                 refine take_ (i := 0) (N := some 83) (v := ?_) (a' := ?_) #[true, true, true, false, false, false, false, false, false, false, false] rfl rfl (take_ofW HT_.out HW_.out (by kernel_rfl)) (fun _ _ _ h => h) (Or.inl ⟨by rfl, ?_⟩) hHeld ?_ ?_
                 rotate_left
                 ·rintro w' ⟨s0, s1⟩
                  go_simp
                  with_reducible rfl
                 rotate_left
                 ·simp only [Act.put, zs, zz, zt, i64_w, i32_w]
                  rfl
                 refine join_ (σ := Value × Value × Nat) 2 #[true, true, true, true, true, true, true, true, true, false, false] (fun s_ => [(86, .int .i64 t893), (87, .tuple #[.agg #[s_.1, s_.2.1], .int .i64 t900]), (20, .pointer (some ⟨s_.2.2, 0, none⟩)), (82, .tuple #[.agg #[s_.1, s_.2.1], .int .i64 t900]), (88, .agg #[s_.1, s_.2.1]), (89, .int .i64 t900)]) (fun s_ w' => (w'.cell? ⟨gb892, 0, none⟩ = some (.slice Ao56 t885.length co56) ∧ w'.cell? ⟨gb892, 1, none⟩ = some (.slice Ao60 t888.length co60)) ∧ (Kd.R Kd.string 9 w' w.heap.size (fun k_ => some k_ ≠ (.slice Ao44 t871.length co44 : Value).ownBlock ∧ some k_ ≠ (.slice Ao56 t885.length co56 : Value).ownBlock ∧ some k_ ≠ (s_.1 : Value).ownBlock) (.slice Ao37 t861.length co37) t861) ∧ (Kd.R k92 92 w' w.heap.size (fun k_ => some k_ ≠ (.slice Ao47 t874.length co47 : Value).ownBlock ∧ some k_ ≠ (.slice Ao60 t888.length co60 : Value).ownBlock ∧ some k_ ≠ (s_.2.1 : Value).ownBlock) (.slice Ao39 t864.length co39) t864) ∧ (Kd.R Kd.string 9 w' w.heap.size (fun k_ => some k_ ≠ (.slice Ao37 t861.length co37 : Value).ownBlock ∧ some k_ ≠ (.slice Ao56 t885.length co56 : Value).ownBlock ∧ some k_ ≠ (s_.1 : Value).ownBlock) (.slice Ao44 t871.length co44) t871) ∧ (Kd.R k92 92 w' w.heap.size (fun k_ => some k_ ≠ (.slice Ao39 t864.length co39 : Value).ownBlock ∧ some k_ ≠ (.slice Ao60 t888.length co60 : Value).ownBlock ∧ some k_ ≠ (s_.2.1 : Value).ownBlock) (.slice Ao47 t874.length co47) t874) ∧ (Kd.R Kd.string 9 w' w.heap.size (fun k_ => some k_ ≠ (.slice Ao37 t861.length co37 : Value).ownBlock ∧ some k_ ≠ (.slice Ao44 t871.length co44 : Value).ownBlock ∧ some k_ ≠ (s_.1 : Value).ownBlock) (.slice Ao56 t885.length co56) t885) ∧ (Kd.R k92 92 w' w.heap.size (fun k_ => some k_ ≠ (.slice Ao39 t864.length co39 : Value).ownBlock ∧ some k_ ≠ (.slice Ao47 t874.length co47 : Value).ownBlock ∧ some k_ ≠ (s_.2.1 : Value).ownBlock) (.slice Ao60 t888.length co60) t888) ∧ (Kd.R Kd.string 9 w' w.heap.size (fun k_ => some k_ ≠ (.slice Ao37 t861.length co37 : Value).ownBlock ∧ some k_ ≠ (.slice Ao44 t871.length co44 : Value).ownBlock ∧ some k_ ≠ (.slice Ao56 t885.length co56 : Value).ownBlock) s_.1 t894) ∧ (Kd.R k92 92 w' w.heap.size (fun k_ => some k_ ≠ (.slice Ao39 t864.length co39 : Value).ownBlock ∧ some k_ ≠ (.slice Ao47 t874.length co47 : Value).ownBlock ∧ some k_ ≠ (.slice Ao60 t888.length co60 : Value).ownBlock) s_.2.1 t897) ∧ (w'.heap[gb867]? = some (.cells #[.slice Ao37 t861.length co37, .slice Ao39 t864.length co39] 48 (0, 0))) ∧ (w'.heap[gb878]? = some (.cells #[.slice Ao44 t871.length co44, .slice Ao47 t874.length co47] 48 (0, 0))) ∧ (w'.heap[gb892]? = some (.cells #[.slice Ao56 t885.length co56, .slice Ao60 t888.length co60] 48 (0, 0))) ∧ (w'.heap[s_.2.2]? = some (.cells #[.slice none 0 0, .slice none 0 0] 48 (0, 0))) ∧ (w.heap.size ≤ s_.2.2) ∧ (w.heap.size ≤ s_.2.2) ∧ (gb867 ≠ s_.2.2) ∧ (s_.2.2 ≠ gb867) ∧ (gb878 ≠ s_.2.2) ∧ (s_.2.2 ≠ gb878) ∧ (gb892 ≠ s_.2.2) ∧ (s_.2.2 ≠ gb892) ∧ (Below w.heap.size w w')) ?_ ?_
                 rotate_left
                 ·intro hCont
                  refine two_ (i := 3) (j := 8) (Ni := some 86) (Nj := some 20) #[true, true, true, true, false, false, false, false, false, false, false] #[true, true, true, false, false, false, false, false, true, false, false] rfl rfl rfl rfl (two_of HT_.out (by kernel_rfl)) (by decide) (by decide) (fun K hK => ?_) (fun K hK => ?_)
                  ·skip
                   refine goes_ Try.func13 (by kernel_rfl) rfl #[.slice A1 l1.length c1, .int .i64 2, .int .i64 4] (by rfl) rfl rfl zq ?_
                   with_reducible refine (laws_at.calls _ _ l1 2 4 t893 _ ?side1 ?side2 A15.out).mono ?_
                   (case side1 => repeat (first | exact (Kd.C_below HR1.out HB.out) | (with_reducible refine Kd.C_alloc ?_ _) | (with_reducible refine Kd.C_drewN ?_ _) | (with_reducible refine Kd.C_drew ?_)))
                   (case side2 => exact HC1.out)
                   rintro e w' ⟨rfl, ⟨nd, rfl⟩⟩
                   refine ⟨_, rfl, ?_⟩
                   refine hK.out _ _ ⟨(blk_cell Zc.out 0).trans rfl, (blk_cell Zc.out 1).trans rfl⟩ (fun hHeld => ?_)
                   clear hK K
                   refine norm_ (a' := ?_) ?_ ?_
                   rotate_left
                   ·show Act.put _ (some 86) _ = _
                    simp only [Act.put, zs, zz, zt, i64_w, i32_w]
                    rfl
                   refine two_ (i := 4) (j := 8) (Ni := some 87) (Nj := some 20) #[true, true, true, true, true, false, false, false, false, false, false] #[true, true, true, true, false, false, false, false, true, false, false] rfl rfl rfl rfl (two_of HT_.out (by kernel_rfl)) (by decide) (by decide) (fun K hK => ?_) (fun K hK => ?_)
                   ·skip
                    refine goes_ Try.func25 (by kernel_rfl) rfl #[.agg #[.slice Ao56 t885.length co56, .slice Ao60 t888.length co60], .int .i64 t868, .int .i64 t893] (by rfl) rfl rfl zq ?_
                    with_reducible refine (impl_LoseHost.calls _ _ t885 _ _ t888 t868 t893 t894 t897 t900 _ ?side1 ?side2 ?side3 ?side4 A16.out).mono ?_
                    (case side1 => repeat (first | exact (Kd.R_reads' Zh.out).2.2 | (with_reducible refine Kd.C_alloc ?_ _) | (with_reducible refine Kd.C_drewN ?_ _) | (with_reducible refine Kd.C_drew ?_)))
                    (case side2 => exact (Kd.R_reads' Zh.out).2.1)
                    (case side3 => repeat (first | exact (Kd.R_reads' Zi.out).2.2 | (with_reducible refine Kd.C_alloc ?_ _) | (with_reducible refine Kd.C_drewN ?_ _) | (with_reducible refine Kd.C_drew ?_)))
                    (case side4 => exact (Kd.R_reads' Zi.out).2.1)
                    rintro e w63 ⟨v895, v898, rfl, ho0, ho1, hb⟩
                    refine ⟨_, rfl, ?_⟩
                    have n0_ := zm (Kd.R_elder' (zg_4 Zd.out) (Kd.R_base ho0) hb)
                    have n1_ := zm (Kd.R_elder' (zg_4 Ze.out) (Kd.R_base ho1) hb)
                    have n2_ := zm (Kd.R_elder' (zg_4 Zf.out) (Kd.R_base ho0) hb)
                    have n3_ := zm (Kd.R_elder' (zg_4 Zg.out) (Kd.R_base ho1) hb)
                    have n4_ := zm (Kd.R_elder' (zg_4 Zh.out) (Kd.R_base ho0) hb)
                    have n5_ := zm (Kd.R_elder' (zg_4 Zi.out) (Kd.R_base ho1) hb)
                    have n6_ := zm (Kd.R_lower (Kd.R_new' (Kd.R_new' (Kd.R_new' ho0 (Kd.R_lt (zg_4 Zd.out))) (Kd.R_lt (zg_4 Zf.out))) (Kd.R_lt (zg_4 Zh.out))) (below_size (zg_5 HB.out Zk.out Zl.out Zn.out)))
                    have n7_ := zm (Kd.R_lower (Kd.R_new' (Kd.R_new' (Kd.R_new' ho1 (Kd.R_lt (zg_4 Ze.out))) (Kd.R_lt (zg_4 Zg.out))) (Kd.R_lt (zg_4 Zi.out))) (below_size (zg_5 HB.out Zk.out Zl.out Zn.out)))
                    have n8_ := zm (blk_below (g := gb867) (o := .cells #[.slice Ao37 t861.length co37, .slice Ao39 t864.length co39] 48 (0, 0)) (zg_2 Za.out) hb)
                    have n9_ := zm (blk_below (g := gb878) (o := .cells #[.slice Ao44 t871.length co44, .slice Ao47 t874.length co47] 48 (0, 0)) (zg_2 Zb.out) hb)
                    have n10_ := zm (blk_below (g := gb892) (o := .cells #[.slice Ao56 t885.length co56, .slice Ao60 t888.length co60] 48 (0, 0)) (zg_2 Zc.out) hb)
                    have n11_ := zm (below_step (zg_5 HB.out Zk.out Zl.out Zn.out) hb)
                    clear Zd
                    clear Ze
                    clear Zf
                    clear Zg
                    clear Zh
                    clear Zi
                    clear Za
                    clear Zb
                    clear Zc
                    clear HB
                    have Zd := n0_
                    have Ze := n1_
                    have Zf := n2_
                    have Zg := n3_
                    have Zh := n4_
                    have Zi := n5_
                    have Zo := n6_
                    have Zp := n7_
                    have Za := n8_
                    have Zb := n9_
                    have Zc := n10_
                    have HB := n11_
                    clear n0_ n1_ n2_ n3_ n4_ n5_ n6_ n7_ n8_ n9_ n10_ n11_
                    (try clear hb)
                    (try clear hb2)
                    (try clear hk)
                    (try clear hi)
                    (try clear ho0)
                    (try clear ho1)
                    refine hK.out _ _ ⟨(blk_cell Zc.out 0).trans rfl, (blk_cell Zc.out 1).trans rfl⟩ (fun hHeld => ?_)
                    clear hK K
                    refine norm_ (a' := ?_) ?_ ?_
                    rotate_left
                    ·show Act.put _ (some 87) _ = _
                     simp only [Act.put, zs, zz, zt, i64_w, i32_w]
                     rfl
                    refine pure_ (i := 5) (N := some 82) (v := ?_) (a' := ?_) #[true, true, true, true, true, true, false, false, false, false, false] rfl rfl (any_of HT_.out (by kernel_rfl)) (fun _ _ _ h => h) (Or.inl ⟨by rfl, ?_⟩) ?_ ?_
                    rotate_left
                    ·intro w'
                     go_simp
                     with_reducible rfl
                    rotate_left
                    ·simp only [Act.put, zs, zz, zt, i64_w, i32_w]
                     rfl
                    refine pure_ (i := 6) (N := some 88) (v := ?_) (a' := ?_) #[true, true, true, true, true, true, true, false, false, false, false] rfl rfl (any_of HT_.out (by kernel_rfl)) (fun _ _ _ h => h) (Or.inl ⟨by rfl, ?_⟩) ?_ ?_
                    rotate_left
                    ·intro w'
                     go_simp
                     with_reducible rfl
                    rotate_left
                    ·simp only [Act.put, zs, zz, zt, i64_w, i32_w]
                     rfl
                    refine pure_ (i := 7) (N := some 89) (v := ?_) (a' := ?_) #[true, true, true, true, true, true, true, true, false, false, false] rfl rfl (any_of HT_.out (by kernel_rfl)) (fun _ _ _ h => h) (Or.inl ⟨by rfl, ?_⟩) ?_ ?_
                    rotate_left
                    ·intro w'
                     go_simp
                     with_reducible rfl
                    rotate_left
                    ·simp only [Act.put, zs, zz, zt, i64_w, i32_w]
                     rfl
                    refine one_ (i := 8) (N := some 20) #[true, true, true, true, true, true, true, true, true, false, false] rfl rfl (one_of HT_.out (by kernel_rfl)) (by decide) (fun K hK => ?_)
                    refine box_step ?hg (N := 20) ?hd (cs := #[.slice none 0 0, .slice none 0 0]) (t := 48) ?hr ?_; (case hd => rfl); (case hg => rfl); (case hr => first | (go_simp; done) | (go_simp; rfl))
                    intro gb901 hg w64 hbox hb
                    have n0_ := zm (Kd.R_below (zg_4 Zd.out) hb)
                    have n1_ := zm (Kd.R_below (zg_4 Ze.out) hb)
                    have n2_ := zm (Kd.R_below (zg_4 Zf.out) hb)
                    have n3_ := zm (Kd.R_below (zg_4 Zg.out) hb)
                    have n4_ := zm (Kd.R_below (zg_4 Zh.out) hb)
                    have n5_ := zm (Kd.R_below (zg_4 Zi.out) hb)
                    have n6_ := zm (Kd.R_below (zg_4 Zo.out) hb)
                    have n7_ := zm (Kd.R_below (zg_4 Zp.out) hb)
                    have n8_ := zm (blk_below (g := gb867) (o := .cells #[.slice Ao37 t861.length co37, .slice Ao39 t864.length co39] 48 (0, 0)) (zg_2 Za.out) hb)
                    have n9_ := zm (blk_below (g := gb878) (o := .cells #[.slice Ao44 t871.length co44, .slice Ao47 t874.length co47] 48 (0, 0)) (zg_2 Zb.out) hb)
                    have n10_ := zm (blk_below (g := gb892) (o := .cells #[.slice Ao56 t885.length co56, .slice Ao60 t888.length co60] 48 (0, 0)) (zg_2 Zc.out) hb)
                    have n11_ := zm (below_step (zg_5 HB.out Zk.out Zl.out Zn.out) hb)
                    have n12_ := zm (hbox)
                    have n13_ := zm ((by rw [hg]; exact (below_size (zg_5 HB.out Zk.out Zl.out Zn.out)) : w.heap.size ≤ gb901))
                    have n14_ := zm ((by rw [hg]; exact (below_size (zg_5 HB.out Zk.out Zl.out Zn.out)) : w.heap.size ≤ gb901))
                    have n15_ := zm ((by rw [hg]; exact Nat.ne_of_lt (blk_lt (g := gb867) (o := .cells #[.slice Ao37 t861.length co37, .slice Ao39 t864.length co39] 48 (0, 0)) (zg_2 Za.out)) : gb867 ≠ gb901))
                    have n16_ := zm ((by rw [hg]; exact Nat.ne_of_gt (blk_lt (g := gb867) (o := .cells #[.slice Ao37 t861.length co37, .slice Ao39 t864.length co39] 48 (0, 0)) (zg_2 Za.out)) : gb901 ≠ gb867))
                    have n17_ := zm ((by rw [hg]; exact Nat.ne_of_lt (blk_lt (g := gb878) (o := .cells #[.slice Ao44 t871.length co44, .slice Ao47 t874.length co47] 48 (0, 0)) (zg_2 Zb.out)) : gb878 ≠ gb901))
                    have n18_ := zm ((by rw [hg]; exact Nat.ne_of_gt (blk_lt (g := gb878) (o := .cells #[.slice Ao44 t871.length co44, .slice Ao47 t874.length co47] 48 (0, 0)) (zg_2 Zb.out)) : gb901 ≠ gb878))
                    have n19_ := zm ((by rw [hg]; exact Nat.ne_of_lt (blk_lt (g := gb892) (o := .cells #[.slice Ao56 t885.length co56, .slice Ao60 t888.length co60] 48 (0, 0)) (zg_2 Zc.out)) : gb892 ≠ gb901))
                    have n20_ := zm ((by rw [hg]; exact Nat.ne_of_gt (blk_lt (g := gb892) (o := .cells #[.slice Ao56 t885.length co56, .slice Ao60 t888.length co60] 48 (0, 0)) (zg_2 Zc.out)) : gb901 ≠ gb892))
                    clear Zd
                    clear Ze
                    clear Zf
                    clear Zg
                    clear Zh
                    clear Zi
                    clear Zo
                    clear Zp
                    clear Za
                    clear Zb
                    clear Zc
                    clear HB
                    have Zd := n0_
                    have Ze := n1_
                    have Zf := n2_
                    have Zg := n3_
                    have Zh := n4_
                    have Zi := n5_
                    have Zo := n6_
                    have Zp := n7_
                    have Za := n8_
                    have Zb := n9_
                    have Zc := n10_
                    have HB := n11_
                    have Zj := n12_
                    have ZG := n13_
                    have Zt := n14_
                    have Zr := n15_
                    have Zu := n16_
                    have Zs := n17_
                    have Zv := n18_
                    have Zm := n19_
                    have Zw := n20_
                    clear n0_ n1_ n2_ n3_ n4_ n5_ n6_ n7_ n8_ n9_ n10_ n11_ n12_ n13_ n14_ n15_ n16_ n17_ n18_ n19_ n20_
                    clear hb hbox hg
                    refine hK.out _ _ ⟨(blk_cell Zc.out 0).trans rfl, (blk_cell Zc.out 1).trans rfl⟩ (fun hHeld => ?_)
                    clear hK K
                    refine norm_ (a' := ?_) ?_ ?_
                    rotate_left
                    ·show Act.put _ (some 20) _ = _
                     simp only [Act.put, zs, zz, zt, i64_w, i32_w]
                     rfl
                    exact norm_ (by simp only [putAll, Act.put, zs, zz, zt]) (hCont (v895, v898, gb901) _ ⟨hHeld, (by (with_reducible repeat (first | apply Kd.R_alloc | apply Kd.R_drewN | apply Kd.R_drew)); exact Kd.R_mono Zd.out (fun _ hk => ⟨hk.1.1, ⟨hk.1.2, hk.2⟩⟩)), (by (with_reducible repeat (first | apply Kd.R_alloc | apply Kd.R_drewN | apply Kd.R_drew)); exact Kd.R_mono Ze.out (fun _ hk => ⟨hk.1.1, ⟨hk.1.2, hk.2⟩⟩)), (by (with_reducible repeat (first | apply Kd.R_alloc | apply Kd.R_drewN | apply Kd.R_drew)); exact Kd.R_mono Zf.out (fun _ hk => ⟨hk.1.1, ⟨hk.1.2, hk.2⟩⟩)), (by (with_reducible repeat (first | apply Kd.R_alloc | apply Kd.R_drewN | apply Kd.R_drew)); exact Kd.R_mono Zg.out (fun _ hk => ⟨hk.1.1, ⟨hk.1.2, hk.2⟩⟩)), (by (with_reducible repeat (first | apply Kd.R_alloc | apply Kd.R_drewN | apply Kd.R_drew)); exact Kd.R_mono Zh.out (fun _ hk => ⟨hk.1.1, ⟨hk.1.2, hk.2⟩⟩)), (by (with_reducible repeat (first | apply Kd.R_alloc | apply Kd.R_drewN | apply Kd.R_drew)); exact Kd.R_mono Zi.out (fun _ hk => ⟨hk.1.1, ⟨hk.1.2, hk.2⟩⟩)), (by (with_reducible repeat (first | apply Kd.R_alloc | apply Kd.R_drewN | apply Kd.R_drew)); exact Kd.R_mono Zo.out (fun _ hk => ⟨hk.1.1.2, ⟨hk.1.2, hk.2⟩⟩)), (by (with_reducible repeat (first | apply Kd.R_alloc | apply Kd.R_drewN | apply Kd.R_drew)); exact Kd.R_mono Zp.out (fun _ hk => ⟨hk.1.1.2, ⟨hk.1.2, hk.2⟩⟩)), (zg_2 Za.out), (zg_2 Zb.out), (zg_2 Zc.out), (zg_2 Zj.out), ZG.out, Zt.out, Zr.out, Zu.out, Zs.out, Zv.out, Zm.out, Zw.out, (zg_19 HB.out Zk.out Zl.out Zn.out Zt.out)⟩)
                   ·skip
                    refine box_step ?hg (N := 20) ?hd (cs := #[.slice none 0 0, .slice none 0 0]) (t := 48) ?hr ?_; (case hd => rfl); (case hg => rfl); (case hr => first | (go_simp; done) | (go_simp; rfl))
                    intro gb901 hg w63 hbox hb
                    have n0_ := zm (Kd.R_below (zg_4 Zd.out) hb)
                    have n1_ := zm (Kd.R_below (zg_4 Ze.out) hb)
                    have n2_ := zm (Kd.R_below (zg_4 Zf.out) hb)
                    have n3_ := zm (Kd.R_below (zg_4 Zg.out) hb)
                    have n4_ := zm (Kd.R_below (zg_4 Zh.out) hb)
                    have n5_ := zm (Kd.R_below (zg_4 Zi.out) hb)
                    have n6_ := zm (blk_below (g := gb867) (o := .cells #[.slice Ao37 t861.length co37, .slice Ao39 t864.length co39] 48 (0, 0)) (zg_2 Za.out) hb)
                    have n7_ := zm (blk_below (g := gb878) (o := .cells #[.slice Ao44 t871.length co44, .slice Ao47 t874.length co47] 48 (0, 0)) (zg_2 Zb.out) hb)
                    have n8_ := zm (blk_below (g := gb892) (o := .cells #[.slice Ao56 t885.length co56, .slice Ao60 t888.length co60] 48 (0, 0)) (zg_2 Zc.out) hb)
                    have n9_ := zm (below_step (zg_5 HB.out Zk.out Zl.out Zn.out) hb)
                    have n10_ := zm (hbox)
                    have n11_ := zm ((by rw [hg]; exact (below_size (zg_5 HB.out Zk.out Zl.out Zn.out)) : w.heap.size ≤ gb901))
                    have n12_ := zm ((by rw [hg]; exact (below_size (zg_5 HB.out Zk.out Zl.out Zn.out)) : w.heap.size ≤ gb901))
                    have n13_ := zm ((by rw [hg]; exact Nat.ne_of_lt (blk_lt (g := gb867) (o := .cells #[.slice Ao37 t861.length co37, .slice Ao39 t864.length co39] 48 (0, 0)) (zg_2 Za.out)) : gb867 ≠ gb901))
                    have n14_ := zm ((by rw [hg]; exact Nat.ne_of_gt (blk_lt (g := gb867) (o := .cells #[.slice Ao37 t861.length co37, .slice Ao39 t864.length co39] 48 (0, 0)) (zg_2 Za.out)) : gb901 ≠ gb867))
                    have n15_ := zm ((by rw [hg]; exact Nat.ne_of_lt (blk_lt (g := gb878) (o := .cells #[.slice Ao44 t871.length co44, .slice Ao47 t874.length co47] 48 (0, 0)) (zg_2 Zb.out)) : gb878 ≠ gb901))
                    have n16_ := zm ((by rw [hg]; exact Nat.ne_of_gt (blk_lt (g := gb878) (o := .cells #[.slice Ao44 t871.length co44, .slice Ao47 t874.length co47] 48 (0, 0)) (zg_2 Zb.out)) : gb901 ≠ gb878))
                    have n17_ := zm ((by rw [hg]; exact Nat.ne_of_lt (blk_lt (g := gb892) (o := .cells #[.slice Ao56 t885.length co56, .slice Ao60 t888.length co60] 48 (0, 0)) (zg_2 Zc.out)) : gb892 ≠ gb901))
                    have n18_ := zm ((by rw [hg]; exact Nat.ne_of_gt (blk_lt (g := gb892) (o := .cells #[.slice Ao56 t885.length co56, .slice Ao60 t888.length co60] 48 (0, 0)) (zg_2 Zc.out)) : gb901 ≠ gb892))
                    clear Zd
                    clear Ze
                    clear Zf
                    clear Zg
                    clear Zh
                    clear Zi
                    clear Za
                    clear Zb
                    clear Zc
                    clear HB
                    have Zd := n0_
                    have Ze := n1_
                    have Zf := n2_
                    have Zg := n3_
                    have Zh := n4_
                    have Zi := n5_
                    have Za := n6_
                    have Zb := n7_
                    have Zc := n8_
                    have HB := n9_
                    have Zj := n10_
                    have ZG := n11_
                    have Zt := n12_
                    have Zr := n13_
                    have Zu := n14_
                    have Zs := n15_
                    have Zv := n16_
                    have Zm := n17_
                    have Zw := n18_
                    clear n0_ n1_ n2_ n3_ n4_ n5_ n6_ n7_ n8_ n9_ n10_ n11_ n12_ n13_ n14_ n15_ n16_ n17_ n18_
                    clear hb hbox hg
                    refine hK.out _ _ ⟨(blk_cell Zc.out 0).trans rfl, (blk_cell Zc.out 1).trans rfl⟩ (fun hHeld => ?_)
                    clear hK K
                    refine norm_ (a' := ?_) ?_ ?_
                    rotate_left
                    ·show Act.put _ (some 20) _ = _
                     simp only [Act.put, zs, zz, zt, i64_w, i32_w]
                     rfl
                    refine one_ (i := 4) (N := some 87) #[true, true, true, true, true, false, false, false, true, false, false] rfl rfl (one_of HT_.out (by kernel_rfl)) (by decide) (fun K hK => ?_)
                    refine goes_ Try.func25 (by kernel_rfl) rfl #[.agg #[.slice Ao56 t885.length co56, .slice Ao60 t888.length co60], .int .i64 t868, .int .i64 t893] (by rfl) rfl rfl zq ?_
                    with_reducible refine (impl_LoseHost.calls _ _ t885 _ _ t888 t868 t893 t894 t897 t900 _ ?side1 ?side2 ?side3 ?side4 A16.out).mono ?_
                    (case side1 => repeat (first | exact (Kd.R_reads' Zh.out).2.2 | (with_reducible refine Kd.C_alloc ?_ _) | (with_reducible refine Kd.C_drewN ?_ _) | (with_reducible refine Kd.C_drew ?_)))
                    (case side2 => exact (Kd.R_reads' Zh.out).2.1)
                    (case side3 => repeat (first | exact (Kd.R_reads' Zi.out).2.2 | (with_reducible refine Kd.C_alloc ?_ _) | (with_reducible refine Kd.C_drewN ?_ _) | (with_reducible refine Kd.C_drew ?_)))
                    (case side4 => exact (Kd.R_reads' Zi.out).2.1)
                    rintro e w64 ⟨v895, v898, rfl, ho0, ho1, hb⟩
                    refine ⟨_, rfl, ?_⟩
                    have n0_ := zm (Kd.R_elder' (zg_4 Zd.out) (Kd.R_base ho0) hb)
                    have n1_ := zm (Kd.R_elder' (zg_4 Ze.out) (Kd.R_base ho1) hb)
                    have n2_ := zm (Kd.R_elder' (zg_4 Zf.out) (Kd.R_base ho0) hb)
                    have n3_ := zm (Kd.R_elder' (zg_4 Zg.out) (Kd.R_base ho1) hb)
                    have n4_ := zm (Kd.R_elder' (zg_4 Zh.out) (Kd.R_base ho0) hb)
                    have n5_ := zm (Kd.R_elder' (zg_4 Zi.out) (Kd.R_base ho1) hb)
                    have n6_ := zm (Kd.R_lower (Kd.R_new' (Kd.R_new' (Kd.R_new' ho0 (Kd.R_lt (zg_4 Zd.out))) (Kd.R_lt (zg_4 Zf.out))) (Kd.R_lt (zg_4 Zh.out))) (below_size (zg_19 HB.out Zk.out Zl.out Zn.out Zt.out)))
                    have n7_ := zm (Kd.R_lower (Kd.R_new' (Kd.R_new' (Kd.R_new' ho1 (Kd.R_lt (zg_4 Ze.out))) (Kd.R_lt (zg_4 Zg.out))) (Kd.R_lt (zg_4 Zi.out))) (below_size (zg_19 HB.out Zk.out Zl.out Zn.out Zt.out)))
                    have n8_ := zm (blk_below (g := gb867) (o := .cells #[.slice Ao37 t861.length co37, .slice Ao39 t864.length co39] 48 (0, 0)) (zg_2 Za.out) hb)
                    have n9_ := zm (blk_below (g := gb878) (o := .cells #[.slice Ao44 t871.length co44, .slice Ao47 t874.length co47] 48 (0, 0)) (zg_2 Zb.out) hb)
                    have n10_ := zm (blk_below (g := gb892) (o := .cells #[.slice Ao56 t885.length co56, .slice Ao60 t888.length co60] 48 (0, 0)) (zg_2 Zc.out) hb)
                    have n11_ := zm (blk_below (g := gb901) (o := .cells #[.slice none 0 0, .slice none 0 0] 48 (0, 0)) (zg_2 Zj.out) hb)
                    have n12_ := zm (below_step (zg_19 HB.out Zk.out Zl.out Zn.out Zt.out) hb)
                    clear Zd
                    clear Ze
                    clear Zf
                    clear Zg
                    clear Zh
                    clear Zi
                    clear Za
                    clear Zb
                    clear Zc
                    clear Zj
                    clear HB
                    have Zd := n0_
                    have Ze := n1_
                    have Zf := n2_
                    have Zg := n3_
                    have Zh := n4_
                    have Zi := n5_
                    have Zo := n6_
                    have Zp := n7_
                    have Za := n8_
                    have Zb := n9_
                    have Zc := n10_
                    have Zj := n11_
                    have HB := n12_
                    clear n0_ n1_ n2_ n3_ n4_ n5_ n6_ n7_ n8_ n9_ n10_ n11_ n12_
                    (try clear hb)
                    (try clear hb2)
                    (try clear hk)
                    (try clear hi)
                    (try clear ho0)
                    (try clear ho1)
                    refine hK.out _ _ ⟨(blk_cell Zc.out 0).trans rfl, (blk_cell Zc.out 1).trans rfl⟩ (fun hHeld => ?_)
                    clear hK K
                    refine norm_ (a' := ?_) ?_ ?_
                    rotate_left
                    ·show Act.put _ (some 87) _ = _
                     simp only [Act.put, zs, zz, zt, i64_w, i32_w]
                     rfl
                    refine pure_ (i := 5) (N := some 82) (v := ?_) (a' := ?_) #[true, true, true, true, true, true, false, false, true, false, false] rfl rfl (any_of HT_.out (by kernel_rfl)) (fun _ _ _ h => h) (Or.inl ⟨by rfl, ?_⟩) ?_ ?_
                    rotate_left
                    ·intro w'
                     go_simp
                     with_reducible rfl
                    rotate_left
                    ·simp only [Act.put, zs, zz, zt, i64_w, i32_w]
                     rfl
                    refine pure_ (i := 6) (N := some 88) (v := ?_) (a' := ?_) #[true, true, true, true, true, true, true, false, true, false, false] rfl rfl (any_of HT_.out (by kernel_rfl)) (fun _ _ _ h => h) (Or.inl ⟨by rfl, ?_⟩) ?_ ?_
                    rotate_left
                    ·intro w'
                     go_simp
                     with_reducible rfl
                    rotate_left
                    ·simp only [Act.put, zs, zz, zt, i64_w, i32_w]
                     rfl
                    refine pure_ (i := 7) (N := some 89) (v := ?_) (a' := ?_) #[true, true, true, true, true, true, true, true, true, false, false] rfl rfl (any_of HT_.out (by kernel_rfl)) (fun _ _ _ h => h) (Or.inl ⟨by rfl, ?_⟩) ?_ ?_
                    rotate_left
                    ·intro w'
                     go_simp
                     with_reducible rfl
                    rotate_left
                    ·simp only [Act.put, zs, zz, zt, i64_w, i32_w]
                     rfl
                    exact norm_ (by simp only [putAll, Act.put, zs, zz, zt]) (hCont (v895, v898, gb901) _ ⟨hHeld, (by (with_reducible repeat (first | apply Kd.R_alloc | apply Kd.R_drewN | apply Kd.R_drew)); exact Kd.R_mono Zd.out (fun _ hk => ⟨hk.1.1, ⟨hk.1.2, hk.2⟩⟩)), (by (with_reducible repeat (first | apply Kd.R_alloc | apply Kd.R_drewN | apply Kd.R_drew)); exact Kd.R_mono Ze.out (fun _ hk => ⟨hk.1.1, ⟨hk.1.2, hk.2⟩⟩)), (by (with_reducible repeat (first | apply Kd.R_alloc | apply Kd.R_drewN | apply Kd.R_drew)); exact Kd.R_mono Zf.out (fun _ hk => ⟨hk.1.1, ⟨hk.1.2, hk.2⟩⟩)), (by (with_reducible repeat (first | apply Kd.R_alloc | apply Kd.R_drewN | apply Kd.R_drew)); exact Kd.R_mono Zg.out (fun _ hk => ⟨hk.1.1, ⟨hk.1.2, hk.2⟩⟩)), (by (with_reducible repeat (first | apply Kd.R_alloc | apply Kd.R_drewN | apply Kd.R_drew)); exact Kd.R_mono Zh.out (fun _ hk => ⟨hk.1.1, ⟨hk.1.2, hk.2⟩⟩)), (by (with_reducible repeat (first | apply Kd.R_alloc | apply Kd.R_drewN | apply Kd.R_drew)); exact Kd.R_mono Zi.out (fun _ hk => ⟨hk.1.1, ⟨hk.1.2, hk.2⟩⟩)), (by (with_reducible repeat (first | apply Kd.R_alloc | apply Kd.R_drewN | apply Kd.R_drew)); exact Kd.R_mono Zo.out (fun _ hk => ⟨hk.1.1.2, ⟨hk.1.2, hk.2⟩⟩)), (by (with_reducible repeat (first | apply Kd.R_alloc | apply Kd.R_drewN | apply Kd.R_drew)); exact Kd.R_mono Zp.out (fun _ hk => ⟨hk.1.1.2, ⟨hk.1.2, hk.2⟩⟩)), (zg_2 Za.out), (zg_2 Zb.out), (zg_2 Zc.out), (zg_2 Zj.out), ZG.out, Zt.out, Zr.out, Zu.out, Zs.out, Zv.out, Zm.out, Zw.out, (zg_19 HB.out Zk.out Zl.out Zn.out Zt.out)⟩)
                  ·skip
                   refine box_step ?hg (N := 20) ?hd (cs := #[.slice none 0 0, .slice none 0 0]) (t := 48) ?hr ?_; (case hd => rfl); (case hg => rfl); (case hr => first | (go_simp; done) | (go_simp; rfl))
                   intro gb901 hg w63 hbox hb
                   have n0_ := zm (Kd.R_below (zg_4 Zd.out) hb)
                   have n1_ := zm (Kd.R_below (zg_4 Ze.out) hb)
                   have n2_ := zm (Kd.R_below (zg_4 Zf.out) hb)
                   have n3_ := zm (Kd.R_below (zg_4 Zg.out) hb)
                   have n4_ := zm (Kd.R_below (zg_4 Zh.out) hb)
                   have n5_ := zm (Kd.R_below (zg_4 Zi.out) hb)
                   have n6_ := zm (blk_below (g := gb867) (o := .cells #[.slice Ao37 t861.length co37, .slice Ao39 t864.length co39] 48 (0, 0)) (zg_2 Za.out) hb)
                   have n7_ := zm (blk_below (g := gb878) (o := .cells #[.slice Ao44 t871.length co44, .slice Ao47 t874.length co47] 48 (0, 0)) (zg_2 Zb.out) hb)
                   have n8_ := zm (blk_below (g := gb892) (o := .cells #[.slice Ao56 t885.length co56, .slice Ao60 t888.length co60] 48 (0, 0)) (zg_2 Zc.out) hb)
                   have n9_ := zm (below_step (zg_5 HB.out Zk.out Zl.out Zn.out) hb)
                   have n10_ := zm (hbox)
                   have n11_ := zm ((by rw [hg]; exact (below_size (zg_5 HB.out Zk.out Zl.out Zn.out)) : w.heap.size ≤ gb901))
                   have n12_ := zm ((by rw [hg]; exact (below_size (zg_5 HB.out Zk.out Zl.out Zn.out)) : w.heap.size ≤ gb901))
                   have n13_ := zm ((by rw [hg]; exact Nat.ne_of_lt (blk_lt (g := gb867) (o := .cells #[.slice Ao37 t861.length co37, .slice Ao39 t864.length co39] 48 (0, 0)) (zg_2 Za.out)) : gb867 ≠ gb901))
                   have n14_ := zm ((by rw [hg]; exact Nat.ne_of_gt (blk_lt (g := gb867) (o := .cells #[.slice Ao37 t861.length co37, .slice Ao39 t864.length co39] 48 (0, 0)) (zg_2 Za.out)) : gb901 ≠ gb867))
                   have n15_ := zm ((by rw [hg]; exact Nat.ne_of_lt (blk_lt (g := gb878) (o := .cells #[.slice Ao44 t871.length co44, .slice Ao47 t874.length co47] 48 (0, 0)) (zg_2 Zb.out)) : gb878 ≠ gb901))
                   have n16_ := zm ((by rw [hg]; exact Nat.ne_of_gt (blk_lt (g := gb878) (o := .cells #[.slice Ao44 t871.length co44, .slice Ao47 t874.length co47] 48 (0, 0)) (zg_2 Zb.out)) : gb901 ≠ gb878))
                   have n17_ := zm ((by rw [hg]; exact Nat.ne_of_lt (blk_lt (g := gb892) (o := .cells #[.slice Ao56 t885.length co56, .slice Ao60 t888.length co60] 48 (0, 0)) (zg_2 Zc.out)) : gb892 ≠ gb901))
                   have n18_ := zm ((by rw [hg]; exact Nat.ne_of_gt (blk_lt (g := gb892) (o := .cells #[.slice Ao56 t885.length co56, .slice Ao60 t888.length co60] 48 (0, 0)) (zg_2 Zc.out)) : gb901 ≠ gb892))
                   clear Zd
                   clear Ze
                   clear Zf
                   clear Zg
                   clear Zh
                   clear Zi
                   clear Za
                   clear Zb
                   clear Zc
                   clear HB
                   have Zd := n0_
                   have Ze := n1_
                   have Zf := n2_
                   have Zg := n3_
                   have Zh := n4_
                   have Zi := n5_
                   have Za := n6_
                   have Zb := n7_
                   have Zc := n8_
                   have HB := n9_
                   have Zj := n10_
                   have ZG := n11_
                   have Zt := n12_
                   have Zr := n13_
                   have Zu := n14_
                   have Zs := n15_
                   have Zv := n16_
                   have Zm := n17_
                   have Zw := n18_
                   clear n0_ n1_ n2_ n3_ n4_ n5_ n6_ n7_ n8_ n9_ n10_ n11_ n12_ n13_ n14_ n15_ n16_ n17_ n18_
                   clear hb hbox hg
                   refine hK.out _ _ ⟨(blk_cell Zc.out 0).trans rfl, (blk_cell Zc.out 1).trans rfl⟩ (fun hHeld => ?_)
                   clear hK K
                   refine norm_ (a' := ?_) ?_ ?_
                   rotate_left
                   ·show Act.put _ (some 20) _ = _
                    simp only [Act.put, zs, zz, zt, i64_w, i32_w]
                    rfl
                   refine one_ (i := 3) (N := some 86) #[true, true, true, true, false, false, false, false, true, false, false] rfl rfl (one_of HT_.out (by kernel_rfl)) (by decide) (fun K hK => ?_)
                   refine goes_ Try.func13 (by kernel_rfl) rfl #[.slice A1 l1.length c1, .int .i64 2, .int .i64 4] (by rfl) rfl rfl zq ?_
                   with_reducible refine (laws_at.calls _ _ l1 2 4 t893 _ ?side1 ?side2 A15.out).mono ?_
                   (case side1 => repeat (first | exact (Kd.C_below HR1.out HB.out) | (with_reducible refine Kd.C_alloc ?_ _) | (with_reducible refine Kd.C_drewN ?_ _) | (with_reducible refine Kd.C_drew ?_)))
                   (case side2 => exact HC1.out)
                   rintro e w' ⟨rfl, ⟨nd, rfl⟩⟩
                   refine ⟨_, rfl, ?_⟩
                   refine hK.out _ _ ⟨(blk_cell Zc.out 0).trans rfl, (blk_cell Zc.out 1).trans rfl⟩ (fun hHeld => ?_)
                   clear hK K
                   refine norm_ (a' := ?_) ?_ ?_
                   rotate_left
                   ·show Act.put _ (some 86) _ = _
                    simp only [Act.put, zs, zz, zt, i64_w, i32_w]
                    rfl
                   refine one_ (i := 4) (N := some 87) #[true, true, true, true, true, false, false, false, true, false, false] rfl rfl (one_of HT_.out (by kernel_rfl)) (by decide) (fun K hK => ?_)
                   refine goes_ Try.func25 (by kernel_rfl) rfl #[.agg #[.slice Ao56 t885.length co56, .slice Ao60 t888.length co60], .int .i64 t868, .int .i64 t893] (by rfl) rfl rfl zq ?_
                   with_reducible refine (impl_LoseHost.calls _ _ t885 _ _ t888 t868 t893 t894 t897 t900 _ ?side1 ?side2 ?side3 ?side4 A16.out).mono ?_
                   (case side1 => repeat (first | exact (Kd.R_reads' Zh.out).2.2 | (with_reducible refine Kd.C_alloc ?_ _) | (with_reducible refine Kd.C_drewN ?_ _) | (with_reducible refine Kd.C_drew ?_)))
                   (case side2 => exact (Kd.R_reads' Zh.out).2.1)
                   (case side3 => repeat (first | exact (Kd.R_reads' Zi.out).2.2 | (with_reducible refine Kd.C_alloc ?_ _) | (with_reducible refine Kd.C_drewN ?_ _) | (with_reducible refine Kd.C_drew ?_)))
                   (case side4 => exact (Kd.R_reads' Zi.out).2.1)
                   rintro e w64 ⟨v895, v898, rfl, ho0, ho1, hb⟩
                   refine ⟨_, rfl, ?_⟩
                   have n0_ := zm (Kd.R_elder' (zg_4 Zd.out) (Kd.R_base ho0) hb)
                   have n1_ := zm (Kd.R_elder' (zg_4 Ze.out) (Kd.R_base ho1) hb)
                   have n2_ := zm (Kd.R_elder' (zg_4 Zf.out) (Kd.R_base ho0) hb)
                   have n3_ := zm (Kd.R_elder' (zg_4 Zg.out) (Kd.R_base ho1) hb)
                   have n4_ := zm (Kd.R_elder' (zg_4 Zh.out) (Kd.R_base ho0) hb)
                   have n5_ := zm (Kd.R_elder' (zg_4 Zi.out) (Kd.R_base ho1) hb)
                   have n6_ := zm (Kd.R_lower (Kd.R_new' (Kd.R_new' (Kd.R_new' ho0 (Kd.R_lt (zg_4 Zd.out))) (Kd.R_lt (zg_4 Zf.out))) (Kd.R_lt (zg_4 Zh.out))) (below_size (zg_19 HB.out Zk.out Zl.out Zn.out Zt.out)))
                   have n7_ := zm (Kd.R_lower (Kd.R_new' (Kd.R_new' (Kd.R_new' ho1 (Kd.R_lt (zg_4 Ze.out))) (Kd.R_lt (zg_4 Zg.out))) (Kd.R_lt (zg_4 Zi.out))) (below_size (zg_19 HB.out Zk.out Zl.out Zn.out Zt.out)))
                   have n8_ := zm (blk_below (g := gb867) (o := .cells #[.slice Ao37 t861.length co37, .slice Ao39 t864.length co39] 48 (0, 0)) (zg_2 Za.out) hb)
                   have n9_ := zm (blk_below (g := gb878) (o := .cells #[.slice Ao44 t871.length co44, .slice Ao47 t874.length co47] 48 (0, 0)) (zg_2 Zb.out) hb)
                   have n10_ := zm (blk_below (g := gb892) (o := .cells #[.slice Ao56 t885.length co56, .slice Ao60 t888.length co60] 48 (0, 0)) (zg_2 Zc.out) hb)
                   have n11_ := zm (blk_below (g := gb901) (o := .cells #[.slice none 0 0, .slice none 0 0] 48 (0, 0)) (zg_2 Zj.out) hb)
                   have n12_ := zm (below_step (zg_19 HB.out Zk.out Zl.out Zn.out Zt.out) hb)
                   clear Zd
                   clear Ze
                   clear Zf
                   clear Zg
                   clear Zh
                   clear Zi
                   clear Za
                   clear Zb
                   clear Zc
                   clear Zj
                   clear HB
                   have Zd := n0_
                   have Ze := n1_
                   have Zf := n2_
                   have Zg := n3_
                   have Zh := n4_
                   have Zi := n5_
                   have Zo := n6_
                   have Zp := n7_
                   have Za := n8_
                   have Zb := n9_
                   have Zc := n10_
                   have Zj := n11_
                   have HB := n12_
                   clear n0_ n1_ n2_ n3_ n4_ n5_ n6_ n7_ n8_ n9_ n10_ n11_ n12_
                   (try clear hb)
                   (try clear hb2)
                   (try clear hk)
                   (try clear hi)
                   (try clear ho0)
                   (try clear ho1)
                   refine hK.out _ _ ⟨(blk_cell Zc.out 0).trans rfl, (blk_cell Zc.out 1).trans rfl⟩ (fun hHeld => ?_)
                   clear hK K
                   refine norm_ (a' := ?_) ?_ ?_
                   rotate_left
                   ·show Act.put _ (some 87) _ = _
                    simp only [Act.put, zs, zz, zt, i64_w, i32_w]
                    rfl
                   refine pure_ (i := 5) (N := some 82) (v := ?_) (a' := ?_) #[true, true, true, true, true, true, false, false, true, false, false] rfl rfl (any_of HT_.out (by kernel_rfl)) (fun _ _ _ h => h) (Or.inl ⟨by rfl, ?_⟩) ?_ ?_
                   rotate_left
                   ·intro w'
                    go_simp
                    with_reducible rfl
                   rotate_left
                   ·simp only [Act.put, zs, zz, zt, i64_w, i32_w]
                    rfl
                   refine pure_ (i := 6) (N := some 88) (v := ?_) (a' := ?_) #[true, true, true, true, true, true, true, false, true, false, false] rfl rfl (any_of HT_.out (by kernel_rfl)) (fun _ _ _ h => h) (Or.inl ⟨by rfl, ?_⟩) ?_ ?_
                   rotate_left
                   ·intro w'
                    go_simp
                    with_reducible rfl
                   rotate_left
                   ·simp only [Act.put, zs, zz, zt, i64_w, i32_w]
                    rfl
                   refine pure_ (i := 7) (N := some 89) (v := ?_) (a' := ?_) #[true, true, true, true, true, true, true, true, true, false, false] rfl rfl (any_of HT_.out (by kernel_rfl)) (fun _ _ _ h => h) (Or.inl ⟨by rfl, ?_⟩) ?_ ?_
                   rotate_left
                   ·intro w'
                    go_simp
                    with_reducible rfl
                   rotate_left
                   ·simp only [Act.put, zs, zz, zt, i64_w, i32_w]
                    rfl
                   exact norm_ (by simp only [putAll, Act.put, zs, zz, zt]) (hCont (v895, v898, gb901) _ ⟨hHeld, (by (with_reducible repeat (first | apply Kd.R_alloc | apply Kd.R_drewN | apply Kd.R_drew)); exact Kd.R_mono Zd.out (fun _ hk => ⟨hk.1.1, ⟨hk.1.2, hk.2⟩⟩)), (by (with_reducible repeat (first | apply Kd.R_alloc | apply Kd.R_drewN | apply Kd.R_drew)); exact Kd.R_mono Ze.out (fun _ hk => ⟨hk.1.1, ⟨hk.1.2, hk.2⟩⟩)), (by (with_reducible repeat (first | apply Kd.R_alloc | apply Kd.R_drewN | apply Kd.R_drew)); exact Kd.R_mono Zf.out (fun _ hk => ⟨hk.1.1, ⟨hk.1.2, hk.2⟩⟩)), (by (with_reducible repeat (first | apply Kd.R_alloc | apply Kd.R_drewN | apply Kd.R_drew)); exact Kd.R_mono Zg.out (fun _ hk => ⟨hk.1.1, ⟨hk.1.2, hk.2⟩⟩)), (by (with_reducible repeat (first | apply Kd.R_alloc | apply Kd.R_drewN | apply Kd.R_drew)); exact Kd.R_mono Zh.out (fun _ hk => ⟨hk.1.1, ⟨hk.1.2, hk.2⟩⟩)), (by (with_reducible repeat (first | apply Kd.R_alloc | apply Kd.R_drewN | apply Kd.R_drew)); exact Kd.R_mono Zi.out (fun _ hk => ⟨hk.1.1, ⟨hk.1.2, hk.2⟩⟩)), (by (with_reducible repeat (first | apply Kd.R_alloc | apply Kd.R_drewN | apply Kd.R_drew)); exact Kd.R_mono Zo.out (fun _ hk => ⟨hk.1.1.2, ⟨hk.1.2, hk.2⟩⟩)), (by (with_reducible repeat (first | apply Kd.R_alloc | apply Kd.R_drewN | apply Kd.R_drew)); exact Kd.R_mono Zp.out (fun _ hk => ⟨hk.1.1.2, ⟨hk.1.2, hk.2⟩⟩)), (zg_2 Za.out), (zg_2 Zb.out), (zg_2 Zc.out), (zg_2 Zj.out), ZG.out, Zt.out, Zr.out, Zu.out, Zs.out, Zv.out, Zm.out, Zw.out, (zg_19 HB.out Zk.out Zl.out Zn.out Zt.out)⟩)
                 rintro ⟨v895, v898, gb901⟩ w65 ⟨hS_, h0_, h1_, h2_, h3_, h4_, h5_, h6_, h7_, h8_, h9_, h10_, h11_, h12_, h13_, h14_, h15_, h16_, h17_, h18_, h19_, h20_⟩
                 have n0_ : Aside0 (Kd.R Kd.string 9 w65 w.heap.size (fun k_ => some k_ ≠ (.slice Ao44 t871.length co44 : Value).ownBlock ∧ some k_ ≠ (.slice Ao56 t885.length co56 : Value).ownBlock ∧ some k_ ≠ (v895 : Value).ownBlock) (.slice Ao37 t861.length co37) t861) := ⟨h0_⟩
                 have n1_ : Aside0 (Kd.R k92 92 w65 w.heap.size (fun k_ => some k_ ≠ (.slice Ao47 t874.length co47 : Value).ownBlock ∧ some k_ ≠ (.slice Ao60 t888.length co60 : Value).ownBlock ∧ some k_ ≠ (v898 : Value).ownBlock) (.slice Ao39 t864.length co39) t864) := ⟨h1_⟩
                 have n2_ : Aside0 (Kd.R Kd.string 9 w65 w.heap.size (fun k_ => some k_ ≠ (.slice Ao37 t861.length co37 : Value).ownBlock ∧ some k_ ≠ (.slice Ao56 t885.length co56 : Value).ownBlock ∧ some k_ ≠ (v895 : Value).ownBlock) (.slice Ao44 t871.length co44) t871) := ⟨h2_⟩
                 have n3_ : Aside0 (Kd.R k92 92 w65 w.heap.size (fun k_ => some k_ ≠ (.slice Ao39 t864.length co39 : Value).ownBlock ∧ some k_ ≠ (.slice Ao60 t888.length co60 : Value).ownBlock ∧ some k_ ≠ (v898 : Value).ownBlock) (.slice Ao47 t874.length co47) t874) := ⟨h3_⟩
                 have n4_ : Aside0 (Kd.R Kd.string 9 w65 w.heap.size (fun k_ => some k_ ≠ (.slice Ao37 t861.length co37 : Value).ownBlock ∧ some k_ ≠ (.slice Ao44 t871.length co44 : Value).ownBlock ∧ some k_ ≠ (v895 : Value).ownBlock) (.slice Ao56 t885.length co56) t885) := ⟨h4_⟩
                 have n5_ : Aside0 (Kd.R k92 92 w65 w.heap.size (fun k_ => some k_ ≠ (.slice Ao39 t864.length co39 : Value).ownBlock ∧ some k_ ≠ (.slice Ao47 t874.length co47 : Value).ownBlock ∧ some k_ ≠ (v898 : Value).ownBlock) (.slice Ao60 t888.length co60) t888) := ⟨h5_⟩
                 have n6_ : Aside0 (Kd.R Kd.string 9 w65 w.heap.size (fun k_ => some k_ ≠ (.slice Ao37 t861.length co37 : Value).ownBlock ∧ some k_ ≠ (.slice Ao44 t871.length co44 : Value).ownBlock ∧ some k_ ≠ (.slice Ao56 t885.length co56 : Value).ownBlock) v895 t894) := ⟨h6_⟩
                 have n7_ : Aside0 (Kd.R k92 92 w65 w.heap.size (fun k_ => some k_ ≠ (.slice Ao39 t864.length co39 : Value).ownBlock ∧ some k_ ≠ (.slice Ao47 t874.length co47 : Value).ownBlock ∧ some k_ ≠ (.slice Ao60 t888.length co60 : Value).ownBlock) v898 t897) := ⟨h7_⟩
                 have n8_ : Aside0 (w65.heap[gb867]? = some (.cells #[.slice Ao37 t861.length co37, .slice Ao39 t864.length co39] 48 (0, 0))) := ⟨h8_⟩
                 have n9_ : Aside0 (w65.heap[gb878]? = some (.cells #[.slice Ao44 t871.length co44, .slice Ao47 t874.length co47] 48 (0, 0))) := ⟨h9_⟩
                 have n10_ : Aside0 (w65.heap[gb892]? = some (.cells #[.slice Ao56 t885.length co56, .slice Ao60 t888.length co60] 48 (0, 0))) := ⟨h10_⟩
                 have n11_ : Aside0 (w65.heap[gb901]? = some (.cells #[.slice none 0 0, .slice none 0 0] 48 (0, 0))) := ⟨h11_⟩
                 have n12_ : Aside0 (w.heap.size ≤ gb901) := ⟨h12_⟩
                 have n13_ : Aside0 (w.heap.size ≤ gb901) := ⟨h13_⟩
                 have n14_ : Aside0 (gb867 ≠ gb901) := ⟨h14_⟩
                 have n15_ : Aside0 (gb901 ≠ gb867) := ⟨h15_⟩
                 have n16_ : Aside0 (gb878 ≠ gb901) := ⟨h16_⟩
                 have n17_ : Aside0 (gb901 ≠ gb878) := ⟨h17_⟩
                 have n18_ : Aside0 (gb892 ≠ gb901) := ⟨h18_⟩
                 have n19_ : Aside0 (gb901 ≠ gb892) := ⟨h19_⟩
                 have n20_ : Aside0 (Below w.heap.size w w65) := ⟨h20_⟩
                 clear Zd
                 clear Ze
                 clear Zf
                 clear Zg
                 clear Zh
                 clear Zi
                 clear Za
                 clear Zb
                 clear Zc
                 clear HB
                 clear h0_ h1_ h2_ h3_ h4_ h5_ h6_ h7_ h8_ h9_ h10_ h11_ h12_ h13_ h14_ h15_ h16_ h17_ h18_ h19_ h20_
                 have Zd := n0_
                 have Ze := n1_
                 have Zf := n2_
                 have Zg := n3_
                 have Zh := n4_
                 have Zi := n5_
                 have Zo := n6_
                 have Zp := n7_
                 have Za := n8_
                 have Zb := n9_
                 have Zc := n10_
                 have Zj := n11_
                 have ZG := n12_
                 have Zt := n13_
                 have Zr := n14_
                 have Zu := n15_
                 have Zs := n16_
                 have Zv := n17_
                 have Zm := n18_
                 have Zw := n19_
                 have HB := n20_
                 clear n0_ n1_ n2_ n3_ n4_ n5_ n6_ n7_ n8_ n9_ n10_ n11_ n12_ n13_ n14_ n15_ n16_ n17_ n18_ n19_ n20_
                 have hHeld : w65.cell? ⟨gb892, 0, none⟩ = some (.slice Ao56 t885.length co56) ∧ w65.cell? ⟨gb892, 1, none⟩ = some (.slice Ao60 t888.length co60) := hS_
                 obtain ⟨Ao66, co66, eo66⟩ := Kd.R_slice Zo.out
                 (first | subst eo66 | (injection eo66 with f1_ f2_ f3_; have f4_ := f1_.symm; have f5_ := f3_.symm; clear f1_ f2_ f3_; subst f4_; subst f5_))
                 obtain ⟨Ao68, co68, eo68⟩ := Kd.R_slice Zp.out
                 (first | subst eo68 | (injection eo68 with f1_ f2_ f3_; have f4_ := f1_.symm; have f5_ := f3_.symm; clear f1_ f2_ f3_; subst f4_; subst f5_))
                 refine norm_ (a' := ?_) ?_ ?_
                 rotate_left
                 ·simp only [putAll, Act.put, zs, zz, zt]
                  rfl
                 refine one_ (i := 9) (N := none) #[true, true, true, true, true, true, true, true, true, true, false] rfl rfl (one_of HT_.out (by kernel_rfl)) (by decide) (fun K hK => ?_)
                 have hs67 : w65.cell? ⟨gb901, 0, none⟩ = some (.slice none 0 0) := (blk_cell Zj.out 0).trans rfl
                 have hfs67 := blk_frozen Zj.out 0
                 have hns67_0 := Zr.out
                 have hns67_1 := Zs.out
                 have hns67_2 := Zm.out
                 have hms67_0 := Zu.out
                 have hms67_1 := Zv.out
                 have hms67_2 := Zw.out
                 have hs69 : w65.cell? ⟨gb901, 1, none⟩ = some (.slice none 0 0) := (blk_cell Zj.out 1).trans rfl
                 have hfs69 := blk_frozen Zj.out 1
                 have hns69_0 := Zr.out
                 have hns69_1 := Zs.out
                 have hns69_2 := Zm.out
                 have hms69_0 := Zu.out
                 have hms69_1 := Zv.out
                 have hms69_2 := Zw.out
                 refine skip_ (w1 := ?_) (by rfl) rfl ?_ ?_
                 rotate_left
                 ·go_simp
                  rfl
                 refine hK.out _ _ ⟨((cell_far (p := ⟨gb901, _, none⟩) Zm.out _).trans (((cell_far (p := ⟨gb901, _, none⟩) Zm.out _).trans (hHeld.1)))), ((cell_far (p := ⟨gb901, _, none⟩) Zm.out _).trans (((cell_far (p := ⟨gb901, _, none⟩) Zm.out _).trans (hHeld.2))))⟩ (fun hHeld => ?_)
                 clear hK K
                 refine pure_ (i := 10) (N := some 21) (v := ?_) (a' := ?_) #[true, true, true, true, true, true, true, true, true, true, true] rfl rfl (any_of HT_.out (by kernel_rfl)) (fun _ _ _ h => h) (Or.inl ⟨by rfl, ?_⟩) ?_ ?_
                 rotate_left
                 ·intro w'
                  go_simp
                  with_reducible rfl
                 rotate_left
                 ·simp only [Act.put, zs, zz, zt, i64_w, i32_w]
                  rfl
                 refine done_ (done_of HT_.out (by kernel_rfl)) ?_
                 have hnb70 := Zu.out
                 have hnc70 := Zr.out
                 have hnb71 := Zv.out
                 have hnc71 := Zs.out
                 have hnb72 := Zw.out
                 have hnc72 := Zm.out
                 have hcz73_0 : w65.cell? ⟨gb901, 0, none⟩ = some (.slice none 0 0) := (blk_cell Zj.out 0).trans rfl
                 have hcz73_1 : w65.cell? ⟨gb901, 1, none⟩ = some (.slice none 0 0) := (blk_cell Zj.out 1).trans rfl
                 have hfz73_0 := blk_frozen Zj.out 0
                 have hfz73_1 := blk_frozen Zj.out 1
                 try go_wp2_with (first | ((with_reducible refine gate_callee (f := 39) rfl ?_); refine goesL_ (some 94) rfl rfl Try.func39 (by kernel_rfl) rfl #[.agg #[.slice Ao66 t894.length co66, .slice Ao68 t897.length co68], .int .i64 t868, .int .i64 t869] rfl zq ?_; (with_reducible refine (impl_ReadSector.calls _ _ t894 _ _ t897 t868 t869 t902 t903 _ ?side1 ?side2 ?side3 ?side4 A17.out).mono ?_); (case side1 => refine (Kd.R_reads' (e := 9) (base := w.heap.size) (ok := fun k_ => (some k_ ≠ (.slice Ao37 t861.length co37 : Value).ownBlock ∧ (some k_ ≠ (.slice Ao44 t871.length co44 : Value).ownBlock ∧ some k_ ≠ (.slice Ao56 t885.length co56 : Value).ownBlock))) (n := t894.length) (c := co66) ?_).2.2; exact (by (with_reducible repeat (first | apply Kd.R_alloc | apply Kd.R_drewN | apply Kd.R_drew)); exact (Kd.R_mono (Kd.R_far (p := ⟨gb901, 1, none⟩) (Kd.R_far (p := ⟨gb901, 0, none⟩) (Kd.R_types Zo.out Zj.out (by decide)) (fun _ hk => hk.2) (.slice Ao66 t894.length co66)) (fun _ hk => hk.2) (.slice Ao68 t897.length co68)) (fun _ h_ => h_.1)))); (case side2 => exact (Kd.R_reads' Zo.out).2.1); (case side3 => refine (Kd.R_reads' (e := 92) (base := w.heap.size) (ok := fun k_ => (some k_ ≠ (.slice Ao39 t864.length co39 : Value).ownBlock ∧ (some k_ ≠ (.slice Ao47 t874.length co47 : Value).ownBlock ∧ some k_ ≠ (.slice Ao60 t888.length co60 : Value).ownBlock))) (n := t897.length) (c := co68) ?_).2.2; exact (by (with_reducible repeat (first | apply Kd.R_alloc | apply Kd.R_drewN | apply Kd.R_drew)); exact (Kd.R_mono (Kd.R_far (p := ⟨gb901, 1, none⟩) (Kd.R_far (p := ⟨gb901, 0, none⟩) (Kd.R_types Zp.out Zj.out (by decide)) (fun _ hk => hk.2) (.slice Ao66 t894.length co66)) (fun _ hk => hk.2) (.slice Ao68 t897.length co68)) (fun _ h_ => h_.1)))); (case side4 => exact (Kd.R_reads' Zp.out).2.1); rintro e w74 ⟨rfl, hb⟩; refine ⟨_, rfl, ?_⟩; have n0_ := zm (Kd.R_below (by (with_reducible repeat (first | apply Kd.R_alloc | apply Kd.R_drewN | apply Kd.R_drew)); exact (Kd.R_mono (Kd.R_far (p := ⟨gb901, 1, none⟩) (Kd.R_far (p := ⟨gb901, 0, none⟩) (Kd.R_types Zd.out Zj.out (by decide)) (fun _ hk => hk.2) (.slice Ao66 t894.length co66)) (fun _ hk => hk.2) (.slice Ao68 t897.length co68)) (fun _ h_ => h_.1))) hb); have n1_ := zm (Kd.R_below (by (with_reducible repeat (first | apply Kd.R_alloc | apply Kd.R_drewN | apply Kd.R_drew)); exact (Kd.R_mono (Kd.R_far (p := ⟨gb901, 1, none⟩) (Kd.R_far (p := ⟨gb901, 0, none⟩) (Kd.R_types Ze.out Zj.out (by decide)) (fun _ hk => hk.2) (.slice Ao66 t894.length co66)) (fun _ hk => hk.2) (.slice Ao68 t897.length co68)) (fun _ h_ => h_.1))) hb); have n2_ := zm (Kd.R_below (by (with_reducible repeat (first | apply Kd.R_alloc | apply Kd.R_drewN | apply Kd.R_drew)); exact (Kd.R_mono (Kd.R_far (p := ⟨gb901, 1, none⟩) (Kd.R_far (p := ⟨gb901, 0, none⟩) (Kd.R_types Zf.out Zj.out (by decide)) (fun _ hk => hk.2) (.slice Ao66 t894.length co66)) (fun _ hk => hk.2) (.slice Ao68 t897.length co68)) (fun _ h_ => h_.1))) hb); have n3_ := zm (Kd.R_below (by (with_reducible repeat (first | apply Kd.R_alloc | apply Kd.R_drewN | apply Kd.R_drew)); exact (Kd.R_mono (Kd.R_far (p := ⟨gb901, 1, none⟩) (Kd.R_far (p := ⟨gb901, 0, none⟩) (Kd.R_types Zg.out Zj.out (by decide)) (fun _ hk => hk.2) (.slice Ao66 t894.length co66)) (fun _ hk => hk.2) (.slice Ao68 t897.length co68)) (fun _ h_ => h_.1))) hb); have n4_ := zm (Kd.R_below (by (with_reducible repeat (first | apply Kd.R_alloc | apply Kd.R_drewN | apply Kd.R_drew)); exact (Kd.R_mono (Kd.R_far (p := ⟨gb901, 1, none⟩) (Kd.R_far (p := ⟨gb901, 0, none⟩) (Kd.R_types Zh.out Zj.out (by decide)) (fun _ hk => hk.2) (.slice Ao66 t894.length co66)) (fun _ hk => hk.2) (.slice Ao68 t897.length co68)) (fun _ h_ => h_.1))) hb); have n5_ := zm (Kd.R_below (by (with_reducible repeat (first | apply Kd.R_alloc | apply Kd.R_drewN | apply Kd.R_drew)); exact (Kd.R_mono (Kd.R_far (p := ⟨gb901, 1, none⟩) (Kd.R_far (p := ⟨gb901, 0, none⟩) (Kd.R_types Zi.out Zj.out (by decide)) (fun _ hk => hk.2) (.slice Ao66 t894.length co66)) (fun _ hk => hk.2) (.slice Ao68 t897.length co68)) (fun _ h_ => h_.1))) hb); have n6_ := zm (Kd.R_below (by (with_reducible repeat (first | apply Kd.R_alloc | apply Kd.R_drewN | apply Kd.R_drew)); exact (Kd.R_mono (Kd.R_far (p := ⟨gb901, 1, none⟩) (Kd.R_far (p := ⟨gb901, 0, none⟩) (Kd.R_types Zo.out Zj.out (by decide)) (fun _ hk => hk.2) (.slice Ao66 t894.length co66)) (fun _ hk => hk.2) (.slice Ao68 t897.length co68)) (fun _ h_ => h_.1))) hb); have n7_ := zm (Kd.R_below (by (with_reducible repeat (first | apply Kd.R_alloc | apply Kd.R_drewN | apply Kd.R_drew)); exact (Kd.R_mono (Kd.R_far (p := ⟨gb901, 1, none⟩) (Kd.R_far (p := ⟨gb901, 0, none⟩) (Kd.R_types Zp.out Zj.out (by decide)) (fun _ hk => hk.2) (.slice Ao66 t894.length co66)) (fun _ hk => hk.2) (.slice Ao68 t897.length co68)) (fun _ h_ => h_.1))) hb); have n8_ := zm (blk_below (g := gb867) (o := .cells #[.slice Ao37 t861.length co37, .slice Ao39 t864.length co39] 48 (0, 0)) (by (with_reducible repeat (first | refine blk_drewN ?_ _ | refine blk_drew ?_ | refine blk_alloc ?_ _)); refine blk_far ?_ Zr.out _; (with_reducible repeat (first | refine blk_drewN ?_ _ | refine blk_drew ?_ | refine blk_alloc ?_ _)); refine blk_far ?_ Zr.out _; (with_reducible repeat (first | refine blk_drewN ?_ _ | refine blk_drew ?_ | refine blk_alloc ?_ _)); exact Za.out) hb); have n9_ := zm (blk_below (g := gb878) (o := .cells #[.slice Ao44 t871.length co44, .slice Ao47 t874.length co47] 48 (0, 0)) (by (with_reducible repeat (first | refine blk_drewN ?_ _ | refine blk_drew ?_ | refine blk_alloc ?_ _)); refine blk_far ?_ Zs.out _; (with_reducible repeat (first | refine blk_drewN ?_ _ | refine blk_drew ?_ | refine blk_alloc ?_ _)); refine blk_far ?_ Zs.out _; (with_reducible repeat (first | refine blk_drewN ?_ _ | refine blk_drew ?_ | refine blk_alloc ?_ _)); exact Zb.out) hb); have n10_ := zm (blk_below (g := gb892) (o := .cells #[.slice Ao56 t885.length co56, .slice Ao60 t888.length co60] 48 (0, 0)) (by (with_reducible repeat (first | refine blk_drewN ?_ _ | refine blk_drew ?_ | refine blk_alloc ?_ _)); refine blk_far ?_ Zm.out _; (with_reducible repeat (first | refine blk_drewN ?_ _ | refine blk_drew ?_ | refine blk_alloc ?_ _)); refine blk_far ?_ Zm.out _; (with_reducible repeat (first | refine blk_drewN ?_ _ | refine blk_drew ?_ | refine blk_alloc ?_ _)); exact Zc.out) hb); have n11_ := zm (blk_below (g := gb901) (o := .cells #[.slice Ao66 t894.length co66, .slice Ao68 t897.length co68] 48 (0, 0)) (by (with_reducible repeat (first | refine blk_drewN ?_ _ | refine blk_drew ?_ | refine blk_alloc ?_ _)); refine blk_put (cs := #[.slice Ao66 t894.length co66, .slice none 0 0]) ?_ 1 _ rfl; (with_reducible repeat (first | refine blk_drewN ?_ _ | refine blk_drew ?_ | refine blk_alloc ?_ _)); refine blk_put (cs := #[.slice none 0 0, .slice none 0 0]) ?_ 0 _ rfl; (with_reducible repeat (first | refine blk_drewN ?_ _ | refine blk_drew ?_ | refine blk_alloc ?_ _)); exact Zj.out) hb); have n12_ := zm (below_step (zg_19 HB.out Zk.out Zl.out Zn.out Zt.out) hb); clear Zd; clear Ze; clear Zf; clear Zg; clear Zh; clear Zi; clear Zo; clear Zp; clear Za; clear Zb; clear Zc; clear Zj; clear HB; have Zd := n0_; have Ze := n1_; have Zf := n2_; have Zg := n3_; have Zh := n4_; have Zi := n5_; have Zo := n6_; have Zp := n7_; have Za := n8_; have Zb := n9_; have Zc := n10_; have Zj := n11_; have HB := n12_; clear n0_ n1_ n2_ n3_ n4_ n5_ n6_ n7_ n8_ n9_ n10_ n11_ n12_; (try clear hb); (try clear hb2); (try clear hk); (try clear hi); have hcz75_0 : w74.cell? ⟨gb878, 0, none⟩ = some (.slice Ao44 t871.length co44) := (blk_cell Zb.out 0).trans rfl; have hcz75_1 : w74.cell? ⟨gb878, 1, none⟩ = some (.slice Ao47 t874.length co47) := (blk_cell Zb.out 1).trans rfl; have hfz75_0 := blk_frozen Zb.out 0; have hfz75_1 := blk_frozen Zb.out 1) | ((with_reducible refine gate_callee (f := 41) rfl ?_); refine goesL_ (some 100) rfl rfl Try.func41 (by kernel_rfl) rfl #[.agg #[.slice Ao44 t871.length co44, .slice Ao47 t874.length co47], .int .i64 t868] rfl zq ?_; (with_reducible refine (spec_Flush.calls kj2 _ _ t871 _ _ t874 t868 t904 t907 t910 _ ?side1 ?side2 ?side3 ?side4 A18.out).mono ?_); (case side1 => repeat (first | exact (Kd.R_reads' Zf.out).2.2 | (with_reducible refine Kd.C_alloc ?_ _) | (with_reducible refine Kd.C_drewN ?_ _) | (with_reducible refine Kd.C_drew ?_))); (case side2 => exact (Kd.R_reads' Zf.out).2.1); (case side3 => repeat (first | exact (Kd.R_reads' Zg.out).2.2 | (with_reducible refine Kd.C_alloc ?_ _) | (with_reducible refine Kd.C_drewN ?_ _) | (with_reducible refine Kd.C_drew ?_))); (case side4 => exact (Kd.R_reads' Zg.out).2.1); rintro e w76 ⟨v905, v908, rfl, ho0, ho1, hb⟩; refine ⟨_, rfl, ?_⟩; have n0_ := zm (Kd.R_elder' (zg_4 Zd.out) (Kd.R_base ho0) hb); have n1_ := zm (Kd.R_elder' (zg_4 Ze.out) (Kd.R_base ho1) hb); have n2_ := zm (Kd.R_elder' (zg_4 Zf.out) (Kd.R_base ho0) hb); have n3_ := zm (Kd.R_elder' (zg_4 Zg.out) (Kd.R_base ho1) hb); have n4_ := zm (Kd.R_elder' (zg_4 Zh.out) (Kd.R_base ho0) hb); have n5_ := zm (Kd.R_elder' (zg_4 Zi.out) (Kd.R_base ho1) hb); have n6_ := zm (Kd.R_elder' (zg_4 Zo.out) (Kd.R_base ho0) hb); have n7_ := zm (Kd.R_elder' (zg_4 Zp.out) (Kd.R_base ho1) hb); have n8_ := zm (Kd.R_lower (Kd.R_new' (Kd.R_new' (Kd.R_new' (Kd.R_new' ho0 (Kd.R_lt (zg_4 Zd.out))) (Kd.R_lt (zg_4 Zf.out))) (Kd.R_lt (zg_4 Zh.out))) (Kd.R_lt (zg_4 Zo.out))) (below_size (zg_19 HB.out Zk.out Zl.out Zn.out Zt.out))); have n9_ := zm (Kd.R_lower (Kd.R_new' (Kd.R_new' (Kd.R_new' (Kd.R_new' ho1 (Kd.R_lt (zg_4 Ze.out))) (Kd.R_lt (zg_4 Zg.out))) (Kd.R_lt (zg_4 Zi.out))) (Kd.R_lt (zg_4 Zp.out))) (below_size (zg_19 HB.out Zk.out Zl.out Zn.out Zt.out))); have n10_ := zm (blk_below (g := gb867) (o := .cells #[.slice Ao37 t861.length co37, .slice Ao39 t864.length co39] 48 (0, 0)) (zg_2 Za.out) hb); have n11_ := zm (blk_below (g := gb878) (o := .cells #[.slice Ao44 t871.length co44, .slice Ao47 t874.length co47] 48 (0, 0)) (zg_2 Zb.out) hb); have n12_ := zm (blk_below (g := gb892) (o := .cells #[.slice Ao56 t885.length co56, .slice Ao60 t888.length co60] 48 (0, 0)) (zg_2 Zc.out) hb); have n13_ := zm (blk_below (g := gb901) (o := .cells #[.slice Ao66 t894.length co66, .slice Ao68 t897.length co68] 48 (0, 0)) (zg_2 Zj.out) hb); have n14_ := zm (below_step (zg_19 HB.out Zk.out Zl.out Zn.out Zt.out) hb); clear Zd; clear Ze; clear Zf; clear Zg; clear Zh; clear Zi; clear Zo; clear Zp; clear Za; clear Zb; clear Zc; clear Zj; clear HB; have Zd := n0_; have Ze := n1_; have Zf := n2_; have Zg := n3_; have Zh := n4_; have Zi := n5_; have Zo := n6_; have Zp := n7_; have Zx := n8_; have Zy := n9_; have Za := n10_; have Zb := n11_; have Zc := n12_; have Zj := n13_; have HB := n14_; clear n0_ n1_ n2_ n3_ n4_ n5_ n6_ n7_ n8_ n9_ n10_ n11_ n12_ n13_ n14_; (try clear hb); (try clear hb2); (try clear hk); (try clear hi); (try clear ho0); (try clear ho1)) | ((with_reducible refine gate_dst (N := 24) rfl ?_); (try (refine gate_guard (by rfl) ?_; dsimp only)); refine box_event ?hg (N := 24) ?hd (cs := #[.slice none 0 0, .slice none 0 0]) (t := 48) ?hr ?_; (case hd => rfl); (case hg => rfl); (case hr => first | (go_simp; done) | (go_simp; rfl)); intro gb911 hg w77 hbox hb; have n0_ := zm (Kd.R_below (zg_4 Zd.out) hb); have n1_ := zm (Kd.R_below (zg_4 Ze.out) hb); have n2_ := zm (Kd.R_below (zg_4 Zf.out) hb); have n3_ := zm (Kd.R_below (zg_4 Zg.out) hb); have n4_ := zm (Kd.R_below (zg_4 Zh.out) hb); have n5_ := zm (Kd.R_below (zg_4 Zi.out) hb); have n6_ := zm (Kd.R_below (zg_4 Zo.out) hb); have n7_ := zm (Kd.R_below (zg_4 Zp.out) hb); have n8_ := zm (Kd.R_below (zg_4 Zx.out) hb); have n9_ := zm (Kd.R_below (zg_4 Zy.out) hb); have n10_ := zm (blk_below (g := gb867) (o := .cells #[.slice Ao37 t861.length co37, .slice Ao39 t864.length co39] 48 (0, 0)) (zg_2 Za.out) hb); have n11_ := zm (blk_below (g := gb878) (o := .cells #[.slice Ao44 t871.length co44, .slice Ao47 t874.length co47] 48 (0, 0)) (zg_2 Zb.out) hb); have n12_ := zm (blk_below (g := gb892) (o := .cells #[.slice Ao56 t885.length co56, .slice Ao60 t888.length co60] 48 (0, 0)) (zg_2 Zc.out) hb); have n13_ := zm (blk_below (g := gb901) (o := .cells #[.slice Ao66 t894.length co66, .slice Ao68 t897.length co68] 48 (0, 0)) (zg_2 Zj.out) hb); have n14_ := zm (below_step (zg_19 HB.out Zk.out Zl.out Zn.out Zt.out) hb); have n15_ := zm (hbox); have n16_ := zm ((by rw [hg]; exact (below_size (zg_19 HB.out Zk.out Zl.out Zn.out Zt.out)) : w.heap.size ≤ gb911)); have n17_ := zm ((by rw [hg]; exact (below_size (zg_19 HB.out Zk.out Zl.out Zn.out Zt.out)) : w.heap.size ≤ gb911)); have n18_ := zm ((by rw [hg]; exact Nat.ne_of_lt (blk_lt (g := gb867) (o := .cells #[.slice Ao37 t861.length co37, .slice Ao39 t864.length co39] 48 (0, 0)) (zg_2 Za.out)) : gb867 ≠ gb911)); have n19_ := zm ((by rw [hg]; exact Nat.ne_of_gt (blk_lt (g := gb867) (o := .cells #[.slice Ao37 t861.length co37, .slice Ao39 t864.length co39] 48 (0, 0)) (zg_2 Za.out)) : gb911 ≠ gb867)); have n20_ := zm ((by rw [hg]; exact Nat.ne_of_lt (blk_lt (g := gb878) (o := .cells #[.slice Ao44 t871.length co44, .slice Ao47 t874.length co47] 48 (0, 0)) (zg_2 Zb.out)) : gb878 ≠ gb911)); have n21_ := zm ((by rw [hg]; exact Nat.ne_of_gt (blk_lt (g := gb878) (o := .cells #[.slice Ao44 t871.length co44, .slice Ao47 t874.length co47] 48 (0, 0)) (zg_2 Zb.out)) : gb911 ≠ gb878)); have n22_ := zm ((by rw [hg]; exact Nat.ne_of_lt (blk_lt (g := gb892) (o := .cells #[.slice Ao56 t885.length co56, .slice Ao60 t888.length co60] 48 (0, 0)) (zg_2 Zc.out)) : gb892 ≠ gb911)); have n23_ := zm ((by rw [hg]; exact Nat.ne_of_gt (blk_lt (g := gb892) (o := .cells #[.slice Ao56 t885.length co56, .slice Ao60 t888.length co60] 48 (0, 0)) (zg_2 Zc.out)) : gb911 ≠ gb892)); have n24_ := zm ((by rw [hg]; exact Nat.ne_of_lt (blk_lt (g := gb901) (o := .cells #[.slice Ao66 t894.length co66, .slice Ao68 t897.length co68] 48 (0, 0)) (zg_2 Zj.out)) : gb901 ≠ gb911)); have n25_ := zm ((by rw [hg]; exact Nat.ne_of_gt (blk_lt (g := gb901) (o := .cells #[.slice Ao66 t894.length co66, .slice Ao68 t897.length co68] 48 (0, 0)) (zg_2 Zj.out)) : gb911 ≠ gb901)); clear Zd; clear Ze; clear Zf; clear Zg; clear Zh; clear Zi; clear Zo; clear Zp; clear Zx; clear Zy; clear Za; clear Zb; clear Zc; clear Zj; clear HB; have Zd := n0_; have Ze := n1_; have Zf := n2_; have Zg := n3_; have Zh := n4_; have Zi := n5_; have Zo := n6_; have Zp := n7_; have Zx := n8_; have Zy := n9_; have Za := n10_; have Zb := n11_; have Zc := n12_; have Zj := n13_; have HB := n14_; have Zq := n15_; have ZS := n16_; have ZH := n17_; have ZC := n18_; have ZL := n19_; have ZD := n20_; have ZM := n21_; have ZE := n22_; have ZN := n23_; have ZF := n24_; have ZO := n25_; clear n0_ n1_ n2_ n3_ n4_ n5_ n6_ n7_ n8_ n9_ n10_ n11_ n12_ n13_ n14_ n15_ n16_ n17_ n18_ n19_ n20_ n21_ n22_ n23_ n24_ n25_; clear hb hbox hg; obtain ⟨Ao78, co78, eo78⟩ := Kd.R_slice Zx.out; subst eo78; have hnb79 := ZL.out; have hnc79 := ZC.out; have hnb80 := ZM.out; have hnc80 := ZD.out; have hnb81 := ZN.out; have hnc81 := ZE.out; have hnb82 := ZO.out; have hnc82 := ZF.out; have hcz83_0 : w77.cell? ⟨gb911, 0, none⟩ = some (.slice none 0 0) := (blk_cell Zq.out 0).trans rfl; have hcz83_1 : w77.cell? ⟨gb911, 1, none⟩ = some (.slice none 0 0) := (blk_cell Zq.out 1).trans rfl; have hfz83_0 := blk_frozen Zq.out 0; have hfz83_1 := blk_frozen Zq.out 1; obtain ⟨Ao84, co84, eo84⟩ := Kd.R_slice Zy.out; subst eo84; have hcz85_0 : w77.cell? ⟨gb892, 0, none⟩ = some (.slice Ao56 t885.length co56) := (blk_cell Zc.out 0).trans rfl; have hcz85_1 : w77.cell? ⟨gb892, 1, none⟩ = some (.slice Ao60 t888.length co60) := (blk_cell Zc.out 1).trans rfl; have hfz85_0 := blk_frozen Zc.out 0; have hfz85_1 := blk_frozen Zc.out 1) | ((with_reducible refine gate_callee (f := 27) rfl ?_); refine goesL_ (some 106) rfl rfl Try.func27 (by kernel_rfl) rfl #[.agg #[.slice Ao56 t885.length co56, .slice Ao60 t888.length co60], .int .i64 t868] rfl zq ?_; (with_reducible refine (impl_PendingOf.calls kj2 _ _ t885 _ _ t888 t868 t912 t913 _ ?side1 ?side2 ?side3 ?side4 A19.out).mono ?_); (case side1 => refine (Kd.R_reads' (e := 9) (base := w.heap.size) (ok := fun k_ => ((some k_ ≠ (.slice Ao37 t861.length co37 : Value).ownBlock ∧ (some k_ ≠ (.slice Ao44 t871.length co44 : Value).ownBlock ∧ some k_ ≠ (.slice Ao66 t894.length co66 : Value).ownBlock)) ∧ some k_ ≠ (.slice Ao78 t904.length co78 : Value).ownBlock)) (n := t885.length) (c := co56) ?_).2.2; exact (by (with_reducible repeat (first | apply Kd.R_alloc | apply Kd.R_drewN | apply Kd.R_drew)); exact (Kd.R_mono (Kd.R_far (p := ⟨gb911, 1, none⟩) (Kd.R_far (p := ⟨gb911, 0, none⟩) (Kd.R_types Zh.out Zq.out (by decide)) (fun _ hk => hk.2) (.slice Ao78 t904.length co78)) (fun _ hk => hk.2) (.slice Ao84 t907.length co84)) (fun _ h_ => h_.1)))); (case side2 => exact (Kd.R_reads' Zh.out).2.1); (case side3 => refine (Kd.R_reads' (e := 92) (base := w.heap.size) (ok := fun k_ => ((some k_ ≠ (.slice Ao39 t864.length co39 : Value).ownBlock ∧ (some k_ ≠ (.slice Ao47 t874.length co47 : Value).ownBlock ∧ some k_ ≠ (.slice Ao68 t897.length co68 : Value).ownBlock)) ∧ some k_ ≠ (.slice Ao84 t907.length co84 : Value).ownBlock)) (n := t888.length) (c := co60) ?_).2.2; exact (by (with_reducible repeat (first | apply Kd.R_alloc | apply Kd.R_drewN | apply Kd.R_drew)); exact (Kd.R_mono (Kd.R_far (p := ⟨gb911, 1, none⟩) (Kd.R_far (p := ⟨gb911, 0, none⟩) (Kd.R_types Zi.out Zq.out (by decide)) (fun _ hk => hk.2) (.slice Ao78 t904.length co78)) (fun _ hk => hk.2) (.slice Ao84 t907.length co84)) (fun _ h_ => h_.1)))); (case side4 => exact (Kd.R_reads' Zi.out).2.1); rintro e w86 ⟨rfl, hb⟩; refine ⟨_, rfl, ?_⟩; have n0_ := zm (Kd.R_below (by (with_reducible repeat (first | apply Kd.R_alloc | apply Kd.R_drewN | apply Kd.R_drew)); exact (Kd.R_mono (Kd.R_far (p := ⟨gb911, 1, none⟩) (Kd.R_far (p := ⟨gb911, 0, none⟩) (Kd.R_types Zd.out Zq.out (by decide)) (fun _ hk => hk.2) (.slice Ao78 t904.length co78)) (fun _ hk => hk.2) (.slice Ao84 t907.length co84)) (fun _ h_ => h_.1))) hb); have n1_ := zm (Kd.R_below (by (with_reducible repeat (first | apply Kd.R_alloc | apply Kd.R_drewN | apply Kd.R_drew)); exact (Kd.R_mono (Kd.R_far (p := ⟨gb911, 1, none⟩) (Kd.R_far (p := ⟨gb911, 0, none⟩) (Kd.R_types Ze.out Zq.out (by decide)) (fun _ hk => hk.2) (.slice Ao78 t904.length co78)) (fun _ hk => hk.2) (.slice Ao84 t907.length co84)) (fun _ h_ => h_.1))) hb); have n2_ := zm (Kd.R_below (by (with_reducible repeat (first | apply Kd.R_alloc | apply Kd.R_drewN | apply Kd.R_drew)); exact (Kd.R_mono (Kd.R_far (p := ⟨gb911, 1, none⟩) (Kd.R_far (p := ⟨gb911, 0, none⟩) (Kd.R_types Zf.out Zq.out (by decide)) (fun _ hk => hk.2) (.slice Ao78 t904.length co78)) (fun _ hk => hk.2) (.slice Ao84 t907.length co84)) (fun _ h_ => h_.1))) hb); have n3_ := zm (Kd.R_below (by (with_reducible repeat (first | apply Kd.R_alloc | apply Kd.R_drewN | apply Kd.R_drew)); exact (Kd.R_mono (Kd.R_far (p := ⟨gb911, 1, none⟩) (Kd.R_far (p := ⟨gb911, 0, none⟩) (Kd.R_types Zg.out Zq.out (by decide)) (fun _ hk => hk.2) (.slice Ao78 t904.length co78)) (fun _ hk => hk.2) (.slice Ao84 t907.length co84)) (fun _ h_ => h_.1))) hb); have n4_ := zm (Kd.R_below (by (with_reducible repeat (first | apply Kd.R_alloc | apply Kd.R_drewN | apply Kd.R_drew)); exact (Kd.R_mono (Kd.R_far (p := ⟨gb911, 1, none⟩) (Kd.R_far (p := ⟨gb911, 0, none⟩) (Kd.R_types Zh.out Zq.out (by decide)) (fun _ hk => hk.2) (.slice Ao78 t904.length co78)) (fun _ hk => hk.2) (.slice Ao84 t907.length co84)) (fun _ h_ => h_.1))) hb); have n5_ := zm (Kd.R_below (by (with_reducible repeat (first | apply Kd.R_alloc | apply Kd.R_drewN | apply Kd.R_drew)); exact (Kd.R_mono (Kd.R_far (p := ⟨gb911, 1, none⟩) (Kd.R_far (p := ⟨gb911, 0, none⟩) (Kd.R_types Zi.out Zq.out (by decide)) (fun _ hk => hk.2) (.slice Ao78 t904.length co78)) (fun _ hk => hk.2) (.slice Ao84 t907.length co84)) (fun _ h_ => h_.1))) hb); have n6_ := zm (Kd.R_below (by (with_reducible repeat (first | apply Kd.R_alloc | apply Kd.R_drewN | apply Kd.R_drew)); exact (Kd.R_mono (Kd.R_far (p := ⟨gb911, 1, none⟩) (Kd.R_far (p := ⟨gb911, 0, none⟩) (Kd.R_types Zo.out Zq.out (by decide)) (fun _ hk => hk.2) (.slice Ao78 t904.length co78)) (fun _ hk => hk.2) (.slice Ao84 t907.length co84)) (fun _ h_ => h_.1))) hb); have n7_ := zm (Kd.R_below (by (with_reducible repeat (first | apply Kd.R_alloc | apply Kd.R_drewN | apply Kd.R_drew)); exact (Kd.R_mono (Kd.R_far (p := ⟨gb911, 1, none⟩) (Kd.R_far (p := ⟨gb911, 0, none⟩) (Kd.R_types Zp.out Zq.out (by decide)) (fun _ hk => hk.2) (.slice Ao78 t904.length co78)) (fun _ hk => hk.2) (.slice Ao84 t907.length co84)) (fun _ h_ => h_.1))) hb); have n8_ := zm (Kd.R_below (by (with_reducible repeat (first | apply Kd.R_alloc | apply Kd.R_drewN | apply Kd.R_drew)); exact (Kd.R_mono (Kd.R_far (p := ⟨gb911, 1, none⟩) (Kd.R_far (p := ⟨gb911, 0, none⟩) (Kd.R_types Zx.out Zq.out (by decide)) (fun _ hk => hk.2) (.slice Ao78 t904.length co78)) (fun _ hk => hk.2) (.slice Ao84 t907.length co84)) (fun _ h_ => h_.1))) hb); have n9_ := zm (Kd.R_below (by (with_reducible repeat (first | apply Kd.R_alloc | apply Kd.R_drewN | apply Kd.R_drew)); exact (Kd.R_mono (Kd.R_far (p := ⟨gb911, 1, none⟩) (Kd.R_far (p := ⟨gb911, 0, none⟩) (Kd.R_types Zy.out Zq.out (by decide)) (fun _ hk => hk.2) (.slice Ao78 t904.length co78)) (fun _ hk => hk.2) (.slice Ao84 t907.length co84)) (fun _ h_ => h_.1))) hb); have n10_ := zm (blk_below (g := gb867) (o := .cells #[.slice Ao37 t861.length co37, .slice Ao39 t864.length co39] 48 (0, 0)) (by (with_reducible repeat (first | refine blk_drewN ?_ _ | refine blk_drew ?_ | refine blk_alloc ?_ _)); refine blk_far ?_ ZC.out _; (with_reducible repeat (first | refine blk_drewN ?_ _ | refine blk_drew ?_ | refine blk_alloc ?_ _)); refine blk_far ?_ ZC.out _; (with_reducible repeat (first | refine blk_drewN ?_ _ | refine blk_drew ?_ | refine blk_alloc ?_ _)); exact Za.out) hb); have n11_ := zm (blk_below (g := gb878) (o := .cells #[.slice Ao44 t871.length co44, .slice Ao47 t874.length co47] 48 (0, 0)) (by (with_reducible repeat (first | refine blk_drewN ?_ _ | refine blk_drew ?_ | refine blk_alloc ?_ _)); refine blk_far ?_ ZD.out _; (with_reducible repeat (first | refine blk_drewN ?_ _ | refine blk_drew ?_ | refine blk_alloc ?_ _)); refine blk_far ?_ ZD.out _; (with_reducible repeat (first | refine blk_drewN ?_ _ | refine blk_drew ?_ | refine blk_alloc ?_ _)); exact Zb.out) hb); have n12_ := zm (blk_below (g := gb892) (o := .cells #[.slice Ao56 t885.length co56, .slice Ao60 t888.length co60] 48 (0, 0)) (by (with_reducible repeat (first | refine blk_drewN ?_ _ | refine blk_drew ?_ | refine blk_alloc ?_ _)); refine blk_far ?_ ZE.out _; (with_reducible repeat (first | refine blk_drewN ?_ _ | refine blk_drew ?_ | refine blk_alloc ?_ _)); refine blk_far ?_ ZE.out _; (with_reducible repeat (first | refine blk_drewN ?_ _ | refine blk_drew ?_ | refine blk_alloc ?_ _)); exact Zc.out) hb); have n13_ := zm (blk_below (g := gb901) (o := .cells #[.slice Ao66 t894.length co66, .slice Ao68 t897.length co68] 48 (0, 0)) (by (with_reducible repeat (first | refine blk_drewN ?_ _ | refine blk_drew ?_ | refine blk_alloc ?_ _)); refine blk_far ?_ ZF.out _; (with_reducible repeat (first | refine blk_drewN ?_ _ | refine blk_drew ?_ | refine blk_alloc ?_ _)); refine blk_far ?_ ZF.out _; (with_reducible repeat (first | refine blk_drewN ?_ _ | refine blk_drew ?_ | refine blk_alloc ?_ _)); exact Zj.out) hb); have n14_ := zm (blk_below (g := gb911) (o := .cells #[.slice Ao78 t904.length co78, .slice Ao84 t907.length co84] 48 (0, 0)) (by (with_reducible repeat (first | refine blk_drewN ?_ _ | refine blk_drew ?_ | refine blk_alloc ?_ _)); refine blk_put (cs := #[.slice Ao78 t904.length co78, .slice none 0 0]) ?_ 1 _ rfl; (with_reducible repeat (first | refine blk_drewN ?_ _ | refine blk_drew ?_ | refine blk_alloc ?_ _)); refine blk_put (cs := #[.slice none 0 0, .slice none 0 0]) ?_ 0 _ rfl; (with_reducible repeat (first | refine blk_drewN ?_ _ | refine blk_drew ?_ | refine blk_alloc ?_ _)); exact Zq.out) hb); have n15_ := zm (below_step (zg_20 HB.out Zk.out Zl.out Zn.out Zt.out ZH.out) hb); clear Zd; clear Ze; clear Zf; clear Zg; clear Zh; clear Zi; clear Zo; clear Zp; clear Zx; clear Zy; clear Za; clear Zb; clear Zc; clear Zj; clear Zq; clear HB; have Zd := n0_; have Ze := n1_; have Zf := n2_; have Zg := n3_; have Zh := n4_; have Zi := n5_; have Zo := n6_; have Zp := n7_; have Zx := n8_; have Zy := n9_; have Za := n10_; have Zb := n11_; have Zc := n12_; have Zj := n13_; have Zq := n14_; have HB := n15_; clear n0_ n1_ n2_ n3_ n4_ n5_ n6_ n7_ n8_ n9_ n10_ n11_ n12_ n13_ n14_ n15_; (try clear hb); (try clear hb2); (try clear hk); (try clear hi); have hcz87_0 : w86.cell? ⟨gb892, 0, none⟩ = some (.slice Ao56 t885.length co56) := (blk_cell Zc.out 0).trans rfl; have hcz87_1 : w86.cell? ⟨gb892, 1, none⟩ = some (.slice Ao60 t888.length co60) := (blk_cell Zc.out 1).trans rfl; have hfz87_0 := blk_frozen Zc.out 0; have hfz87_1 := blk_frozen Zc.out 1; have hcz88_0 : w86.cell? ⟨gb911, 0, none⟩ = some (.slice Ao78 t904.length co78) := (blk_cell Zq.out 0).trans rfl; have hcz88_1 : w86.cell? ⟨gb911, 1, none⟩ = some (.slice Ao84 t907.length co84) := (blk_cell Zq.out 1).trans rfl; have hfz88_0 := blk_frozen Zq.out 0; have hfz88_1 := blk_frozen Zq.out 1) | (go_at_call 29; (with_reducible refine (laws_sameDisk.calls kj2 _ _ t885 _ _ t888 _ _ t904 _ _ t907 true _ ?side1 ?side2 ?side3 ?side4 ?side5 ?side6 ?side7 ?side8 A27.out).mono ?_); (case side1 => repeat (first | exact (Kd.R_reads' Zh.out).2.2 | (with_reducible refine Kd.C_alloc ?_ _) | (with_reducible refine Kd.C_drewN ?_ _) | (with_reducible refine Kd.C_drew ?_))); (case side2 => exact (Kd.R_reads' Zh.out).2.1); (case side3 => repeat (first | exact (Kd.R_reads' Zi.out).2.2 | (with_reducible refine Kd.C_alloc ?_ _) | (with_reducible refine Kd.C_drewN ?_ _) | (with_reducible refine Kd.C_drew ?_))); (case side4 => exact (Kd.R_reads' Zi.out).2.1); (case side5 => repeat (first | exact (Kd.R_reads' Zx.out).2.2 | (with_reducible refine Kd.C_alloc ?_ _) | (with_reducible refine Kd.C_drewN ?_ _) | (with_reducible refine Kd.C_drew ?_))); (case side6 => exact (Kd.R_reads' Zx.out).2.1); (case side7 => repeat (first | exact (Kd.R_reads' Zy.out).2.2 | (with_reducible refine Kd.C_alloc ?_ _) | (with_reducible refine Kd.C_drewN ?_ _) | (with_reducible refine Kd.C_drew ?_))); (case side8 => exact (Kd.R_reads' Zy.out).2.1); rintro e w89 ⟨rfl, hb⟩; have n0_ := zm (Kd.R_below (zg_4 Zd.out) hb); have n1_ := zm (Kd.R_below (zg_4 Ze.out) hb); have n2_ := zm (Kd.R_below (zg_4 Zf.out) hb); have n3_ := zm (Kd.R_below (zg_4 Zg.out) hb); have n4_ := zm (Kd.R_below (zg_4 Zh.out) hb); have n5_ := zm (Kd.R_below (zg_4 Zi.out) hb); have n6_ := zm (Kd.R_below (zg_4 Zo.out) hb); have n7_ := zm (Kd.R_below (zg_4 Zp.out) hb); have n8_ := zm (Kd.R_below (zg_4 Zx.out) hb); have n9_ := zm (Kd.R_below (zg_4 Zy.out) hb); have n10_ := zm (blk_below (g := gb867) (o := .cells #[.slice Ao37 t861.length co37, .slice Ao39 t864.length co39] 48 (0, 0)) (zg_2 Za.out) hb); have n11_ := zm (blk_below (g := gb878) (o := .cells #[.slice Ao44 t871.length co44, .slice Ao47 t874.length co47] 48 (0, 0)) (zg_2 Zb.out) hb); have n12_ := zm (blk_below (g := gb892) (o := .cells #[.slice Ao56 t885.length co56, .slice Ao60 t888.length co60] 48 (0, 0)) (zg_2 Zc.out) hb); have n13_ := zm (blk_below (g := gb901) (o := .cells #[.slice Ao66 t894.length co66, .slice Ao68 t897.length co68] 48 (0, 0)) (zg_2 Zj.out) hb); have n14_ := zm (blk_below (g := gb911) (o := .cells #[.slice Ao78 t904.length co78, .slice Ao84 t907.length co84] 48 (0, 0)) (zg_2 Zq.out) hb); have n15_ := zm (below_step (zg_20 HB.out Zk.out Zl.out Zn.out Zt.out ZH.out) hb); clear Zd; clear Ze; clear Zf; clear Zg; clear Zh; clear Zi; clear Zo; clear Zp; clear Zx; clear Zy; clear Za; clear Zb; clear Zc; clear Zj; clear Zq; clear HB; have Zd := n0_; have Ze := n1_; have Zf := n2_; have Zg := n3_; have Zh := n4_; have Zi := n5_; have Zo := n6_; have Zp := n7_; have Zx := n8_; have Zy := n9_; have Za := n10_; have Zb := n11_; have Zc := n12_; have Zj := n13_; have Zq := n14_; have HB := n15_; clear n0_ n1_ n2_ n3_ n4_ n5_ n6_ n7_ n8_ n9_ n10_ n11_ n12_ n13_ n14_ n15_; (try clear hb); (try clear hb2); (try clear hk); (try clear hi); have hcz90_0 : w89.cell? ⟨gb901, 0, none⟩ = some (.slice Ao66 t894.length co66) := (blk_cell Zj.out 0).trans rfl; have hcz90_1 : w89.cell? ⟨gb901, 1, none⟩ = some (.slice Ao68 t897.length co68) := (blk_cell Zj.out 1).trans rfl; have hfz90_0 := blk_frozen Zj.out 0; have hfz90_1 := blk_frozen Zj.out 1) | (go_at_call 42; (with_reducible refine (impl_DiskOK.calls _ _ t894 _ _ t897 t915 _ ?side1 ?side2 ?side3 ?side4 A34.out).mono ?_); (case side1 => repeat (first | exact (Kd.R_reads' Zo.out).2.2 | (with_reducible refine Kd.C_alloc ?_ _) | (with_reducible refine Kd.C_drewN ?_ _) | (with_reducible refine Kd.C_drew ?_))); (case side2 => exact (Kd.R_reads' Zo.out).2.1); (case side3 => repeat (first | exact (Kd.R_reads' Zp.out).2.2 | (with_reducible refine Kd.C_alloc ?_ _) | (with_reducible refine Kd.C_drewN ?_ _) | (with_reducible refine Kd.C_drew ?_))); (case side4 => exact (Kd.R_reads' Zp.out).2.1); rintro e w91 ⟨rfl, hb⟩; have n0_ := zm (Kd.R_below (zg_4 Zd.out) hb); have n1_ := zm (Kd.R_below (zg_4 Ze.out) hb); have n2_ := zm (Kd.R_below (zg_4 Zf.out) hb); have n3_ := zm (Kd.R_below (zg_4 Zg.out) hb); have n4_ := zm (Kd.R_below (zg_4 Zh.out) hb); have n5_ := zm (Kd.R_below (zg_4 Zi.out) hb); have n6_ := zm (Kd.R_below (zg_4 Zo.out) hb); have n7_ := zm (Kd.R_below (zg_4 Zp.out) hb); have n8_ := zm (Kd.R_below (zg_4 Zx.out) hb); have n9_ := zm (Kd.R_below (zg_4 Zy.out) hb); have n10_ := zm (blk_below (g := gb867) (o := .cells #[.slice Ao37 t861.length co37, .slice Ao39 t864.length co39] 48 (0, 0)) (zg_2 Za.out) hb); have n11_ := zm (blk_below (g := gb878) (o := .cells #[.slice Ao44 t871.length co44, .slice Ao47 t874.length co47] 48 (0, 0)) (zg_2 Zb.out) hb); have n12_ := zm (blk_below (g := gb892) (o := .cells #[.slice Ao56 t885.length co56, .slice Ao60 t888.length co60] 48 (0, 0)) (zg_2 Zc.out) hb); have n13_ := zm (blk_below (g := gb901) (o := .cells #[.slice Ao66 t894.length co66, .slice Ao68 t897.length co68] 48 (0, 0)) (zg_2 Zj.out) hb); have n14_ := zm (blk_below (g := gb911) (o := .cells #[.slice Ao78 t904.length co78, .slice Ao84 t907.length co84] 48 (0, 0)) (zg_2 Zq.out) hb); have n15_ := zm (below_step (zg_20 HB.out Zk.out Zl.out Zn.out Zt.out ZH.out) hb); clear Zd; clear Ze; clear Zf; clear Zg; clear Zh; clear Zi; clear Zo; clear Zp; clear Zx; clear Zy; clear Za; clear Zb; clear Zc; clear Zj; clear Zq; clear HB; have Zd := n0_; have Ze := n1_; have Zf := n2_; have Zg := n3_; have Zh := n4_; have Zi := n5_; have Zo := n6_; have Zp := n7_; have Zx := n8_; have Zy := n9_; have Za := n10_; have Zb := n11_; have Zc := n12_; have Zj := n13_; have Zq := n14_; have HB := n15_; clear n0_ n1_ n2_ n3_ n4_ n5_ n6_ n7_ n8_ n9_ n10_ n11_ n12_ n13_ n14_ n15_; (try clear hb); (try clear hb2); (try clear hk); (try clear hi)))
                 go_ret
                 exact ⟨by first | rfl | (simp [errW_none, errW_some] <;> rfl) | (simp [*, errW_none, errW_some] <;> rfl), zg_20 HB.out Zk.out Zl.out Zn.out Zt.out ZH.out⟩
                ·rw [if_neg c33] at H
                 have c33b0 : (t912 == 0) = false := beq_eq_false_iff_ne.mpr c33
                 have c33b1 : (t912 != 0) = true := bne_iff_ne.mpr c33
                 exact absurd hr_.out (by rw [← Option.some.inj H]; decide)
               ·rw [if_neg c32] at H
                have c32b0 : (t913 == 0) = false := beq_eq_false_iff_ne.mpr c32
                have c32b1 : (t913 != 0) = true := bne_iff_ne.mpr c32
                exact absurd hr_.out (by rw [← Option.some.inj H]; decide)
              ·rw [if_neg c31] at H
               have c31b0 : (t902.toList == t870.toList) = false := beq_eq_false_iff_ne.mpr c31
               have c31b1 : (t902.toList != t870.toList) = true := bne_iff_ne.mpr c31
               exact absurd hr_.out (by rw [← Option.some.inj H]; decide)
             ·rw [if_neg c30] at H
              have c30b0 : (t903 == 0) = false := beq_eq_false_iff_ne.mpr c30
              have c30b1 : (t903 != 0) = true := bne_iff_ne.mpr c30
              exact absurd hr_.out (by rw [← Option.some.inj H]; decide)
            ·rw [if_neg c29] at H
             have c29b0 : (t900 == 0) = false := beq_eq_false_iff_ne.mpr c29
             have c29b1 : (t900 != 0) = true := bne_iff_ne.mpr c29
             exact absurd hr_.out (by rw [← Option.some.inj H]; decide)
           ·replace c28 := Bool.eq_false_iff.mpr c28
            subst c28
            have H1 : (some false) = some r := by rw [if_neg (show ¬ (false = true) by decide)] at H; exact H
            clear H
            have H := H1
            clear H1
            exact absurd hr_.out (by rw [← Option.some.inj H]; decide)
          ·rw [if_neg c26] at H
           have c26b0 : (t891 == 0) = false := beq_eq_false_iff_ne.mpr c26
           have c26b1 : (t891 != 0) = true := bne_iff_ne.mpr c26
           exact absurd hr_.out (by rw [← Option.some.inj H]; decide)
         ·rw [if_neg c25] at H
          have c25b0 : (t881.toList == t883.toList) = false := beq_eq_false_iff_ne.mpr c25
          have c25b1 : (t881.toList != t883.toList) = true := bne_iff_ne.mpr c25
          exact absurd hr_.out (by rw [← Option.some.inj H]; decide)
        ·rw [if_neg c24] at H
         have c24b0 : (t884 == 0) = false := beq_eq_false_iff_ne.mpr c24
         have c24b1 : (t884 != 0) = true := bne_iff_ne.mpr c24
         exact absurd hr_.out (by rw [← Option.some.inj H]; decide)
       ·rw [if_neg c23] at H
        have c23b0 : (t882 == 0) = false := beq_eq_false_iff_ne.mpr c23
        have c23b1 : (t882 != 0) = true := bne_iff_ne.mpr c23
        exact absurd hr_.out (by rw [← Option.some.inj H]; decide)
      ·rw [if_neg c22] at H
       have c22b0 : (t879.toList == t870.toList) = false := beq_eq_false_iff_ne.mpr c22
       have c22b1 : (t879.toList != t870.toList) = true := bne_iff_ne.mpr c22
       exact absurd hr_.out (by rw [← Option.some.inj H]; decide)
     ·rw [if_neg c21] at H
      have c21b0 : (t880 == 0) = false := beq_eq_false_iff_ne.mpr c21
      have c21b1 : (t880 != 0) = true := bne_iff_ne.mpr c21
      exact absurd hr_.out (by rw [← Option.some.inj H]; decide)
    ·rw [if_neg c20] at H
     have c20b0 : (t877 == 0) = false := beq_eq_false_iff_ne.mpr c20
     have c20b1 : (t877 != 0) = true := bne_iff_ne.mpr c20
     exact absurd hr_.out (by rw [← Option.some.inj H]; decide)
end Go.Proofs.Ytajflpcihblkfaa.Q
