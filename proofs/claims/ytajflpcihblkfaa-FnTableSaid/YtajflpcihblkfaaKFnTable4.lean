/- What laws.FnTable reaches, part 4: the functions as Lean functions, the proofs that the program's functions answer so, and plain laws about them. -/
import Derived.Test.YtajflpcihblkfaaKFnTable1
import Derived.Test.YtajflpcihblkfaaKFnTable2
import Derived.Test.YtajflpcihblkfaaKFnTable3
namespace Go.Proofs.Ytajflpcihblkfaa.Q
open Go.RowKit Go.Proofs.Ytajflpcihblkfaa.Ext Go.Proofs.YtajflpcihblkfaaW.PrintWords Go.Proofs.YtajflpcihblkfaaW.PrintLast Go.Proofs.YtajflpcihblkfaaW.PrintMore
attribute [local go_sem] max2_int min2_int max_two min_two max_three min_three max_four min_four   -- for this text's walks alone
set_option linter.unusedVariables false
set_option linter.unusedSimpArgs false

set_option linter.unusedVariables false
set_option linter.unusedSimpArgs false
/-! ### laws_FnTable: function 4 -/
mutual
def laws_FnTable.j0 : Nat → List Int → List Int → Bool → Option (Bool)
  | 0, _, _, _ => none
  | k + 1, x0, x1, x31 => if x31 = true then (some true) else ((spec_TableOf.f k x0).bind fun t389 => ((impl_EncodeTable.f k t389).bind fun bt392 => ((spec_EncodeTable.f k t389).bind fun bt394 => ((impl_DecodeTable.f k bt392.1).bind fun bt396 => ((laws_at.f x1 0 13).bind fun t400 => ((impl_ResizeTable.f t389 t400).bind fun bt401 => ((impl_ClustersOf.f k t389).bind fun bt405 => ((spec_ClustersOf.f k t389).bind fun bt409 => (if bt392.2 = 0 then (if bt392.1.toList = bt394.1.toList then (if bt396.2 = 0 then ((laws_sameInts.f k bt396.1 t389).bind fun t413 => (if t413 = true then (if bt401.2 = 0 then (if (bt401.1.length : Int) = t400 then (if bt405.2 = 0 then ((laws_sameInts.f k bt405.1 bt409.1).bind fun t414 => (laws_FnTable.j1 k t389 t400 bt401.1 (!t414))) else (laws_FnTable.j1 k t389 t400 bt401.1 true)) else (laws_FnTable.j1 k t389 t400 bt401.1 true)) else (laws_FnTable.j1 k t389 t400 bt401.1 true)) else (laws_FnTable.j1 k t389 t400 bt401.1 true))) else (laws_FnTable.j1 k t389 t400 bt401.1 true)) else (laws_FnTable.j1 k t389 t400 bt401.1 true)) else (laws_FnTable.j1 k t389 t400 bt401.1 true))))))))))
def laws_FnTable.j1 : Nat → List Int → Int → List Int → Bool → Option (Bool)
  | 0, _, _, _, _ => none
  | k + 1, x5, x12, x13, x103 => if x103 = true then (some false) else (laws_FnTable.l0 k x5 x12 x13 0)
def laws_FnTable.l0 : Nat → List Int → Int → List Int → Int → Option (Bool)
  | 0, _, _, _, _ => none
  | k + 1, x5, x12, x13, x19 => if x19 < x12 then ((impl_EntryOf.f x13 x19).bind fun bt415 => (if x19 < (x5.length : Int) then (if 0 ≤ x19 then (if bt415.2.2 = 0 then (if bt415.1 = (mn (rd x5 x19) 2) then (if bt415.1 = 2 then (if bt415.2.1 = (wrap64 ((rd x5 x19) - 2)) then (laws_FnTable.l0 k x5 x12 x13 (wrap64 (x19 + 1))) else (some false)) else (if bt415.2.1 = 0 then (laws_FnTable.l0 k x5 x12 x13 (wrap64 (x19 + 1))) else (some false))) else (some false)) else (some false)) else (none)) else (if bt415.2.2 = 0 then (if bt415.1 = (mn 0 2) then (if bt415.1 = 2 then (if bt415.2.1 = (-2) then (laws_FnTable.l0 k x5 x12 x13 (wrap64 (x19 + 1))) else (some false)) else (if bt415.2.1 = 0 then (laws_FnTable.l0 k x5 x12 x13 (wrap64 (x19 + 1))) else (some false))) else (some false)) else (some false)))) else (some true)
end
def laws_FnTable.f (k : Nat) (l0 : List Int) (l1 : List Int) : Option (Bool) := if (l0.length : Int) > 1048576 then (laws_FnTable.j0 k l0 l1 true) else (laws_FnTable.j0 k l0 l1 (decide ((l1.length : Int) > 1048576)))
theorem laws_FnTable.mono_l : ∀ k, (∀ y0 y1 y2, LeO (laws_FnTable.j0 k y0 y1 y2) (laws_FnTable.j0 (k + 1) y0 y1 y2)) ∧ (∀ y0 y1 y2 y3, LeO (laws_FnTable.j1 k y0 y1 y2 y3) (laws_FnTable.j1 (k + 1) y0 y1 y2 y3)) ∧ (∀ y0 y1 y2 y3, LeO (laws_FnTable.l0 k y0 y1 y2 y3) (laws_FnTable.l0 (k + 1) y0 y1 y2 y3))
  | 0 => ⟨fun _ _ _ r h => by simp [laws_FnTable.j0] at h, fun _ _ _ _ r h => by simp [laws_FnTable.j1] at h, fun _ _ _ _ r h => by simp [laws_FnTable.l0] at h⟩
  | k + 1 => by
    obtain ⟨ih0, ih1, ih2⟩ := laws_FnTable.mono_l k
    refine ⟨?_, ?_, ?_⟩
    · intro y0 y1 y2
      unfold laws_FnTable.j0
      repeat' first
      | (with_reducible exact ih0 _ _ _)
      | (with_reducible exact ih1 _ _ _ _)
      | (with_reducible exact ih2 _ _ _ _)
      | (with_reducible exact impl_ClustersOf.mono _ _)
      | (with_reducible exact impl_DecodeTable.mono _ _)
      | (with_reducible exact impl_EncodeTable.mono _ _)
      | (with_reducible exact laws_sameInts.mono _ _ _)
      | (with_reducible exact spec_ClustersOf.mono _ _)
      | (with_reducible exact spec_EncodeTable.mono _ _)
      | (with_reducible exact spec_TableOf.mono _ _)
      | (with_reducible exact LeO.refl _)
      | (with_reducible exact LeO.none _)
      | (with_reducible refine LeO.ite ?_ ?_)
      | (with_reducible refine LeO.bind ?_ (fun _ => ?_))
      | exact ih0 _ _ _
      | exact ih1 _ _ _ _
      | exact ih2 _ _ _ _
      | exact impl_ClustersOf.mono _ _
      | exact impl_DecodeTable.mono _ _
      | exact impl_EncodeTable.mono _ _
      | exact laws_sameInts.mono _ _ _
      | exact spec_ClustersOf.mono _ _
      | exact spec_EncodeTable.mono _ _
      | exact spec_TableOf.mono _ _
      | exact LeO.none _
      | refine LeO.ite ?_ ?_
      | refine LeO.bind ?_ (fun _ => ?_)
    · intro y0 y1 y2 y3
      unfold laws_FnTable.j1
      repeat' first
      | (with_reducible exact ih0 _ _ _)
      | (with_reducible exact ih1 _ _ _ _)
      | (with_reducible exact ih2 _ _ _ _)
      | (with_reducible exact impl_ClustersOf.mono _ _)
      | (with_reducible exact impl_DecodeTable.mono _ _)
      | (with_reducible exact impl_EncodeTable.mono _ _)
      | (with_reducible exact laws_sameInts.mono _ _ _)
      | (with_reducible exact spec_ClustersOf.mono _ _)
      | (with_reducible exact spec_EncodeTable.mono _ _)
      | (with_reducible exact spec_TableOf.mono _ _)
      | (with_reducible exact LeO.refl _)
      | (with_reducible exact LeO.none _)
      | (with_reducible refine LeO.ite ?_ ?_)
      | (with_reducible refine LeO.bind ?_ (fun _ => ?_))
      | exact ih0 _ _ _
      | exact ih1 _ _ _ _
      | exact ih2 _ _ _ _
      | exact impl_ClustersOf.mono _ _
      | exact impl_DecodeTable.mono _ _
      | exact impl_EncodeTable.mono _ _
      | exact laws_sameInts.mono _ _ _
      | exact spec_ClustersOf.mono _ _
      | exact spec_EncodeTable.mono _ _
      | exact spec_TableOf.mono _ _
      | exact LeO.none _
      | refine LeO.ite ?_ ?_
      | refine LeO.bind ?_ (fun _ => ?_)
    · intro y0 y1 y2 y3
      unfold laws_FnTable.l0
      repeat' first
      | (with_reducible exact ih0 _ _ _)
      | (with_reducible exact ih1 _ _ _ _)
      | (with_reducible exact ih2 _ _ _ _)
      | (with_reducible exact impl_ClustersOf.mono _ _)
      | (with_reducible exact impl_DecodeTable.mono _ _)
      | (with_reducible exact impl_EncodeTable.mono _ _)
      | (with_reducible exact laws_sameInts.mono _ _ _)
      | (with_reducible exact spec_ClustersOf.mono _ _)
      | (with_reducible exact spec_EncodeTable.mono _ _)
      | (with_reducible exact spec_TableOf.mono _ _)
      | (with_reducible exact LeO.refl _)
      | (with_reducible exact LeO.none _)
      | (with_reducible refine LeO.ite ?_ ?_)
      | (with_reducible refine LeO.bind ?_ (fun _ => ?_))
      | exact ih0 _ _ _
      | exact ih1 _ _ _ _
      | exact ih2 _ _ _ _
      | exact impl_ClustersOf.mono _ _
      | exact impl_DecodeTable.mono _ _
      | exact impl_EncodeTable.mono _ _
      | exact laws_sameInts.mono _ _ _
      | exact spec_ClustersOf.mono _ _
      | exact spec_EncodeTable.mono _ _
      | exact spec_TableOf.mono _ _
      | exact LeO.none _
      | refine LeO.ite ?_ ?_
      | refine LeO.bind ?_ (fun _ => ?_)
theorem laws_FnTable.mono : ∀ a0 a1 k, LeO (laws_FnTable.f k a0 a1) (laws_FnTable.f (k + 1) a0 a1) := by
  intro a0 a1 k
  obtain ⟨ih0, ih1, ih2⟩ := laws_FnTable.mono_l k
  unfold laws_FnTable.f
  repeat' first
      | (with_reducible exact ih0 _ _ _)
      | (with_reducible exact ih1 _ _ _ _)
      | (with_reducible exact ih2 _ _ _ _)
      | (with_reducible exact impl_ClustersOf.mono _ _)
      | (with_reducible exact impl_DecodeTable.mono _ _)
      | (with_reducible exact impl_EncodeTable.mono _ _)
      | (with_reducible exact laws_sameInts.mono _ _ _)
      | (with_reducible exact spec_ClustersOf.mono _ _)
      | (with_reducible exact spec_EncodeTable.mono _ _)
      | (with_reducible exact spec_TableOf.mono _ _)
      | (with_reducible exact LeO.refl _)
      | (with_reducible exact LeO.none _)
      | (with_reducible refine LeO.ite ?_ ?_)
      | (with_reducible refine LeO.bind ?_ (fun _ => ?_))
      | exact ih0 _ _ _
      | exact ih1 _ _ _ _
      | exact ih2 _ _ _ _
      | exact impl_ClustersOf.mono _ _
      | exact impl_DecodeTable.mono _ _
      | exact impl_EncodeTable.mono _ _
      | exact laws_sameInts.mono _ _ _
      | exact spec_ClustersOf.mono _ _
      | exact spec_EncodeTable.mono _ _
      | exact spec_TableOf.mono _ _
      | exact LeO.none _
      | refine LeO.ite ?_ ?_
      | refine LeO.bind ?_ (fun _ => ?_)
set_option maxHeartbeats 8000000 in
set_option maxRecDepth 100000 in
theorem laws_FnTable.calls (k : Nat) (A0 : Option Addr) (c0 : Nat) (l0 : List Int) (A1 : Option Addr) (c1 : Nat) (l1 : List Int) (r : Bool) (w : World) (hr0 : Kd.C (Kd.int .u8) w A0 l0.length l0) (hc0 : l0.length ≤ c0) (hr1 : Kd.C (Kd.int .u8) w A1 l1.length l1) (hc1 : l1.length ≤ c1) (h : laws_FnTable.f k l0 l1 = some r) :
    Calls Try.prog 4 #[.slice A0 l0.length c0, .slice A1 l1.length c1] w fun e w' => e = .returned (.bool r) ∧ Below w.heap.size w w' := by
 have HR0 := zm hr0
 have HC0 := zm hc0
 clear hr0 hc0
 have HR1 := zm hr1
 have HC1 := zm hc1
 clear hr1 hc1
 have HB := zm (Below.refl w.heap.size w)
 have H : (if (l0.length : Int) > 1048576 then (laws_FnTable.j0 k l0 l1 true) else (laws_FnTable.j0 k l0 l1 (decide ((l1.length : Int) > 1048576)))) = some r := h
 clear h
 have HC3 := zm H
 clear H
 go_enter Try.func4, Try.ntmps4
 go_upto_region 1 with (fail)
 go_cut [31] (fun v31 wc => ∃ (kq : Nat) (x31_2 : Bool), v31 = .bool x31_2 ∧ Aside0 (laws_FnTable.j0 kq l0 l1 x31_2 = some r) ∧ Aside0 (kq ≤ k) ∧ Aside0 (Below w.heap.size w wc))
 case first =>
  have H := HC3.out
  clear HC3
  by_cases c4 : (l0.length : Int) > 1048576
  ·rw [if_pos c4] at H
   have c4b0 : decide (1048576 < (l0.length : Int)) = true := decide_eq_true c4
   have c4b1 : decide (1048576 < l0.length) = true := decide_eq_true (by omega)
   clear c4
   (first | rw [c4b0] | (simp only [i64_w, i32_w]; rw [c4b0]) | skip)
   have H' := zm H
   clear H
   go_wp2
   go_meet
   case rel => exact ⟨_, (true), zr, H', ⟨by first | omega | exact Nat.le_refl _⟩, ⟨zg_0 HB.out⟩⟩
  ·rw [if_neg c4] at H
   have c4b0 : decide (1048576 < (l0.length : Int)) = false := decide_eq_false c4
   have c4b1 : decide (1048576 < l0.length) = false := decide_eq_false (by omega)
   clear c4
   (first | rw [c4b0] | (simp only [i64_w, i32_w]; rw [c4b0]) | skip)
   have H' := zm H
   clear H
   go_wp2
   go_meet
   case rel => exact ⟨_, (decide ((l1.length : Int) > 1048576)), zr, H', ⟨by first | omega | exact Nat.le_refl _⟩, ⟨zg_0 HB.out⟩⟩
 case rest =>
  clear HC3
  try clear c1
  try clear p2
  try clear c4
  try clear c4b0
  try clear c4b1
  obtain ⟨kq, x31_2, rfl, HA, HJ2, HB⟩ := hcut
  cases kq with
  | zero => exact absurd HA.out (by simp [laws_FnTable.j0])
  | succ kj2 =>
   have H := HA.out
   clear HA
   simp only [laws_FnTable.j0] at H
   by_cases c5 : x31_2 = true
   ·subst c5
    have H1 : (some true) = some r := by rw [if_pos rfl] at H; exact H
    clear H
    have H := H1
    clear H1
    obtain rfl := Option.some.inj H
    go_wp2
    go_ret
    exact ⟨by first | rfl | (simp [errW_none, errW_some] <;> rfl) | (simp [*, errW_none, errW_some] <;> rfl), zg_0 HB.out⟩
   ·replace c5 := Bool.eq_false_iff.mpr c5
    subst c5
    have H1 : ((spec_TableOf.f kj2 l0).bind fun t389 => ((impl_EncodeTable.f kj2 t389).bind fun bt392 => ((spec_EncodeTable.f kj2 t389).bind fun bt394 => ((impl_DecodeTable.f kj2 bt392.1).bind fun bt396 => ((laws_at.f l1 0 13).bind fun t400 => ((impl_ResizeTable.f t389 t400).bind fun bt401 => ((impl_ClustersOf.f kj2 t389).bind fun bt405 => ((spec_ClustersOf.f kj2 t389).bind fun bt409 => (if bt392.2 = 0 then (if bt392.1.toList = bt394.1.toList then (if bt396.2 = 0 then ((laws_sameInts.f kj2 bt396.1 t389).bind fun t413 => (if t413 = true then (if bt401.2 = 0 then (if (bt401.1.length : Int) = t400 then (if bt405.2 = 0 then ((laws_sameInts.f kj2 bt405.1 bt409.1).bind fun t414 => (laws_FnTable.j1 kj2 t389 t400 bt401.1 (!t414))) else (laws_FnTable.j1 kj2 t389 t400 bt401.1 true)) else (laws_FnTable.j1 kj2 t389 t400 bt401.1 true)) else (laws_FnTable.j1 kj2 t389 t400 bt401.1 true)) else (laws_FnTable.j1 kj2 t389 t400 bt401.1 true))) else (laws_FnTable.j1 kj2 t389 t400 bt401.1 true)) else (laws_FnTable.j1 kj2 t389 t400 bt401.1 true)) else (laws_FnTable.j1 kj2 t389 t400 bt401.1 true)))))))))) = some r := by rw [if_neg (show ¬ (false = true) by decide)] at H; exact H
    clear H
    have H := H1
    clear H1
    replace H := Option.bind_eq_some_iff.mp H
    obtain ⟨t389, A60, H⟩ := H
    replace H : ((impl_EncodeTable.f kj2 t389).bind fun bt392 => ((spec_EncodeTable.f kj2 t389).bind fun bt394 => ((impl_DecodeTable.f kj2 bt392.1).bind fun bt396 => ((laws_at.f l1 0 13).bind fun t400 => ((impl_ResizeTable.f t389 t400).bind fun bt401 => ((impl_ClustersOf.f kj2 t389).bind fun bt405 => ((spec_ClustersOf.f kj2 t389).bind fun bt409 => (if bt392.2 = 0 then (if bt392.1.toList = bt394.1.toList then (if bt396.2 = 0 then ((laws_sameInts.f kj2 bt396.1 t389).bind fun t413 => (if t413 = true then (if bt401.2 = 0 then (if (bt401.1.length : Int) = t400 then (if bt405.2 = 0 then ((laws_sameInts.f kj2 bt405.1 bt409.1).bind fun t414 => (laws_FnTable.j1 kj2 t389 t400 bt401.1 (!t414))) else (laws_FnTable.j1 kj2 t389 t400 bt401.1 true)) else (laws_FnTable.j1 kj2 t389 t400 bt401.1 true)) else (laws_FnTable.j1 kj2 t389 t400 bt401.1 true)) else (laws_FnTable.j1 kj2 t389 t400 bt401.1 true))) else (laws_FnTable.j1 kj2 t389 t400 bt401.1 true)) else (laws_FnTable.j1 kj2 t389 t400 bt401.1 true)) else (laws_FnTable.j1 kj2 t389 t400 bt401.1 true))))))))) = some r := H
    have A6 := zm A60
    clear A60
    replace H := Option.bind_eq_some_iff.mp H
    obtain ⟨⟨t392, t393⟩, A70, H⟩ := H
    replace H : ((spec_EncodeTable.f kj2 t389).bind fun bt394 => ((impl_DecodeTable.f kj2 t392).bind fun bt396 => ((laws_at.f l1 0 13).bind fun t400 => ((impl_ResizeTable.f t389 t400).bind fun bt401 => ((impl_ClustersOf.f kj2 t389).bind fun bt405 => ((spec_ClustersOf.f kj2 t389).bind fun bt409 => (if t393 = 0 then (if t392.toList = bt394.1.toList then (if bt396.2 = 0 then ((laws_sameInts.f kj2 bt396.1 t389).bind fun t413 => (if t413 = true then (if bt401.2 = 0 then (if (bt401.1.length : Int) = t400 then (if bt405.2 = 0 then ((laws_sameInts.f kj2 bt405.1 bt409.1).bind fun t414 => (laws_FnTable.j1 kj2 t389 t400 bt401.1 (!t414))) else (laws_FnTable.j1 kj2 t389 t400 bt401.1 true)) else (laws_FnTable.j1 kj2 t389 t400 bt401.1 true)) else (laws_FnTable.j1 kj2 t389 t400 bt401.1 true)) else (laws_FnTable.j1 kj2 t389 t400 bt401.1 true))) else (laws_FnTable.j1 kj2 t389 t400 bt401.1 true)) else (laws_FnTable.j1 kj2 t389 t400 bt401.1 true)) else (laws_FnTable.j1 kj2 t389 t400 bt401.1 true)))))))) = some r := H
    have A7 := zm A70
    clear A70
    replace H := Option.bind_eq_some_iff.mp H
    obtain ⟨⟨t394, t395⟩, A80, H⟩ := H
    replace H : ((impl_DecodeTable.f kj2 t392).bind fun bt396 => ((laws_at.f l1 0 13).bind fun t400 => ((impl_ResizeTable.f t389 t400).bind fun bt401 => ((impl_ClustersOf.f kj2 t389).bind fun bt405 => ((spec_ClustersOf.f kj2 t389).bind fun bt409 => (if t393 = 0 then (if t392.toList = t394.toList then (if bt396.2 = 0 then ((laws_sameInts.f kj2 bt396.1 t389).bind fun t413 => (if t413 = true then (if bt401.2 = 0 then (if (bt401.1.length : Int) = t400 then (if bt405.2 = 0 then ((laws_sameInts.f kj2 bt405.1 bt409.1).bind fun t414 => (laws_FnTable.j1 kj2 t389 t400 bt401.1 (!t414))) else (laws_FnTable.j1 kj2 t389 t400 bt401.1 true)) else (laws_FnTable.j1 kj2 t389 t400 bt401.1 true)) else (laws_FnTable.j1 kj2 t389 t400 bt401.1 true)) else (laws_FnTable.j1 kj2 t389 t400 bt401.1 true))) else (laws_FnTable.j1 kj2 t389 t400 bt401.1 true)) else (laws_FnTable.j1 kj2 t389 t400 bt401.1 true)) else (laws_FnTable.j1 kj2 t389 t400 bt401.1 true))))))) = some r := H
    have A8 := zm A80
    clear A80
    replace H := Option.bind_eq_some_iff.mp H
    obtain ⟨⟨t396, t397⟩, A90, H⟩ := H
    replace H : ((laws_at.f l1 0 13).bind fun t400 => ((impl_ResizeTable.f t389 t400).bind fun bt401 => ((impl_ClustersOf.f kj2 t389).bind fun bt405 => ((spec_ClustersOf.f kj2 t389).bind fun bt409 => (if t393 = 0 then (if t392.toList = t394.toList then (if t397 = 0 then ((laws_sameInts.f kj2 t396 t389).bind fun t413 => (if t413 = true then (if bt401.2 = 0 then (if (bt401.1.length : Int) = t400 then (if bt405.2 = 0 then ((laws_sameInts.f kj2 bt405.1 bt409.1).bind fun t414 => (laws_FnTable.j1 kj2 t389 t400 bt401.1 (!t414))) else (laws_FnTable.j1 kj2 t389 t400 bt401.1 true)) else (laws_FnTable.j1 kj2 t389 t400 bt401.1 true)) else (laws_FnTable.j1 kj2 t389 t400 bt401.1 true)) else (laws_FnTable.j1 kj2 t389 t400 bt401.1 true))) else (laws_FnTable.j1 kj2 t389 t400 bt401.1 true)) else (laws_FnTable.j1 kj2 t389 t400 bt401.1 true)) else (laws_FnTable.j1 kj2 t389 t400 bt401.1 true)))))) = some r := H
    have A9 := zm A90
    clear A90
    replace H := Option.bind_eq_some_iff.mp H
    obtain ⟨t400, A100, H⟩ := H
    replace H : ((impl_ResizeTable.f t389 t400).bind fun bt401 => ((impl_ClustersOf.f kj2 t389).bind fun bt405 => ((spec_ClustersOf.f kj2 t389).bind fun bt409 => (if t393 = 0 then (if t392.toList = t394.toList then (if t397 = 0 then ((laws_sameInts.f kj2 t396 t389).bind fun t413 => (if t413 = true then (if bt401.2 = 0 then (if (bt401.1.length : Int) = t400 then (if bt405.2 = 0 then ((laws_sameInts.f kj2 bt405.1 bt409.1).bind fun t414 => (laws_FnTable.j1 kj2 t389 t400 bt401.1 (!t414))) else (laws_FnTable.j1 kj2 t389 t400 bt401.1 true)) else (laws_FnTable.j1 kj2 t389 t400 bt401.1 true)) else (laws_FnTable.j1 kj2 t389 t400 bt401.1 true)) else (laws_FnTable.j1 kj2 t389 t400 bt401.1 true))) else (laws_FnTable.j1 kj2 t389 t400 bt401.1 true)) else (laws_FnTable.j1 kj2 t389 t400 bt401.1 true)) else (laws_FnTable.j1 kj2 t389 t400 bt401.1 true))))) = some r := H
    have A10 := zm A100
    clear A100
    replace H := Option.bind_eq_some_iff.mp H
    obtain ⟨⟨t401, t402⟩, A110, H⟩ := H
    replace H : ((impl_ClustersOf.f kj2 t389).bind fun bt405 => ((spec_ClustersOf.f kj2 t389).bind fun bt409 => (if t393 = 0 then (if t392.toList = t394.toList then (if t397 = 0 then ((laws_sameInts.f kj2 t396 t389).bind fun t413 => (if t413 = true then (if t402 = 0 then (if (t401.length : Int) = t400 then (if bt405.2 = 0 then ((laws_sameInts.f kj2 bt405.1 bt409.1).bind fun t414 => (laws_FnTable.j1 kj2 t389 t400 t401 (!t414))) else (laws_FnTable.j1 kj2 t389 t400 t401 true)) else (laws_FnTable.j1 kj2 t389 t400 t401 true)) else (laws_FnTable.j1 kj2 t389 t400 t401 true)) else (laws_FnTable.j1 kj2 t389 t400 t401 true))) else (laws_FnTable.j1 kj2 t389 t400 t401 true)) else (laws_FnTable.j1 kj2 t389 t400 t401 true)) else (laws_FnTable.j1 kj2 t389 t400 t401 true)))) = some r := H
    have A11 := zm A110
    clear A110
    replace H := Option.bind_eq_some_iff.mp H
    obtain ⟨⟨t405, t406⟩, A120, H⟩ := H
    replace H : ((spec_ClustersOf.f kj2 t389).bind fun bt409 => (if t393 = 0 then (if t392.toList = t394.toList then (if t397 = 0 then ((laws_sameInts.f kj2 t396 t389).bind fun t413 => (if t413 = true then (if t402 = 0 then (if (t401.length : Int) = t400 then (if t406 = 0 then ((laws_sameInts.f kj2 t405 bt409.1).bind fun t414 => (laws_FnTable.j1 kj2 t389 t400 t401 (!t414))) else (laws_FnTable.j1 kj2 t389 t400 t401 true)) else (laws_FnTable.j1 kj2 t389 t400 t401 true)) else (laws_FnTable.j1 kj2 t389 t400 t401 true)) else (laws_FnTable.j1 kj2 t389 t400 t401 true))) else (laws_FnTable.j1 kj2 t389 t400 t401 true)) else (laws_FnTable.j1 kj2 t389 t400 t401 true)) else (laws_FnTable.j1 kj2 t389 t400 t401 true))) = some r := H
    have A12 := zm A120
    clear A120
    replace H := Option.bind_eq_some_iff.mp H
    obtain ⟨⟨t409, t410⟩, A130, H⟩ := H
    replace H : (if t393 = 0 then (if t392.toList = t394.toList then (if t397 = 0 then ((laws_sameInts.f kj2 t396 t389).bind fun t413 => (if t413 = true then (if t402 = 0 then (if (t401.length : Int) = t400 then (if t406 = 0 then ((laws_sameInts.f kj2 t405 t409).bind fun t414 => (laws_FnTable.j1 kj2 t389 t400 t401 (!t414))) else (laws_FnTable.j1 kj2 t389 t400 t401 true)) else (laws_FnTable.j1 kj2 t389 t400 t401 true)) else (laws_FnTable.j1 kj2 t389 t400 t401 true)) else (laws_FnTable.j1 kj2 t389 t400 t401 true))) else (laws_FnTable.j1 kj2 t389 t400 t401 true)) else (laws_FnTable.j1 kj2 t389 t400 t401 true)) else (laws_FnTable.j1 kj2 t389 t400 t401 true)) = some r := H
    have A13 := zm A130
    clear A130
    have Zh := zm H
    clear H
    go_upto_region 11 with (first | ((with_reducible refine gate_callee (f := 15) rfl ?_); refine goesL_ (some 33) rfl rfl Try.func15 (by kernel_rfl) rfl #[.slice A0 l0.length c0] rfl zq ?_; (with_reducible refine (spec_TableOf.calls kj2 _ _ l0 t389 _ ?side1 ?side2 A6.out).mono ?_); (case side1 => repeat (first | exact (Kd.C_below HR0.out HB.out) | (with_reducible refine Kd.C_alloc ?_ _) | (with_reducible refine Kd.C_drewN ?_ _) | (with_reducible refine Kd.C_drew ?_))); (case side2 => exact HC0.out); rintro e w15 ⟨v390, rfl, ho0, hb⟩; refine ⟨_, rfl, ?_⟩; have n0_ := zm (Kd.R_lower ho0 (below_size (zg_0 HB.out))); have n1_ := zm (below_step (zg_0 HB.out) hb); clear HB; have Zb := n0_; have HB := n1_; clear n0_ n1_; (try clear hb); (try clear hb2); (try clear hk); (try clear hi); (try clear ho0); obtain ⟨Ao16, co16, eo16⟩ := Kd.R_slice Zb.out; subst eo16) | ((with_reducible refine gate_callee (f := 16) rfl ?_); refine goesL_ (some 36) rfl rfl Try.func16 (by kernel_rfl) rfl #[.slice Ao16 t389.length co16] rfl zq ?_; (with_reducible refine (impl_EncodeTable.calls kj2 _ _ t389 t392 t393 _ ?side1 ?side2 A7.out).mono ?_); (case side1 => repeat (first | exact (Kd.R_reads' Zb.out).2.2 | (with_reducible refine Kd.C_alloc ?_ _) | (with_reducible refine Kd.C_drewN ?_ _) | (with_reducible refine Kd.C_drew ?_))); (case side2 => exact (Kd.R_reads' Zb.out).2.1); rintro e w17 ⟨rfl, hb⟩; refine ⟨_, rfl, ?_⟩; have n0_ := zm (Kd.R_below (zg_1 Zb.out) hb); have n1_ := zm (below_step (zg_0 HB.out) hb); clear Zb; clear HB; have Zb := n0_; have HB := n1_; clear n0_ n1_; (try clear hb); (try clear hb2); (try clear hk); (try clear hi)) | ((with_reducible refine gate_callee (f := 17) rfl ?_); refine goesL_ (some 41) rfl rfl Try.func17 (by kernel_rfl) rfl #[.slice Ao16 t389.length co16] rfl zq ?_; (with_reducible refine (spec_EncodeTable.calls kj2 _ _ t389 t394 t395 _ ?side1 ?side2 A8.out).mono ?_); (case side1 => repeat (first | exact (Kd.R_reads' Zb.out).2.2 | (with_reducible refine Kd.C_alloc ?_ _) | (with_reducible refine Kd.C_drewN ?_ _) | (with_reducible refine Kd.C_drew ?_))); (case side2 => exact (Kd.R_reads' Zb.out).2.1); rintro e w18 ⟨rfl, hb⟩; refine ⟨_, rfl, ?_⟩; have n0_ := zm (Kd.R_below (zg_1 Zb.out) hb); have n1_ := zm (below_step (zg_0 HB.out) hb); clear Zb; clear HB; have Zb := n0_; have HB := n1_; clear n0_ n1_; (try clear hb); (try clear hb2); (try clear hk); (try clear hi)) | ((with_reducible refine gate_callee (f := 18) rfl ?_); refine goesL_ (some 46) rfl rfl Try.func18 (by kernel_rfl) rfl #[.string t392] rfl zq ?_; (with_reducible refine (impl_DecodeTable.calls kj2 t392 t396 t397 _ A9.out).mono ?_); rintro e w19 ⟨v398, rfl, ho0, hb⟩; refine ⟨_, rfl, ?_⟩; have n0_ := zm (Kd.R_elder' (zg_1 Zb.out) (Kd.R_base ho0) hb); have n1_ := zm (Kd.R_lower (Kd.R_new' ho0 (Kd.R_lt (zg_1 Zb.out))) (below_size (zg_0 HB.out))); have n2_ := zm (below_step (zg_0 HB.out) hb); clear Zb; clear HB; have Zb := n0_; have Zd := n1_; have HB := n2_; clear n0_ n1_ n2_; (try clear hb); (try clear hb2); (try clear hk); (try clear hi); (try clear ho0)) | ((with_reducible refine gate_callee (f := 13) rfl ?_); refine goesL_ (some 50) rfl rfl Try.func13 (by kernel_rfl) rfl #[.slice A1 l1.length c1, .int .i64 0, .int .i64 13] rfl zq ?_; (with_reducible refine (laws_at.calls _ _ l1 0 13 t400 _ ?side1 ?side2 A10.out).mono ?_); (case side1 => repeat (first | exact (Kd.C_below HR1.out HB.out) | (with_reducible refine Kd.C_alloc ?_ _) | (with_reducible refine Kd.C_drewN ?_ _) | (with_reducible refine Kd.C_drew ?_))); (case side2 => exact HC1.out); rintro e w' ⟨rfl, ⟨nd, rfl⟩⟩; refine ⟨_, rfl, ?_⟩) | ((with_reducible refine gate_callee (f := 19) rfl ?_); refine goesL_ (some 54) rfl rfl Try.func19 (by kernel_rfl) rfl #[.slice Ao16 t389.length co16, .int .i64 t400] rfl zq ?_; (with_reducible refine (impl_ResizeTable.calls _ _ t389 t400 t401 t402 _ ?side1 ?side2 A11.out).mono ?_); (case side1 => repeat (first | exact (Kd.R_reads' Zb.out).2.2 | (with_reducible refine Kd.C_alloc ?_ _) | (with_reducible refine Kd.C_drewN ?_ _) | (with_reducible refine Kd.C_drew ?_))); (case side2 => exact (Kd.R_reads' Zb.out).2.1); rintro e w20 ⟨v403, rfl, ho0, hb⟩; refine ⟨_, rfl, ?_⟩; have n0_ := zm (Kd.R_elder' (zg_1 Zb.out) (Kd.R_base ho0) hb); have n1_ := zm (Kd.R_elder' (zg_1 Zd.out) (Kd.R_base ho0) hb); have n2_ := zm (Kd.R_lower (Kd.R_new' (Kd.R_new' ho0 (Kd.R_lt (zg_1 Zb.out))) (Kd.R_lt (zg_1 Zd.out))) (below_size (zg_0 HB.out))); have n3_ := zm (below_step (zg_0 HB.out) hb); clear Zb; clear Zd; clear HB; have Zb := n0_; have Zd := n1_; have Ze := n2_; have HB := n3_; clear n0_ n1_ n2_ n3_; (try clear hb); (try clear hb2); (try clear hk); (try clear hi); (try clear ho0)) | ((with_reducible refine gate_callee (f := 20) rfl ?_); refine goesL_ (some 59) rfl rfl Try.func20 (by kernel_rfl) rfl #[.slice Ao16 t389.length co16] rfl zq ?_; (with_reducible refine (impl_ClustersOf.calls kj2 _ _ t389 t405 t406 _ ?side1 ?side2 A12.out).mono ?_); (case side1 => repeat (first | exact (Kd.R_reads' Zb.out).2.2 | (with_reducible refine Kd.C_alloc ?_ _) | (with_reducible refine Kd.C_drewN ?_ _) | (with_reducible refine Kd.C_drew ?_))); (case side2 => exact (Kd.R_reads' Zb.out).2.1); rintro e w21 ⟨v407, rfl, ho0, hb⟩; refine ⟨_, rfl, ?_⟩; have n0_ := zm (Kd.R_elder' (zg_1 Zb.out) (Kd.R_base ho0) hb); have n1_ := zm (Kd.R_elder' (zg_1 Zd.out) (Kd.R_base ho0) hb); have n2_ := zm (Kd.R_elder' (zg_1 Ze.out) (Kd.R_base ho0) hb); have n3_ := zm (Kd.R_lower (Kd.R_new' (Kd.R_new' (Kd.R_new' ho0 (Kd.R_lt (zg_1 Zb.out))) (Kd.R_lt (zg_1 Zd.out))) (Kd.R_lt (zg_1 Ze.out))) (below_size (zg_0 HB.out))); have n4_ := zm (below_step (zg_0 HB.out) hb); clear Zb; clear Zd; clear Ze; clear HB; have Zb := n0_; have Zd := n1_; have Ze := n2_; have Zf := n3_; have HB := n4_; clear n0_ n1_ n2_ n3_ n4_; (try clear hb); (try clear hb2); (try clear hk); (try clear hi); (try clear ho0)) | ((with_reducible refine gate_callee (f := 21) rfl ?_); refine goesL_ (some 64) rfl rfl Try.func21 (by kernel_rfl) rfl #[.slice Ao16 t389.length co16] rfl zq ?_; (with_reducible refine (spec_ClustersOf.calls kj2 _ _ t389 t409 t410 _ ?side1 ?side2 A13.out).mono ?_); (case side1 => repeat (first | exact (Kd.R_reads' Zb.out).2.2 | (with_reducible refine Kd.C_alloc ?_ _) | (with_reducible refine Kd.C_drewN ?_ _) | (with_reducible refine Kd.C_drew ?_))); (case side2 => exact (Kd.R_reads' Zb.out).2.1); rintro e w22 ⟨v411, rfl, ho0, hb⟩; refine ⟨_, rfl, ?_⟩; have n0_ := zm (Kd.R_elder' (zg_1 Zb.out) (Kd.R_base ho0) hb); have n1_ := zm (Kd.R_elder' (zg_1 Zd.out) (Kd.R_base ho0) hb); have n2_ := zm (Kd.R_elder' (zg_1 Ze.out) (Kd.R_base ho0) hb); have n3_ := zm (Kd.R_elder' (zg_1 Zf.out) (Kd.R_base ho0) hb); have n4_ := zm (Kd.R_lower (Kd.R_new' (Kd.R_new' (Kd.R_new' (Kd.R_new' ho0 (Kd.R_lt (zg_1 Zb.out))) (Kd.R_lt (zg_1 Zd.out))) (Kd.R_lt (zg_1 Ze.out))) (Kd.R_lt (zg_1 Zf.out))) (below_size (zg_0 HB.out))); have n5_ := zm (below_step (zg_0 HB.out) hb); clear Zb; clear Zd; clear Ze; clear Zf; clear HB; have Zb := n0_; have Zd := n1_; have Ze := n2_; have Zf := n3_; have Zg := n4_; have HB := n5_; clear n0_ n1_ n2_ n3_ n4_ n5_; (try clear hb); (try clear hb2); (try clear hk); (try clear hi); (try clear ho0)))
    (try simp only [Act.put, zs, zz, zt])
    go_cut [103] (fun v103 wc => ∃ (kq : Nat) (x103_13 : Bool), v103 = .bool x103_13 ∧ Aside0 (laws_FnTable.j1 kq t389 t400 t401 x103_13 = some r) ∧ Aside0 (kq ≤ kj2) ∧ Aside0 (Kd.R (Kd.int .i64) 3 wc w.heap.size (fun k_ => some k_ ≠ (v403 : Value).ownBlock) (.slice Ao16 t389.length co16) t389) ∧ Aside0 (Kd.R (Kd.int .i64) 3 wc w.heap.size (fun k_ => some k_ ≠ ((.slice Ao16 t389.length co16) : Value).ownBlock) v403 t401) ∧ Aside0 (Below w.heap.size w wc))
    case first =>
     have H := Zh.out
     clear Zh
     by_cases c23 : t393 = 0
     ·rw [if_pos c23] at H
      have c23b0 : (t393 == 0) = true := beq_iff_eq.mpr c23
      have c23b1 : (t393 != 0) = false := bne_eq_false_iff_eq.mpr c23
      clear c23
      (first | rw [c23b0] | (simp only [i64_w, i32_w]; rw [c23b0]) | skip)
      by_cases c24 : t392.toList = t394.toList
      ·rw [if_pos c24] at H
       have c24b0 : (t392.toList == t394.toList) = true := beq_iff_eq.mpr c24
       have c24b1 : (t392.toList != t394.toList) = false := bne_eq_false_iff_eq.mpr c24
       clear c24
       by_cases c25 : t397 = 0
       ·rw [if_pos c25] at H
        have c25b0 : (t397 == 0) = true := beq_iff_eq.mpr c25
        have c25b1 : (t397 != 0) = false := bne_eq_false_iff_eq.mpr c25
        clear c25
        replace H := Option.bind_eq_some_iff.mp H
        obtain ⟨t413, A260, H⟩ := H
        replace H : (if t413 = true then (if t402 = 0 then (if (t401.length : Int) = t400 then (if t406 = 0 then ((laws_sameInts.f kj2 t405 t409).bind fun t414 => (laws_FnTable.j1 kj2 t389 t400 t401 (!t414))) else (laws_FnTable.j1 kj2 t389 t400 t401 true)) else (laws_FnTable.j1 kj2 t389 t400 t401 true)) else (laws_FnTable.j1 kj2 t389 t400 t401 true)) else (laws_FnTable.j1 kj2 t389 t400 t401 true)) = some r := H
        have A26 := zm A260
        clear A260
        by_cases c27 : t413 = true
        ·subst c27
         have H1 : (if t402 = 0 then (if (t401.length : Int) = t400 then (if t406 = 0 then ((laws_sameInts.f kj2 t405 t409).bind fun t414 => (laws_FnTable.j1 kj2 t389 t400 t401 (!t414))) else (laws_FnTable.j1 kj2 t389 t400 t401 true)) else (laws_FnTable.j1 kj2 t389 t400 t401 true)) else (laws_FnTable.j1 kj2 t389 t400 t401 true)) = some r := by rw [if_pos rfl] at H; exact H
         clear H
         have H := H1
         clear H1
         by_cases c28 : t402 = 0
         ·rw [if_pos c28] at H
          have c28b0 : (t402 == 0) = true := beq_iff_eq.mpr c28
          have c28b1 : (t402 != 0) = false := bne_eq_false_iff_eq.mpr c28
          clear c28
          by_cases c29 : (t401.length : Int) = t400
          ·rw [if_pos c29] at H
           have c29b0 : ((t401.length : Int) == t400) = true := beq_iff_eq.mpr c29
           have c29b1 : ((t401.length : Int) != t400) = false := bne_eq_false_iff_eq.mpr c29
           clear c29
           by_cases c30 : t406 = 0
           ·rw [if_pos c30] at H
            have c30b0 : (t406 == 0) = true := beq_iff_eq.mpr c30
            have c30b1 : (t406 != 0) = false := bne_eq_false_iff_eq.mpr c30
            clear c30
            replace H := Option.bind_eq_some_iff.mp H
            obtain ⟨t414, A310, H⟩ := H
            replace H : (laws_FnTable.j1 kj2 t389 t400 t401 (!t414)) = some r := H
            have A31 := zm A310
            clear A310
            have H' := zm H
            clear H
            obtain ⟨Ao32, co32, eo32⟩ := Kd.R_slice Zd.out
            subst eo32
            go_wp2_with (first | (go_at_call 22; (with_reducible refine (laws_sameInts.calls kj2 _ _ t396 _ _ t389 true _ ?side1 ?side2 ?side3 ?side4 A26.out).mono ?_); (case side1 => repeat (first | exact (Kd.R_reads' Zd.out).2.2 | (with_reducible refine Kd.C_alloc ?_ _) | (with_reducible refine Kd.C_drewN ?_ _) | (with_reducible refine Kd.C_drew ?_))); (case side2 => exact (Kd.R_reads' Zd.out).2.1); (case side3 => repeat (first | exact (Kd.R_reads' Zb.out).2.2 | (with_reducible refine Kd.C_alloc ?_ _) | (with_reducible refine Kd.C_drewN ?_ _) | (with_reducible refine Kd.C_drew ?_))); (case side4 => exact (Kd.R_reads' Zb.out).2.1); rintro e w' ⟨rfl, ⟨nd, rfl⟩⟩; obtain ⟨Ao33, co33, eo33⟩ := Kd.R_slice Ze.out; subst eo33; obtain ⟨Ao34, co34, eo34⟩ := Kd.R_slice Zf.out; subst eo34; obtain ⟨Ao35, co35, eo35⟩ := Kd.R_slice Zg.out; subst eo35) | (go_at_call 22; (with_reducible refine (laws_sameInts.calls kj2 _ _ t405 _ _ t409 t414 _ ?side1 ?side2 ?side3 ?side4 A31.out).mono ?_); (case side1 => repeat (first | exact (Kd.R_reads' Zf.out).2.2 | (with_reducible refine Kd.C_alloc ?_ _) | (with_reducible refine Kd.C_drewN ?_ _) | (with_reducible refine Kd.C_drew ?_))); (case side2 => exact (Kd.R_reads' Zf.out).2.1); (case side3 => repeat (first | exact (Kd.R_reads' Zg.out).2.2 | (with_reducible refine Kd.C_alloc ?_ _) | (with_reducible refine Kd.C_drewN ?_ _) | (with_reducible refine Kd.C_drew ?_))); (case side4 => exact (Kd.R_reads' Zg.out).2.1); rintro e w' ⟨rfl, ⟨nd, rfl⟩⟩))
            go_meet
            case rel => exact ⟨_, (!t414), zr, H', ⟨by have := HJ2.out; first | omega | exact Nat.le_refl _⟩, ⟨by (with_reducible repeat (first | apply Kd.R_alloc | apply Kd.R_drewN | apply Kd.R_drew)); exact Kd.R_mono Zb.out (fun _ hk => hk.1.1.2)⟩, ⟨by (with_reducible repeat (first | apply Kd.R_alloc | apply Kd.R_drewN | apply Kd.R_drew)); exact Kd.R_mono Ze.out (fun _ hk => hk.1.1.1.2)⟩, ⟨zg_0 HB.out⟩⟩
           ·rw [if_neg c30] at H
            have c30b0 : (t406 == 0) = false := beq_eq_false_iff_ne.mpr c30
            have c30b1 : (t406 != 0) = true := bne_iff_ne.mpr c30
            have H' := zm H
            clear H
            obtain ⟨Ao36, co36, eo36⟩ := Kd.R_slice Zd.out
            subst eo36
            go_wp2_with (first | (go_at_call 22; (with_reducible refine (laws_sameInts.calls kj2 _ _ t396 _ _ t389 true _ ?side1 ?side2 ?side3 ?side4 A26.out).mono ?_); (case side1 => repeat (first | exact (Kd.R_reads' Zd.out).2.2 | (with_reducible refine Kd.C_alloc ?_ _) | (with_reducible refine Kd.C_drewN ?_ _) | (with_reducible refine Kd.C_drew ?_))); (case side2 => exact (Kd.R_reads' Zd.out).2.1); (case side3 => repeat (first | exact (Kd.R_reads' Zb.out).2.2 | (with_reducible refine Kd.C_alloc ?_ _) | (with_reducible refine Kd.C_drewN ?_ _) | (with_reducible refine Kd.C_drew ?_))); (case side4 => exact (Kd.R_reads' Zb.out).2.1); rintro e w' ⟨rfl, ⟨nd, rfl⟩⟩; obtain ⟨Ao37, co37, eo37⟩ := Kd.R_slice Ze.out; subst eo37))
            go_meet
            case rel => exact ⟨_, (true), zr, H', ⟨by have := HJ2.out; first | omega | exact Nat.le_refl _⟩, ⟨by (with_reducible repeat (first | apply Kd.R_alloc | apply Kd.R_drewN | apply Kd.R_drew)); exact Kd.R_mono Zb.out (fun _ hk => hk.1.1.2)⟩, ⟨by (with_reducible repeat (first | apply Kd.R_alloc | apply Kd.R_drewN | apply Kd.R_drew)); exact Kd.R_mono Ze.out (fun _ hk => hk.1.1.1.2)⟩, ⟨zg_0 HB.out⟩⟩
          ·rw [if_neg c29] at H
           have c29b0 : ((t401.length : Int) == t400) = false := beq_eq_false_iff_ne.mpr c29
           have c29b1 : ((t401.length : Int) != t400) = true := bne_iff_ne.mpr c29
           have H' := zm H
           clear H
           obtain ⟨Ao38, co38, eo38⟩ := Kd.R_slice Zd.out
           subst eo38
           go_wp2_with (first | (go_at_call 22; (with_reducible refine (laws_sameInts.calls kj2 _ _ t396 _ _ t389 true _ ?side1 ?side2 ?side3 ?side4 A26.out).mono ?_); (case side1 => repeat (first | exact (Kd.R_reads' Zd.out).2.2 | (with_reducible refine Kd.C_alloc ?_ _) | (with_reducible refine Kd.C_drewN ?_ _) | (with_reducible refine Kd.C_drew ?_))); (case side2 => exact (Kd.R_reads' Zd.out).2.1); (case side3 => repeat (first | exact (Kd.R_reads' Zb.out).2.2 | (with_reducible refine Kd.C_alloc ?_ _) | (with_reducible refine Kd.C_drewN ?_ _) | (with_reducible refine Kd.C_drew ?_))); (case side4 => exact (Kd.R_reads' Zb.out).2.1); rintro e w' ⟨rfl, ⟨nd, rfl⟩⟩; obtain ⟨Ao39, co39, eo39⟩ := Kd.R_slice Ze.out; subst eo39))
           go_meet
           case rel => exact ⟨_, (true), zr, H', ⟨by have := HJ2.out; first | omega | exact Nat.le_refl _⟩, ⟨by (with_reducible repeat (first | apply Kd.R_alloc | apply Kd.R_drewN | apply Kd.R_drew)); exact Kd.R_mono Zb.out (fun _ hk => hk.1.1.2)⟩, ⟨by (with_reducible repeat (first | apply Kd.R_alloc | apply Kd.R_drewN | apply Kd.R_drew)); exact Kd.R_mono Ze.out (fun _ hk => hk.1.1.1.2)⟩, ⟨zg_0 HB.out⟩⟩
         ·rw [if_neg c28] at H
          have c28b0 : (t402 == 0) = false := beq_eq_false_iff_ne.mpr c28
          have c28b1 : (t402 != 0) = true := bne_iff_ne.mpr c28
          have H' := zm H
          clear H
          obtain ⟨Ao40, co40, eo40⟩ := Kd.R_slice Zd.out
          subst eo40
          go_wp2_with (first | (go_at_call 22; (with_reducible refine (laws_sameInts.calls kj2 _ _ t396 _ _ t389 true _ ?side1 ?side2 ?side3 ?side4 A26.out).mono ?_); (case side1 => repeat (first | exact (Kd.R_reads' Zd.out).2.2 | (with_reducible refine Kd.C_alloc ?_ _) | (with_reducible refine Kd.C_drewN ?_ _) | (with_reducible refine Kd.C_drew ?_))); (case side2 => exact (Kd.R_reads' Zd.out).2.1); (case side3 => repeat (first | exact (Kd.R_reads' Zb.out).2.2 | (with_reducible refine Kd.C_alloc ?_ _) | (with_reducible refine Kd.C_drewN ?_ _) | (with_reducible refine Kd.C_drew ?_))); (case side4 => exact (Kd.R_reads' Zb.out).2.1); rintro e w' ⟨rfl, ⟨nd, rfl⟩⟩))
          go_meet
          case rel => exact ⟨_, (true), zr, H', ⟨by have := HJ2.out; first | omega | exact Nat.le_refl _⟩, ⟨by (with_reducible repeat (first | apply Kd.R_alloc | apply Kd.R_drewN | apply Kd.R_drew)); exact Kd.R_mono Zb.out (fun _ hk => hk.1.1.2)⟩, ⟨by (with_reducible repeat (first | apply Kd.R_alloc | apply Kd.R_drewN | apply Kd.R_drew)); exact Kd.R_mono Ze.out (fun _ hk => hk.1.1.1.2)⟩, ⟨zg_0 HB.out⟩⟩
        ·replace c27 := Bool.eq_false_iff.mpr c27
         subst c27
         have H1 : (laws_FnTable.j1 kj2 t389 t400 t401 true) = some r := by rw [if_neg (show ¬ (false = true) by decide)] at H; exact H
         clear H
         have H := H1
         clear H1
         have H' := zm H
         clear H
         obtain ⟨Ao41, co41, eo41⟩ := Kd.R_slice Zd.out
         subst eo41
         go_wp2_with (first | (go_at_call 22; (with_reducible refine (laws_sameInts.calls kj2 _ _ t396 _ _ t389 false _ ?side1 ?side2 ?side3 ?side4 A26.out).mono ?_); (case side1 => repeat (first | exact (Kd.R_reads' Zd.out).2.2 | (with_reducible refine Kd.C_alloc ?_ _) | (with_reducible refine Kd.C_drewN ?_ _) | (with_reducible refine Kd.C_drew ?_))); (case side2 => exact (Kd.R_reads' Zd.out).2.1); (case side3 => repeat (first | exact (Kd.R_reads' Zb.out).2.2 | (with_reducible refine Kd.C_alloc ?_ _) | (with_reducible refine Kd.C_drewN ?_ _) | (with_reducible refine Kd.C_drew ?_))); (case side4 => exact (Kd.R_reads' Zb.out).2.1); rintro e w' ⟨rfl, ⟨nd, rfl⟩⟩))
         go_meet
         case rel => exact ⟨_, (true), zr, H', ⟨by have := HJ2.out; first | omega | exact Nat.le_refl _⟩, ⟨by (with_reducible repeat (first | apply Kd.R_alloc | apply Kd.R_drewN | apply Kd.R_drew)); exact Kd.R_mono Zb.out (fun _ hk => hk.1.1.2)⟩, ⟨by (with_reducible repeat (first | apply Kd.R_alloc | apply Kd.R_drewN | apply Kd.R_drew)); exact Kd.R_mono Ze.out (fun _ hk => hk.1.1.1.2)⟩, ⟨zg_0 HB.out⟩⟩
       ·rw [if_neg c25] at H
        have c25b0 : (t397 == 0) = false := beq_eq_false_iff_ne.mpr c25
        have c25b1 : (t397 != 0) = true := bne_iff_ne.mpr c25
        have H' := zm H
        clear H
        go_wp2
        go_meet
        case rel => exact ⟨_, (true), zr, H', ⟨by have := HJ2.out; first | omega | exact Nat.le_refl _⟩, ⟨by (with_reducible repeat (first | apply Kd.R_alloc | apply Kd.R_drewN | apply Kd.R_drew)); exact Kd.R_mono Zb.out (fun _ hk => hk.1.1.2)⟩, ⟨by (with_reducible repeat (first | apply Kd.R_alloc | apply Kd.R_drewN | apply Kd.R_drew)); exact Kd.R_mono Ze.out (fun _ hk => hk.1.1.1.2)⟩, ⟨zg_0 HB.out⟩⟩
      ·rw [if_neg c24] at H
       have c24b0 : (t392.toList == t394.toList) = false := beq_eq_false_iff_ne.mpr c24
       have c24b1 : (t392.toList != t394.toList) = true := bne_iff_ne.mpr c24
       have H' := zm H
       clear H
       go_wp2
       go_meet
       case rel => exact ⟨_, (true), zr, H', ⟨by have := HJ2.out; first | omega | exact Nat.le_refl _⟩, ⟨by (with_reducible repeat (first | apply Kd.R_alloc | apply Kd.R_drewN | apply Kd.R_drew)); exact Kd.R_mono Zb.out (fun _ hk => hk.1.1.2)⟩, ⟨by (with_reducible repeat (first | apply Kd.R_alloc | apply Kd.R_drewN | apply Kd.R_drew)); exact Kd.R_mono Ze.out (fun _ hk => hk.1.1.1.2)⟩, ⟨zg_0 HB.out⟩⟩
     ·rw [if_neg c23] at H
      have c23b0 : (t393 == 0) = false := beq_eq_false_iff_ne.mpr c23
      have c23b1 : (t393 != 0) = true := bne_iff_ne.mpr c23
      (first | rw [c23b0] | (simp only [i64_w, i32_w]; rw [c23b0]) | skip)
      have H' := zm H
      clear H
      go_wp2
      go_meet
      case rel => exact ⟨_, (true), zr, H', ⟨by have := HJ2.out; first | omega | exact Nat.le_refl _⟩, ⟨by (with_reducible repeat (first | apply Kd.R_alloc | apply Kd.R_drewN | apply Kd.R_drew)); exact Kd.R_mono Zb.out (fun _ hk => hk.1.1.2)⟩, ⟨by (with_reducible repeat (first | apply Kd.R_alloc | apply Kd.R_drewN | apply Kd.R_drew)); exact Kd.R_mono Ze.out (fun _ hk => hk.1.1.1.2)⟩, ⟨zg_0 HB.out⟩⟩
    case rest =>
     clear Zh
     try clear c1
     try clear c2
     try clear p2
     try clear c3
     try clear c4
     try clear c4b0
     try clear c4b1
     try clear c5
     try clear c13
     try clear c15
     try clear c16
     try clear c17
     try clear c18
     try clear c19
     try clear c20
     try clear c21
     try clear c23
     try clear c23b0
     try clear c23b1
     try clear c24
     try clear c24b0
     try clear c24b1
     try clear c25
     try clear c25b0
     try clear c25b1
     try clear c27
     try clear c28
     try clear c28b0
     try clear c28b1
     try clear c29
     try clear c29b0
     try clear c29b1
     try clear c30
     try clear c30b0
     try clear c30b1
     try clear p2
     obtain ⟨kq, x103_13, rfl, HA, HJ13, Zc, Za, HB⟩ := hcut
     cases kq with
     | zero => exact absurd HA.out (by simp [laws_FnTable.j1])
     | succ kj13 =>
      have H := HA.out
      clear HA
      simp only [laws_FnTable.j1] at H
      by_cases c42 : x103_13 = true
      ·subst c42
       have H1 : (some false) = some r := by rw [if_pos rfl] at H; exact H
       clear H
       have H := H1
       clear H1
       obtain rfl := Option.some.inj H
       go_wp2
       go_ret
       exact ⟨by first | rfl | (simp [errW_none, errW_some] <;> rfl) | (simp [*, errW_none, errW_some] <;> rfl), zg_0 HB.out⟩
      ·replace c42 := Bool.eq_false_iff.mpr c42
       subst c42
       have H1 : (laws_FnTable.l0 kj13 t389 t400 t401 0) = some r := by rw [if_neg (show ¬ (false = true) by decide)] at H; exact H
       clear H
       have H := H1
       clear H1
       have H' := zm H
       clear H
       go_wp2
       go_loopg [19] kj13 (fun kq v19 w' => ∃ (x19_3 : Int), v19 = .int .i64 x19_3 ∧ Aside0 (laws_FnTable.l0 kq t389 t400 t401 x19_3 = some r) ∧ Aside0 (kq ≤ kj13) ∧ Aside0 (Kd.R (Kd.int .i64) 3 w' w.heap.size (fun k_ => some k_ ≠ (v403 : Value).ownBlock) (.slice Ao16 t389.length co16) t389) ∧ Aside0 (Kd.R (Kd.int .i64) 3 w' w.heap.size (fun k_ => some k_ ≠ ((.slice Ao16 t389.length co16) : Value).ownBlock) v403 t401) ∧ Aside0 (Below w.heap.size w w'))
       case atStart => exact ⟨(0), zr, H', ⟨Nat.le_refl _⟩, ⟨by (with_reducible repeat (first | apply Kd.R_alloc | apply Kd.R_drewN | apply Kd.R_drew)); exact Zc.out⟩, ⟨by (with_reducible repeat (first | apply Kd.R_alloc | apply Kd.R_drewN | apply Kd.R_drew)); exact Za.out⟩, ⟨zg_0 HB.out⟩⟩
       case round =>
        clear H'
        try clear c1
        try clear c2
        try clear p2
        try clear c3
        try clear c4
        try clear c4b0
        try clear c4b1
        try clear c5
        try clear c13
        try clear c15
        try clear c16
        try clear c17
        try clear c18
        try clear c19
        try clear c20
        try clear c21
        try clear c23
        try clear c23b0
        try clear c23b1
        try clear c24
        try clear c24b0
        try clear c24b1
        try clear c25
        try clear c25b0
        try clear c25b1
        try clear c27
        try clear c28
        try clear c28b0
        try clear c28b1
        try clear c29
        try clear c29b0
        try clear c29b1
        try clear c30
        try clear c30b0
        try clear c30b1
        try clear c42
        try clear p2
        obtain ⟨x19_3, rfl, HA, HK3, Zc, Za, HB⟩ := hrel
        cases gk with
        | zero => exact absurd HA.out (by simp [laws_FnTable.l0])
        | succ k3 =>
         have H := HA.out
         clear HA
         simp only [laws_FnTable.l0] at H
         by_cases c43 : x19_3 < t400
         ·rw [if_pos c43] at H
          have c43b0 : decide (x19_3 < t400) = true := decide_eq_true c43
          clear c43
          replace H := Option.bind_eq_some_iff.mp H
          obtain ⟨⟨t415, t416, t417⟩, A440, H⟩ := H
          replace H : (if x19_3 < (t389.length : Int) then (if 0 ≤ x19_3 then (if t417 = 0 then (if t415 = (mn (rd t389 x19_3) 2) then (if t415 = 2 then (if t416 = (wrap64 ((rd t389 x19_3) - 2)) then (laws_FnTable.l0 k3 t389 t400 t401 (wrap64 (x19_3 + 1))) else (some false)) else (if t416 = 0 then (laws_FnTable.l0 k3 t389 t400 t401 (wrap64 (x19_3 + 1))) else (some false))) else (some false)) else (some false)) else (none)) else (if t417 = 0 then (if t415 = (mn 0 2) then (if t415 = 2 then (if t416 = (-2) then (laws_FnTable.l0 k3 t389 t400 t401 (wrap64 (x19_3 + 1))) else (some false)) else (if t416 = 0 then (laws_FnTable.l0 k3 t389 t400 t401 (wrap64 (x19_3 + 1))) else (some false))) else (some false)) else (some false))) = some r := H
          have A44 := zm A440
          clear A440
          by_cases c45 : x19_3 < (t389.length : Int)
          ·rw [if_pos c45] at H
           have c45b0 : decide (x19_3 < (t389.length : Int)) = true := decide_eq_true c45
           clear c45
           by_cases c46 : 0 ≤ x19_3
           ·rw [if_pos c46] at H
            have c46b0 : decide (0 ≤ x19_3) = true := decide_eq_true c46
            clear c46
            by_cases c47 : t417 = 0
            ·rw [if_pos c47] at H
             have c47b0 : (t417 == 0) = true := beq_iff_eq.mpr c47
             have c47b1 : (t417 != 0) = false := bne_eq_false_iff_eq.mpr c47
             clear c47
             obtain ⟨ji48, hji48⟩ : ∃ j_ : Int, (mn (rd t389 x19_3) 2) = j_ := ⟨_, rfl⟩
             replace H : (if t415 = (ji48) then (if t415 = 2 then (if t416 = (wrap64 ((rd t389 x19_3) - 2)) then (laws_FnTable.l0 k3 t389 t400 t401 (wrap64 (x19_3 + 1))) else (some false)) else (if t416 = 0 then (laws_FnTable.l0 k3 t389 t400 t401 (wrap64 (x19_3 + 1))) else (some false))) else (some false)) = some r := by first | (rw [hji48] at H; exact H) | (simp only [hji48] at H ⊢; exact H)
             (try rw [hji48] at A44)
             have hji48_ : (if 2 < (rd t389 x19_3) then 2 else (rd t389 x19_3)) = ji48 := hji48
             by_cases c49 : t415 = (ji48)
             ·rw [if_pos c49] at H
              have c49b0 : (t415 == (ji48)) = true := beq_iff_eq.mpr c49
              have c49b1 : (t415 != (ji48)) = false := bne_eq_false_iff_eq.mpr c49
              clear c49
              by_cases c50 : t415 = 2
              ·rw [if_pos c50] at H
               have c50b0 : (t415 == 2) = true := beq_iff_eq.mpr c50
               have c50b1 : (t415 != 2) = false := bne_eq_false_iff_eq.mpr c50
               clear c50
               by_cases c51 : t416 = (wrap64 ((rd t389 x19_3) - 2))
               ·rw [if_pos c51] at H
                have c51b0 : (t416 == (wrap64 ((rd t389 x19_3) - 2))) = true := beq_iff_eq.mpr c51
                have c51b1 : (t416 != (wrap64 ((rd t389 x19_3) - 2))) = false := bne_eq_false_iff_eq.mpr c51
                clear c51
                have H' := zm H
                clear H
                obtain ⟨Ao52, co52, eo52⟩ := Kd.R_slice Za.out
                subst eo52
                go_wp2_with (first | ((with_reducible refine gate_callee (f := 23) rfl ?_); refine goesL_ (some 112) rfl rfl Try.func23 (by kernel_rfl) rfl #[.slice Ao52 t401.length co52, .int .i64 x19_3] rfl zq ?_; (with_reducible refine (impl_EntryOf.calls _ _ t401 x19_3 t415 t416 t417 _ ?side1 ?side2 A44.out).mono ?_); (case side1 => repeat (first | exact (Kd.R_reads' Za.out).2.2 | (with_reducible refine Kd.C_alloc ?_ _) | (with_reducible refine Kd.C_drewN ?_ _) | (with_reducible refine Kd.C_drew ?_))); (case side2 => exact (Kd.R_reads' Za.out).2.1); rintro e w53 ⟨rfl, hb⟩; refine ⟨_, rfl, ?_⟩; have n0_ := zm (Kd.R_below (zg_1 Zc.out) hb); have n1_ := zm (Kd.R_below (zg_1 Za.out) hb); have n2_ := zm (below_step (zg_0 HB.out) hb); clear Zc; clear Za; clear HB; have Zc := n0_; have Za := n1_; have HB := n2_; clear n0_ n1_ n2_; (try clear hb); (try clear hb2); (try clear hk); (try clear hi); have p418 : 0 ≤ (x19_3 : Int) := of_decide_eq_true (by first | (with_reducible assumption) | assumption); have q418 : x19_3 < (t389.length : Int) := of_decide_eq_true (by first | (with_reducible assumption) | assumption); obtain ⟨ad418, e418, hx418_0⟩ := Kd.at_int (Kd.R_reads' Zc.out).2.2 x19_3 p418 q418; cases e418; replace p418 := eq_true p418; replace q418 := eq_true q418))
                go_roundg k3
                case measure => have := HJ2.out; have := HJ13.out; have := HK3.out; omega
                case rel => exact ⟨(wrap64 (x19_3 + 1)), zr, H', ⟨by have := HJ2.out; have := HJ13.out; have := HK3.out; omega⟩, ⟨by (with_reducible repeat (first | apply Kd.R_alloc | apply Kd.R_drewN | apply Kd.R_drew)); exact Zc.out⟩, ⟨by (with_reducible repeat (first | apply Kd.R_alloc | apply Kd.R_drewN | apply Kd.R_drew)); exact Za.out⟩, ⟨zg_0 HB.out⟩⟩
               ·rw [if_neg c51] at H
                have c51b0 : (t416 == (wrap64 ((rd t389 x19_3) - 2))) = false := beq_eq_false_iff_ne.mpr c51
                have c51b1 : (t416 != (wrap64 ((rd t389 x19_3) - 2))) = true := bne_iff_ne.mpr c51
                obtain rfl := Option.some.inj H
                obtain ⟨Ao54, co54, eo54⟩ := Kd.R_slice Za.out
                subst eo54
                go_wp2_with (first | ((with_reducible refine gate_callee (f := 23) rfl ?_); refine goesL_ (some 112) rfl rfl Try.func23 (by kernel_rfl) rfl #[.slice Ao54 t401.length co54, .int .i64 x19_3] rfl zq ?_; (with_reducible refine (impl_EntryOf.calls _ _ t401 x19_3 t415 t416 t417 _ ?side1 ?side2 A44.out).mono ?_); (case side1 => repeat (first | exact (Kd.R_reads' Za.out).2.2 | (with_reducible refine Kd.C_alloc ?_ _) | (with_reducible refine Kd.C_drewN ?_ _) | (with_reducible refine Kd.C_drew ?_))); (case side2 => exact (Kd.R_reads' Za.out).2.1); rintro e w55 ⟨rfl, hb⟩; refine ⟨_, rfl, ?_⟩; have n0_ := zm (Kd.R_below (zg_1 Zc.out) hb); have n1_ := zm (Kd.R_below (zg_1 Za.out) hb); have n2_ := zm (below_step (zg_0 HB.out) hb); clear Zc; clear Za; clear HB; have Zc := n0_; have Za := n1_; have HB := n2_; clear n0_ n1_ n2_; (try clear hb); (try clear hb2); (try clear hk); (try clear hi); have p418 : 0 ≤ (x19_3 : Int) := of_decide_eq_true (by first | (with_reducible assumption) | assumption); have q418 : x19_3 < (t389.length : Int) := of_decide_eq_true (by first | (with_reducible assumption) | assumption); obtain ⟨ad418, e418, hx418_0⟩ := Kd.at_int (Kd.R_reads' Zc.out).2.2 x19_3 p418 q418; cases e418; replace p418 := eq_true p418; replace q418 := eq_true q418))
                go_ret
                exact ⟨by first | rfl | (simp [errW_none, errW_some] <;> rfl) | (simp only [← hji48]; first | rfl | (simp [errW_none, errW_some] <;> rfl)) | (simp [*, errW_none, errW_some] <;> rfl), zg_0 HB.out⟩
              ·rw [if_neg c50] at H
               have c50b0 : (t415 == 2) = false := beq_eq_false_iff_ne.mpr c50
               have c50b1 : (t415 != 2) = true := bne_iff_ne.mpr c50
               by_cases c56 : t416 = 0
               ·rw [if_pos c56] at H
                have c56b0 : (t416 == 0) = true := beq_iff_eq.mpr c56
                have c56b1 : (t416 != 0) = false := bne_eq_false_iff_eq.mpr c56
                clear c56
                have H' := zm H
                clear H
                obtain ⟨Ao57, co57, eo57⟩ := Kd.R_slice Za.out
                subst eo57
                go_wp2_with (first | ((with_reducible refine gate_callee (f := 23) rfl ?_); refine goesL_ (some 112) rfl rfl Try.func23 (by kernel_rfl) rfl #[.slice Ao57 t401.length co57, .int .i64 x19_3] rfl zq ?_; (with_reducible refine (impl_EntryOf.calls _ _ t401 x19_3 t415 t416 t417 _ ?side1 ?side2 A44.out).mono ?_); (case side1 => repeat (first | exact (Kd.R_reads' Za.out).2.2 | (with_reducible refine Kd.C_alloc ?_ _) | (with_reducible refine Kd.C_drewN ?_ _) | (with_reducible refine Kd.C_drew ?_))); (case side2 => exact (Kd.R_reads' Za.out).2.1); rintro e w58 ⟨rfl, hb⟩; refine ⟨_, rfl, ?_⟩; have n0_ := zm (Kd.R_below (zg_1 Zc.out) hb); have n1_ := zm (Kd.R_below (zg_1 Za.out) hb); have n2_ := zm (below_step (zg_0 HB.out) hb); clear Zc; clear Za; clear HB; have Zc := n0_; have Za := n1_; have HB := n2_; clear n0_ n1_ n2_; (try clear hb); (try clear hb2); (try clear hk); (try clear hi); have p418 : 0 ≤ (x19_3 : Int) := of_decide_eq_true (by first | (with_reducible assumption) | assumption); have q418 : x19_3 < (t389.length : Int) := of_decide_eq_true (by first | (with_reducible assumption) | assumption); obtain ⟨ad418, e418, hx418_0⟩ := Kd.at_int (Kd.R_reads' Zc.out).2.2 x19_3 p418 q418; cases e418; replace p418 := eq_true p418; replace q418 := eq_true q418))
                go_roundg k3
                case measure => have := HJ2.out; have := HJ13.out; have := HK3.out; omega
                case rel => exact ⟨(wrap64 (x19_3 + 1)), zr, H', ⟨by have := HJ2.out; have := HJ13.out; have := HK3.out; omega⟩, ⟨by (with_reducible repeat (first | apply Kd.R_alloc | apply Kd.R_drewN | apply Kd.R_drew)); exact Zc.out⟩, ⟨by (with_reducible repeat (first | apply Kd.R_alloc | apply Kd.R_drewN | apply Kd.R_drew)); exact Za.out⟩, ⟨zg_0 HB.out⟩⟩
               ·rw [if_neg c56] at H
                have c56b0 : (t416 == 0) = false := beq_eq_false_iff_ne.mpr c56
                have c56b1 : (t416 != 0) = true := bne_iff_ne.mpr c56
                obtain rfl := Option.some.inj H
                obtain ⟨Ao59, co59, eo59⟩ := Kd.R_slice Za.out
                subst eo59
                go_wp2_with (first | ((with_reducible refine gate_callee (f := 23) rfl ?_); refine goesL_ (some 112) rfl rfl Try.func23 (by kernel_rfl) rfl #[.slice Ao59 t401.length co59, .int .i64 x19_3] rfl zq ?_; (with_reducible refine (impl_EntryOf.calls _ _ t401 x19_3 t415 t416 t417 _ ?side1 ?side2 A44.out).mono ?_); (case side1 => repeat (first | exact (Kd.R_reads' Za.out).2.2 | (with_reducible refine Kd.C_alloc ?_ _) | (with_reducible refine Kd.C_drewN ?_ _) | (with_reducible refine Kd.C_drew ?_))); (case side2 => exact (Kd.R_reads' Za.out).2.1); rintro e w60 ⟨rfl, hb⟩; refine ⟨_, rfl, ?_⟩; have n0_ := zm (Kd.R_below (zg_1 Zc.out) hb); have n1_ := zm (Kd.R_below (zg_1 Za.out) hb); have n2_ := zm (below_step (zg_0 HB.out) hb); clear Zc; clear Za; clear HB; have Zc := n0_; have Za := n1_; have HB := n2_; clear n0_ n1_ n2_; (try clear hb); (try clear hb2); (try clear hk); (try clear hi); have p418 : 0 ≤ (x19_3 : Int) := of_decide_eq_true (by first | (with_reducible assumption) | assumption); have q418 : x19_3 < (t389.length : Int) := of_decide_eq_true (by first | (with_reducible assumption) | assumption); obtain ⟨ad418, e418, hx418_0⟩ := Kd.at_int (Kd.R_reads' Zc.out).2.2 x19_3 p418 q418; cases e418; replace p418 := eq_true p418; replace q418 := eq_true q418))
                go_ret
                exact ⟨by first | rfl | (simp [errW_none, errW_some] <;> rfl) | (simp only [← hji48]; first | rfl | (simp [errW_none, errW_some] <;> rfl)) | (simp [*, errW_none, errW_some] <;> rfl), zg_0 HB.out⟩
             ·rw [if_neg c49] at H
              have c49b0 : (t415 == (ji48)) = false := beq_eq_false_iff_ne.mpr c49
              have c49b1 : (t415 != (ji48)) = true := bne_iff_ne.mpr c49
              obtain rfl := Option.some.inj H
              obtain ⟨Ao61, co61, eo61⟩ := Kd.R_slice Za.out
              subst eo61
              go_wp2_with (first | ((with_reducible refine gate_callee (f := 23) rfl ?_); refine goesL_ (some 112) rfl rfl Try.func23 (by kernel_rfl) rfl #[.slice Ao61 t401.length co61, .int .i64 x19_3] rfl zq ?_; (with_reducible refine (impl_EntryOf.calls _ _ t401 x19_3 t415 t416 t417 _ ?side1 ?side2 A44.out).mono ?_); (case side1 => repeat (first | exact (Kd.R_reads' Za.out).2.2 | (with_reducible refine Kd.C_alloc ?_ _) | (with_reducible refine Kd.C_drewN ?_ _) | (with_reducible refine Kd.C_drew ?_))); (case side2 => exact (Kd.R_reads' Za.out).2.1); rintro e w62 ⟨rfl, hb⟩; refine ⟨_, rfl, ?_⟩; have n0_ := zm (Kd.R_below (zg_1 Zc.out) hb); have n1_ := zm (Kd.R_below (zg_1 Za.out) hb); have n2_ := zm (below_step (zg_0 HB.out) hb); clear Zc; clear Za; clear HB; have Zc := n0_; have Za := n1_; have HB := n2_; clear n0_ n1_ n2_; (try clear hb); (try clear hb2); (try clear hk); (try clear hi); have p418 : 0 ≤ (x19_3 : Int) := of_decide_eq_true (by first | (with_reducible assumption) | assumption); have q418 : x19_3 < (t389.length : Int) := of_decide_eq_true (by first | (with_reducible assumption) | assumption); obtain ⟨ad418, e418, hx418_0⟩ := Kd.at_int (Kd.R_reads' Zc.out).2.2 x19_3 p418 q418; cases e418; replace p418 := eq_true p418; replace q418 := eq_true q418))
              go_ret
              exact ⟨by first | rfl | (simp [errW_none, errW_some] <;> rfl) | (simp only [← hji48]; first | rfl | (simp [errW_none, errW_some] <;> rfl)) | (simp [*, errW_none, errW_some] <;> rfl), zg_0 HB.out⟩
            ·rw [if_neg c47] at H
             have c47b0 : (t417 == 0) = false := beq_eq_false_iff_ne.mpr c47
             have c47b1 : (t417 != 0) = true := bne_iff_ne.mpr c47
             obtain rfl := Option.some.inj H
             obtain ⟨Ao63, co63, eo63⟩ := Kd.R_slice Za.out
             subst eo63
             go_wp2_with (first | ((with_reducible refine gate_callee (f := 23) rfl ?_); refine goesL_ (some 112) rfl rfl Try.func23 (by kernel_rfl) rfl #[.slice Ao63 t401.length co63, .int .i64 x19_3] rfl zq ?_; (with_reducible refine (impl_EntryOf.calls _ _ t401 x19_3 t415 t416 t417 _ ?side1 ?side2 A44.out).mono ?_); (case side1 => repeat (first | exact (Kd.R_reads' Za.out).2.2 | (with_reducible refine Kd.C_alloc ?_ _) | (with_reducible refine Kd.C_drewN ?_ _) | (with_reducible refine Kd.C_drew ?_))); (case side2 => exact (Kd.R_reads' Za.out).2.1); rintro e w64 ⟨rfl, hb⟩; refine ⟨_, rfl, ?_⟩; have n0_ := zm (Kd.R_below (zg_1 Zc.out) hb); have n1_ := zm (Kd.R_below (zg_1 Za.out) hb); have n2_ := zm (below_step (zg_0 HB.out) hb); clear Zc; clear Za; clear HB; have Zc := n0_; have Za := n1_; have HB := n2_; clear n0_ n1_ n2_; (try clear hb); (try clear hb2); (try clear hk); (try clear hi); have p418 : 0 ≤ (x19_3 : Int) := of_decide_eq_true (by first | (with_reducible assumption) | assumption); have q418 : x19_3 < (t389.length : Int) := of_decide_eq_true (by first | (with_reducible assumption) | assumption); obtain ⟨ad418, e418, hx418_0⟩ := Kd.at_int (Kd.R_reads' Zc.out).2.2 x19_3 p418 q418; cases e418; replace p418 := eq_true p418; replace q418 := eq_true q418))
             go_ret
             exact ⟨by first | rfl | (simp [errW_none, errW_some] <;> rfl) | (simp [*, errW_none, errW_some] <;> rfl), zg_0 HB.out⟩
           ·rw [if_neg c46] at H
            exact absurd H (by simp)
          ·rw [if_neg c45] at H
           have c45b0 : decide (x19_3 < (t389.length : Int)) = false := decide_eq_false c45
           clear c45
           by_cases c65 : t417 = 0
           ·rw [if_pos c65] at H
            have c65b0 : (t417 == 0) = true := beq_iff_eq.mpr c65
            have c65b1 : (t417 != 0) = false := bne_eq_false_iff_eq.mpr c65
            clear c65
            replace H : (if t415 = (0) then (if t415 = 2 then (if t416 = (-2) then (laws_FnTable.l0 k3 t389 t400 t401 (wrap64 (x19_3 + 1))) else (some false)) else (if t416 = 0 then (laws_FnTable.l0 k3 t389 t400 t401 (wrap64 (x19_3 + 1))) else (some false))) else (some false)) = some r := H
            by_cases c66 : t415 = (0)
            ·rw [if_pos c66] at H
             have c66b0 : (t415 == (0)) = true := beq_iff_eq.mpr c66
             have c66b1 : (t415 != (0)) = false := bne_eq_false_iff_eq.mpr c66
             clear c66
             by_cases c67 : t415 = 2
             ·rw [if_pos c67] at H
              have c67b0 : (t415 == 2) = true := beq_iff_eq.mpr c67
              have c67b1 : (t415 != 2) = false := bne_eq_false_iff_eq.mpr c67
              clear c67
              by_cases c68 : t416 = (-2)
              ·rw [if_pos c68] at H
               have c68b0 : (t416 == (-2)) = true := beq_iff_eq.mpr c68
               have c68b1 : (t416 != (-2)) = false := bne_eq_false_iff_eq.mpr c68
               clear c68
               have H' := zm H
               clear H
               obtain ⟨Ao69, co69, eo69⟩ := Kd.R_slice Za.out
               subst eo69
               go_wp2_with (first | ((with_reducible refine gate_callee (f := 23) rfl ?_); refine goesL_ (some 112) rfl rfl Try.func23 (by kernel_rfl) rfl #[.slice Ao69 t401.length co69, .int .i64 x19_3] rfl zq ?_; (with_reducible refine (impl_EntryOf.calls _ _ t401 x19_3 t415 t416 t417 _ ?side1 ?side2 A44.out).mono ?_); (case side1 => repeat (first | exact (Kd.R_reads' Za.out).2.2 | (with_reducible refine Kd.C_alloc ?_ _) | (with_reducible refine Kd.C_drewN ?_ _) | (with_reducible refine Kd.C_drew ?_))); (case side2 => exact (Kd.R_reads' Za.out).2.1); rintro e w70 ⟨rfl, hb⟩; refine ⟨_, rfl, ?_⟩; have n0_ := zm (Kd.R_below (zg_1 Zc.out) hb); have n1_ := zm (Kd.R_below (zg_1 Za.out) hb); have n2_ := zm (below_step (zg_0 HB.out) hb); clear Zc; clear Za; clear HB; have Zc := n0_; have Za := n1_; have HB := n2_; clear n0_ n1_ n2_; (try clear hb); (try clear hb2); (try clear hk); (try clear hi)))
               go_roundg k3
               case measure => have := HJ2.out; have := HJ13.out; have := HK3.out; omega
               case rel => exact ⟨(wrap64 (x19_3 + 1)), zr, H', ⟨by have := HJ2.out; have := HJ13.out; have := HK3.out; omega⟩, ⟨by (with_reducible repeat (first | apply Kd.R_alloc | apply Kd.R_drewN | apply Kd.R_drew)); exact Zc.out⟩, ⟨by (with_reducible repeat (first | apply Kd.R_alloc | apply Kd.R_drewN | apply Kd.R_drew)); exact Za.out⟩, ⟨zg_0 HB.out⟩⟩
              ·rw [if_neg c68] at H
               have c68b0 : (t416 == (-2)) = false := beq_eq_false_iff_ne.mpr c68
               have c68b1 : (t416 != (-2)) = true := bne_iff_ne.mpr c68
               obtain rfl := Option.some.inj H
               obtain ⟨Ao71, co71, eo71⟩ := Kd.R_slice Za.out
               subst eo71
               go_wp2_with (first | ((with_reducible refine gate_callee (f := 23) rfl ?_); refine goesL_ (some 112) rfl rfl Try.func23 (by kernel_rfl) rfl #[.slice Ao71 t401.length co71, .int .i64 x19_3] rfl zq ?_; (with_reducible refine (impl_EntryOf.calls _ _ t401 x19_3 t415 t416 t417 _ ?side1 ?side2 A44.out).mono ?_); (case side1 => repeat (first | exact (Kd.R_reads' Za.out).2.2 | (with_reducible refine Kd.C_alloc ?_ _) | (with_reducible refine Kd.C_drewN ?_ _) | (with_reducible refine Kd.C_drew ?_))); (case side2 => exact (Kd.R_reads' Za.out).2.1); rintro e w72 ⟨rfl, hb⟩; refine ⟨_, rfl, ?_⟩; have n0_ := zm (Kd.R_below (zg_1 Zc.out) hb); have n1_ := zm (Kd.R_below (zg_1 Za.out) hb); have n2_ := zm (below_step (zg_0 HB.out) hb); clear Zc; clear Za; clear HB; have Zc := n0_; have Za := n1_; have HB := n2_; clear n0_ n1_ n2_; (try clear hb); (try clear hb2); (try clear hk); (try clear hi)))
               go_ret
               exact ⟨by first | rfl | (simp [errW_none, errW_some] <;> rfl) | (simp [*, errW_none, errW_some] <;> rfl), zg_0 HB.out⟩
             ·rw [if_neg c67] at H
              have c67b0 : (t415 == 2) = false := beq_eq_false_iff_ne.mpr c67
              have c67b1 : (t415 != 2) = true := bne_iff_ne.mpr c67
              by_cases c73 : t416 = 0
              ·rw [if_pos c73] at H
               have c73b0 : (t416 == 0) = true := beq_iff_eq.mpr c73
               have c73b1 : (t416 != 0) = false := bne_eq_false_iff_eq.mpr c73
               clear c73
               have H' := zm H
               clear H
               obtain ⟨Ao74, co74, eo74⟩ := Kd.R_slice Za.out
               subst eo74
               go_wp2_with (first | ((with_reducible refine gate_callee (f := 23) rfl ?_); refine goesL_ (some 112) rfl rfl Try.func23 (by kernel_rfl) rfl #[.slice Ao74 t401.length co74, .int .i64 x19_3] rfl zq ?_; (with_reducible refine (impl_EntryOf.calls _ _ t401 x19_3 t415 t416 t417 _ ?side1 ?side2 A44.out).mono ?_); (case side1 => repeat (first | exact (Kd.R_reads' Za.out).2.2 | (with_reducible refine Kd.C_alloc ?_ _) | (with_reducible refine Kd.C_drewN ?_ _) | (with_reducible refine Kd.C_drew ?_))); (case side2 => exact (Kd.R_reads' Za.out).2.1); rintro e w75 ⟨rfl, hb⟩; refine ⟨_, rfl, ?_⟩; have n0_ := zm (Kd.R_below (zg_1 Zc.out) hb); have n1_ := zm (Kd.R_below (zg_1 Za.out) hb); have n2_ := zm (below_step (zg_0 HB.out) hb); clear Zc; clear Za; clear HB; have Zc := n0_; have Za := n1_; have HB := n2_; clear n0_ n1_ n2_; (try clear hb); (try clear hb2); (try clear hk); (try clear hi)))
               go_roundg k3
               case measure => have := HJ2.out; have := HJ13.out; have := HK3.out; omega
               case rel => exact ⟨(wrap64 (x19_3 + 1)), zr, H', ⟨by have := HJ2.out; have := HJ13.out; have := HK3.out; omega⟩, ⟨by (with_reducible repeat (first | apply Kd.R_alloc | apply Kd.R_drewN | apply Kd.R_drew)); exact Zc.out⟩, ⟨by (with_reducible repeat (first | apply Kd.R_alloc | apply Kd.R_drewN | apply Kd.R_drew)); exact Za.out⟩, ⟨zg_0 HB.out⟩⟩
              ·rw [if_neg c73] at H
               have c73b0 : (t416 == 0) = false := beq_eq_false_iff_ne.mpr c73
               have c73b1 : (t416 != 0) = true := bne_iff_ne.mpr c73
               obtain rfl := Option.some.inj H
               obtain ⟨Ao76, co76, eo76⟩ := Kd.R_slice Za.out
               subst eo76
               go_wp2_with (first | ((with_reducible refine gate_callee (f := 23) rfl ?_); refine goesL_ (some 112) rfl rfl Try.func23 (by kernel_rfl) rfl #[.slice Ao76 t401.length co76, .int .i64 x19_3] rfl zq ?_; (with_reducible refine (impl_EntryOf.calls _ _ t401 x19_3 t415 t416 t417 _ ?side1 ?side2 A44.out).mono ?_); (case side1 => repeat (first | exact (Kd.R_reads' Za.out).2.2 | (with_reducible refine Kd.C_alloc ?_ _) | (with_reducible refine Kd.C_drewN ?_ _) | (with_reducible refine Kd.C_drew ?_))); (case side2 => exact (Kd.R_reads' Za.out).2.1); rintro e w77 ⟨rfl, hb⟩; refine ⟨_, rfl, ?_⟩; have n0_ := zm (Kd.R_below (zg_1 Zc.out) hb); have n1_ := zm (Kd.R_below (zg_1 Za.out) hb); have n2_ := zm (below_step (zg_0 HB.out) hb); clear Zc; clear Za; clear HB; have Zc := n0_; have Za := n1_; have HB := n2_; clear n0_ n1_ n2_; (try clear hb); (try clear hb2); (try clear hk); (try clear hi)))
               go_ret
               exact ⟨by first | rfl | (simp [errW_none, errW_some] <;> rfl) | (simp [*, errW_none, errW_some] <;> rfl), zg_0 HB.out⟩
            ·rw [if_neg c66] at H
             have c66b0 : (t415 == (0)) = false := beq_eq_false_iff_ne.mpr c66
             have c66b1 : (t415 != (0)) = true := bne_iff_ne.mpr c66
             obtain rfl := Option.some.inj H
             obtain ⟨Ao78, co78, eo78⟩ := Kd.R_slice Za.out
             subst eo78
             go_wp2_with (first | ((with_reducible refine gate_callee (f := 23) rfl ?_); refine goesL_ (some 112) rfl rfl Try.func23 (by kernel_rfl) rfl #[.slice Ao78 t401.length co78, .int .i64 x19_3] rfl zq ?_; (with_reducible refine (impl_EntryOf.calls _ _ t401 x19_3 t415 t416 t417 _ ?side1 ?side2 A44.out).mono ?_); (case side1 => repeat (first | exact (Kd.R_reads' Za.out).2.2 | (with_reducible refine Kd.C_alloc ?_ _) | (with_reducible refine Kd.C_drewN ?_ _) | (with_reducible refine Kd.C_drew ?_))); (case side2 => exact (Kd.R_reads' Za.out).2.1); rintro e w79 ⟨rfl, hb⟩; refine ⟨_, rfl, ?_⟩; have n0_ := zm (Kd.R_below (zg_1 Zc.out) hb); have n1_ := zm (Kd.R_below (zg_1 Za.out) hb); have n2_ := zm (below_step (zg_0 HB.out) hb); clear Zc; clear Za; clear HB; have Zc := n0_; have Za := n1_; have HB := n2_; clear n0_ n1_ n2_; (try clear hb); (try clear hb2); (try clear hk); (try clear hi)))
             go_ret
             exact ⟨by first | rfl | (simp [errW_none, errW_some] <;> rfl) | (simp [*, errW_none, errW_some] <;> rfl), zg_0 HB.out⟩
           ·rw [if_neg c65] at H
            have c65b0 : (t417 == 0) = false := beq_eq_false_iff_ne.mpr c65
            have c65b1 : (t417 != 0) = true := bne_iff_ne.mpr c65
            obtain rfl := Option.some.inj H
            obtain ⟨Ao80, co80, eo80⟩ := Kd.R_slice Za.out
            subst eo80
            go_wp2_with (first | ((with_reducible refine gate_callee (f := 23) rfl ?_); refine goesL_ (some 112) rfl rfl Try.func23 (by kernel_rfl) rfl #[.slice Ao80 t401.length co80, .int .i64 x19_3] rfl zq ?_; (with_reducible refine (impl_EntryOf.calls _ _ t401 x19_3 t415 t416 t417 _ ?side1 ?side2 A44.out).mono ?_); (case side1 => repeat (first | exact (Kd.R_reads' Za.out).2.2 | (with_reducible refine Kd.C_alloc ?_ _) | (with_reducible refine Kd.C_drewN ?_ _) | (with_reducible refine Kd.C_drew ?_))); (case side2 => exact (Kd.R_reads' Za.out).2.1); rintro e w81 ⟨rfl, hb⟩; refine ⟨_, rfl, ?_⟩; have n0_ := zm (Kd.R_below (zg_1 Zc.out) hb); have n1_ := zm (Kd.R_below (zg_1 Za.out) hb); have n2_ := zm (below_step (zg_0 HB.out) hb); clear Zc; clear Za; clear HB; have Zc := n0_; have Za := n1_; have HB := n2_; clear n0_ n1_ n2_; (try clear hb); (try clear hb2); (try clear hk); (try clear hi)))
            go_ret
            exact ⟨by first | rfl | (simp [errW_none, errW_some] <;> rfl) | (simp [*, errW_none, errW_some] <;> rfl), zg_0 HB.out⟩
         ·rw [if_neg c43] at H
          have c43b0 : decide (x19_3 < t400) = false := decide_eq_false c43
          clear c43
          obtain rfl := Option.some.inj H
          go_wp2
          go_ret
          exact ⟨by first | rfl | (simp [errW_none, errW_some] <;> rfl) | (simp [*, errW_none, errW_some] <;> rfl), zg_0 HB.out⟩
/-! ### Base -/
def okI (x : Int) : Prop := (Lit.int .i64 x).wf = true
def okU8 (x : Int) : Prop := (Lit.int .u8 x).wf = true
def okB (_ : Bool) : Prop := True
def okS (x : ByteArray) : Prop := x.size ≤ maxLen
theorem w64 {n : Int} (h0 : -9223372036854775808 ≤ n) (h1 : n ≤ 9223372036854775807) : wrap64 n = n := by unfold wrap64; omega
theorem okI_iff {n : Int} (h : (Lit.int .i64 n).wf = true) : -9223372036854775808 ≤ n ∧ n ≤ 9223372036854775807 := by
  simp [Lit.wf, IntKind.min, IntKind.max, IntKind.signed, IntKind.bits] at h
  omega
theorem Ev.k {α : Type} {g : Nat → Option α} {r : α} (K : Nat) (h : ∀ k, K ≤ k → g k = some r) : Ev g r := ⟨K, h⟩
theorem ev_some {α : Type} (r : α) : Ev (fun _ => some r) r := ⟨0, fun _ _ => rfl⟩
theorem ev_of_eq {α : Type} {g : Nat → Option α} {r : α} (h : ∀ k, g k = some r) : Ev g r := ⟨0, fun k _ => h k⟩
theorem ev_bind {α β : Type} {g : Nat → Option α} {f : Nat → α → Option β} {a : α} {r : β} (h : Ev g a) (k : Ev (fun n => f n a) r) : Ev (fun n => (g n).bind (f n)) r := Ev.bind h k
theorem ev_if {α : Type} {c : Prop} [Decidable c] {g f : Nat → Option α} {r : α} (h : c → Ev g r) (h' : ¬ c → Ev f r) : Ev (fun n => if c then g n else f n) r := by
  by_cases hc : c
  · simp only [if_pos hc]; exact h hc
  · simp only [if_neg hc]; exact h' hc
theorem ev_pos {α : Type} {c : Prop} [Decidable c] {g f : Nat → Option α} {r : α} (hc : c) (h : Ev g r) : Ev (fun n => if c then g n else f n) r := by
  simp only [if_pos hc]; exact h
theorem ev_neg {α : Type} {c : Prop} [Decidable c] {g f : Nat → Option α} {r : α} (hc : ¬ c) (h : Ev f r) : Ev (fun n => if c then g n else f n) r := by
  simp only [if_neg hc]; exact h
theorem strOfNums_size (l : List Int) : (strOfNums l).size = l.length := by show (List.map _ l).toArray.size = _; simp
theorem ba_size_append (a b : ByteArray) : (a ++ b).size = a.size + b.size := by simp
theorem toList_inj {a b : ByteArray} : a.toList = b.toList ↔ a = b := by
  constructor
  · intro h
    have h1 : a.data.toList = b.data.toList := by simpa [ByteArray.toList_eq] using h
    have : a.data = b.data := Array.toList_inj.1 h1
    cases a; cases b; simp_all
  · rintro rfl; rfl
/-! ### Src -/
def srcOK (at_ seed : Int) (n : Nat) : Prop := 0 ≤ at_ ∧ at_ ≤ (n : Int) ∧ 0 ≤ seed ∧ seed < 2147483648
theorem rd_byte (l : List Int) (h : ∀ x ∈ l, 0 ≤ x ∧ x ≤ 255) (i : Int) : 0 ≤ rd l i ∧ rd l i ≤ 255 := by
  unfold rd
  by_cases hi : i.toNat < l.length
  · have : l.getD i.toNat 0 = l[i.toNat] := by simp [hi]
    rw [this]; exact h _ (List.getElem_mem hi)
  · have : l.getD i.toNat 0 = 0 := by simp [hi]
    rw [this]; omega
theorem byte_ok (l : List Int) (h : ∀ x ∈ l, 0 ≤ x ∧ x ≤ 255) (at_ seed : Int) (n : Nat) (hs : srcOK at_ seed n) (hn : n ≤ 1000000000000) :
    ∃ r a s, spec_l00Src_byte.f l at_ seed = some (r, a, s) ∧ 0 ≤ r ∧ r ≤ 255 ∧ srcOK a s (n + 1) := by
  obtain ⟨h0, h1, h2, h3⟩ := hs
  unfold spec_l00Src_byte.f
  have e1 : wrap64 (at_ + 1) = at_ + 1 := w64 (by omega) (by omega)
  have e2 : wrap64 (at_ + 1 - 1) = at_ := by rw [w64 (by omega) (by omega)]; omega
  rw [e1, e2]
  by_cases c1 : at_ + 1 ≤ (l.length : Int)
  · rw [if_pos c1, if_pos h0, if_pos (by omega)]
    have hb := rd_byte l h at_
    generalize rd l at_ = v at hb ⊢
    have e3 : wrap64 v = v := w64 (by omega) (by omega)
    have e4 : wrap64 (seed * 31) = seed * 31 := w64 (by omega) (by omega)
    rw [e3, e4]
    have e5 : wrap64 (seed * 31 + v) = seed * 31 + v := w64 (by omega) (by omega)
    rw [e5]
    have e6 : wrap64 (seed * 31 + v + 7) = seed * 31 + v + 7 := w64 (by omega) (by omega)
    rw [e6]
    refine ⟨_, _, _, rfl, hb.1, hb.2, by omega, by omega, ?_, ?_⟩
    · rw [Int.tmod_eq_emod_of_nonneg (by omega)]; omega
    · rw [Int.tmod_eq_emod_of_nonneg (by omega)]; omega
  · rw [if_neg c1]
    by_cases c2 : at_ + 1 > 3000
    · rw [if_pos c2]; exact ⟨_, _, _, rfl, by omega, by omega, by omega, by omega, h2, h3⟩
    · rw [if_neg c2]
      have e4 : wrap64 (seed * 1103515245) = seed * 1103515245 := w64 (by omega) (by omega)
      rw [e4]
      have e6 : wrap64 (seed * 1103515245 + 12345) = seed * 1103515245 + 12345 := w64 (by omega) (by omega)
      rw [e6, Int.tmod_eq_emod_of_nonneg (by omega : 0 ≤ seed * 1103515245 + 12345)]
      have hq0 : 0 ≤ (seed * 1103515245 + 12345) % 2147483648 := by omega
      have hq1 : (seed * 1103515245 + 12345) % 2147483648 < 2147483648 := by omega
      generalize (seed * 1103515245 + 12345) % 2147483648 = q at hq0 hq1 ⊢
      rw [Int.tdiv_eq_ediv_of_nonneg hq0]
      have e7 : wrap64 (q / 65536) = q / 65536 := w64 (by omega) (by omega)
      rw [e7, Int.tmod_eq_emod_of_nonneg (by omega)]
      exact ⟨_, _, _, rfl, by omega, by omega, by omega, by omega, hq0, hq1⟩
theorem srcOK_mono {a s : Int} {n m : Nat} (h : srcOK a s n) (hm : n ≤ m) : srcOK a s m := ⟨h.1, by have := h.2.1; omega, h.2.2.1, h.2.2.2⟩
theorem tmod_range {x n : Int} (h0 : 0 ≤ x) (hn : 0 < n) : 0 ≤ Int.tmod x n ∧ Int.tmod x n < n := by
  rw [Int.tmod_eq_emod_of_nonneg h0]; exact ⟨Int.emod_nonneg _ (by omega), Int.emod_lt_of_pos _ hn⟩
theorem next_ok (l : List Int) (h : ∀ x ∈ l, 0 ≤ x ∧ x ≤ 255) (at_ seed : Int) (n : Nat) (hs : srcOK at_ seed n) (hn : n ≤ 100000000000) (m : Int) :
    ∃ r a s, spec_l00Src_next.f l at_ seed m = some (r, a, s) ∧ 0 ≤ r ∧ (m ≤ 1 → r = 0) ∧ (1 ≤ m → r < m) ∧ srcOK a s (n + 3) := by
  unfold spec_l00Src_next.f
  by_cases c1 : m ≤ 1
  · rw [if_pos c1]; exact ⟨_, _, _, rfl, by omega, fun _ => rfl, fun _ => by omega, srcOK_mono hs (by omega)⟩
  · rw [if_neg c1]
    obtain ⟨r, a, s, e, r0, r1, ho⟩ := byte_ok l h at_ seed n hs (by omega)
    by_cases c2 : m ≤ 256
    · rw [if_pos c2, e, Option.bind_some, if_neg (by omega)]
      have := tmod_range r0 (show 0 < m by omega)
      exact ⟨_, _, _, rfl, this.1, fun h => absurd h c1, fun _ => this.2, srcOK_mono ho (by omega)⟩
    · rw [if_neg c2, e, Option.bind_some]
      obtain ⟨r', a', s', e', r0', r1', ho'⟩ := byte_ok l h a s (n + 1) ho (by omega)
      rw [e', Option.bind_some]
      obtain ⟨r'', a'', s'', e'', r0'', r1'', ho''⟩ := byte_ok l h a' s' (n + 2) ho' (by omega)
      rw [e'', Option.bind_some, if_neg (by omega)]
      dsimp only
      have x1 : wrap64 (r * 65536) = r * 65536 := w64 (by omega) (by omega)
      have x2 : wrap64 (r' * 256) = r' * 256 := w64 (by omega) (by omega)
      rw [x1, x2]
      have x3 : wrap64 (r * 65536 + r' * 256) = r * 65536 + r' * 256 := w64 (by omega) (by omega)
      rw [x3]
      have x4 : wrap64 (r * 65536 + r' * 256 + r'') = r * 65536 + r' * 256 + r'' := w64 (by omega) (by omega)
      rw [x4]
      have := tmod_range (show 0 ≤ r * 65536 + r' * 256 + r'' by omega) (show 0 < m by omega)
      exact ⟨_, _, _, rfl, this.1, fun h => absurd h c1, fun _ => this.2, ho''⟩
theorem source_ok (l : List Int) : srcOK 0 ((l.length : Int) % 1000) 0 := ⟨by omega, by omega, by omega, by omega⟩
theorem bytes_of {l : List Int} (h : ∀ x ∈ l, (Lit.int .u8 x).wf = true) : ∀ x ∈ l, 0 ≤ x ∧ x ≤ 255 := by
  intro x hx
  have := h x hx
  simp [Lit.wf, IntKind.min, IntKind.max, IntKind.signed, IntKind.bits] at this
  omega
/-! ### Mark -/
theorem ev_loop {α : Type} {g : Nat → Nat → Option α} {r : α} (n : Nat) (hend : Ev (fun k => g k n) r) (hstep : ∀ i, i < n → ∃ c, ∀ k, g (k + c) i = g k (i + 1) ∧ 1 ≤ c) : ∀ d i, i ≤ n → n - i = d → Ev (fun k => g k i) r := by
  intro d
  induction d with
  | zero =>
    intro i hi hd
    have e : i = n := by omega
    rw [e]; exact hend
  | succ d ih =>
    intro i hi hd
    obtain ⟨K, hK⟩ := ih (i + 1) (by omega) (by omega)
    obtain ⟨c, hc⟩ := hstep i (by omega)
    refine ⟨K + c, fun k hk => ?_⟩
    obtain ⟨m, rfl⟩ : ∃ m, k = m + c := ⟨k - c, by omega⟩
    show g (m + c) i = _
    rw [(hc m).1]; exact hK m (by omega)
theorem rdn (l : List Int) (i : Nat) (h : i < l.length) : rd l (i : Int) = l[i] := by simp [rd, h]
theorem wnext (i : Nat) (h : i < 1000000000000000000) : wrap64 ((i : Int) + 1) = ((i + 1 : Nat) : Int) := by rw [w64 (by omega) (by omega)]; omega
def countUp (a : Int) (n : Nat) : List Int := (List.range n).map (fun j : Nat => a + (j : Int))
theorem countUp_length (a : Int) (n : Nat) : (countUp a n).length = n := by simp [countUp]
theorem countUp_get (a : Int) (n i : Nat) (h : i < n) : (countUp a n)[i]'(by rw [countUp_length]; exact h) = a + (i : Int) := by simp [countUp]
theorem set_mid {α : Type} (l m : List α) (hlm : m.length = l.length) (i : Nat) (h : i < l.length) (x : α) (hx : m[i]'(by omega) = x) : (m.take i ++ l.drop i).set i x = m.take (i + 1) ++ l.drop (i + 1) := by
  subst hx
  rw [List.drop_eq_getElem_cons h, List.set_append_right _ _ (by rw [List.length_take]; omega)]
  have : i - (m.take i).length = 0 := by rw [List.length_take]; omega
  rw [this, List.set_cons_zero, List.take_succ_eq_append_getElem (by omega), List.append_assoc]
  rfl
/-! ### Ev -/
theorem Ev.succ {α : Type} {g : Nat → Option α} {r : α} (h : Ev (fun k => g (k + 1)) r) : Ev g r := Ev.step (f := fun k => g (k + 1)) (fun _ => rfl) h
theorem ev_all {α : Type} {g : Nat → Nat → Option Bool} (l : List α) (q : α → Bool) (r : Bool) (hend : Ev (fun k => g k l.length) r) (hstep : ∀ i (h : i < l.length) k, g (k + 1) i = if q l[i] = true then g k (i + 1) else some false) : Ev (fun k => g k 0) (l.all q && r) := by
  have hgo : ∀ d i, i ≤ l.length → l.length - i = d → Ev (fun k => g k i) ((l.drop i).all q && r) := by
    intro d
    induction d with
    | zero =>
      intro i hi hd
      have e : i = l.length := by omega
      subst e
      rw [List.drop_of_length_le (by omega)]; simp only [List.all_nil, Bool.true_and]; exact hend
    | succ d ih =>
      intro i hi hd
      have hlt : i < l.length := by omega
      refine Ev.step (f := fun k => if q l[i] = true then g k (i + 1) else some false) (hstep i hlt) ?_
      rw [List.drop_eq_getElem_cons hlt, List.all_cons]
      cases hq : q l[i]
      · simp only [Bool.false_and, Bool.false_eq_true, if_false]; exact ev_some _
      · simp only [Bool.true_and, if_true]; exact ih (i + 1) (by omega) (by omega)
  have := hgo l.length 0 (by omega) (by omega)
  rwa [List.drop_zero] at this
theorem ev_asks {α β : Type} {g : Nat → Nat → Option β} (l : List α) (q : α → Bool) (r bad : β) (hend : Ev (fun k => g k l.length) r) (hstep : ∀ i (h : i < l.length) k, g (k + 1) i = if q l[i] = true then g k (i + 1) else some bad) : Ev (fun k => g k 0) (if l.all q = true then r else bad) := by
  have hgo : ∀ d i, i ≤ l.length → l.length - i = d → Ev (fun k => g k i) (if (l.drop i).all q = true then r else bad) := by
    intro d
    induction d with
    | zero =>
      intro i hi hd
      have e : i = l.length := by omega
      subst e
      rw [List.drop_of_length_le (by omega)]; simp only [List.all_nil, if_true]; exact hend
    | succ d ih =>
      intro i hi hd
      have hlt : i < l.length := by omega
      refine Ev.step (f := fun k => if q l[i] = true then g k (i + 1) else some bad) (hstep i hlt) ?_
      rw [List.drop_eq_getElem_cons hlt, List.all_cons]
      cases hq : q l[i]
      · simp only [Bool.false_and, Bool.false_eq_true, if_false]; exact ev_some _
      · simp only [Bool.true_and, if_true]; exact ih (i + 1) (by omega) (by omega)
  have := hgo l.length 0 (by omega) (by omega)
  rwa [List.drop_zero] at this
/-! ### spec_l00Src_some: function 85 -/
def spec_l00Src_some.l0 : Nat → Int → List Int → Int → List Int → Int → Int → Option (ByteArray × Int × Int)
  | 0, _, _, _, _, _, _ => none
  | k + 1, x1, x5, x6, x1000, x1001, x1002 => if x6 < x1 then ((spec_l00Src_next.f x1000 x1001 x1002 26).bind fun bt125 => (if x5.length < 140737488355328 then (spec_l00Src_some.l0 k x1 (x5 ++ [(wrap64 (97 + bt125.1)) % 256]) (wrap64 (x6 + 1)) x1000 bt125.2.1 bt125.2.2) else (none))) else (some (strOfNums x5, x1001, x1002))
def spec_l00Src_some.f (k : Nat) (s0_0 : List Int) (s0_1 : Int) (s0_2 : Int) (a1 : Int) : Option (ByteArray × Int × Int) := spec_l00Src_some.l0 k a1 (([] : List Int)) 0 s0_0 s0_1 s0_2
theorem spec_l00Src_some.mono_l : ∀ k, (∀ y0 y1 y2 y3 y4 y5, LeO (spec_l00Src_some.l0 k y0 y1 y2 y3 y4 y5) (spec_l00Src_some.l0 (k + 1) y0 y1 y2 y3 y4 y5))
  | 0 => fun _ _ _ _ _ _ r h => by simp [spec_l00Src_some.l0] at h
  | k + 1 => by
    have ih0 := spec_l00Src_some.mono_l k
    · intro y0 y1 y2 y3 y4 y5
      unfold spec_l00Src_some.l0
      repeat' first
      | (with_reducible exact ih0 _ _ _ _ _ _)
      | (with_reducible exact LeO.refl _)
      | (with_reducible exact LeO.none _)
      | (with_reducible refine LeO.ite ?_ ?_)
      | (with_reducible refine LeO.bind ?_ (fun _ => ?_))
      | exact ih0 _ _ _ _ _ _
      | exact LeO.none _
      | refine LeO.ite ?_ ?_
      | refine LeO.bind ?_ (fun _ => ?_)
theorem spec_l00Src_some.mono : ∀ a0 a1 a2 a3 k, LeO (spec_l00Src_some.f k a0 a1 a2 a3) (spec_l00Src_some.f (k + 1) a0 a1 a2 a3) := by
  intro a0 a1 a2 a3 k
  have ih0 := spec_l00Src_some.mono_l k
  unfold spec_l00Src_some.f
  repeat' first
      | (with_reducible exact ih0 _ _ _ _ _ _)
      | (with_reducible exact LeO.refl _)
      | (with_reducible exact LeO.none _)
      | (with_reducible refine LeO.ite ?_ ?_)
      | (with_reducible refine LeO.bind ?_ (fun _ => ?_))
      | exact ih0 _ _ _ _ _ _
      | exact LeO.none _
      | refine LeO.ite ?_ ?_
      | refine LeO.bind ?_ (fun _ => ?_)
set_option maxHeartbeats 8000000 in
set_option maxRecDepth 100000 in
theorem spec_l00Src_some.calls (k : Nat) (g : Nat) (s0_0 : List Int) (s0_1 : Int) (s0_2 : Int) (a1 : Int) (r1 : ByteArray) (r2 : Int) (r3 : Int) (w0 w : World) (hI : IsS112 w0 w g s0_0 s0_1 s0_2) (hB : Below w0.heap.size w0 w) (h : spec_l00Src_some.f k s0_0 s0_1 s0_2 a1 = some (r1, r2, r3)) :
    Calls Try.prog 85 #[.pointer (some ⟨g, 0, none⟩), .int .i64 a1] w fun e w' => e = .returned (.string r1) ∧ IsS112 w0 w' g s0_0 r2 r3 ∧ Below w0.heap.size w0 w' ∧ KeepBut w w' g none := by
 have HI0 := zm hI
 have HK := zm (KeepBut.refl w g none)
 have HL := zm hB.size
 clear hI
 have HW0 := zm hB.size
 have HB := zm hB
 clear hB
 have H : (spec_l00Src_some.l0 k a1 (([] : List Int)) 0 s0_0 s0_1 s0_2) = some (r1, r2, r3) := h
 clear h
 obtain ⟨y122, hy122⟩ : ∃ y_ : List Int, y_ = (([] : List Int)) := ⟨_, rfl⟩
 replace H : (spec_l00Src_some.l0 k a1 y122 0 s0_0 s0_1 s0_2) = some (r1, r2, r3) := by first | (rw [hy122]; with_reducible exact H) | (have H2_ := (Option.bind_some _ _).symm.trans H; rw [hy122]; with_reducible exact H2_) | (have H2_ := (Option.bind_some _ _).symm.trans H; with_reducible exact H2_) | with_reducible exact H | (rw [hy122]; exact H) | exact H
 have Ny122 := zm hy122
 clear hy122
 have H' := zm H
 clear H
 go_enter Try.func85, Try.ntmps85
 go_wp2_with (first | ((with_reducible refine gate_dst (N := 7) rfl ?_); refine Kd.R_lit (Kd.int .u8) _ 5 ?hg (N := 7) ?hd (xs := ([] : List Int)) (inner := []) (ok := fun _ => True) (okp := fun _ => True) ?hr ?hp (fun _ hk => hk) trivial (Below.refl _ _) (Nat.le_refl _) (by simp) ?_; (case hd => rfl); (case hg => rfl); (case hr => first | (go_simp; done) | (go_simp; rfl)); (case hp => exact (Reps.none _ _)); intro v123 w3 ho4 hb hg_ hnew_; clear hg_ hnew_; (first | rw [← Ny122.out] at ho4 | (simp only [Int.reduceToNat] at ho4; rw [← Ny122.out] at ho4)); have n0_ := zm (Kd.R_lower ho4 (keep_size (w := w) (g := g) (row := none) (zg_2 HK.out))); have n1_ := zm (IsS112.below (zg_3 HI0.out) hb); have n2_ := zm (KeepBut.trans (zg_2 HK.out) (KeepBut.of_below hb g none) (.inl rfl)); have n3_ := zm (below_step (zg_4 HB.out HI0.out) hb); clear HI0; clear HK; clear HB; have Zb := n0_; have HI0 := n1_; have HK := n2_; have HB := n3_; clear n0_ n1_ n2_ n3_; clear hb ho4))
 go_loopg [5, 6] k (fun kq v5 v6 w' => ∃ (x5_1 : List Int) (x6_1 : Int) (x1001_1 : Int) (x1002_1 : Int), v6 = .int .i64 x6_1 ∧ Aside0 (spec_l00Src_some.l0 kq a1 x5_1 x6_1 s0_0 x1001_1 x1002_1 = some (r1, r2, r3)) ∧ Aside0 (kq ≤ k) ∧ Aside0 (Kd.R (Kd.int .u8) 5 w' w.heap.size (fun _ => True) v5 x5_1) ∧ Aside0 (IsS112 w0 w' g s0_0 x1001_1 x1002_1) ∧ Aside0 (KeepBut w w' g none) ∧ Aside0 (Below w0.heap.size w0 w'))
 case atStart => exact ⟨(y122), (0), (s0_1), (s0_2), zr, H', ⟨Nat.le_refl _⟩, ⟨by (with_reducible repeat (first | apply Kd.R_alloc | apply Kd.R_drewN | apply Kd.R_drew)); exact Zb.out⟩, ⟨zg_3 HI0.out⟩, ⟨zg_2 HK.out⟩, ⟨zg_4 HB.out HI0.out⟩⟩
 case round =>
  clear H'
  try clear p2
  obtain ⟨x5_1, x6_1, x1001_1, x1002_1, rfl, HA, HK1, Za, HI0, HK, HB⟩ := hrel
  cases gk with
  | zero => exact absurd HA.out (by simp [spec_l00Src_some.l0])
  | succ k1 =>
   have H := HA.out
   clear HA
   simp only [spec_l00Src_some.l0] at H
   by_cases c5 : x6_1 < a1
   ·rw [if_pos c5] at H
    have c5b0 : decide (x6_1 < a1) = true := decide_eq_true c5
    clear c5
    replace H := Option.bind_eq_some_iff.mp H
    obtain ⟨⟨t125, t126, t127⟩, A60, H⟩ := H
    replace H : (if x5_1.length < 140737488355328 then (spec_l00Src_some.l0 k1 a1 (x5_1 ++ [(wrap64 (97 + t125)) % 256]) (wrap64 (x6_1 + 1)) s0_0 t126 t127) else (none)) = some (r1, r2, r3) := H
    have A6 := zm A60
    clear A60
    by_cases c7 : x5_1.length < 140737488355328
    ·rw [if_pos c7] at H
     have LMc7 := zm c7
     clear c7
     obtain ⟨y128, hy128⟩ : ∃ y_ : List Int, y_ = (x5_1 ++ [(wrap64 (97 + t125)) % 256]) := ⟨_, rfl⟩
     replace H : (spec_l00Src_some.l0 k1 a1 y128 (wrap64 (x6_1 + 1)) s0_0 t126 t127) = some (r1, r2, r3) := by first | (rw [hy128]; with_reducible exact H) | (have H2_ := (Option.bind_some _ _).symm.trans H; rw [hy128]; with_reducible exact H2_) | (have H2_ := (Option.bind_some _ _).symm.trans H; with_reducible exact H2_) | with_reducible exact H | (rw [hy128]; exact H) | exact H
     have Ny128 := zm hy128
     clear hy128
     have H' := zm H
     clear H
     go_wp2_with (first | ((with_reducible refine gate_callee (f := 103) rfl ?_); refine goesL_ (some 15) rfl rfl Try.func103 (by kernel_rfl) rfl #[.pointer (some ⟨g, 0, none⟩), .int .i64 26] rfl zq ?_; (with_reducible refine (spec_l00Src_next.calls g s0_0 x1001_1 x1002_1 26 t125 t126 t127 w0 _ ?side1 ?side2 A6.out).mono ?_); (case side1 => repeat (first | (with_reducible first | exact HI0.out | apply IsS112.alloc | apply IsS112.drewN | apply IsS112.drew | apply IsS112.set_1 | apply IsS112.set_2) | exact HI0.out)); (case side2 => repeat (first | (with_reducible first | exact HB.out | apply below_alloc | apply pw_below_drewN | apply below_drew1 | refine below_set ?_ (IsS112.ge HI0.out)) | exact HB.out)); rintro e w8 ⟨rfl, hi, hb, hk⟩; refine ⟨_, rfl, ?_⟩; have n0_ := zm (Kd.R_mono (Kd.R_keep (IsS112.apart (show IsS112 w0 _ g s0_0 x1001_1 x1002_1 from zg_3 HI0.out) (zg_1 Za.out) (by decide)) hk (fun _ h => h.2)) (fun _ h => h.1)); have n1_ := zm (KeepBut.trans (zg_2 HK.out) hk (.inl rfl)); have n2_ := zm (hb); have n3_ := zm (hi); clear Za; clear HK; clear HB; clear HI0; have Za := n0_; have HK := n1_; have HB := n2_; have HI0 := n3_; clear n0_ n1_ n2_ n3_; (try clear hb); (try clear hb2); (try clear hk); (try clear hi)) | ((with_reducible refine gate_builtin (b := .append) (xs := #[.tmp 13, .tmp 18]) rfl ?_); at_builtin; refine Kd.R_append (Kd.int .u8) w.heap.size rfl (.tmp 13) (.tmp 18) 22 5 (.int .u8 0) 1 rfl Try.underlying22 info5 rfl (by decide) (by omega) u5 x5_1 ((wrap64 (97 + t125)) % 256) [.int .u8 ((wrap64 (97 + t125)) % 256)] (fun _ => True) (fun _ => False) rfl rfl ?aP (fun _ hk => hk.elim) ?aF ?aO (Below.refl _ _) ?aS ?aL ?_; (case aP => exact rfl); (case aF => exact (fun _ _ => trivial)); (case aO => exact (zg_1 Za.out)); (case aS => exact (keep_size (w := w) (g := g) (row := none) (zg_2 HK.out))); (case aL => have := LMc7.out; omega); intro v129 w9 ho hb hg hat; rw [← Ny128.out] at ho; have n0_ := zm (IsS112.grown (zg_3 HI0.out) hg (IsS112.own_ne HI0.out Za.out (by decide))); have n1_ := zm (below_weaken (zg_4 HB.out HI0.out) HL.out hb); have n2_ := zm (KeepBut.trans (zg_2 HK.out) (KeepBut.of_grown hg g) (Kd.R_base2 Za.out)); have n3_ := zm (ho); clear HI0; clear HB; clear HK; clear Za; have HI0 := n0_; have HB := n1_; have HK := n2_; have Zc := n3_; clear n0_ n1_ n2_ n3_; clear ho hb hg hat))
     go_roundg k1
     case measure => have := HK1.out; omega
     case rel => exact ⟨(y128), (wrap64 (x6_1 + 1)), (t126), (t127), zr, H', ⟨by have := HK1.out; omega⟩, ⟨by (with_reducible repeat (first | apply Kd.R_alloc | apply Kd.R_drewN | apply Kd.R_drew)); exact Zc.out⟩, ⟨zg_3 HI0.out⟩, ⟨zg_2 HK.out⟩, ⟨zg_4 HB.out HI0.out⟩⟩
    ·rw [if_neg c7] at H
     exact absurd H (by simp)
   ·rw [if_neg c5] at H
    have c5b0 : decide (x6_1 < a1) = false := decide_eq_false c5
    clear c5
    simp only [Option.some.injEq, Prod.mk.injEq] at H
    obtain ⟨rfl, rfl, rfl⟩ := H
    have hcv10 := own_string (P := Try.prog) Try.underlying22 Try.underlying5 Try.underlying9 (Kd.own_of_R Za.out)
    go_wp2
    go_ret
    exact ⟨by first | rfl | (simp [errW_none, errW_some] <;> rfl) | (simp [*, errW_none, errW_some] <;> rfl), zg_3 HI0.out, zg_4 HB.out HI0.out, zg_2 HK.out⟩
/-! ### Draw -/
theorem some_fill (l : List Int) (h : ∀ x ∈ l, 0 ≤ x ∧ x ≤ 255) (m : Nat) (hm : m ≤ 1000000) : ∀ (d i : Nat) (out : List Int) (at_ seed : Int) (n : Nat), i + d = m → out.length = i → n + 3 * d ≤ 10000000000 → srcOK at_ seed n →
    ∃ t a s, Ev (fun k => spec_l00Src_some.l0 k (m : Int) out (i : Int) l at_ seed) (t, a, s) ∧ t.size = m ∧ srcOK a s (n + 3 * d) := by
  intro d
  induction d with
  | zero =>
    intro i out at_ seed n hi ho hn hs
    refine ⟨strOfNums out, at_, seed, Ev.step (f := fun _ => some (strOfNums out, at_, seed)) (fun k => ?_) (ev_some _), by rw [strOfNums_size]; omega, hs⟩
    simp only [spec_l00Src_some.l0]; rw [if_neg (by omega)]
  | succ d ih =>
    intro i out at_ seed n hi ho hn hs
    obtain ⟨r, a, s, e, r0, -, r1, o⟩ := next_ok l h at_ seed n hs (by omega) 26
    obtain ⟨t, a', s', e', ht, ho'⟩ := ih (i + 1) (out ++ [(wrap64 (97 + r)) % 256]) a s (n + 3) (by omega) (by simp; omega) (by omega) o
    refine ⟨t, a', s', Ev.step (f := fun k => spec_l00Src_some.l0 k (m : Int) (out ++ [(wrap64 (97 + r)) % 256]) ((i + 1 : Nat) : Int) l a s) (fun k => ?_) e', ht, srcOK_mono ho' (by omega)⟩
    simp only [spec_l00Src_some.l0]
    rw [if_pos (by omega), e, Option.bind_some, if_pos (by omega), wnext i (by omega)]
theorem some_ev (l : List Int) (h : ∀ x ∈ l, 0 ≤ x ∧ x ≤ 255) (m : Nat) (hm : m ≤ 1000000) (at_ seed : Int) (n : Nat) (hs : srcOK at_ seed n) (hn : n + 3 * m ≤ 10000000000) :
    ∃ t a s, Ev (fun k => spec_l00Src_some.f k l at_ seed (m : Int)) (t, a, s) ∧ t.size = m ∧ srcOK a s (n + 3 * m) :=
  some_fill l h m hm m 0 [] at_ seed n (by omega) rfl hn hs
/-! ### In -/
def inB (n a b : Int) : Bool := decide (a ≤ n) && decide (n ≤ b)
theorem inB_iff {n a b : Int} : inB n a b = true ↔ a ≤ n ∧ n ≤ b := by simp [inB]
theorem inB_no {n a b : Int} : inB n a b = false ↔ ¬ (a ≤ n ∧ n ≤ b) := by rw [← inB_iff]; simp
theorem l01In_eq (n a b : Int) : spec_l01In.f n a b = some (inB n a b) := by
  unfold spec_l01In.f inB; by_cases h : a ≤ n <;> simp [h]
theorem within_eq (n a b : Int) : impl_within.f n a b = some (inB n a b) := by
  unfold impl_within.f inB; by_cases h : a ≤ n <;> simp [h]
theorem and_opt {b : Bool} {c : Option Bool} {c' : Bool} (h : c = some c') : (if b = true then c else some false) = some (b && c') := by
  cases b <;> simp [h]
/-! ### TableOK -/
def tableOK (l : List Int) : Bool := decide ((l.length : Int) ≤ 12) && l.all (fun n => inB n 0 25)
theorem spec_TableOK_ev (l : List Int) (hl : l.length ≤ 1000000000) : Ev (fun k => spec_TableOK.f k l) (tableOK l) := by
  unfold spec_TableOK.f
  by_cases h : (l.length : Int) > 4096
  · have : tableOK l = false := by unfold tableOK; rw [decide_eq_false (by omega)]; rfl
    rw [this]; exact ev_pos h (ev_some _)
  · refine ev_neg h ?_
    have hgo : ∀ d i, i ≤ l.length → l.length - i = d → Ev (fun k => spec_TableOK.l0 k l (i : Int)) ((l.drop i).all (fun n => inB n 0 25) && decide ((l.length : Int) ≤ 12)) := by
      intro d
      induction d with
      | zero =>
        intro i hi hd
        refine Ev.step (f := fun _ => some (decide ((l.length : Int) ≤ 12))) (fun k => ?_) ?_
        · simp only [spec_TableOK.l0]; rw [if_neg (by omega)]
        · rw [List.drop_of_length_le (by omega)]; simp only [List.all_nil, Bool.true_and]; exact ev_some _
      | succ d ih =>
        intro i hi hd
        have hlt : i < l.length := by omega
        refine Ev.step (f := fun k => if inB l[i] 0 25 = true then spec_TableOK.l0 k l ((i + 1 : Nat) : Int) else some false) (fun k => ?_) ?_
        · simp only [spec_TableOK.l0, l01In_eq, Option.bind_some]
          rw [if_pos (by omega), if_pos (by omega), rdn l i hlt, wnext i (by omega)]
        · rw [List.drop_eq_getElem_cons hlt, List.all_cons]
          cases hq : inB l[i] 0 25
          · simp only [Bool.false_and]; exact ev_some _
          · simp only [Bool.true_and]; exact ih (i + 1) (by omega) (by omega)
    have := hgo l.length 0 (by omega) (by omega)
    rw [List.drop_zero, Bool.and_comm] at this
    exact this
theorem impl_TableOK_eq (l : List Int) : impl_TableOK.f l = some (tableOK l) := by
  unfold impl_TableOK.f tableOK
  have ha : all107_impl_TableOK_1.f l () = some (l.all (fun n => inB n 0 25)) := by
    unfold all107_impl_TableOK_1.f; exact allO_some _ _ (fun x _ => by simp only [impl_TableOK_1.f, within_eq, Option.bind_some])
  by_cases h : (l.length : Int) ≤ 12
  · rw [if_pos h, ha]; simp [h]
  · rw [if_neg h]; simp [h]
/-! ### DrawT -/
theorem table_of {l : List Int} (hl : l.length ≤ 12) (hx : ∀ x ∈ l, 0 ≤ x ∧ x ≤ 25) : tableOK l = true := by
  unfold tableOK
  rw [decide_eq_true (by omega), Bool.true_and, List.all_eq_true]
  exact fun x hm => inB_iff.2 (hx x hm)
theorem table_in {l : List Int} (h : tableOK l = true) : l.length ≤ 12 ∧ ∀ x ∈ l, 0 ≤ x ∧ x ≤ 25 := by
  unfold tableOK at h
  rw [Bool.and_eq_true, decide_eq_true_eq, List.all_eq_true] at h
  exact ⟨by omega, fun x hm => inB_iff.1 (h.2 x hm)⟩
theorem table_fill (l : List Int) (h : ∀ x ∈ l, 0 ≤ x ∧ x ≤ 255) : ∀ (d : Nat) (out : List Int) (at_ seed : Int) (n : Nat), out.length + d ≤ 12 → n + 6 * d ≤ 1000000000 → (∀ x ∈ out, 0 ≤ x ∧ x ≤ 25) → srcOK at_ seed n →
    ∃ r a s, Ev (fun k => spec_l00Src_table.l0 k out (d : Int) l at_ seed) (r, a, s) ∧ tableOK r = true := by
  intro d
  induction d with
  | zero =>
    intro out at_ seed n ho hn hx hs
    refine ⟨out, at_, seed, Ev.step (f := fun _ => some (out, at_, seed)) (fun k => ?_) (ev_some _), table_of (by omega) hx⟩
    simp only [spec_l00Src_table.l0]; rw [if_neg (by omega)]
  | succ d ih =>
    intro out at_ seed n ho hn hx hs
    obtain ⟨p, a1, s1, e1, p0, -, p1, o1⟩ := next_ok l h at_ seed n hs (by omega) 24
    have p1' := p1 (by omega)
    obtain ⟨q, a2, s2, e2, q0, -, q1, o2⟩ := next_ok l h a1 s1 _ o1 (by omega) 3
    have q1' := q1 (by omega)
    have hw : wrap64 (2 + p) = 2 + p := w64 (by omega) (by omega)
    have hv : 0 ≤ rd ([0, 1, 2 + p] : List Int) q ∧ rd ([0, 1, 2 + p] : List Int) q ≤ 25 := by
      have : q = 0 ∨ q = 1 ∨ q = 2 := by omega
      rcases this with rfl | rfl | rfl
      · exact ⟨by show (0 : Int) ≤ 0; omega, by show (0 : Int) ≤ 25; omega⟩
      · exact ⟨by show (0 : Int) ≤ 1; omega, by show (1 : Int) ≤ 25; omega⟩
      · exact ⟨by show (0 : Int) ≤ 2 + p; omega, by show 2 + p ≤ 25; omega⟩
    obtain ⟨r, a', s', e', h1⟩ := ih (out ++ [rd ([0, 1, 2 + p] : List Int) q]) a2 s2 _ (by simp; omega) (by omega) (by
      intro x hm
      rcases List.mem_append.1 hm with hm | hm
      · exact hx x hm
      · rw [List.mem_singleton.1 hm]; exact hv) o2
    refine ⟨r, a', s', Ev.step (f := fun k => spec_l00Src_table.l0 k (out ++ [rd ([0, 1, 2 + p] : List Int) q]) (d : Int) l a2 s2) (fun k => ?_) e', h1⟩
    simp only [spec_l00Src_table.l0]
    rw [if_pos (by omega), e1, Option.bind_some, Option.bind_some]
    simp only [hw]
    rw [e2, Option.bind_some, if_pos q0, if_pos (by simp; omega), if_pos (by omega), w64 (n := ((d + 1 : Nat) : Int) - 1) (by omega) (by omega), show ((d + 1 : Nat) : Int) - 1 = (d : Int) by omega]
theorem table_drawn (l : List Int) (h : ∀ x ∈ l, 0 ≤ x ∧ x ≤ 255) : ∃ r, Ev (fun k => spec_TableOf.f k l) r ∧ tableOK r = true := by
  unfold spec_TableOf.f spec_l00Source.f spec_l00Src_table.f
  simp only [Option.bind_some]
  obtain ⟨m, a1, s1, e1, m0, -, m1, o1⟩ := next_ok l h _ _ _ (source_ok l) (by omega) 13
  have m1' := m1 (by omega)
  rw [e1]; simp only [Option.bind_some]
  obtain ⟨j, rfl⟩ : ∃ j : Nat, m = (j : Int) := ⟨m.toNat, by omega⟩
  obtain ⟨r, a, s, e, h1⟩ := table_fill l h j [] a1 s1 _ (by simp; omega) (by omega) (by simp) o1
  exact ⟨r, ev_bind e (ev_some _), h1⟩
/-! ### Codec -/
/-- The bytes of a number. -/
def quad (n : Int) : List Int := [n % 256, n / 256 % 256, n / 65536 % 256, n / 16777216 % 256]
def packP (l : List Int) : List Int := l.flatMap quad
theorem packP_length (l : List Int) : (packP l).length = 4 * l.length := by
  induction l with
  | nil => rfl
  | cons x xs ih => simp only [packP, List.flatMap_cons, List.length_append] at ih ⊢; rw [ih]; simp [quad]; omega
theorem packP_snoc (l : List Int) (x : Int) : packP (l ++ [x]) = packP l ++ quad x := by simp [packP]
theorem rd_eq (l : List Int) (i : Nat) (h : i < l.length) : rd l (i : Int) = l[i] := by simp [rd, h]
theorem take_next {α : Type} (l : List α) (i : Nat) (h : i < l.length) : l.take (i + 1) = l.take i ++ [l[i]] := by
  rw [List.take_succ_eq_append_getElem h]
theorem spec_pack_in (l out : List Int) (i : Nat) (n : Int) (h : out.length + 4 < 140737488355328) (k : Nat) (hk : 5 ≤ k) :
    spec_l02Pack.l1 k l out i n 0 = spec_l02Pack.l0 (k - 5) l (out ++ quad n) (wrap64 ((i : Int) + 1)) := by
  obtain ⟨k, rfl⟩ : ∃ m, k = m + 5 := ⟨k - 5, by omega⟩
  have e1 : wrap64 (0 + 1) = 1 := by rw [w64 (by omega) (by omega)]; omega
  have e2 : wrap64 (1 + 1) = 2 := by rw [w64 (by omega) (by omega)]; omega
  have e3 : wrap64 (2 + 1) = 3 := by rw [w64 (by omega) (by omega)]; omega
  have e4 : wrap64 (3 + 1) = 4 := by rw [w64 (by omega) (by omega)]; omega
  simp only [spec_l02Pack.l1, e1, e2, e3, e4, List.length_append, List.length_cons, List.length_nil]
  rw [if_pos (by omega), if_pos (by omega), if_pos (by omega), if_pos (by omega), if_pos (by omega), if_pos (by omega), if_pos (by omega), if_pos (by omega), if_neg (by omega)]
  simp only [quad, Nat.add_sub_cancel, List.append_assoc, List.cons_append, List.nil_append]
  rw [Int.ediv_ediv_of_nonneg (by omega), Int.ediv_ediv_of_nonneg (by omega)]
  rfl
theorem spec_pack_from (l : List Int) (hl : l.length ≤ 1000000000) (d : Nat) : ∀ (k i : Nat), i ≤ l.length → l.length - i = d → 6 * d < k →
    spec_l02Pack.l0 k l (packP (l.take i)) i = some (strOfNums (packP l)) := by
  induction d with
  | zero =>
    intro k i hi hd hk
    obtain ⟨k, rfl⟩ : ∃ m, k = m + 1 := ⟨k - 1, by omega⟩
    simp only [spec_l02Pack.l0]
    rw [if_neg (by omega), List.take_of_length_le (by omega)]
  | succ d ih =>
    intro k i hi hd hk
    obtain ⟨k, rfl⟩ : ∃ m, k = m + 1 := ⟨k - 1, by omega⟩
    have hlt : i < l.length := by omega
    have hp := packP_length (l.take i)
    have hl2 : (l.take i).length ≤ i := List.length_take_le _ _
    simp only [spec_l02Pack.l0]
    rw [if_pos (by omega), if_pos (by omega), spec_pack_in _ _ _ _ (by omega) _ (by omega), rd_eq l i hlt, ← packP_snoc, ← take_next l i hlt, w64 (by omega) (by omega)]
    exact ih (k - 5) (i + 1) (by omega) (by omega) (by omega)
theorem spec_pack_ev (l : List Int) (hl : l.length ≤ 1000000000) : Ev (fun k => spec_l02Pack.f k l) (strOfNums (packP l)) :=
  ⟨6 * l.length + 1, fun k hk => by have := spec_pack_from l hl l.length k 0 (by omega) (by omega) (by omega); simpa [spec_l02Pack.f, packP] using this⟩
theorem impl_pack_from (l : List Int) (hl : l.length ≤ 1000000000) (d : Nat) : ∀ (k i : Nat), i ≤ l.length → l.length - i = d → d < k →
    impl_pack.l0 k (packP (l.take i)) l (l.length : Int) i = some (strOfNums (packP l)) := by
  induction d with
  | zero =>
    intro k i hi hd hk
    obtain ⟨k, rfl⟩ : ∃ m, k = m + 1 := ⟨k - 1, by omega⟩
    simp only [impl_pack.l0]
    rw [if_neg (by omega), List.take_of_length_le (by omega)]
  | succ d ih =>
    intro k i hi hd hk
    obtain ⟨k, rfl⟩ : ∃ m, k = m + 1 := ⟨k - 1, by omega⟩
    have hlt : i < l.length := by omega
    have hp := packP_length (l.take i)
    have hl2 : (l.take i).length ≤ i := List.length_take_le _ _
    simp only [impl_pack.l0]
    rw [if_pos (by omega), if_pos (by omega), if_pos (by omega)]
    simp only [Option.bind_some, List.length_cons, List.length_nil]
    rw [if_pos (by omega), rd_eq l i hlt]
    have : packP (l.take i) ++ [l[i] % 256, l[i] / 256 % 256, l[i] / 65536 % 256, l[i] / 16777216 % 256] = packP (l.take (i + 1)) := by
      rw [take_next l i hlt, packP_snoc]; rfl
    rw [this, w64 (by omega) (by omega)]
    exact ih k (i + 1) (by omega) (by omega) (by omega)
theorem impl_pack_ev (l : List Int) (hl : l.length ≤ 1000000000) : Ev (fun k => impl_pack.f k l) (strOfNums (packP l)) :=
  ⟨l.length + 1, fun k hk => by have := impl_pack_from l hl l.length k 0 (by omega) (by omega) (by omega); simpa [impl_pack.f, packP] using this⟩
/-- One step of the sum. -/
def sumStep (t : ByteArray) (n : Int) (i : Nat) : Int := Int.tmod (wrap64 (n + (wrap64 ((wrap64 ((i : Int) + 1)) * (wrap64 ((wrap64 (bt t i)) + 1)))))) 251
def sumP (t : ByteArray) : Int := (List.range t.size).foldl (sumStep t) 0
theorem range_split (i n : Nat) (h : i < n) : List.range' i (n - i) = i :: List.range' (i + 1) (n - (i + 1)) := by
  obtain ⟨d, rfl⟩ : ∃ d, n = i + 1 + d := ⟨n - (i + 1), by omega⟩
  rw [show i + 1 + d - i = d + 1 by omega, show i + 1 + d - (i + 1) = d by omega, List.range'_succ]
theorem spec_sum_from (t : ByteArray) (ht : t.size ≤ 1000000000000) (d : Nat) : ∀ (k i : Nat) (n : Int), i ≤ t.size → t.size - i = d → d < k →
    spec_l02Sum.l0 k t n i = some ((List.range' i (t.size - i)).foldl (sumStep t) n) := by
  induction d with
  | zero =>
    intro k i n hi hd hk
    obtain ⟨k, rfl⟩ : ∃ m, k = m + 1 := ⟨k - 1, by omega⟩
    simp only [spec_l02Sum.l0]
    rw [if_neg (by omega), hd]; rfl
  | succ d ih =>
    intro k i n hi hd hk
    obtain ⟨k, rfl⟩ : ∃ m, k = m + 1 := ⟨k - 1, by omega⟩
    simp only [spec_l02Sum.l0]
    rw [if_pos (by omega), if_pos (by omega), range_split i t.size (by omega)]
    have e : wrap64 ((i : Int) + 1) = ((i + 1 : Nat) : Int) := by rw [w64 (by omega) (by omega)]; rfl
    have := ih k (i + 1) (sumStep t n i) (by omega) (by omega) (by omega)
    rw [List.foldl_cons, ← this]
    simp only [sumStep, e]
theorem spec_sum_ev (t : ByteArray) (ht : t.size ≤ 1000000000000) : Ev (fun k => spec_l02Sum.f k t) (sumP t) :=
  ⟨t.size + 1, fun k hk => by have := spec_sum_from t ht t.size k 0 0 (by omega) (by omega) (by omega); simpa [spec_l02Sum.f, sumP, List.range_eq_range'] using this⟩
theorem impl_sum_from (t : ByteArray) (ht : t.size ≤ 1000000000000) (d : Nat) : ∀ (k i : Nat) (n : Int), i ≤ t.size → t.size - i = d → d < k →
    impl_sumOf.l0 k t n (t.size : Int) i = some ((List.range' i (t.size - i)).foldl (sumStep t) n) := by
  induction d with
  | zero =>
    intro k i n hi hd hk
    obtain ⟨k, rfl⟩ : ∃ m, k = m + 1 := ⟨k - 1, by omega⟩
    simp only [impl_sumOf.l0]
    rw [if_neg (by omega), hd]; rfl
  | succ d ih =>
    intro k i n hi hd hk
    obtain ⟨k, rfl⟩ : ∃ m, k = m + 1 := ⟨k - 1, by omega⟩
    simp only [impl_sumOf.l0]
    rw [if_pos (by omega), if_pos (by omega), if_pos (by omega), range_split i t.size (by omega)]
    have e : wrap64 ((i : Int) + 1) = ((i + 1 : Nat) : Int) := by rw [w64 (by omega) (by omega)]; rfl
    have := ih k (i + 1) (sumStep t n i) (by omega) (by omega) (by omega)
    rw [List.foldl_cons, ← this]
    simp only [sumStep, e]
theorem impl_sum_ev (t : ByteArray) (ht : t.size ≤ 1000000000000) : Ev (fun k => impl_sumOf.f k t) (sumP t) :=
  ⟨t.size + 1, fun k hk => by have := impl_sum_from t ht t.size k 0 0 (by omega) (by omega) (by omega); simpa [impl_sumOf.f, sumP, List.range_eq_range'] using this⟩
/-- A record. -/
def headP (kind : Int) (l : List Int) : ByteArray := strOfNums [kind % 256, (l.length : Int) % 256]
def sealP (kind : Int) (l : List Int) : ByteArray := headP kind l ++ strOfNums [sumP (headP kind l ++ strOfNums (packP l)) % 256, 0] ++ strOfNums (packP l)
theorem headP_size (kind : Int) (l : List Int) : (headP kind l).size = 2 := by simp [headP, strOfNums_size]
theorem sealP_size (kind : Int) (l : List Int) : (sealP kind l).size = 4 + 4 * l.length := by simp [sealP, headP_size, strOfNums_size, packP_length]
theorem spec_seal_ev (kind : Int) (l : List Int) (hl : l.length ≤ 1000000000) : Ev (fun k => spec_l02Seal.f k kind l) (sealP kind l) := by
  have hp : (strOfNums (packP l)).size = 4 * l.length := by rw [strOfNums_size, packP_length]
  have hh := headP_size kind l
  unfold spec_l02Seal.f
  refine ev_bind (spec_pack_ev l hl) ?_
  simp only [Option.bind_some]
  refine ev_pos (by rw [strOfNums_size, hp]; simp; omega) ?_
  refine ev_bind (spec_sum_ev _ (by rw [ba_size_append, strOfNums_size, hp]; simp; omega)) ?_
  refine ev_pos (by simp [strOfNums_size]) ?_
  refine ev_pos (by rw [ba_size_append, hp]; simp [strOfNums_size]; omega) ?_
  exact ev_some _
theorem impl_seal_ev (kind : Int) (l : List Int) (hl : l.length ≤ 1000000000) : Ev (fun k => impl_seal.f k kind l) (sealP kind l) := by
  have hp : (strOfNums (packP l)).size = 4 * l.length := by rw [strOfNums_size, packP_length]
  have hh := headP_size kind l
  unfold impl_seal.f
  simp only [Option.bind_some]
  refine ev_bind (impl_pack_ev l hl) ?_
  refine ev_pos (by rw [strOfNums_size, hp]; simp; omega) ?_
  refine ev_bind (impl_sum_ev _ (by rw [ba_size_append, strOfNums_size, hp]; simp; omega)) ?_
  refine ev_pos (by simp [strOfNums_size]) ?_
  refine ev_pos (by rw [ba_size_append, hp]; simp [strOfNums_size]; omega) ?_
  exact ev_some _
/-! ### Open -/
theorem bt_nn (t : ByteArray) (i : Int) : 0 ≤ bt t i := by unfold bt; split <;> omega
theorem bt_lt (t : ByteArray) (i : Int) : bt t i < 256 := by
  unfold bt; split
  · have := (t[i.toNat]).toNat_lt; omega
  · omega
theorem wraps_i64 (n : Int) (h0 : 0 ≤ n) (h1 : n < 2 ^ 63) : IntKind.i64.wrap n = n := by rw [IntKind.wrap_i64]; omega
theorem or64 (i : Nat) {x y : Int} (hx₀ : 0 ≤ x) (hx : x % 2 ^ i = 0) (hx₁ : x < 2 ^ 63) (h₀ : 0 ≤ y) (h₁ : y < 2 ^ i) (hy : y < 2 ^ 63) : Go.bits .or .i64 x y = x + y :=
  bits_join .i64 63 (by decide) wraps_i64 i x y hx₀ hx hx₁ h₀ h₁ hy
theorem or64' (i : Nat) {x y : Int} (hx₀ : 0 ≤ x) (hx : x % 2 ^ i = 0) (hx₁ : x < 2 ^ 63) (h₀ : 0 ≤ y) (h₁ : y < 2 ^ i) (hy : y < 2 ^ 63) : Go.bits .or .i64 y x = y + x := by
  obtain ⟨a, rfl⟩ := Int.eq_ofNat_of_zero_le hx₀
  obtain ⟨b, rfl⟩ := Int.eq_ofNat_of_zero_le h₀
  have ha : a < 2 ^ 63 := by exact_mod_cast hx₁
  have hb : b < 2 ^ 63 := by exact_mod_cast hy
  have h := or64 i (x := (a : Int)) (y := (b : Int)) hx₀ hx hx₁ h₀ h₁ hy
  rw [(bits_nat .i64 63 (by decide) wraps_i64 a b ha hb).2] at h
  rw [(bits_nat .i64 63 (by decide) wraps_i64 b a hb ha).2, Nat.or_comm, h]; omega
def numAt (t : ByteArray) (i : Nat) : Int := bt t (i : Int) + 256 * bt t ((i + 1 : Nat) : Int) + 65536 * bt t ((i + 2 : Nat) : Int) + 16777216 * bt t ((i + 3 : Nat) : Int)
def numsP (t : ByteArray) : List Int := (List.range (t.size / 4)).map (fun j => numAt t (4 * j))
theorem numsP_length (t : ByteArray) : (numsP t).length = t.size / 4 := by simp [numsP]
theorem numsP_take (t : ByteArray) (j : Nat) (h : j < t.size / 4) : (numsP t).take (j + 1) = (numsP t).take j ++ [numAt t (4 * j)] := by
  rw [take_next _ j (by rw [numsP_length]; exact h)]; simp [numsP]
def intsOK (l : List Int) : Bool := l.all (fun n => inB n 0 2147483647) && decide ((l.length : Int) ≤ 16)
theorem mul_wrap {a b c : Int} (h0 : 0 ≤ a) (h1 : a < c) (hb : 0 < b) (h : c * b ≤ 9223372036854775807) : wrap64 (a * b) = a * b := by
  have h2 : a * b ≤ c * b := Int.mul_le_mul_of_nonneg_right (by omega) (by omega)
  have h3 : 0 ≤ a * b := Int.mul_nonneg h0 (by omega)
  exact w64 (by omega) (by omega)
theorem four_up {a b c d : Int} (a0 : 0 ≤ a) (a1 : a < 256) (b0 : 0 ≤ b) (b1 : b < 256) (c0 : 0 ≤ c) (c1 : c < 256) (d0 : 0 ≤ d) (d1 : d < 256) :
    Go.bits .or .i64 (wrap64 (Go.bits .or .i64 (wrap64 (Go.bits .or .i64 (wrap64 (Go.bits .or .i64 (wrap64 (0 * 256)) (wrap64 d) * 256)) (wrap64 c) * 256)) (wrap64 b) * 256)) (wrap64 a) = a + 256 * b + 65536 * c + 16777216 * d := by
  rw [w64 (n := a) (by omega) (by omega), w64 (n := b) (by omega) (by omega), w64 (n := c) (by omega) (by omega), w64 (n := d) (by omega) (by omega)]
  rw [w64 (n := 0 * 256) (by omega) (by omega), or64 8 (x := 0 * 256) (by omega) (by omega) (by omega) d0 (by omega) (by omega)]
  obtain ⟨u, hu⟩ : ∃ u, u = 0 * 256 + d := ⟨_, rfl⟩
  rw [← hu, w64 (n := u * 256) (by omega) (by omega), or64 8 (x := u * 256) (by omega) (by omega) (by omega) c0 (by omega) (by omega)]
  obtain ⟨v, hv⟩ : ∃ v, v = u * 256 + c := ⟨_, rfl⟩
  rw [← hv, w64 (n := v * 256) (by omega) (by omega), or64 8 (x := v * 256) (by omega) (by omega) (by omega) b0 (by omega) (by omega)]
  obtain ⟨x, hx⟩ : ∃ x, x = v * 256 + b := ⟨_, rfl⟩
  rw [← hx, w64 (n := x * 256) (by omega) (by omega), or64 8 (x := x * 256) (by omega) (by omega) (by omega) a0 (by omega) (by omega)]
  omega
theorem four_down {a b c d : Int} (a0 : 0 ≤ a) (a1 : a < 256) (b0 : 0 ≤ b) (b1 : b < 256) (c0 : 0 ≤ c) (c1 : c < 256) (d0 : 0 ≤ d) (d1 : d < 256) :
    Go.bits .or .i64 (Go.bits .or .i64 (Go.bits .or .i64 (wrap64 a) (wrap64 (wrap64 b * 256))) (wrap64 (wrap64 c * 65536))) (wrap64 (wrap64 d * 16777216)) = a + 256 * b + 65536 * c + 16777216 * d := by
  rw [w64 (n := a) (by omega) (by omega), w64 (n := b) (by omega) (by omega), w64 (n := c) (by omega) (by omega), w64 (n := d) (by omega) (by omega)]
  rw [w64 (n := b * 256) (by omega) (by omega), w64 (n := c * 65536) (by omega) (by omega), w64 (n := d * 16777216) (by omega) (by omega)]
  rw [or64' 8 (x := b * 256) (by omega) (by omega) (by omega) a0 (by omega) (by omega)]
  obtain ⟨u, hu⟩ : ∃ u, u = a + b * 256 := ⟨_, rfl⟩
  rw [← hu, or64' 16 (x := c * 65536) (by omega) (by omega) (by omega) (y := u) (by omega) (by omega) (by omega)]
  obtain ⟨v, hv⟩ : ∃ v, v = u + c * 65536 := ⟨_, rfl⟩
  rw [← hv, or64' 24 (x := d * 16777216) (by omega) (by omega) (by omega) (y := v) (by omega) (by omega) (by omega)]
  omega
theorem up_to (i : Nat) (h : i < 1000000000000) (c : Nat) (hc : c ≤ 10) : wrap64 ((i : Int) + (c : Int)) = ((i + c : Nat) : Int) := by rw [w64 (by omega) (by omega)]; omega
def recNums (t : ByteArray) : List Int := numsP (t.extract 4 t.size)
def bodyOK (t : ByteArray) (kind : Int) : Bool := decide ((t.extract 4 t.size).size % 4 = 0 ∧ intsOK (recNums t) = true ∧ sealP kind (recNums t) = t)
theorem bodyOK_iff {t : ByteArray} {kind : Int} : bodyOK t kind = true ↔ (t.extract 4 t.size).size % 4 = 0 ∧ intsOK (recNums t) = true ∧ sealP kind (recNums t) = t := by simp only [bodyOK, decide_eq_true_eq]
def recOK (t : ByteArray) (kind : Int) : Bool := decide (4 ≤ t.size) && (bt t 0 == kind && (inB kind 1 9 && bodyOK t kind))
theorem recOK_iff {t : ByteArray} {kind : Int} : recOK t kind = true ↔ 4 ≤ t.size ∧ bt t 0 = kind ∧ inB kind 1 9 = true ∧ (t.extract 4 t.size).size % 4 = 0 ∧ intsOK (recNums t) = true ∧ sealP kind (recNums t) = t := by
  simp only [recOK, Bool.and_eq_true, decide_eq_true_eq, beq_iff_eq, bodyOK_iff]
theorem recOK_no {t : ByteArray} {kind : Int} (h : ¬ (4 ≤ t.size ∧ bt t 0 = kind ∧ inB kind 1 9 = true ∧ (t.extract 4 t.size).size % 4 = 0 ∧ intsOK (recNums t) = true ∧ sealP kind (recNums t) = t)) : recOK t kind = false := by
  cases hr : recOK t kind with
  | false => rfl
  | true => exact absurd (recOK_iff.1 hr) h
theorem ext_size (t : ByteArray) : (t.extract 4 t.size).size = t.size - 4 := by simp
theorem bt0 (t : ByteArray) : wrap64 (bt t 0) = bt t 0 := by have := bt_nn t 0; have := bt_lt t 0; exact w64 (by omega) (by omega)
/-! ### OpenI -/
theorem isNumber_eq (n : Int) : impl_isNumber.f n = some (inB n 0 2147483647) := by simp only [impl_isNumber.f, within_eq, Option.bind_some]
theorem all_number (l : List Int) : all107_impl_isNumber.f l () = some (l.all (fun n => inB n 0 2147483647)) := by
  unfold all107_impl_isNumber.f; exact allO_some _ _ (fun x _ => isNumber_eq x)
theorem impl_areInts_eq (l : List Int) : impl_areInts.f l = some (intsOK l) := by
  unfold impl_areInts.f intsOK
  by_cases h : (l.length : Int) ≤ 16
  · rw [if_pos h, all_number]; simp [h]
  · rw [if_neg h]; simp [h]
theorem intsOK_take (l : List Int) : intsOK (l.take 17) = intsOK l := by
  by_cases h : l.length ≤ 16
  · rw [List.take_of_length_le (by omega)]
  · have h1 : intsOK l = false := by simp [intsOK]; intro _; omega
    have h2 : intsOK (l.take 17) = false := by simp [intsOK]; intro _; omega
    rw [h1, h2]
theorem impl_unpack_end (t : ByteArray) (l : List Int) : (if ((t.size : Int) % 4) = 0 then ((impl_areInts.f l).bind fun t529 => (some (l, t529))) else (some (l, false))) = some (l, decide (t.size % 4 = 0) && intsOK l) := by
  by_cases h : t.size % 4 = 0
  · rw [if_pos (by omega), impl_areInts_eq]; simp [h]
  · rw [if_neg (by omega)]; simp [h]
theorem impl_unpack_from (t : ByteArray) (ht : t.size ≤ 1000000000) (d : Nat) : ∀ (k j : Nat), j ≤ 17 → j ≤ t.size / 4 → 17 - j = d → d < k →
    impl_unpack.l0 k t ((numsP t).take j) ((4 * j : Nat) : Int) = some ((numsP t).take 17, decide (t.size % 4 = 0) && intsOK ((numsP t).take 17)) := by
  induction d with
  | zero =>
    intro k j hj hj2 hd hk
    obtain ⟨k, rfl⟩ : ∃ m, k = m + 1 := ⟨k - 1, by omega⟩
    obtain rfl : j = 17 := by omega
    simp only [impl_unpack.l0]
    by_cases h : wrap64 (((4 * 17 : Nat) : Int) + 4) ≤ (t.size : Int)
    · rw [if_pos h, if_neg (by omega)]; exact impl_unpack_end t _
    · rw [if_neg h]; exact impl_unpack_end t _
  | succ d ih =>
    intro k j hj hj2 hd hk
    obtain ⟨k, rfl⟩ : ∃ m, k = m + 1 := ⟨k - 1, by omega⟩
    have hi : 4 * j < 1000000000000 := by omega
    have hlen : ((numsP t).take j).length ≤ t.size / 4 := by rw [List.length_take, numsP_length]; omega
    have e4 : wrap64 (((4 * j : Nat) : Int) + 4) = ((4 * j + 4 : Nat) : Int) := up_to _ hi 4 (by omega)
    have e3 : wrap64 (((4 * j : Nat) : Int) + 3) = ((4 * j + 3 : Nat) : Int) := up_to _ hi 3 (by omega)
    have e2 : wrap64 (((4 * j : Nat) : Int) + 2) = ((4 * j + 2 : Nat) : Int) := up_to _ hi 2 (by omega)
    have e1 : wrap64 (((4 * j : Nat) : Int) + 1) = ((4 * j + 1 : Nat) : Int) := up_to _ hi 1 (by omega)
    simp only [impl_unpack.l0]
    rw [e4, e3, e2, e1]
    by_cases h : 4 * j + 4 ≤ t.size
    · rw [if_pos (by omega), if_pos (by omega), if_pos (by omega), if_pos (by omega), if_pos (by omega), if_pos (by omega), if_pos (by omega), if_pos (by omega), if_pos (by omega), if_pos (by omega), if_pos (by omega)]
      rw [four_down (bt_nn _ _) (bt_lt _ _) (bt_nn _ _) (bt_lt _ _) (bt_nn _ _) (bt_lt _ _) (bt_nn _ _) (bt_lt _ _)]
      have := ih k (j + 1) (by omega) (by omega) (by omega) (by omega)
      rw [numsP_take t j (by omega)] at this
      exact this
    · rw [if_neg (by omega)]
      have e : (numsP t).take j = (numsP t).take 17 := by
        rw [List.take_of_length_le (by rw [numsP_length]; omega), List.take_of_length_le (by rw [numsP_length]; omega)]
      rw [e]; exact impl_unpack_end t _
theorem impl_unpack_ev (t : ByteArray) (ht : t.size ≤ 1000000000) : Ev (fun k => impl_unpack.f k t) ((numsP t).take 17, decide (t.size % 4 = 0) && intsOK (numsP t)) :=
  ⟨18, fun k hk => by have := impl_unpack_from t ht 17 k 0 (by omega) (by omega) (by omega) (by omega); rw [intsOK_take] at this; simpa [impl_unpack.f] using this⟩
def openL (t : ByteArray) : List Int := if t.size < 4 ∨ t.size > 80 ∨ inB (bt t 0) 1 9 = false then [] else (recNums t).take 17
theorem recOK_openL {t : ByteArray} {kind : Int} (h : recOK t kind = true) : openL t = recNums t := by
  obtain ⟨h1, h2, h3, h4, h5, h6⟩ := recOK_iff.1 h
  have hl : (recNums t).length ≤ 16 := by
    simp only [intsOK, Bool.and_eq_true, decide_eq_true_eq] at h5
    omega
  have hs : t.size ≤ 80 := by
    unfold recNums at hl; rw [numsP_length] at hl; rw [ext_size] at hl h4; omega
  unfold openL
  rw [if_neg (by rw [h2]; simp [h3]; omega), List.take_of_length_le (by omega)]
theorem recOK_long {t : ByteArray} {kind : Int} (h : t.size > 80) : recOK t kind = false := by
  refine recOK_no (fun hr => ?_)
  obtain ⟨h1, h2, h3, h4, h5, h6⟩ := hr
  simp only [intsOK, Bool.and_eq_true, decide_eq_true_eq] at h5
  have := h5.2
  unfold recNums at this
  rw [numsP_length] at this; rw [ext_size] at this h4; omega
theorem impl_open_ev (t : ByteArray) (kind : Int) (ht : t.size ≤ 1000000000) : Ev (fun k => impl_open.f k t kind) (openL t, recOK t kind) := by
  unfold impl_open.f impl_opened.f
  have hbad : ∀ (g : Nat → Option (Int × List Int × Bool)), openL t = [] → recOK t kind = false → Ev g (0, [], false) → Ev (fun k => (g k).bind fun bt537 => (if bt537.2.2 = true then (some (bt537.2.1, (bt537.1 == kind))) else (some (bt537.2.1, false)))) (openL t, recOK t kind) := by
    intro g h1 h2 hg
    rw [h1, h2]
    exact ev_bind hg (ev_neg (by simp) (ev_some _))
  by_cases h1 : t.size < 4
  · refine hbad _ (by simp [openL, h1]) (recOK_no (by omega)) (ev_pos (by omega) (Ev.step (f := fun _ => some (0, [], false)) (fun k => by simp [impl_opened.j0]) (ev_some _)))
  · by_cases h2 : t.size > 80
    · refine hbad _ (by simp [openL, h2]) (recOK_long h2) (ev_neg (by omega) (ev_pos (by omega) (Ev.step (f := fun _ => some (0, [], false)) (fun k => by simp [impl_opened.j0]) (ev_some _))))
    · by_cases h3 : inB (bt t 0) 1 9 = true
      · have hL : openL t = (recNums t).take 17 := by unfold openL; rw [if_neg (by simp [h3]; omega)]
        have hO : Ev (fun k => if (t.size : Int) < 4 then impl_opened.j0 k t true else (if (t.size : Int) > 80 then impl_opened.j0 k t true else (if 0 < (t.size : Int) then ((impl_isKind.f (wrap64 (bt t 0))).bind fun t531 => (impl_opened.j0 k t (!t531))) else none))) (bt t 0, openL t, bodyOK t (bt t 0)) := by
          refine ev_neg (by omega) (ev_neg (by omega) (ev_pos (by omega) ?_))
          rw [bt0]
          simp only [impl_isKind.f, within_eq, Option.bind_some, h3, Bool.not_true]
          refine Ev.step (f := fun k => (impl_unpack.f k (t.extract 4 t.size)).bind fun bt532 => (if bt532.2 = true then ((impl_seal.f k (bt t 0) bt532.1).bind fun t536 => (some (bt t 0, bt532.1, (t536.toList == t.toList)))) else (some (bt t 0, bt532.1, false)))) (fun k => ?_) ?_
          · simp only [impl_opened.j0, Bool.false_eq_true, if_false, bt0]; rw [if_pos (by omega)]
            congr 1; funext b; rw [if_pos (by omega)]
          · refine ev_bind (impl_unpack_ev _ (by rw [ext_size]; omega)) ?_
            show Ev (fun n => if (decide ((t.extract 4 t.size).size % 4 = 0) && intsOK (recNums t)) = true then ((impl_seal.f n (bt t 0) ((recNums t).take 17)).bind fun t536 => (some (bt t 0, (recNums t).take 17, (t536.toList == t.toList)))) else some (bt t 0, (recNums t).take 17, false)) _
            rw [hL]
            by_cases h4 : (t.extract 4 t.size).size % 4 = 0 ∧ intsOK (recNums t) = true
            · have hl : (recNums t).length ≤ 16 := by
                have := h4.2
                simp only [intsOK, Bool.and_eq_true, decide_eq_true_eq] at this
                omega
              have ht17 : (recNums t).take 17 = recNums t := List.take_of_length_le (by omega)
              refine ev_pos (by simp only [h4.1, h4.2, decide_true, Bool.and_self]) ?_
              rw [ht17]
              refine ev_bind (impl_seal_ev (bt t 0) _ (by omega)) ?_
              have e : (((sealP (bt t 0) (recNums t)).toList == t.toList) : Bool) = bodyOK t (bt t 0) := by
                rw [Bool.eq_iff_iff, bodyOK_iff]; simp only [beq_iff_eq, toList_inj]
                exact ⟨fun h => ⟨h4.1, h4.2, h⟩, fun h => h.2.2⟩
              rw [e]
              exact ev_some _
            · refine ev_neg (by simp only [Bool.and_eq_true, decide_eq_true_eq]; exact h4) ?_
              have : bodyOK t (bt t 0) = false := by
                cases hb : bodyOK t (bt t 0) with
                | false => rfl
                | true => have := bodyOK_iff.1 hb; exact absurd ⟨this.1, this.2.1⟩ h4
              rw [this]
              exact ev_some _
        refine ev_bind hO ?_
        show Ev (fun n => if bodyOK t (bt t 0) = true then some (openL t, bt t 0 == kind) else some (openL t, false)) _
        by_cases h5 : bodyOK t (bt t 0) = true
        · refine ev_pos h5 ?_
          by_cases h6 : bt t 0 = kind
          · have hr : recOK t kind = true := recOK_iff.2 ⟨by omega, h6, by rw [← h6]; exact h3, by rw [← h6]; exact bodyOK_iff.1 h5⟩
            rw [hr]
            simp only [h6, beq_self_eq_true]
            exact ev_some _
          · rw [recOK_no (fun h => h6 h.2.1)]
            have : (bt t 0 == kind) = false := by simp [h6]
            rw [this]
            exact ev_some _
        · refine ev_neg h5 ?_
          rw [recOK_no (fun h => h5 (bodyOK_iff.2 (by have := h.2.2.2; rw [← h.2.1] at this; exact this)))]
          exact ev_some _
      · have h3' : inB (bt t 0) 1 9 = false := by simpa using h3
        refine hbad _ (by simp [openL, h3']) (recOK_no (fun h => h3 (by have := h.2.2.1; rw [← h.2.1] at this; exact this))) (ev_neg (by omega) (ev_neg (by omega) (ev_pos (by omega) ?_)))
        rw [bt0]
        simp only [impl_isKind.f, within_eq, Option.bind_some, h3', Bool.not_false]
        exact Ev.step (f := fun _ => some (0, [], false)) (fun k => by simp [impl_opened.j0]) (ev_some _)
/-! ### First -/
theorem first1 (b : Bool) (c : Int) : impl_first.f [Any.b b, Any.n c] = some (if b = true then c else 0) := by
  unfold impl_first.f; cases b <;> simp [firstO]
theorem first2 (b b' : Bool) (c c' : Int) : impl_first.f [Any.b b, Any.n c, Any.b b', Any.n c'] = some (if b = true then c else if b' = true then c' else 0) := by
  unfold impl_first.f; cases b <;> cases b' <;> simp [firstO]
theorem first3 (b b' b'' : Bool) (c c' c'' : Int) : impl_first.f [Any.b b, Any.n c, Any.b b', Any.n c', Any.b b'', Any.n c''] = some (if b = true then c else if b' = true then c' else if b'' = true then c'' else 0) := by
  unfold impl_first.f; cases b <;> cases b' <;> cases b'' <;> simp [firstO]
theorem first4 (b b' b'' b3 : Bool) (c c' c'' c3 : Int) : impl_first.f [Any.b b, Any.n c, Any.b b', Any.n c', Any.b b'', Any.n c'', Any.b b3, Any.n c3] = some (if b = true then c else if b' = true then c' else if b'' = true then c'' else if b3 = true then c3 else 0) := by
  unfold impl_first.f; cases b <;> cases b' <;> cases b'' <;> cases b3 <;> simp [firstO]
theorem isLongText_eq (t : ByteArray) : impl_isLongText.f t = some (decide ((t.size : Int) > 65536)) := by unfold impl_isLongText.f; rfl
/-! ### Table -/
theorem rec_len {t : ByteArray} (ht : t.size ≤ 1000000000) : (recNums t).length ≤ 1000000000 := by unfold recNums; rw [numsP_length, ext_size]; omega
def isTable (t : ByteArray) : Bool := recOK t 3 && tableOK (recNums t)
theorem impl_tableOf_ev (t : ByteArray) (ht : t.size ≤ 1000000000) : Ev (fun k => impl_tableOf.f k t) (openL t, isTable t) := by
  unfold impl_tableOf.f isTable
  refine ev_bind (impl_open_ev t 3 ht) ?_
  cases h : recOK t 3
  · exact ev_some _
  · simp only [if_true, Bool.true_and, recOK_openL h, impl_TableOK_eq, Option.bind_some]
    exact ev_some _
theorem isTable_openL {t : ByteArray} (h : isTable t = true) : openL t = recNums t := by
  unfold isTable at h; rw [Bool.and_eq_true] at h; exact recOK_openL h.1
/-! ### Trip -/
theorem packP_get? (l : List Int) : ∀ j c, c < 4 → (packP l)[4 * j + c]? = (l[j]?).bind (fun x => (quad x)[c]?) := by
  induction l with
  | nil => intro j c _; simp [packP]
  | cons x xs ih =>
    intro j c hc
    have e : packP (x :: xs) = quad x ++ packP xs := rfl
    have hq : (quad x).length = 4 := rfl
    rw [e]
    cases j with
    | zero => rw [List.getElem?_append_left (by rw [hq]; omega)]; simp
    | succ j =>
      rw [List.getElem?_append_right (by rw [hq]; omega), hq, show 4 * (j + 1) + c - 4 = 4 * j + c by omega, ih j c hc]
      simp
theorem quad_range (n : Int) : ∀ y ∈ quad n, 0 ≤ y ∧ y < 256 := by
  intro y hy
  simp only [quad, List.mem_cons, List.not_mem_nil, or_false] at hy
  rcases hy with rfl | rfl | rfl | rfl <;> omega
theorem packP_range (l : List Int) : ∀ y ∈ packP l, 0 ≤ y ∧ y < 256 := by
  intro y hy
  simp only [packP, List.mem_flatMap] at hy
  obtain ⟨x, _, hx⟩ := hy
  exact quad_range x y hx
theorem bt_str (l : List Int) (i : Nat) (y : Int) (h : l[i]? = some y) (h0 : 0 ≤ y) (h1 : y < 256) : bt (strOfNums l) (i : Int) = y := by
  obtain ⟨hi, rfl⟩ := List.getElem?_eq_some_iff.1 h
  have hs : ((i : Int)).toNat < (strOfNums l).size := by rw [strOfNums_size]; simpa using hi
  unfold bt
  rw [dif_pos hs]
  have : ((strOfNums l)[((i : Int)).toNat]'hs) = UInt8.ofNat (l[i]).toNat := by
    show (List.map _ l).toArray[((i : Int)).toNat] = _
    simp
  rw [this]
  simp only [UInt8.toNat_ofNat']
  omega
theorem numAt_pack (l : List Int) (j : Nat) (hj : j < l.length) (h0 : 0 ≤ l[j]) (h1 : l[j] < 4294967296) : numAt (strOfNums (packP l)) (4 * j) = l[j] := by
  have g : ∀ c, c < 4 → (packP l)[4 * j + c]? = (quad l[j])[c]? := by
    intro c hc; rw [packP_get? l j c hc, List.getElem?_eq_getElem hj]; rfl
  have b : ∀ c y, c < 4 → (quad l[j])[c]? = some y → bt (strOfNums (packP l)) ((4 * j + c : Nat) : Int) = y := by
    intro c y hc hy
    have hr := quad_range l[j] y (List.mem_of_getElem? hy)
    exact bt_str _ _ _ ((g c hc).trans hy) hr.1 hr.2
  unfold numAt
  have b0 := b 0 _ (by omega) (show (quad l[j])[0]? = some (l[j] % 256) from rfl)
  have b1 := b 1 _ (by omega) (show (quad l[j])[1]? = some (l[j] / 256 % 256) from rfl)
  have b2 := b 2 _ (by omega) (show (quad l[j])[2]? = some (l[j] / 65536 % 256) from rfl)
  have b3 := b 3 _ (by omega) (show (quad l[j])[3]? = some (l[j] / 16777216 % 256) from rfl)
  rw [Nat.add_zero] at b0
  rw [b0, b1, b2, b3]
  omega
theorem numsP_pack (l : List Int) (h : ∀ x ∈ l, 0 ≤ x ∧ x < 4294967296) : numsP (strOfNums (packP l)) = l := by
  have hs : (strOfNums (packP l)).size / 4 = l.length := by rw [strOfNums_size, packP_length]; omega
  refine List.ext_getElem (by rw [numsP_length, hs]) (fun i h1 h2 => ?_)
  simp only [numsP, List.getElem_map, List.getElem_range]
  exact numAt_pack l i h2 (h _ (List.getElem_mem h2)).1 (h _ (List.getElem_mem h2)).2
theorem recNums_seal (kind : Int) (l : List Int) (h : ∀ x ∈ l, 0 ≤ x ∧ x < 4294967296) : recNums (sealP kind l) = l := by
  have e : (sealP kind l).extract 4 (sealP kind l).size = strOfNums (packP l) := by
    unfold sealP
    rw [ByteArray.extract_append_eq_right]
    · simp [headP_size, strOfNums_size]
    · simp
  unfold recNums; rw [e]; exact numsP_pack l h
theorem bt_app (a b : ByteArray) (i : Nat) (h : i < a.size) : bt (a ++ b) (i : Int) = bt a (i : Int) := by
  have h1 : ((i : Int)).toNat < (a ++ b).size := by rw [ba_size_append]; omega
  have h2 : ((i : Int)).toNat < a.size := by omega
  unfold bt
  rw [dif_pos h1, dif_pos h2, ByteArray.getElem_append_left h2]
theorem bt_take (t : ByteArray) (n i : Nat) (h : i < n) (hn : n ≤ t.size) : bt (t.extract 0 n) (i : Int) = bt t (i : Int) := by
  have h1 : ((i : Int)).toNat < (t.extract 0 n).size := by rw [ByteArray.size_extract]; omega
  have h2 : ((i : Int)).toNat < t.size := by omega
  unfold bt
  rw [dif_pos h1, dif_pos h2, ByteArray.getElem_extract]
  simp only [Nat.zero_add]
theorem bt_head0 (kind : Int) (l : List Int) (h0 : 0 ≤ kind) (h1 : kind < 256) : bt (sealP kind l) 0 = kind := by
  have : bt (sealP kind l) ((0 : Nat) : Int) = bt (headP kind l) ((0 : Nat) : Int) := by
    unfold sealP; rw [bt_app _ _ 0 (by simp [headP_size, strOfNums_size]), bt_app _ _ 0 (by simp [headP_size])]
  rw [show (0 : Int) = ((0 : Nat) : Int) from rfl, this]
  unfold headP
  rw [bt_str _ 0 (kind % 256) rfl (by omega) (by omega)]; omega
theorem bt_head1 (kind : Int) (l : List Int) : bt (sealP kind l) 1 = (l.length : Int) % 256 := by
  have : bt (sealP kind l) ((1 : Nat) : Int) = bt (headP kind l) ((1 : Nat) : Int) := by
    unfold sealP; rw [bt_app _ _ 1 (by simp [headP_size, strOfNums_size]), bt_app _ _ 1 (by simp [headP_size])]
  rw [show (1 : Int) = ((1 : Nat) : Int) from rfl, this]
  unfold headP
  exact bt_str _ 1 _ rfl (by omega) (by omega)
theorem intsOK_of (l : List Int) (hl : l.length ≤ 16) (h : ∀ x ∈ l, 0 ≤ x ∧ x ≤ 2147483647) : intsOK l = true := by
  unfold intsOK
  rw [Bool.and_eq_true, List.all_eq_true]
  exact ⟨fun x hx => inB_iff.2 (h x hx), decide_eq_true (by omega)⟩
theorem recOK_seal (kind : Int) (l : List Int) (hk : inB kind 1 9 = true) (hl : l.length ≤ 16) (h : ∀ x ∈ l, 0 ≤ x ∧ x ≤ 2147483647) : recOK (sealP kind l) kind = true := by
  have hr := recNums_seal kind l (fun x hx => ⟨(h x hx).1, by have := (h x hx).2; omega⟩)
  have hk' := inB_iff.1 hk
  refine recOK_iff.2 ⟨by rw [sealP_size]; omega, bt_head0 kind l (by omega) (by omega), hk, ?_, by rw [hr]; exact intsOK_of l hl h, by rw [hr]⟩
  rw [ext_size, sealP_size]; omega
theorem recOK_cut (kind : Int) (l : List Int) (n : Nat) (hl : l.length ≤ 16) (hn : n < (sealP kind l).size) (kind' : Int) : recOK ((sealP kind l).extract 0 n) kind' = false := by
  refine recOK_no (fun hc => ?_)
  obtain ⟨h4, _, _, _, _, hs⟩ := hc
  have hz : ((sealP kind l).extract 0 n).size = n := by rw [ByteArray.size_extract]; omega
  rw [hz] at h4
  have h1 := bt_take (sealP kind l) n 1 (by omega) (by omega)
  have e1 : bt (sealP kind l) ((1 : Nat) : Int) = (l.length : Int) % 256 := bt_head1 kind l
  rw [e1] at h1
  have e2 := congrArg ByteArray.size hs
  rw [hz, sealP_size] at e2
  rw [sealP_size] at hn
  have e3 : bt (sealP kind' (recNums ((sealP kind l).extract 0 n))) ((1 : Nat) : Int) = _ := bt_head1 _ _
  rw [hs, h1] at e3
  omega
/-! ### At -/
theorem at_ok (l : List Int) (h : ∀ x ∈ l, 0 ≤ x ∧ x ≤ 255) (i : Int) (hi0 : 0 ≤ i) (hi : i ≤ 1000000) (n : Int) : ∃ r, laws_at.f l i n = some r ∧ 0 ≤ r ∧ (n ≤ 1 → r = 0) ∧ (1 ≤ n → r < n) := by
  unfold laws_at.f
  by_cases c1 : n ≤ 1
  · rw [if_pos c1]; exact ⟨0, rfl, by omega, fun _ => rfl, fun _ => by omega⟩
  · rw [if_neg c1]
    by_cases c2 : (l.length : Int) = 0
    · rw [if_pos c2, if_neg (by omega)]
      have x1 : wrap64 (i * 7) = i * 7 := w64 (by omega) (by omega)
      rw [x1]
      have := tmod_range (show 0 ≤ i * 7 by omega) (show 0 < n by omega)
      exact ⟨_, rfl, this.1, fun h => absurd h c1, fun _ => this.2⟩
    · rw [if_neg c2]
      have x1 : wrap64 (i + 1) = i + 1 := w64 (by omega) (by omega)
      rw [x1]
      have m1 := tmod_range hi0 (show 0 < (l.length : Int) by omega)
      have m2 := tmod_range (show 0 ≤ i + 1 by omega) (show 0 < (l.length : Int) by omega)
      rw [if_pos m1.1, if_pos m1.2, if_pos m2.1, if_pos m2.2, if_neg (by omega)]
      have b1 := rd_byte l h (Int.tmod i (l.length : Int))
      have b2 := rd_byte l h (Int.tmod (i + 1) (l.length : Int))
      generalize rd l (Int.tmod i (l.length : Int)) = u at b1 ⊢
      generalize rd l (Int.tmod (i + 1) (l.length : Int)) = v at b2 ⊢
      have d0 : 0 ≤ Int.tdiv i (l.length : Int) := by rw [Int.tdiv_eq_ediv_of_nonneg hi0]; exact Int.ediv_nonneg hi0 (by omega)
      have d1 : Int.tdiv i (l.length : Int) ≤ i := by rw [Int.tdiv_eq_ediv_of_nonneg hi0]; exact Int.ediv_le_self _ hi0
      generalize Int.tdiv i (l.length : Int) = q at d0 d1 ⊢
      have y1 : wrap64 u = u := w64 (by omega) (by omega)
      have y2 : wrap64 v = v := w64 (by omega) (by omega)
      have y3 : wrap64 q = q := w64 (by omega) (by omega)
      have y4 : wrap64 (u * 31) = u * 31 := w64 (by omega) (by omega)
      rw [y1, y2, y3, y4]
      have y5 : wrap64 (u * 31 + v) = u * 31 + v := w64 (by omega) (by omega)
      rw [y5]
      have y6 : wrap64 (u * 31 + v + q) = u * 31 + v + q := w64 (by omega) (by omega)
      rw [y6]
      have := tmod_range (show 0 ≤ u * 31 + v + q by omega) (show 0 < n by omega)
      exact ⟨_, rfl, this.1, fun h => absurd h c1, fun _ => this.2⟩
/-! ### MarkT -/
theorem ev_down {α : Type} {g : Nat → Nat → Option α} {r : α} (n : Nat) (hend : Ev (fun k => g k n) r) (hstep : ∀ i, i < n → Ev (fun k => g k (i + 1)) r → Ev (fun k => g k i) r) : Ev (fun k => g k 0) r := by
  have : ∀ d i, i ≤ n → n - i = d → Ev (fun k => g k i) r := by
    intro d
    induction d with
    | zero => intro i hi hd; have e : i = n := by omega
              rw [e]; exact hend
    | succ d ih => intro i hi hd; exact hstep i (by omega) (ih (i + 1) (by omega) (by omega))
  exact this n 0 (by omega) (by omega)
/-! ### CluL -/
def clu (l : List Int) : List Int := (l.filter (fun n => decide (n ≥ 2))).map (fun n => wrap64 (n - 2))
theorem clu_take (l : List Int) (i : Nat) (h : i < l.length) : clu (l.take (i + 1)) = if l[i] ≥ 2 then clu (l.take i) ++ [wrap64 (l[i] - 2)] else clu (l.take i) := by
  unfold clu
  rw [List.take_succ_eq_append_getElem h, List.filter_append, List.map_append]
  by_cases c : l[i] ≥ 2
  · rw [if_pos c]; simp [c]
  · rw [if_neg c]; simp [c]
theorem clu_length (l : List Int) : (clu l).length ≤ l.length := by unfold clu; rw [List.length_map]; exact List.length_filter_le _ _
theorem clu_take_length (l : List Int) (i : Nat) : (clu (l.take i)).length ≤ l.length := Nat.le_trans (clu_length _) (by simp; omega)
theorem spec_clu_ev (l : List Int) (hl : l.length ≤ 1000000000) : Ev (fun k => spec_l09Clusters.f k l) (clu l) := by
  unfold spec_l09Clusters.f
  have h := ev_loop (g := fun k i => spec_l09Clusters.l0 k l (clu (l.take i)) (i : Int)) (r := clu l) l.length ?_ ?_ l.length 0 (by omega) (by omega)
  · simpa [clu] using h
  · refine Ev.step (f := fun _ => some (clu l)) (fun k => ?_) (ev_some _)
    simp only [spec_l09Clusters.l0]; rw [if_neg (by omega), List.take_of_length_le (by omega)]
  · intro i hi
    have hb := clu_take_length l i
    refine ⟨1, fun k => ⟨?_, by omega⟩⟩
    simp only [spec_l09Clusters.l0]
    rw [if_pos (by omega), if_pos (by omega), rdn l i hi, wnext i (by omega), clu_take l i hi]
    by_cases c : l[i] ≥ 2
    · rw [if_pos c, if_pos c, if_pos (by omega)]
    · rw [if_neg c, if_neg c]
theorem impl_clu_ev (l : List Int) (hl : l.length ≤ 1000000000) : Ev (fun k => impl_clusters.f k l) (clu l) := by
  unfold impl_clusters.f
  have h := ev_loop (g := fun k i => impl_clusters.l0 k (clu (l.take i)) l (l.length : Int) (i : Int)) (r := clu l) l.length ?_ ?_ l.length 0 (by omega) (by omega)
  · simpa [clu] using h
  · refine Ev.step (f := fun _ => some (clu l)) (fun k => ?_) (ev_some _)
    simp only [impl_clusters.l0]; rw [if_neg (by omega), List.take_of_length_le (by omega)]
  · intro i hi
    have hb := clu_take_length l i
    refine ⟨1, fun k => ⟨?_, by omega⟩⟩
    simp only [impl_clusters.l0]
    rw [if_pos (by omega), if_pos (by omega), if_pos (by omega), rdn l i hi, wnext i (by omega), clu_take l i hi]
    by_cases c : l[i] ≥ 2
    · rw [if_pos c, if_pos c, if_pos (by omega)]
    · rw [if_neg c, if_neg c]
end Go.Proofs.Ytajflpcihblkfaa.Q
