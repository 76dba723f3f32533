/- What laws.FnReqText reaches, part 7: the functions as Lean functions, the proofs that the program's functions answer so, and plain laws about them. -/
import Derived.Test.YtniceoohmhjjlaaDoorKFnReqText1
import Derived.Test.YtniceoohmhjjlaaDoorKFnReqText2
import Derived.Test.YtniceoohmhjjlaaDoorKFnReqText4
import Derived.Test.YtniceoohmhjjlaaDoorKFnReqText6
namespace Go.Proofs.YtniceoohmhjjlaaDoor.Q
open Go.RowKit Go.Proofs.YtniceoohmhjjlaaDoor.Ext Go.Proofs.YtniceoohmhjjlaaDoorW.PrintWords Go.Proofs.YtniceoohmhjjlaaDoorW.PrintLast Go.Proofs.YtniceoohmhjjlaaDoorW.PrintMore
attribute [local go_sem] max2_int min2_int max_two min_two max_three min_three max_four min_four   -- for this text's walks alone
set_option linter.unusedVariables false
set_option linter.unusedSimpArgs false

set_option linter.unusedVariables false
set_option linter.unusedSimpArgs false
section
attribute [local go_sem high] eqA23
/-! ### spec_l13Text: function 43 -/
def spec_l13Text.j0 : Nat → ByteArray → Int → Bool → Int → Int → Int → ByteArray → Option (ByteArray)
  | 0, _, _, _, _, _, _, _ => none
  | k + 1, x3, x10, x11, x330000, x330001, x330002, x330003 => if x11 = true then (if x3.size + 1 ≤ 9223372036854775807 then ((spec_l00Digits.f k x330001).bind fun t334 => (if (x3 ++ (⟨#[32]⟩ : ByteArray)).size + t334.size ≤ 9223372036854775807 then (some ((x3 ++ (⟨#[32]⟩ : ByteArray)) ++ t334)) else (none))) else (none)) else (if x10 = 2 then (if x3.size + 1 ≤ 9223372036854775807 then ((spec_l00Digits.f k x330001).bind fun t335 => (if (x3 ++ (⟨#[32]⟩ : ByteArray)).size + t335.size ≤ 9223372036854775807 then (if ((x3 ++ (⟨#[32]⟩ : ByteArray)) ++ t335).size + 1 ≤ 9223372036854775807 then ((spec_l00Digits.f k x330002).bind fun t336 => (if (((x3 ++ (⟨#[32]⟩ : ByteArray)) ++ t335) ++ (⟨#[32]⟩ : ByteArray)).size + t336.size ≤ 9223372036854775807 then (some ((((x3 ++ (⟨#[32]⟩ : ByteArray)) ++ t335) ++ (⟨#[32]⟩ : ByteArray)) ++ t336)) else (none))) else (none)) else (none))) else (none)) else (if x10 = 8 then (some x3) else (if x3.size + 1 ≤ 9223372036854775807 then (if (x3 ++ (⟨#[32]⟩ : ByteArray)).size + x330003.size ≤ 9223372036854775807 then (some ((x3 ++ (⟨#[32]⟩ : ByteArray)) ++ x330003)) else (none)) else (none))))
def spec_l13Text.f (k : Nat) (a0_0 : Int) (a0_1 : Int) (a0_2 : Int) (a0_3 : ByteArray) : Option (ByteArray) := (spec_l13Words.f).bind fun t330 => (if 0 ≤ a0_0 then (if a0_0 < (t330.length : Int) then (if a0_0 = 1 then (spec_l13Text.j0 k (rdOf ByteArray.empty t330 a0_0) a0_0 (a0_0 == 1) a0_0 a0_1 a0_2 a0_3) else (if a0_0 = 3 then (spec_l13Text.j0 k (rdOf ByteArray.empty t330 a0_0) a0_0 (a0_0 == 3) a0_0 a0_1 a0_2 a0_3) else (spec_l13Text.j0 k (rdOf ByteArray.empty t330 a0_0) a0_0 (a0_0 == 4) a0_0 a0_1 a0_2 a0_3))) else (none)) else (none))
theorem spec_l13Text.mono_l : ∀ k, (∀ y0 y1 y2 y3 y4 y5 y6, LeO (spec_l13Text.j0 k y0 y1 y2 y3 y4 y5 y6) (spec_l13Text.j0 (k + 1) y0 y1 y2 y3 y4 y5 y6))
  | 0 => fun _ _ _ _ _ _ _ r h => by simp [spec_l13Text.j0] at h
  | k + 1 => by
    have ih0 := spec_l13Text.mono_l k
    · intro y0 y1 y2 y3 y4 y5 y6
      unfold spec_l13Text.j0
      repeat' first
      | (with_reducible exact ih0 _ _ _ _ _ _ _)
      | (with_reducible exact spec_l00Digits.mono _ _)
      | (with_reducible exact LeO.refl _)
      | (with_reducible exact LeO.none _)
      | (with_reducible refine LeO.ite ?_ ?_)
      | (with_reducible refine LeO.bind ?_ (fun _ => ?_))
      | exact ih0 _ _ _ _ _ _ _
      | exact spec_l00Digits.mono _ _
      | exact LeO.none _
      | refine LeO.ite ?_ ?_
      | refine LeO.bind ?_ (fun _ => ?_)
theorem spec_l13Text.mono : ∀ a0 a1 a2 a3 k, LeO (spec_l13Text.f k a0 a1 a2 a3) (spec_l13Text.f (k + 1) a0 a1 a2 a3) := by
  intro a0 a1 a2 a3 k
  have ih0 := spec_l13Text.mono_l k
  unfold spec_l13Text.f
  repeat' first
      | (with_reducible exact ih0 _ _ _ _ _ _ _)
      | (with_reducible exact spec_l00Digits.mono _ _)
      | (with_reducible exact LeO.refl _)
      | (with_reducible exact LeO.none _)
      | (with_reducible refine LeO.ite ?_ ?_)
      | (with_reducible refine LeO.bind ?_ (fun _ => ?_))
      | exact ih0 _ _ _ _ _ _ _
      | exact spec_l00Digits.mono _ _
      | exact LeO.none _
      | refine LeO.ite ?_ ?_
      | refine LeO.bind ?_ (fun _ => ?_)
def spec_l13Text.T8 : Bool × List (List Nat × List Nat) := (true, [([], []), ([0], [0]), ([], []), ([2], [2]), ([3], [3]), ([1, 4], [1, 4]), ([5], [5]), ([], []), ([7], [7]), ([8, 4], [8]), ([6, 9], [6, 9]), ([10, 9, 0, 1, 2, 3, 4, 5, 6, 7, 8, 9, 10], [10])])
def spec_l13Text.B8 : List Nat := [0, 1, 0, 4, 12, 31, 63, 0, 128, 412, 1023, 2047]
theorem spec_l13Text.tab8 : rtab .any (opsOf Tryd.f43 8) = spec_l13Text.T8 := by kernel_rfl
theorem spec_l13Text.bits8 : waitsOk spec_l13Text.T8.2 spec_l13Text.B8 = true := by kernel_rfl
set_option maxHeartbeats 8000000 in
set_option maxRecDepth 100000 in
theorem spec_l13Text.calls (k : Nat) (a0_0 : Int) (a0_1 : Int) (a0_2 : Int) (a0_3 : ByteArray) (r : ByteArray) (w : World) (h : spec_l13Text.f k a0_0 a0_1 a0_2 a0_3 = some r) :
    Calls Tryd.prog 43 #[.agg #[.int .i64 a0_0, .int .i64 a0_1, .int .i64 a0_2, .string a0_3]] w fun e w' => e = .returned (.string r) ∧ Below w.heap.size w w' := by
 have hu23 := Tryd.underlying23
 have HB := zm (Below.refl w.heap.size w)
 have H : ((spec_l13Words.f).bind fun t330 => (if 0 ≤ a0_0 then (if a0_0 < (t330.length : Int) then (if a0_0 = 1 then (spec_l13Text.j0 k (rdOf ByteArray.empty t330 a0_0) a0_0 (a0_0 == 1) a0_0 a0_1 a0_2 a0_3) else (if a0_0 = 3 then (spec_l13Text.j0 k (rdOf ByteArray.empty t330 a0_0) a0_0 (a0_0 == 3) a0_0 a0_1 a0_2 a0_3) else (spec_l13Text.j0 k (rdOf ByteArray.empty t330 a0_0) a0_0 (a0_0 == 4) a0_0 a0_1 a0_2 a0_3))) else (none)) else (none))) = some r := h
 clear h
 replace H := Option.bind_eq_some_iff.mp H
 obtain ⟨t330, A20, H⟩ := H
 replace H : (if 0 ≤ a0_0 then (if a0_0 < (t330.length : Int) then (if a0_0 = 1 then (spec_l13Text.j0 k (rdOf ByteArray.empty t330 a0_0) a0_0 (a0_0 == 1) a0_0 a0_1 a0_2 a0_3) else (if a0_0 = 3 then (spec_l13Text.j0 k (rdOf ByteArray.empty t330 a0_0) a0_0 (a0_0 == 3) a0_0 a0_1 a0_2 a0_3) else (spec_l13Text.j0 k (rdOf ByteArray.empty t330 a0_0) a0_0 (a0_0 == 4) a0_0 a0_1 a0_2 a0_3))) else (none)) else (none)) = some r := H
 have A2 := zm A20
 clear A20
 by_cases c3 : 0 ≤ a0_0
 ·rw [if_pos c3] at H
  have c3b0 : decide (0 ≤ a0_0) = true := decide_eq_true c3
  clear c3
  by_cases c4 : a0_0 < (t330.length : Int)
  ·rw [if_pos c4] at H
   have c4b0 : decide (a0_0 < (t330.length : Int)) = true := decide_eq_true c4
   clear c4
   have HC5 := zm H
   clear H
   go_enter Tryd.func43, Tryd.ntmps43
   try go_wp2_with (first | ((with_reducible refine gate_dst (N := 1) rfl ?_); refine box_event ?hg (N := 1) ?hd (cs := #[.int .i64 a0_0, .int .i64 a0_1, .int .i64 a0_2, .string a0_3]) (t := 23) ?hr ?_; (case hd => rfl); (case hg => rfl); (case hr => first | (go_simp; done) | (go_simp; rfl)); intro gb329 hg w6 hbox hb; have n0_ := zm (below_step (zg_0 HB.out) hb); have n1_ := zm (hbox); have n2_ := zm ((by rw [hg]; exact (below_size (zg_0 HB.out)) : w.heap.size ≤ gb329)); have n3_ := zm ((by rw [hg]; exact (below_size (zg_0 HB.out)) : w.heap.size ≤ gb329)); clear HB; have HB := n0_; have Za := n1_; have Zd := n2_; have Zb := n3_; clear n0_ n1_ n2_ n3_; clear hb hbox hg))
   have n0_ := zm (blk_drew Za.out)
   have n1_ := zm (below_drew1 HB.out)
   clear Za
   clear HB
   have Za := n0_
   have HB := n1_
   clear n0_ n1_
   refine start_ (n := 6) (S := fun w' => w'.cell? ⟨gb329, 0, none⟩ = some (.int .i64 a0_0) ∧ w'.cell? ⟨gb329, 1, none⟩ = some (.int .i64 a0_1) ∧ w'.cell? ⟨gb329, 2, none⟩ = some (.int .i64 a0_2) ∧ w'.cell? ⟨gb329, 3, none⟩ = some (.string a0_3)) (ds := []) #[false, false, false, false, false, false] (by kernel_rfl) rfl rfl ⟨(blk_cell Za.out 0).trans rfl, (blk_cell Za.out 1).trans rfl, (blk_cell Za.out 2).trans rfl, (blk_cell Za.out 3).trans rfl⟩ (fun hHeld => ?_)
   generalize w6.drew = w7 at Za HB hHeld ⊢
   refine pure_ (i := 1) (N := some 5) (v := ?_) (a' := ?_) #[false, true, false, false, false, false] rfl rfl (by kernel_rfl) (fun _ _ _ h => h) (Or.inl ⟨by rfl, ?_⟩) ?_ ?_
   rotate_left
   ·intro w'
    go_simp
    with_reducible rfl
   rotate_left
   ·simp only [Act.put, zs, zz, zt, i64_w, i32_w]
    rfl
   refine take_ (i := 2) (N := some 6) (v := ?_) (a' := ?_) #[false, true, true, false, false, false] rfl rfl (by kernel_rfl) (fun _ _ _ h => h) (Or.inl ⟨by rfl, ?_⟩) hHeld ?_ ?_
   rotate_left
   ·rintro w' ⟨s0, s1, s2, s3⟩
    go_simp
    with_reducible rfl
   rotate_left
   ·simp only [Act.put, zs, zz, zt, i64_w, i32_w]
    rfl
   refine one_ (i := 0) (N := some 4) #[true, true, true, false, false, false] rfl rfl (by kernel_rfl) (by decide) (fun K hK => ?_)
   refine goes_ Tryd.func66 (by kernel_rfl) rfl #[] (by rfl) rfl rfl zq ?_
   with_reducible refine (spec_l13Words.calls  t330 _ A2.out).mono ?_
   rintro e w8 ⟨v331, rfl, ho0, hb⟩
   refine ⟨_, rfl, ?_⟩
   have n0_ := zm (Kd.R_lower ho0 (below_size (zg_2 HB.out Zb.out)))
   have n1_ := zm (blk_below (g := gb329) (o := .cells #[.int .i64 a0_0, .int .i64 a0_1, .int .i64 a0_2, .string a0_3] 23 (0, 0)) (zg_1 Za.out) hb)
   have n2_ := zm (below_step (zg_2 HB.out Zb.out) hb)
   clear Za
   clear HB
   have Zc := n0_
   have Za := n1_
   have HB := n2_
   clear n0_ n1_ n2_
   (try clear hb)
   (try clear hb2)
   (try clear hk)
   (try clear hi)
   (try clear ho0)
   obtain ⟨Ao9, co9, eo9⟩ := Kd.R_slice Zc.out
   (first | subst eo9 | (injection eo9 with f1_ f2_ f3_; have f4_ := f1_.symm; have f5_ := f3_.symm; clear f1_ f2_ f3_; subst f4_; subst f5_))
   have p333 : 0 ≤ (a0_0 : Int) := zd
   have q333 : a0_0 < (t330.length : Int) := zd
   obtain ⟨ad333, e333, hx333_0⟩ := Kd.at_string (Kd.R_reads' Zc.out).2.2 a0_0 p333 q333
   cases e333
   replace p333 := eq_true p333
   replace q333 := eq_true q333
   refine hK.out _ _ ⟨(blk_cell Za.out 0).trans rfl, (blk_cell Za.out 1).trans rfl, (blk_cell Za.out 2).trans rfl, (blk_cell Za.out 3).trans rfl⟩ (fun hHeld => ?_)
   clear hK K
   refine norm_ (a' := ?_) ?_ ?_
   rotate_left
   ·show Act.put _ (some 4) _ = _
    simp only [Act.put, zs, zz, zt, i64_w, i32_w]
    rfl
   refine pure_ (i := 3) (N := some 7) (v := ?_) (a' := ?_) #[true, true, true, true, false, false] rfl rfl (by kernel_rfl) (fun _ _ _ h => h) (Or.inl ⟨by rfl, ?_⟩) ?_ ?_
   rotate_left
   ·intro w'
    go_simp
    with_reducible rfl
   rotate_left
   ·simp only [Act.put, zs, zz, zt, i64_w, i32_w]
    rfl
   refine one_ (i := 4) (N := some 8) #[true, true, true, true, true, false] rfl rfl (by kernel_rfl) (by decide) (fun K hK => ?_)
   refine value_ (w1 := ?_) (v := ?_) (by rfl) rfl ?_ ?_
   rotate_left 2
   ·go_simp
    constructor
    ·rfl
    ·rfl
   refine hK.out _ _ ⟨(blk_cell Za.out 0).trans rfl, (blk_cell Za.out 1).trans rfl, (blk_cell Za.out 2).trans rfl, (blk_cell Za.out 3).trans rfl⟩ (fun hHeld => ?_)
   clear hK K
   refine norm_ (a' := ?_) ?_ ?_
   rotate_left
   ·show Act.put _ (some 8) _ = _
    simp only [Act.put, zs, zz, zt, i64_w, i32_w]
    rfl
   refine pure_ (i := 5) (N := some 3) (v := ?_) (a' := ?_) #[true, true, true, true, true, true] rfl rfl (by kernel_rfl) (fun _ _ _ h => h) (Or.inl ⟨by rfl, ?_⟩) ?_ ?_
   rotate_left
   ·intro w'
    go_simp
    with_reducible rfl
   rotate_left
   ·simp only [Act.put, zs, zz, zt, i64_w, i32_w]
    rfl
   refine done_ (by kernel_rfl) ?_
   have hcz10_0 : w8.cell? ⟨gb329, 0, none⟩ = some (.int .i64 a0_0) := (blk_cell Za.out 0).trans rfl
   have hcz10_1 : w8.cell? ⟨gb329, 1, none⟩ = some (.int .i64 a0_1) := (blk_cell Za.out 1).trans rfl
   have hcz10_2 : w8.cell? ⟨gb329, 2, none⟩ = some (.int .i64 a0_2) := (blk_cell Za.out 2).trans rfl
   have hcz10_3 : w8.cell? ⟨gb329, 3, none⟩ = some (.string a0_3) := (blk_cell Za.out 3).trans rfl
   have hfz10_0 := blk_frozen Za.out 0
   have hfz10_1 := blk_frozen Za.out 1
   have hfz10_2 := blk_frozen Za.out 2
   have hfz10_3 := blk_frozen Za.out 3
   go_upto_if 11 with (fail)
   go_cut [11] (fun v11 wc => ∃ (kq : Nat) (x11_4 : Bool), v11 = .bool x11_4 ∧ Aside0 (spec_l13Text.j0 kq (rdOf ByteArray.empty t330 a0_0) a0_0 x11_4 a0_0 a0_1 a0_2 a0_3 = some r) ∧ Aside0 (kq ≤ k) ∧ Aside0 (wc.heap[gb329]? = some (.cells #[.int .i64 a0_0, .int .i64 a0_1, .int .i64 a0_2, .string a0_3] 23 (0, 0))) ∧ Aside0 (Below w.heap.size w wc))
   case first =>
    have H := HC5.out
    clear HC5
    by_cases c11 : a0_0 = 1
    ·rw [if_pos c11] at H
     have c11b0 : (a0_0 == 1) = true := beq_iff_eq.mpr c11
     have c11b1 : (a0_0 != 1) = false := bne_eq_false_iff_eq.mpr c11
     clear c11
     (first | rw [c11b0] | (simp only [i64_w, i32_w]; rw [c11b0]) | skip)
     have H' := zm H
     clear H
     go_wp2
     go_meet
     case rel => exact ⟨_, ((a0_0 == 1)), zr, H', ⟨by first | omega | exact Nat.le_refl _⟩, ⟨by (with_reducible repeat (first | refine blk_drewN ?_ _ | refine blk_drew ?_ | refine blk_alloc ?_ _)); exact Za.out⟩, ⟨zg_2 HB.out Zb.out⟩⟩
    ·rw [if_neg c11] at H
     have c11b0 : (a0_0 == 1) = false := beq_eq_false_iff_ne.mpr c11
     have c11b1 : (a0_0 != 1) = true := bne_iff_ne.mpr c11
     (first | rw [c11b0] | (simp only [i64_w, i32_w]; rw [c11b0]) | skip)
     by_cases c12 : a0_0 = 3
     ·rw [if_pos c12] at H
      have c12b0 : (a0_0 == 3) = true := beq_iff_eq.mpr c12
      have c12b1 : (a0_0 != 3) = false := bne_eq_false_iff_eq.mpr c12
      clear c12
      have H' := zm H
      clear H
      go_wp2
      go_meet
      case rel => exact ⟨_, ((a0_0 == 3)), zr, H', ⟨by first | omega | exact Nat.le_refl _⟩, ⟨by (with_reducible repeat (first | refine blk_drewN ?_ _ | refine blk_drew ?_ | refine blk_alloc ?_ _)); exact Za.out⟩, ⟨zg_2 HB.out Zb.out⟩⟩
     ·rw [if_neg c12] at H
      have c12b0 : (a0_0 == 3) = false := beq_eq_false_iff_ne.mpr c12
      have c12b1 : (a0_0 != 3) = true := bne_iff_ne.mpr c12
      have H' := zm H
      clear H
      go_wp2
      go_meet
      case rel => exact ⟨_, ((a0_0 == 4)), zr, H', ⟨by first | omega | exact Nat.le_refl _⟩, ⟨by (with_reducible repeat (first | refine blk_drewN ?_ _ | refine blk_drew ?_ | refine blk_alloc ?_ _)); exact Za.out⟩, ⟨zg_2 HB.out Zb.out⟩⟩
   case rest =>
    clear HC5
    try clear c1
    try clear p2
    try clear c3
    try clear c3b0
    try clear p3
    try clear q3
    try clear hx3
    try clear c4
    try clear c4b0
    try clear c6
    try clear c11
    try clear c11b0
    try clear c11b1
    try clear c12
    try clear c12b0
    try clear c12b1
    try clear hcz10_0
    try clear hcz10_1
    try clear hcz10_2
    try clear hcz10_3
    try clear hfz10_0
    try clear hfz10_1
    try clear hfz10_2
    try clear hfz10_3
    try clear hx333_0
    try clear p333
    try clear q333
    obtain ⟨kq, x11_4, rfl, HA, HJ4, Za, HB⟩ := hcut
    cases kq with
    | zero => exact absurd HA.out (by simp [spec_l13Text.j0])
    | succ kj4 =>
     have H := HA.out
     clear HA
     simp only [spec_l13Text.j0] at H
     by_cases c13 : x11_4 = true
     ·subst c13
      have H1 : (if (rdOf ByteArray.empty t330 a0_0).size + 1 ≤ 9223372036854775807 then ((spec_l00Digits.f kj4 a0_1).bind fun t334 => (if ((rdOf ByteArray.empty t330 a0_0) ++ (⟨#[32]⟩ : ByteArray)).size + t334.size ≤ 9223372036854775807 then (some (((rdOf ByteArray.empty t330 a0_0) ++ (⟨#[32]⟩ : ByteArray)) ++ t334)) else (none))) else (none)) = some r := by rw [if_pos rfl] at H; exact H
      clear H
      have H := H1
      clear H1
      by_cases c14 : (rdOf ByteArray.empty t330 a0_0).size + 1 ≤ 9223372036854775807
      ·rw [if_pos c14] at H
       have c14b0 := eq_true c14
       have c14b1 : decide ((rdOf ByteArray.empty t330 a0_0).size + 1 ≤ 9223372036854775807) = true := decide_eq_true c14
       try have c14b2 : (9223372036854775807 < (rdOf ByteArray.empty t330 a0_0).size + 1) = False := eq_false (Nat.not_lt.2 c14)
       replace H := Option.bind_eq_some_iff.mp H
       obtain ⟨t334, A150, H⟩ := H
       replace H : (if ((rdOf ByteArray.empty t330 a0_0) ++ (⟨#[32]⟩ : ByteArray)).size + t334.size ≤ 9223372036854775807 then (some (((rdOf ByteArray.empty t330 a0_0) ++ (⟨#[32]⟩ : ByteArray)) ++ t334)) else (none)) = some r := H
       have A15 := zm A150
       clear A150
       by_cases c16 : ((rdOf ByteArray.empty t330 a0_0) ++ (⟨#[32]⟩ : ByteArray)).size + t334.size ≤ 9223372036854775807
       ·rw [if_pos c16] at H
        have c16b0 := eq_true c16
        have c16b1 : decide (((rdOf ByteArray.empty t330 a0_0) ++ (⟨#[32]⟩ : ByteArray)).size + t334.size ≤ 9223372036854775807) = true := decide_eq_true c16
        try have c16b2 : (9223372036854775807 < ((rdOf ByteArray.empty t330 a0_0) ++ (⟨#[32]⟩ : ByteArray)).size + t334.size) = False := eq_false (Nat.not_lt.2 c16)
        try have c16b3 : (9223372036854775807 < (rdOf ByteArray.empty t330 a0_0).size + 1 + t334.size) = False := (by have h_ := c16b2; simp only [ByteArray.size_append] at h_; exact h_)
        obtain rfl := Option.some.inj H
        have hcz17_0 : wc.cell? ⟨gb329, 0, none⟩ = some (.int .i64 a0_0) := (blk_cell Za.out 0).trans rfl
        have hcz17_1 : wc.cell? ⟨gb329, 1, none⟩ = some (.int .i64 a0_1) := (blk_cell Za.out 1).trans rfl
        have hcz17_2 : wc.cell? ⟨gb329, 2, none⟩ = some (.int .i64 a0_2) := (blk_cell Za.out 2).trans rfl
        have hcz17_3 : wc.cell? ⟨gb329, 3, none⟩ = some (.string a0_3) := (blk_cell Za.out 3).trans rfl
        have hfz17_0 := blk_frozen Za.out 0
        have hfz17_1 := blk_frozen Za.out 1
        have hfz17_2 := blk_frozen Za.out 2
        have hfz17_3 := blk_frozen Za.out 3
        go_wp2_with (first | ((with_reducible refine gate_callee (f := 79) rfl ?_); refine goesL_ (some 19) rfl rfl Tryd.func79 (by kernel_rfl) rfl #[.int .i64 a0_1] rfl zq ?_; (with_reducible refine (spec_l00Digits.calls kj4 a0_1 t334 _ A15.out).mono ?_); rintro e w18 ⟨rfl, hb⟩; refine ⟨_, rfl, ?_⟩; have n0_ := zm (blk_below (g := gb329) (o := .cells #[.int .i64 a0_0, .int .i64 a0_1, .int .i64 a0_2, .string a0_3] 23 (0, 0)) (zg_1 Za.out) hb); have n1_ := zm (below_step (zg_2 HB.out Zb.out) hb); clear Za; clear HB; have Za := n0_; have HB := n1_; clear n0_ n1_; (try clear hb); (try clear hb2); (try clear hk); (try clear hi)))
        go_ret
        exact ⟨by first | rfl | (simp [errW_none, errW_some] <;> rfl) | (simp [*, errW_none, errW_some] <;> rfl), zg_2 HB.out Zb.out⟩
       ·rw [if_neg c16] at H
        exact absurd H (by simp)
      ·rw [if_neg c14] at H
       exact absurd H (by simp)
     ·replace c13 := Bool.eq_false_iff.mpr c13
      subst c13
      have H1 : (if a0_0 = 2 then (if (rdOf ByteArray.empty t330 a0_0).size + 1 ≤ 9223372036854775807 then ((spec_l00Digits.f kj4 a0_1).bind fun t335 => (if ((rdOf ByteArray.empty t330 a0_0) ++ (⟨#[32]⟩ : ByteArray)).size + t335.size ≤ 9223372036854775807 then (if (((rdOf ByteArray.empty t330 a0_0) ++ (⟨#[32]⟩ : ByteArray)) ++ t335).size + 1 ≤ 9223372036854775807 then ((spec_l00Digits.f kj4 a0_2).bind fun t336 => (if ((((rdOf ByteArray.empty t330 a0_0) ++ (⟨#[32]⟩ : ByteArray)) ++ t335) ++ (⟨#[32]⟩ : ByteArray)).size + t336.size ≤ 9223372036854775807 then (some (((((rdOf ByteArray.empty t330 a0_0) ++ (⟨#[32]⟩ : ByteArray)) ++ t335) ++ (⟨#[32]⟩ : ByteArray)) ++ t336)) else (none))) else (none)) else (none))) else (none)) else (if a0_0 = 8 then (some (rdOf ByteArray.empty t330 a0_0)) else (if (rdOf ByteArray.empty t330 a0_0).size + 1 ≤ 9223372036854775807 then (if ((rdOf ByteArray.empty t330 a0_0) ++ (⟨#[32]⟩ : ByteArray)).size + a0_3.size ≤ 9223372036854775807 then (some (((rdOf ByteArray.empty t330 a0_0) ++ (⟨#[32]⟩ : ByteArray)) ++ a0_3)) else (none)) else (none)))) = some r := by rw [if_neg (show ¬ (false = true) by decide)] at H; exact H
      clear H
      have H := H1
      clear H1
      by_cases c19 : a0_0 = 2
      ·rw [if_pos c19] at H
       have c19b0 : (a0_0 == 2) = true := beq_iff_eq.mpr c19
       have c19b1 : (a0_0 != 2) = false := bne_eq_false_iff_eq.mpr c19
       clear c19
       by_cases c20 : (rdOf ByteArray.empty t330 a0_0).size + 1 ≤ 9223372036854775807
       ·rw [if_pos c20] at H
        have c20b0 := eq_true c20
        have c20b1 : decide ((rdOf ByteArray.empty t330 a0_0).size + 1 ≤ 9223372036854775807) = true := decide_eq_true c20
        try have c20b2 : (9223372036854775807 < (rdOf ByteArray.empty t330 a0_0).size + 1) = False := eq_false (Nat.not_lt.2 c20)
        replace H := Option.bind_eq_some_iff.mp H
        obtain ⟨t335, A210, H⟩ := H
        replace H : (if ((rdOf ByteArray.empty t330 a0_0) ++ (⟨#[32]⟩ : ByteArray)).size + t335.size ≤ 9223372036854775807 then (if (((rdOf ByteArray.empty t330 a0_0) ++ (⟨#[32]⟩ : ByteArray)) ++ t335).size + 1 ≤ 9223372036854775807 then ((spec_l00Digits.f kj4 a0_2).bind fun t336 => (if ((((rdOf ByteArray.empty t330 a0_0) ++ (⟨#[32]⟩ : ByteArray)) ++ t335) ++ (⟨#[32]⟩ : ByteArray)).size + t336.size ≤ 9223372036854775807 then (some (((((rdOf ByteArray.empty t330 a0_0) ++ (⟨#[32]⟩ : ByteArray)) ++ t335) ++ (⟨#[32]⟩ : ByteArray)) ++ t336)) else (none))) else (none)) else (none)) = some r := H
        have A21 := zm A210
        clear A210
        by_cases c22 : ((rdOf ByteArray.empty t330 a0_0) ++ (⟨#[32]⟩ : ByteArray)).size + t335.size ≤ 9223372036854775807
        ·rw [if_pos c22] at H
         have c22b0 := eq_true c22
         have c22b1 : decide (((rdOf ByteArray.empty t330 a0_0) ++ (⟨#[32]⟩ : ByteArray)).size + t335.size ≤ 9223372036854775807) = true := decide_eq_true c22
         try have c22b2 : (9223372036854775807 < ((rdOf ByteArray.empty t330 a0_0) ++ (⟨#[32]⟩ : ByteArray)).size + t335.size) = False := eq_false (Nat.not_lt.2 c22)
         try have c22b3 : (9223372036854775807 < (rdOf ByteArray.empty t330 a0_0).size + 1 + t335.size) = False := (by have h_ := c22b2; simp only [ByteArray.size_append] at h_; exact h_)
         by_cases c23 : (((rdOf ByteArray.empty t330 a0_0) ++ (⟨#[32]⟩ : ByteArray)) ++ t335).size + 1 ≤ 9223372036854775807
         ·rw [if_pos c23] at H
          have c23b0 := eq_true c23
          have c23b1 : decide ((((rdOf ByteArray.empty t330 a0_0) ++ (⟨#[32]⟩ : ByteArray)) ++ t335).size + 1 ≤ 9223372036854775807) = true := decide_eq_true c23
          try have c23b2 : (9223372036854775807 < (((rdOf ByteArray.empty t330 a0_0) ++ (⟨#[32]⟩ : ByteArray)) ++ t335).size + 1) = False := eq_false (Nat.not_lt.2 c23)
          try have c23b3 : (9223372036854775807 < (rdOf ByteArray.empty t330 a0_0).size + 1 + t335.size + 1) = False := (by have h_ := c23b2; simp only [ByteArray.size_append] at h_; exact h_)
          replace H := Option.bind_eq_some_iff.mp H
          obtain ⟨t336, A240, H⟩ := H
          replace H : (if ((((rdOf ByteArray.empty t330 a0_0) ++ (⟨#[32]⟩ : ByteArray)) ++ t335) ++ (⟨#[32]⟩ : ByteArray)).size + t336.size ≤ 9223372036854775807 then (some (((((rdOf ByteArray.empty t330 a0_0) ++ (⟨#[32]⟩ : ByteArray)) ++ t335) ++ (⟨#[32]⟩ : ByteArray)) ++ t336)) else (none)) = some r := H
          have A24 := zm A240
          clear A240
          by_cases c25 : ((((rdOf ByteArray.empty t330 a0_0) ++ (⟨#[32]⟩ : ByteArray)) ++ t335) ++ (⟨#[32]⟩ : ByteArray)).size + t336.size ≤ 9223372036854775807
          ·rw [if_pos c25] at H
           have c25b0 := eq_true c25
           have c25b1 : decide (((((rdOf ByteArray.empty t330 a0_0) ++ (⟨#[32]⟩ : ByteArray)) ++ t335) ++ (⟨#[32]⟩ : ByteArray)).size + t336.size ≤ 9223372036854775807) = true := decide_eq_true c25
           try have c25b2 : (9223372036854775807 < ((((rdOf ByteArray.empty t330 a0_0) ++ (⟨#[32]⟩ : ByteArray)) ++ t335) ++ (⟨#[32]⟩ : ByteArray)).size + t336.size) = False := eq_false (Nat.not_lt.2 c25)
           try have c25b3 : (9223372036854775807 < (rdOf ByteArray.empty t330 a0_0).size + 1 + t335.size + 1 + t336.size) = False := (by have h_ := c25b2; simp only [ByteArray.size_append] at h_; exact h_)
           obtain rfl := Option.some.inj H
           try go_wp2
           have n0_ := zm (blk_drew Za.out)
           have n1_ := zm (below_drew1 HB.out)
           clear Za
           clear HB
           have Za := n0_
           have HB := n1_
           clear n0_ n1_
           refine start_ (n := 12) (S := fun w' => w'.cell? ⟨gb329, 0, none⟩ = some (.int .i64 a0_0) ∧ w'.cell? ⟨gb329, 1, none⟩ = some (.int .i64 a0_1) ∧ w'.cell? ⟨gb329, 2, none⟩ = some (.int .i64 a0_2) ∧ w'.cell? ⟨gb329, 3, none⟩ = some (.string a0_3)) (ds := []) #[false, false, false, false, false, false, false, false, false, false, false, false] (by kernel_rfl) rfl rfl ⟨(blk_cell Za.out 0).trans rfl, (blk_cell Za.out 1).trans rfl, (blk_cell Za.out 2).trans rfl, (blk_cell Za.out 3).trans rfl⟩ (fun hHeld => ?_); refine with_tabW spec_l13Text.tab8 spec_l13Text.bits8 (fun HT_ HW_ => ?_)
           generalize wc.drew = w26 at Za HB hHeld ⊢
           refine pure_ (i := 0) (N := some 23) (v := ?_) (a' := ?_) #[true, false, false, false, false, false, false, false, false, false, false, false] rfl rfl (any_of HT_.out (by kernel_rfl)) (fun _ _ _ h => h) (Or.inl ⟨by rfl, ?_⟩) ?_ ?_
           rotate_left
           ·intro w'
            go_simp
            with_reducible rfl
           rotate_left
           ·simp only [Act.put, zs, zz, zt, i64_w, i32_w]
            rfl
           refine pure_ (i := 1) (N := some 24) (v := ?_) (a' := ?_) #[true, true, false, false, false, false, false, false, false, false, false, false] rfl rfl (any_of HT_.out (by kernel_rfl)) (fun _ _ _ h => h) (Or.inl ⟨by rfl, ?_⟩) ?_ ?_
           rotate_left
           ·intro w'
            go_simp
            with_reducible rfl
           rotate_left
           ·simp only [Act.put, zs, zz, zt, i64_w, i32_w]
            rfl
           refine pure_ (i := 2) (N := some 25) (v := ?_) (a' := ?_) #[true, true, true, false, false, false, false, false, false, false, false, false] rfl rfl (any_of HT_.out (by kernel_rfl)) (fun _ _ _ h => h) (Or.inl ⟨by rfl, ?_⟩) ?_ ?_
           rotate_left
           ·intro w'
            go_simp
            with_reducible rfl
           rotate_left
           ·simp only [Act.put, zs, zz, zt, i64_w, i32_w]
            rfl
           refine pure_ (i := 7) (N := some 30) (v := ?_) (a' := ?_) #[true, true, true, false, false, false, false, true, false, false, false, false] rfl rfl (any_of HT_.out (by kernel_rfl)) (fun _ _ _ h => h) (Or.inl ⟨by rfl, ?_⟩) ?_ ?_
           rotate_left
           ·intro w'
            go_simp
            with_reducible rfl
           rotate_left
           ·simp only [Act.put, zs, zz, zt, i64_w, i32_w]
            rfl
           refine take_ (i := 3) (N := some 26) (v := ?_) (a' := ?_) #[true, true, true, true, false, false, false, true, false, false, false, false] rfl rfl (take_ofW HT_.out HW_.out (by kernel_rfl)) (fun _ _ _ h => h) (Or.inl ⟨by rfl, ?_⟩) hHeld ?_ ?_
           rotate_left
           ·rintro w' ⟨s0, s1, s2, s3⟩
            go_simp
            with_reducible rfl
           rotate_left
           ·simp only [Act.put, zs, zz, zt, i64_w, i32_w]
            rfl
           refine take_ (i := 8) (N := some 31) (v := ?_) (a' := ?_) #[true, true, true, true, false, false, false, true, true, false, false, false] rfl rfl (take_ofW HT_.out HW_.out (by kernel_rfl)) (fun _ _ _ h => h) (Or.inl ⟨by rfl, ?_⟩) hHeld ?_ ?_
           rotate_left
           ·rintro w' ⟨s0, s1, s2, s3⟩
            go_simp
            with_reducible rfl
           rotate_left
           ·simp only [Act.put, zs, zz, zt, i64_w, i32_w]
            rfl
           refine one_ (i := 4) (N := some 27) #[true, true, true, true, true, false, false, true, true, false, false, false] rfl rfl (one_of HT_.out (by kernel_rfl)) (by decide) (fun K hK => ?_)
           refine goes_ Tryd.func79 (by kernel_rfl) rfl #[.int .i64 a0_1] (by rfl) rfl rfl zq ?_
           with_reducible refine (spec_l00Digits.calls kj4 a0_1 t335 _ A21.out).mono ?_
           rintro e w27 ⟨rfl, hb⟩
           refine ⟨_, rfl, ?_⟩
           have n0_ := zm (blk_below (g := gb329) (o := .cells #[.int .i64 a0_0, .int .i64 a0_1, .int .i64 a0_2, .string a0_3] 23 (0, 0)) (zg_1 Za.out) hb)
           have n1_ := zm (below_step (zg_2 HB.out Zb.out) hb)
           clear Za
           clear HB
           have Za := n0_
           have HB := n1_
           clear n0_ n1_
           (try clear hb)
           (try clear hb2)
           (try clear hk)
           (try clear hi)
           refine hK.out _ _ ⟨(blk_cell Za.out 0).trans rfl, (blk_cell Za.out 1).trans rfl, (blk_cell Za.out 2).trans rfl, (blk_cell Za.out 3).trans rfl⟩ (fun hHeld => ?_)
           clear hK K
           refine norm_ (a' := ?_) ?_ ?_
           rotate_left
           ·show Act.put _ (some 27) _ = _
            simp only [Act.put, zs, zz, zt, i64_w, i32_w]
            rfl
           refine pure_ (i := 5) (N := some 28) (v := ?_) (a' := ?_) #[true, true, true, true, true, true, false, true, true, false, false, false] rfl rfl (any_of HT_.out (by kernel_rfl)) (fun _ _ _ h => h) (Or.inl ⟨by rfl, ?_⟩) ?_ ?_
           rotate_left
           ·intro w'
            go_simp
            with_reducible rfl
           rotate_left
           ·simp only [Act.put, zs, zz, zt, i64_w, i32_w]
            rfl
           refine pure_ (i := 6) (N := some 29) (v := ?_) (a' := ?_) #[true, true, true, true, true, true, true, true, true, false, false, false] rfl rfl (any_of HT_.out (by kernel_rfl)) (fun _ _ _ h => h) (Or.inl ⟨by rfl, ?_⟩) ?_ ?_
           rotate_left
           ·intro w'
            go_simp
            with_reducible rfl
           rotate_left
           ·simp only [Act.put, zs, zz, zt, i64_w, i32_w]
            rfl
           refine one_ (i := 9) (N := some 32) #[true, true, true, true, true, true, true, true, true, true, false, false] rfl rfl (one_of HT_.out (by kernel_rfl)) (by decide) (fun K hK => ?_)
           refine goes_ Tryd.func79 (by kernel_rfl) rfl #[.int .i64 a0_2] (by rfl) rfl rfl zq ?_
           with_reducible refine (spec_l00Digits.calls kj4 a0_2 t336 _ A24.out).mono ?_
           rintro e w28 ⟨rfl, hb⟩
           refine ⟨_, rfl, ?_⟩
           have n0_ := zm (blk_below (g := gb329) (o := .cells #[.int .i64 a0_0, .int .i64 a0_1, .int .i64 a0_2, .string a0_3] 23 (0, 0)) (zg_1 Za.out) hb)
           have n1_ := zm (below_step (zg_2 HB.out Zb.out) hb)
           clear Za
           clear HB
           have Za := n0_
           have HB := n1_
           clear n0_ n1_
           (try clear hb)
           (try clear hb2)
           (try clear hk)
           (try clear hi)
           refine hK.out _ _ ⟨(blk_cell Za.out 0).trans rfl, (blk_cell Za.out 1).trans rfl, (blk_cell Za.out 2).trans rfl, (blk_cell Za.out 3).trans rfl⟩ (fun hHeld => ?_)
           clear hK K
           refine norm_ (a' := ?_) ?_ ?_
           rotate_left
           ·show Act.put _ (some 32) _ = _
            simp only [Act.put, zs, zz, zt, i64_w, i32_w]
            rfl
           refine pure_ (i := 10) (N := some 33) (v := ?_) (a' := ?_) #[true, true, true, true, true, true, true, true, true, true, true, false] rfl rfl (any_of HT_.out (by kernel_rfl)) (fun _ _ _ h => h) (Or.inl ⟨by rfl, ?_⟩) ?_ ?_
           rotate_left
           ·intro w'
            go_simp
            with_reducible rfl
           rotate_left
           ·simp only [Act.put, zs, zz, zt, i64_w, i32_w]
            rfl
           refine pure_ (i := 11) (N := some 2) (v := ?_) (a' := ?_) #[true, true, true, true, true, true, true, true, true, true, true, true] rfl rfl (any_of HT_.out (by kernel_rfl)) (fun _ _ _ h => h) (Or.inl ⟨by rfl, ?_⟩) ?_ ?_
           rotate_left
           ·intro w'
            go_simp
            with_reducible rfl
           rotate_left
           ·simp only [Act.put, zs, zz, zt, i64_w, i32_w]
            rfl
           refine done_ (done_of HT_.out (by kernel_rfl)) ?_
           try go_wp2
           go_ret
           exact ⟨by first | rfl | (simp [errW_none, errW_some] <;> rfl) | (simp [*, errW_none, errW_some] <;> rfl), zg_2 HB.out Zb.out⟩
          ·rw [if_neg c25] at H
           exact absurd H (by simp)
         ·rw [if_neg c23] at H
          exact absurd H (by simp)
        ·rw [if_neg c22] at H
         exact absurd H (by simp)
       ·rw [if_neg c20] at H
        exact absurd H (by simp)
      ·rw [if_neg c19] at H
       have c19b0 : (a0_0 == 2) = false := beq_eq_false_iff_ne.mpr c19
       have c19b1 : (a0_0 != 2) = true := bne_iff_ne.mpr c19
       by_cases c29 : a0_0 = 8
       ·rw [if_pos c29] at H
        have c29b0 : (a0_0 == 8) = true := beq_iff_eq.mpr c29
        have c29b1 : (a0_0 != 8) = false := bne_eq_false_iff_eq.mpr c29
        clear c29
        obtain rfl := Option.some.inj H
        go_wp2
        go_ret
        exact ⟨by first | rfl | (simp [errW_none, errW_some] <;> rfl) | (simp [*, errW_none, errW_some] <;> rfl), zg_2 HB.out Zb.out⟩
       ·rw [if_neg c29] at H
        have c29b0 : (a0_0 == 8) = false := beq_eq_false_iff_ne.mpr c29
        have c29b1 : (a0_0 != 8) = true := bne_iff_ne.mpr c29
        by_cases c30 : (rdOf ByteArray.empty t330 a0_0).size + 1 ≤ 9223372036854775807
        ·rw [if_pos c30] at H
         have c30b0 := eq_true c30
         have c30b1 : decide ((rdOf ByteArray.empty t330 a0_0).size + 1 ≤ 9223372036854775807) = true := decide_eq_true c30
         try have c30b2 : (9223372036854775807 < (rdOf ByteArray.empty t330 a0_0).size + 1) = False := eq_false (Nat.not_lt.2 c30)
         by_cases c31 : ((rdOf ByteArray.empty t330 a0_0) ++ (⟨#[32]⟩ : ByteArray)).size + a0_3.size ≤ 9223372036854775807
         ·rw [if_pos c31] at H
          have c31b0 := eq_true c31
          have c31b1 : decide (((rdOf ByteArray.empty t330 a0_0) ++ (⟨#[32]⟩ : ByteArray)).size + a0_3.size ≤ 9223372036854775807) = true := decide_eq_true c31
          try have c31b2 : (9223372036854775807 < ((rdOf ByteArray.empty t330 a0_0) ++ (⟨#[32]⟩ : ByteArray)).size + a0_3.size) = False := eq_false (Nat.not_lt.2 c31)
          try have c31b3 : (9223372036854775807 < (rdOf ByteArray.empty t330 a0_0).size + 1 + a0_3.size) = False := (by have h_ := c31b2; simp only [ByteArray.size_append] at h_; exact h_)
          obtain rfl := Option.some.inj H
          have hcz32_0 : wc.cell? ⟨gb329, 0, none⟩ = some (.int .i64 a0_0) := (blk_cell Za.out 0).trans rfl
          have hcz32_1 : wc.cell? ⟨gb329, 1, none⟩ = some (.int .i64 a0_1) := (blk_cell Za.out 1).trans rfl
          have hcz32_2 : wc.cell? ⟨gb329, 2, none⟩ = some (.int .i64 a0_2) := (blk_cell Za.out 2).trans rfl
          have hcz32_3 : wc.cell? ⟨gb329, 3, none⟩ = some (.string a0_3) := (blk_cell Za.out 3).trans rfl
          have hfz32_0 := blk_frozen Za.out 0
          have hfz32_1 := blk_frozen Za.out 1
          have hfz32_2 := blk_frozen Za.out 2
          have hfz32_3 := blk_frozen Za.out 3
          go_wp2
          go_ret
          exact ⟨by first | rfl | (simp [errW_none, errW_some] <;> rfl) | (simp [*, errW_none, errW_some] <;> rfl), zg_2 HB.out Zb.out⟩
         ·rw [if_neg c31] at H
          exact absurd H (by simp)
        ·rw [if_neg c30] at H
         exact absurd H (by simp)
  ·rw [if_neg c4] at H
   exact absurd H (by simp)
 ·rw [if_neg c3] at H
  exact absurd H (by simp)
end
section
attribute [local go_sem high] eqA23
/-! ### spec_ReqText: function 13 -/
def spec_ReqText.f (k : Nat) (a0_0 : Int) (a0_1 : Int) (a0_2 : Int) (a0_3 : ByteArray) : Option (ByteArray × Int) := (spec_ReqOK.f k a0_0 a0_1 a0_2 a0_3).bind fun t338 => (if t338 = true then ((spec_l02Int.f a0_1).bind fun t339 => (if t339 = true then ((spec_l02Int.f a0_2).bind fun t340 => (if t340 = true then ((spec_l01In.f a0_0 5 7).bind fun t341 => (if t341 = true then ((spec_l10Name.f k a0_3).bind fun t342 => (if t342 = true then ((spec_l13Text.f k a0_0 a0_1 a0_2 a0_3).bind fun t343 => (some (t343, 0))) else (some ((⟨#[]⟩ : ByteArray), 1)))) else ((spec_l13Text.f k a0_0 a0_1 a0_2 a0_3).bind fun t344 => (some (t344, 0))))) else (some ((⟨#[]⟩ : ByteArray), 1)))) else (some ((⟨#[]⟩ : ByteArray), 1)))) else (some ((⟨#[]⟩ : ByteArray), 1)))
theorem spec_ReqText.mono : ∀ a0 a1 a2 a3 k, LeO (spec_ReqText.f k a0 a1 a2 a3) (spec_ReqText.f (k + 1) a0 a1 a2 a3) := by
  intro a0 a1 a2 a3 k
  unfold spec_ReqText.f
  repeat' first
      | (with_reducible exact spec_ReqOK.mono _ _ _ _ _)
      | (with_reducible exact spec_l10Name.mono _ _)
      | (with_reducible exact spec_l13Text.mono _ _ _ _ _)
      | (with_reducible exact LeO.refl _)
      | (with_reducible exact LeO.none _)
      | (with_reducible refine LeO.ite ?_ ?_)
      | (with_reducible refine LeO.bind ?_ (fun _ => ?_))
      | exact spec_ReqOK.mono _ _ _ _ _
      | exact spec_l10Name.mono _ _
      | exact spec_l13Text.mono _ _ _ _ _
      | exact LeO.none _
      | refine LeO.ite ?_ ?_
      | refine LeO.bind ?_ (fun _ => ?_)
set_option maxHeartbeats 8000000 in
set_option maxRecDepth 100000 in
theorem spec_ReqText.calls (k : Nat) (a0_0 : Int) (a0_1 : Int) (a0_2 : Int) (a0_3 : ByteArray) (r1 : ByteArray) (r2 : Int) (w : World) (h : spec_ReqText.f k a0_0 a0_1 a0_2 a0_3 = some (r1, r2)) :
    Calls Tryd.prog 13 #[.agg #[.int .i64 a0_0, .int .i64 a0_1, .int .i64 a0_2, .string a0_3]] w fun e w' => e = .returned (.tuple #[.string r1, .int .i64 r2]) ∧ Below w.heap.size w w' := by
 have hu23 := Tryd.underlying23
 have HB := zm (Below.refl w.heap.size w)
 have H : ((spec_ReqOK.f k a0_0 a0_1 a0_2 a0_3).bind fun t338 => (if t338 = true then ((spec_l02Int.f a0_1).bind fun t339 => (if t339 = true then ((spec_l02Int.f a0_2).bind fun t340 => (if t340 = true then ((spec_l01In.f a0_0 5 7).bind fun t341 => (if t341 = true then ((spec_l10Name.f k a0_3).bind fun t342 => (if t342 = true then ((spec_l13Text.f k a0_0 a0_1 a0_2 a0_3).bind fun t343 => (some (t343, 0))) else (some ((⟨#[]⟩ : ByteArray), 1)))) else ((spec_l13Text.f k a0_0 a0_1 a0_2 a0_3).bind fun t344 => (some (t344, 0))))) else (some ((⟨#[]⟩ : ByteArray), 1)))) else (some ((⟨#[]⟩ : ByteArray), 1)))) else (some ((⟨#[]⟩ : ByteArray), 1)))) = some (r1, r2) := h
 clear h
 replace H := Option.bind_eq_some_iff.mp H
 obtain ⟨t338, A20, H⟩ := H
 replace H : (if t338 = true then ((spec_l02Int.f a0_1).bind fun t339 => (if t339 = true then ((spec_l02Int.f a0_2).bind fun t340 => (if t340 = true then ((spec_l01In.f a0_0 5 7).bind fun t341 => (if t341 = true then ((spec_l10Name.f k a0_3).bind fun t342 => (if t342 = true then ((spec_l13Text.f k a0_0 a0_1 a0_2 a0_3).bind fun t343 => (some (t343, 0))) else (some ((⟨#[]⟩ : ByteArray), 1)))) else ((spec_l13Text.f k a0_0 a0_1 a0_2 a0_3).bind fun t344 => (some (t344, 0))))) else (some ((⟨#[]⟩ : ByteArray), 1)))) else (some ((⟨#[]⟩ : ByteArray), 1)))) else (some ((⟨#[]⟩ : ByteArray), 1))) = some (r1, r2) := H
 have A2 := zm A20
 clear A20
 by_cases c3 : t338 = true
 ·subst c3
  have H1 : ((spec_l02Int.f a0_1).bind fun t339 => (if t339 = true then ((spec_l02Int.f a0_2).bind fun t340 => (if t340 = true then ((spec_l01In.f a0_0 5 7).bind fun t341 => (if t341 = true then ((spec_l10Name.f k a0_3).bind fun t342 => (if t342 = true then ((spec_l13Text.f k a0_0 a0_1 a0_2 a0_3).bind fun t343 => (some (t343, 0))) else (some ((⟨#[]⟩ : ByteArray), 1)))) else ((spec_l13Text.f k a0_0 a0_1 a0_2 a0_3).bind fun t344 => (some (t344, 0))))) else (some ((⟨#[]⟩ : ByteArray), 1)))) else (some ((⟨#[]⟩ : ByteArray), 1)))) = some (r1, r2) := by rw [if_pos rfl] at H; exact H
  clear H
  have H := H1
  clear H1
  replace H := Option.bind_eq_some_iff.mp H
  obtain ⟨t339, A40, H⟩ := H
  replace H : (if t339 = true then ((spec_l02Int.f a0_2).bind fun t340 => (if t340 = true then ((spec_l01In.f a0_0 5 7).bind fun t341 => (if t341 = true then ((spec_l10Name.f k a0_3).bind fun t342 => (if t342 = true then ((spec_l13Text.f k a0_0 a0_1 a0_2 a0_3).bind fun t343 => (some (t343, 0))) else (some ((⟨#[]⟩ : ByteArray), 1)))) else ((spec_l13Text.f k a0_0 a0_1 a0_2 a0_3).bind fun t344 => (some (t344, 0))))) else (some ((⟨#[]⟩ : ByteArray), 1)))) else (some ((⟨#[]⟩ : ByteArray), 1))) = some (r1, r2) := H
  have A4 := zm A40
  clear A40
  by_cases c5 : t339 = true
  ·subst c5
   have H1 : ((spec_l02Int.f a0_2).bind fun t340 => (if t340 = true then ((spec_l01In.f a0_0 5 7).bind fun t341 => (if t341 = true then ((spec_l10Name.f k a0_3).bind fun t342 => (if t342 = true then ((spec_l13Text.f k a0_0 a0_1 a0_2 a0_3).bind fun t343 => (some (t343, 0))) else (some ((⟨#[]⟩ : ByteArray), 1)))) else ((spec_l13Text.f k a0_0 a0_1 a0_2 a0_3).bind fun t344 => (some (t344, 0))))) else (some ((⟨#[]⟩ : ByteArray), 1)))) = some (r1, r2) := by rw [if_pos rfl] at H; exact H
   clear H
   have H := H1
   clear H1
   replace H := Option.bind_eq_some_iff.mp H
   obtain ⟨t340, A60, H⟩ := H
   replace H : (if t340 = true then ((spec_l01In.f a0_0 5 7).bind fun t341 => (if t341 = true then ((spec_l10Name.f k a0_3).bind fun t342 => (if t342 = true then ((spec_l13Text.f k a0_0 a0_1 a0_2 a0_3).bind fun t343 => (some (t343, 0))) else (some ((⟨#[]⟩ : ByteArray), 1)))) else ((spec_l13Text.f k a0_0 a0_1 a0_2 a0_3).bind fun t344 => (some (t344, 0))))) else (some ((⟨#[]⟩ : ByteArray), 1))) = some (r1, r2) := H
   have A6 := zm A60
   clear A60
   by_cases c7 : t340 = true
   ·subst c7
    have H1 : ((spec_l01In.f a0_0 5 7).bind fun t341 => (if t341 = true then ((spec_l10Name.f k a0_3).bind fun t342 => (if t342 = true then ((spec_l13Text.f k a0_0 a0_1 a0_2 a0_3).bind fun t343 => (some (t343, 0))) else (some ((⟨#[]⟩ : ByteArray), 1)))) else ((spec_l13Text.f k a0_0 a0_1 a0_2 a0_3).bind fun t344 => (some (t344, 0))))) = some (r1, r2) := by rw [if_pos rfl] at H; exact H
    clear H
    have H := H1
    clear H1
    replace H := Option.bind_eq_some_iff.mp H
    obtain ⟨t341, A80, H⟩ := H
    replace H : (if t341 = true then ((spec_l10Name.f k a0_3).bind fun t342 => (if t342 = true then ((spec_l13Text.f k a0_0 a0_1 a0_2 a0_3).bind fun t343 => (some (t343, 0))) else (some ((⟨#[]⟩ : ByteArray), 1)))) else ((spec_l13Text.f k a0_0 a0_1 a0_2 a0_3).bind fun t344 => (some (t344, 0)))) = some (r1, r2) := H
    have A8 := zm A80
    clear A80
    by_cases c9 : t341 = true
    ·subst c9
     have H1 : ((spec_l10Name.f k a0_3).bind fun t342 => (if t342 = true then ((spec_l13Text.f k a0_0 a0_1 a0_2 a0_3).bind fun t343 => (some (t343, 0))) else (some ((⟨#[]⟩ : ByteArray), 1)))) = some (r1, r2) := by rw [if_pos rfl] at H; exact H
     clear H
     have H := H1
     clear H1
     replace H := Option.bind_eq_some_iff.mp H
     obtain ⟨t342, A100, H⟩ := H
     replace H : (if t342 = true then ((spec_l13Text.f k a0_0 a0_1 a0_2 a0_3).bind fun t343 => (some (t343, 0))) else (some ((⟨#[]⟩ : ByteArray), 1))) = some (r1, r2) := H
     have A10 := zm A100
     clear A100
     by_cases c11 : t342 = true
     ·subst c11
      have H1 : ((spec_l13Text.f k a0_0 a0_1 a0_2 a0_3).bind fun t343 => (some (t343, 0))) = some (r1, r2) := by rw [if_pos rfl] at H; exact H
      clear H
      have H := H1
      clear H1
      replace H := Option.bind_eq_some_iff.mp H
      obtain ⟨t343, A120, H⟩ := H
      replace H : (some (t343, 0)) = some (r1, r2) := H
      have A12 := zm A120
      clear A120
      simp only [Option.some.injEq, Prod.mk.injEq] at H
      obtain ⟨rfl, rfl⟩ := H
      go_enter Tryd.func13, Tryd.ntmps13
      go_wp2_with (first | ((with_reducible refine gate_dst (N := 1) rfl ?_); refine box_event ?hg (N := 1) ?hd (cs := #[.int .i64 a0_0, .int .i64 a0_1, .int .i64 a0_2, .string a0_3]) (t := 23) ?hr ?_; (case hd => rfl); (case hg => rfl); (case hr => first | (go_simp; done) | (go_simp; rfl)); intro gb337 hg w13 hbox hb; have n0_ := zm (below_step (zg_0 HB.out) hb); have n1_ := zm (hbox); have n2_ := zm ((by rw [hg]; exact (below_size (zg_0 HB.out)) : w.heap.size ≤ gb337)); have n3_ := zm ((by rw [hg]; exact (below_size (zg_0 HB.out)) : w.heap.size ≤ gb337)); clear HB; have HB := n0_; have Za := n1_; have Zc := n2_; have Zb := n3_; clear n0_ n1_ n2_ n3_; clear hb hbox hg; have hcz14_0 : w13.cell? ⟨gb337, 0, none⟩ = some (.int .i64 a0_0) := (blk_cell Za.out 0).trans rfl; have hcz14_1 : w13.cell? ⟨gb337, 1, none⟩ = some (.int .i64 a0_1) := (blk_cell Za.out 1).trans rfl; have hcz14_2 : w13.cell? ⟨gb337, 2, none⟩ = some (.int .i64 a0_2) := (blk_cell Za.out 2).trans rfl; have hcz14_3 : w13.cell? ⟨gb337, 3, none⟩ = some (.string a0_3) := (blk_cell Za.out 3).trans rfl; have hfz14_0 := blk_frozen Za.out 0; have hfz14_1 := blk_frozen Za.out 1; have hfz14_2 := blk_frozen Za.out 2; have hfz14_3 := blk_frozen Za.out 3) | ((with_reducible refine gate_callee (f := 39) rfl ?_); refine goesL_ (some 5) rfl rfl Tryd.func39 (by kernel_rfl) rfl #[.agg #[.int .i64 a0_0, .int .i64 a0_1, .int .i64 a0_2, .string a0_3]] rfl zq ?_; (with_reducible refine (spec_ReqOK.calls k a0_0 a0_1 a0_2 a0_3 true _ A2.out).mono ?_); rintro e w15 ⟨rfl, hb⟩; refine ⟨_, rfl, ?_⟩; have n0_ := zm (blk_below (g := gb337) (o := .cells #[.int .i64 a0_0, .int .i64 a0_1, .int .i64 a0_2, .string a0_3] 23 (0, 0)) (zg_1 Za.out) hb); have n1_ := zm (below_step (zg_2 HB.out Zb.out) hb); clear Za; clear HB; have Za := n0_; have HB := n1_; clear n0_ n1_; (try clear hb); (try clear hb2); (try clear hk); (try clear hi); have hcz16_0 : w15.cell? ⟨gb337, 0, none⟩ = some (.int .i64 a0_0) := (blk_cell Za.out 0).trans rfl; have hcz16_1 : w15.cell? ⟨gb337, 1, none⟩ = some (.int .i64 a0_1) := (blk_cell Za.out 1).trans rfl; have hcz16_2 : w15.cell? ⟨gb337, 2, none⟩ = some (.int .i64 a0_2) := (blk_cell Za.out 2).trans rfl; have hcz16_3 : w15.cell? ⟨gb337, 3, none⟩ = some (.string a0_3) := (blk_cell Za.out 3).trans rfl; have hfz16_0 := blk_frozen Za.out 0; have hfz16_1 := blk_frozen Za.out 1; have hfz16_2 := blk_frozen Za.out 2; have hfz16_3 := blk_frozen Za.out 3) | (go_at_call 40; (with_reducible refine (spec_l02Int.calls a0_1 true _ A4.out).mono ?_); rintro e w' ⟨rfl, ⟨nd, rfl⟩⟩) | (go_at_call 40; (with_reducible refine (spec_l02Int.calls a0_2 true _ A6.out).mono ?_); rintro e w' ⟨rfl, ⟨nd, rfl⟩⟩) | (go_at_call 41; (with_reducible refine (spec_l01In.calls a0_0 5 7 true _ A8.out).mono ?_); rintro e w' ⟨rfl, ⟨nd, rfl⟩⟩) | (go_at_call 42; (with_reducible refine (spec_l10Name.calls k a0_3 true _ A10.out).mono ?_); rintro e w' ⟨rfl, ⟨nd, rfl⟩⟩) | ((with_reducible refine gate_callee (f := 43) rfl ?_); refine goesL_ (some 31) rfl rfl Tryd.func43 (by kernel_rfl) rfl #[.agg #[.int .i64 a0_0, .int .i64 a0_1, .int .i64 a0_2, .string a0_3]] rfl zq ?_; (with_reducible refine (spec_l13Text.calls k a0_0 a0_1 a0_2 a0_3 t343 _ A12.out).mono ?_); rintro e w17 ⟨rfl, hb⟩; refine ⟨_, rfl, ?_⟩; have n0_ := zm (blk_below (g := gb337) (o := .cells #[.int .i64 a0_0, .int .i64 a0_1, .int .i64 a0_2, .string a0_3] 23 (0, 0)) (zg_1 Za.out) hb); have n1_ := zm (below_step (zg_2 HB.out Zb.out) hb); clear Za; clear HB; have Za := n0_; have HB := n1_; clear n0_ n1_; (try clear hb); (try clear hb2); (try clear hk); (try clear hi)))
      go_ret2
      exact ⟨by first | rfl | (simp [errW_none, errW_some] <;> rfl) | (simp [*, errW_none, errW_some] <;> rfl), zg_2 HB.out Zb.out⟩
     ·replace c11 := Bool.eq_false_iff.mpr c11
      subst c11
      have H1 : (some ((⟨#[]⟩ : ByteArray), 1)) = some (r1, r2) := by rw [if_neg (show ¬ (false = true) by decide)] at H; exact H
      clear H
      have H := H1
      clear H1
      simp only [Option.some.injEq, Prod.mk.injEq] at H
      obtain ⟨rfl, rfl⟩ := H
      go_enter Tryd.func13, Tryd.ntmps13
      go_wp2_with (first | ((with_reducible refine gate_dst (N := 1) rfl ?_); refine box_event ?hg (N := 1) ?hd (cs := #[.int .i64 a0_0, .int .i64 a0_1, .int .i64 a0_2, .string a0_3]) (t := 23) ?hr ?_; (case hd => rfl); (case hg => rfl); (case hr => first | (go_simp; done) | (go_simp; rfl)); intro gb337 hg w18 hbox hb; have n0_ := zm (below_step (zg_0 HB.out) hb); have n1_ := zm (hbox); have n2_ := zm ((by rw [hg]; exact (below_size (zg_0 HB.out)) : w.heap.size ≤ gb337)); have n3_ := zm ((by rw [hg]; exact (below_size (zg_0 HB.out)) : w.heap.size ≤ gb337)); clear HB; have HB := n0_; have Za := n1_; have Zc := n2_; have Zb := n3_; clear n0_ n1_ n2_ n3_; clear hb hbox hg; have hcz19_0 : w18.cell? ⟨gb337, 0, none⟩ = some (.int .i64 a0_0) := (blk_cell Za.out 0).trans rfl; have hcz19_1 : w18.cell? ⟨gb337, 1, none⟩ = some (.int .i64 a0_1) := (blk_cell Za.out 1).trans rfl; have hcz19_2 : w18.cell? ⟨gb337, 2, none⟩ = some (.int .i64 a0_2) := (blk_cell Za.out 2).trans rfl; have hcz19_3 : w18.cell? ⟨gb337, 3, none⟩ = some (.string a0_3) := (blk_cell Za.out 3).trans rfl; have hfz19_0 := blk_frozen Za.out 0; have hfz19_1 := blk_frozen Za.out 1; have hfz19_2 := blk_frozen Za.out 2; have hfz19_3 := blk_frozen Za.out 3) | ((with_reducible refine gate_callee (f := 39) rfl ?_); refine goesL_ (some 5) rfl rfl Tryd.func39 (by kernel_rfl) rfl #[.agg #[.int .i64 a0_0, .int .i64 a0_1, .int .i64 a0_2, .string a0_3]] rfl zq ?_; (with_reducible refine (spec_ReqOK.calls k a0_0 a0_1 a0_2 a0_3 true _ A2.out).mono ?_); rintro e w20 ⟨rfl, hb⟩; refine ⟨_, rfl, ?_⟩; have n0_ := zm (blk_below (g := gb337) (o := .cells #[.int .i64 a0_0, .int .i64 a0_1, .int .i64 a0_2, .string a0_3] 23 (0, 0)) (zg_1 Za.out) hb); have n1_ := zm (below_step (zg_2 HB.out Zb.out) hb); clear Za; clear HB; have Za := n0_; have HB := n1_; clear n0_ n1_; (try clear hb); (try clear hb2); (try clear hk); (try clear hi); have hcz21_0 : w20.cell? ⟨gb337, 0, none⟩ = some (.int .i64 a0_0) := (blk_cell Za.out 0).trans rfl; have hcz21_1 : w20.cell? ⟨gb337, 1, none⟩ = some (.int .i64 a0_1) := (blk_cell Za.out 1).trans rfl; have hcz21_2 : w20.cell? ⟨gb337, 2, none⟩ = some (.int .i64 a0_2) := (blk_cell Za.out 2).trans rfl; have hcz21_3 : w20.cell? ⟨gb337, 3, none⟩ = some (.string a0_3) := (blk_cell Za.out 3).trans rfl; have hfz21_0 := blk_frozen Za.out 0; have hfz21_1 := blk_frozen Za.out 1; have hfz21_2 := blk_frozen Za.out 2; have hfz21_3 := blk_frozen Za.out 3) | (go_at_call 40; (with_reducible refine (spec_l02Int.calls a0_1 true _ A4.out).mono ?_); rintro e w' ⟨rfl, ⟨nd, rfl⟩⟩) | (go_at_call 40; (with_reducible refine (spec_l02Int.calls a0_2 true _ A6.out).mono ?_); rintro e w' ⟨rfl, ⟨nd, rfl⟩⟩) | (go_at_call 41; (with_reducible refine (spec_l01In.calls a0_0 5 7 true _ A8.out).mono ?_); rintro e w' ⟨rfl, ⟨nd, rfl⟩⟩) | (go_at_call 42; (with_reducible refine (spec_l10Name.calls k a0_3 false _ A10.out).mono ?_); rintro e w' ⟨rfl, ⟨nd, rfl⟩⟩))
      go_ret2
      exact ⟨by first | rfl | (simp [errW_none, errW_some] <;> rfl) | (simp [*, errW_none, errW_some] <;> rfl), zg_2 HB.out Zb.out⟩
    ·replace c9 := Bool.eq_false_iff.mpr c9
     subst c9
     have H1 : ((spec_l13Text.f k a0_0 a0_1 a0_2 a0_3).bind fun t344 => (some (t344, 0))) = some (r1, r2) := by rw [if_neg (show ¬ (false = true) by decide)] at H; exact H
     clear H
     have H := H1
     clear H1
     replace H := Option.bind_eq_some_iff.mp H
     obtain ⟨t344, A220, H⟩ := H
     replace H : (some (t344, 0)) = some (r1, r2) := H
     have A22 := zm A220
     clear A220
     simp only [Option.some.injEq, Prod.mk.injEq] at H
     obtain ⟨rfl, rfl⟩ := H
     go_enter Tryd.func13, Tryd.ntmps13
     go_wp2_with (first | ((with_reducible refine gate_dst (N := 1) rfl ?_); refine box_event ?hg (N := 1) ?hd (cs := #[.int .i64 a0_0, .int .i64 a0_1, .int .i64 a0_2, .string a0_3]) (t := 23) ?hr ?_; (case hd => rfl); (case hg => rfl); (case hr => first | (go_simp; done) | (go_simp; rfl)); intro gb337 hg w23 hbox hb; have n0_ := zm (below_step (zg_0 HB.out) hb); have n1_ := zm (hbox); have n2_ := zm ((by rw [hg]; exact (below_size (zg_0 HB.out)) : w.heap.size ≤ gb337)); have n3_ := zm ((by rw [hg]; exact (below_size (zg_0 HB.out)) : w.heap.size ≤ gb337)); clear HB; have HB := n0_; have Za := n1_; have Zc := n2_; have Zb := n3_; clear n0_ n1_ n2_ n3_; clear hb hbox hg; have hcz24_0 : w23.cell? ⟨gb337, 0, none⟩ = some (.int .i64 a0_0) := (blk_cell Za.out 0).trans rfl; have hcz24_1 : w23.cell? ⟨gb337, 1, none⟩ = some (.int .i64 a0_1) := (blk_cell Za.out 1).trans rfl; have hcz24_2 : w23.cell? ⟨gb337, 2, none⟩ = some (.int .i64 a0_2) := (blk_cell Za.out 2).trans rfl; have hcz24_3 : w23.cell? ⟨gb337, 3, none⟩ = some (.string a0_3) := (blk_cell Za.out 3).trans rfl; have hfz24_0 := blk_frozen Za.out 0; have hfz24_1 := blk_frozen Za.out 1; have hfz24_2 := blk_frozen Za.out 2; have hfz24_3 := blk_frozen Za.out 3) | ((with_reducible refine gate_callee (f := 39) rfl ?_); refine goesL_ (some 5) rfl rfl Tryd.func39 (by kernel_rfl) rfl #[.agg #[.int .i64 a0_0, .int .i64 a0_1, .int .i64 a0_2, .string a0_3]] rfl zq ?_; (with_reducible refine (spec_ReqOK.calls k a0_0 a0_1 a0_2 a0_3 true _ A2.out).mono ?_); rintro e w25 ⟨rfl, hb⟩; refine ⟨_, rfl, ?_⟩; have n0_ := zm (blk_below (g := gb337) (o := .cells #[.int .i64 a0_0, .int .i64 a0_1, .int .i64 a0_2, .string a0_3] 23 (0, 0)) (zg_1 Za.out) hb); have n1_ := zm (below_step (zg_2 HB.out Zb.out) hb); clear Za; clear HB; have Za := n0_; have HB := n1_; clear n0_ n1_; (try clear hb); (try clear hb2); (try clear hk); (try clear hi); have hcz26_0 : w25.cell? ⟨gb337, 0, none⟩ = some (.int .i64 a0_0) := (blk_cell Za.out 0).trans rfl; have hcz26_1 : w25.cell? ⟨gb337, 1, none⟩ = some (.int .i64 a0_1) := (blk_cell Za.out 1).trans rfl; have hcz26_2 : w25.cell? ⟨gb337, 2, none⟩ = some (.int .i64 a0_2) := (blk_cell Za.out 2).trans rfl; have hcz26_3 : w25.cell? ⟨gb337, 3, none⟩ = some (.string a0_3) := (blk_cell Za.out 3).trans rfl; have hfz26_0 := blk_frozen Za.out 0; have hfz26_1 := blk_frozen Za.out 1; have hfz26_2 := blk_frozen Za.out 2; have hfz26_3 := blk_frozen Za.out 3) | (go_at_call 40; (with_reducible refine (spec_l02Int.calls a0_1 true _ A4.out).mono ?_); rintro e w' ⟨rfl, ⟨nd, rfl⟩⟩) | (go_at_call 40; (with_reducible refine (spec_l02Int.calls a0_2 true _ A6.out).mono ?_); rintro e w' ⟨rfl, ⟨nd, rfl⟩⟩) | (go_at_call 41; (with_reducible refine (spec_l01In.calls a0_0 5 7 false _ A8.out).mono ?_); rintro e w' ⟨rfl, ⟨nd, rfl⟩⟩) | ((with_reducible refine gate_callee (f := 43) rfl ?_); refine goesL_ (some 31) rfl rfl Tryd.func43 (by kernel_rfl) rfl #[.agg #[.int .i64 a0_0, .int .i64 a0_1, .int .i64 a0_2, .string a0_3]] rfl zq ?_; (with_reducible refine (spec_l13Text.calls k a0_0 a0_1 a0_2 a0_3 t344 _ A22.out).mono ?_); rintro e w27 ⟨rfl, hb⟩; refine ⟨_, rfl, ?_⟩; have n0_ := zm (blk_below (g := gb337) (o := .cells #[.int .i64 a0_0, .int .i64 a0_1, .int .i64 a0_2, .string a0_3] 23 (0, 0)) (zg_1 Za.out) hb); have n1_ := zm (below_step (zg_2 HB.out Zb.out) hb); clear Za; clear HB; have Za := n0_; have HB := n1_; clear n0_ n1_; (try clear hb); (try clear hb2); (try clear hk); (try clear hi)))
     go_ret2
     exact ⟨by first | rfl | (simp [errW_none, errW_some] <;> rfl) | (simp [*, errW_none, errW_some] <;> rfl), zg_2 HB.out Zb.out⟩
   ·replace c7 := Bool.eq_false_iff.mpr c7
    subst c7
    have H1 : (some ((⟨#[]⟩ : ByteArray), 1)) = some (r1, r2) := by rw [if_neg (show ¬ (false = true) by decide)] at H; exact H
    clear H
    have H := H1
    clear H1
    simp only [Option.some.injEq, Prod.mk.injEq] at H
    obtain ⟨rfl, rfl⟩ := H
    go_enter Tryd.func13, Tryd.ntmps13
    go_wp2_with (first | ((with_reducible refine gate_dst (N := 1) rfl ?_); refine box_event ?hg (N := 1) ?hd (cs := #[.int .i64 a0_0, .int .i64 a0_1, .int .i64 a0_2, .string a0_3]) (t := 23) ?hr ?_; (case hd => rfl); (case hg => rfl); (case hr => first | (go_simp; done) | (go_simp; rfl)); intro gb337 hg w28 hbox hb; have n0_ := zm (below_step (zg_0 HB.out) hb); have n1_ := zm (hbox); have n2_ := zm ((by rw [hg]; exact (below_size (zg_0 HB.out)) : w.heap.size ≤ gb337)); have n3_ := zm ((by rw [hg]; exact (below_size (zg_0 HB.out)) : w.heap.size ≤ gb337)); clear HB; have HB := n0_; have Za := n1_; have Zc := n2_; have Zb := n3_; clear n0_ n1_ n2_ n3_; clear hb hbox hg; have hcz29_0 : w28.cell? ⟨gb337, 0, none⟩ = some (.int .i64 a0_0) := (blk_cell Za.out 0).trans rfl; have hcz29_1 : w28.cell? ⟨gb337, 1, none⟩ = some (.int .i64 a0_1) := (blk_cell Za.out 1).trans rfl; have hcz29_2 : w28.cell? ⟨gb337, 2, none⟩ = some (.int .i64 a0_2) := (blk_cell Za.out 2).trans rfl; have hcz29_3 : w28.cell? ⟨gb337, 3, none⟩ = some (.string a0_3) := (blk_cell Za.out 3).trans rfl; have hfz29_0 := blk_frozen Za.out 0; have hfz29_1 := blk_frozen Za.out 1; have hfz29_2 := blk_frozen Za.out 2; have hfz29_3 := blk_frozen Za.out 3) | ((with_reducible refine gate_callee (f := 39) rfl ?_); refine goesL_ (some 5) rfl rfl Tryd.func39 (by kernel_rfl) rfl #[.agg #[.int .i64 a0_0, .int .i64 a0_1, .int .i64 a0_2, .string a0_3]] rfl zq ?_; (with_reducible refine (spec_ReqOK.calls k a0_0 a0_1 a0_2 a0_3 true _ A2.out).mono ?_); rintro e w30 ⟨rfl, hb⟩; refine ⟨_, rfl, ?_⟩; have n0_ := zm (blk_below (g := gb337) (o := .cells #[.int .i64 a0_0, .int .i64 a0_1, .int .i64 a0_2, .string a0_3] 23 (0, 0)) (zg_1 Za.out) hb); have n1_ := zm (below_step (zg_2 HB.out Zb.out) hb); clear Za; clear HB; have Za := n0_; have HB := n1_; clear n0_ n1_; (try clear hb); (try clear hb2); (try clear hk); (try clear hi); have hcz31_0 : w30.cell? ⟨gb337, 0, none⟩ = some (.int .i64 a0_0) := (blk_cell Za.out 0).trans rfl; have hcz31_1 : w30.cell? ⟨gb337, 1, none⟩ = some (.int .i64 a0_1) := (blk_cell Za.out 1).trans rfl; have hcz31_2 : w30.cell? ⟨gb337, 2, none⟩ = some (.int .i64 a0_2) := (blk_cell Za.out 2).trans rfl; have hcz31_3 : w30.cell? ⟨gb337, 3, none⟩ = some (.string a0_3) := (blk_cell Za.out 3).trans rfl; have hfz31_0 := blk_frozen Za.out 0; have hfz31_1 := blk_frozen Za.out 1; have hfz31_2 := blk_frozen Za.out 2; have hfz31_3 := blk_frozen Za.out 3) | (go_at_call 40; (with_reducible refine (spec_l02Int.calls a0_1 true _ A4.out).mono ?_); rintro e w' ⟨rfl, ⟨nd, rfl⟩⟩) | (go_at_call 40; (with_reducible refine (spec_l02Int.calls a0_2 false _ A6.out).mono ?_); rintro e w' ⟨rfl, ⟨nd, rfl⟩⟩))
    go_ret2
    exact ⟨by first | rfl | (simp [errW_none, errW_some] <;> rfl) | (simp [*, errW_none, errW_some] <;> rfl), zg_2 HB.out Zb.out⟩
  ·replace c5 := Bool.eq_false_iff.mpr c5
   subst c5
   have H1 : (some ((⟨#[]⟩ : ByteArray), 1)) = some (r1, r2) := by rw [if_neg (show ¬ (false = true) by decide)] at H; exact H
   clear H
   have H := H1
   clear H1
   simp only [Option.some.injEq, Prod.mk.injEq] at H
   obtain ⟨rfl, rfl⟩ := H
   go_enter Tryd.func13, Tryd.ntmps13
   go_wp2_with (first | ((with_reducible refine gate_dst (N := 1) rfl ?_); refine box_event ?hg (N := 1) ?hd (cs := #[.int .i64 a0_0, .int .i64 a0_1, .int .i64 a0_2, .string a0_3]) (t := 23) ?hr ?_; (case hd => rfl); (case hg => rfl); (case hr => first | (go_simp; done) | (go_simp; rfl)); intro gb337 hg w32 hbox hb; have n0_ := zm (below_step (zg_0 HB.out) hb); have n1_ := zm (hbox); have n2_ := zm ((by rw [hg]; exact (below_size (zg_0 HB.out)) : w.heap.size ≤ gb337)); have n3_ := zm ((by rw [hg]; exact (below_size (zg_0 HB.out)) : w.heap.size ≤ gb337)); clear HB; have HB := n0_; have Za := n1_; have Zc := n2_; have Zb := n3_; clear n0_ n1_ n2_ n3_; clear hb hbox hg; have hcz33_0 : w32.cell? ⟨gb337, 0, none⟩ = some (.int .i64 a0_0) := (blk_cell Za.out 0).trans rfl; have hcz33_1 : w32.cell? ⟨gb337, 1, none⟩ = some (.int .i64 a0_1) := (blk_cell Za.out 1).trans rfl; have hcz33_2 : w32.cell? ⟨gb337, 2, none⟩ = some (.int .i64 a0_2) := (blk_cell Za.out 2).trans rfl; have hcz33_3 : w32.cell? ⟨gb337, 3, none⟩ = some (.string a0_3) := (blk_cell Za.out 3).trans rfl; have hfz33_0 := blk_frozen Za.out 0; have hfz33_1 := blk_frozen Za.out 1; have hfz33_2 := blk_frozen Za.out 2; have hfz33_3 := blk_frozen Za.out 3) | ((with_reducible refine gate_callee (f := 39) rfl ?_); refine goesL_ (some 5) rfl rfl Tryd.func39 (by kernel_rfl) rfl #[.agg #[.int .i64 a0_0, .int .i64 a0_1, .int .i64 a0_2, .string a0_3]] rfl zq ?_; (with_reducible refine (spec_ReqOK.calls k a0_0 a0_1 a0_2 a0_3 true _ A2.out).mono ?_); rintro e w34 ⟨rfl, hb⟩; refine ⟨_, rfl, ?_⟩; have n0_ := zm (blk_below (g := gb337) (o := .cells #[.int .i64 a0_0, .int .i64 a0_1, .int .i64 a0_2, .string a0_3] 23 (0, 0)) (zg_1 Za.out) hb); have n1_ := zm (below_step (zg_2 HB.out Zb.out) hb); clear Za; clear HB; have Za := n0_; have HB := n1_; clear n0_ n1_; (try clear hb); (try clear hb2); (try clear hk); (try clear hi); have hcz35_0 : w34.cell? ⟨gb337, 0, none⟩ = some (.int .i64 a0_0) := (blk_cell Za.out 0).trans rfl; have hcz35_1 : w34.cell? ⟨gb337, 1, none⟩ = some (.int .i64 a0_1) := (blk_cell Za.out 1).trans rfl; have hcz35_2 : w34.cell? ⟨gb337, 2, none⟩ = some (.int .i64 a0_2) := (blk_cell Za.out 2).trans rfl; have hcz35_3 : w34.cell? ⟨gb337, 3, none⟩ = some (.string a0_3) := (blk_cell Za.out 3).trans rfl; have hfz35_0 := blk_frozen Za.out 0; have hfz35_1 := blk_frozen Za.out 1; have hfz35_2 := blk_frozen Za.out 2; have hfz35_3 := blk_frozen Za.out 3) | (go_at_call 40; (with_reducible refine (spec_l02Int.calls a0_1 false _ A4.out).mono ?_); rintro e w' ⟨rfl, ⟨nd, rfl⟩⟩))
   go_ret2
   exact ⟨by first | rfl | (simp [errW_none, errW_some] <;> rfl) | (simp [*, errW_none, errW_some] <;> rfl), zg_2 HB.out Zb.out⟩
 ·replace c3 := Bool.eq_false_iff.mpr c3
  subst c3
  have H1 : (some ((⟨#[]⟩ : ByteArray), 1)) = some (r1, r2) := by rw [if_neg (show ¬ (false = true) by decide)] at H; exact H
  clear H
  have H := H1
  clear H1
  simp only [Option.some.injEq, Prod.mk.injEq] at H
  obtain ⟨rfl, rfl⟩ := H
  go_enter Tryd.func13, Tryd.ntmps13
  go_wp2_with (first | ((with_reducible refine gate_dst (N := 1) rfl ?_); refine box_event ?hg (N := 1) ?hd (cs := #[.int .i64 a0_0, .int .i64 a0_1, .int .i64 a0_2, .string a0_3]) (t := 23) ?hr ?_; (case hd => rfl); (case hg => rfl); (case hr => first | (go_simp; done) | (go_simp; rfl)); intro gb337 hg w36 hbox hb; have n0_ := zm (below_step (zg_0 HB.out) hb); have n1_ := zm (hbox); have n2_ := zm ((by rw [hg]; exact (below_size (zg_0 HB.out)) : w.heap.size ≤ gb337)); have n3_ := zm ((by rw [hg]; exact (below_size (zg_0 HB.out)) : w.heap.size ≤ gb337)); clear HB; have HB := n0_; have Za := n1_; have Zc := n2_; have Zb := n3_; clear n0_ n1_ n2_ n3_; clear hb hbox hg; have hcz37_0 : w36.cell? ⟨gb337, 0, none⟩ = some (.int .i64 a0_0) := (blk_cell Za.out 0).trans rfl; have hcz37_1 : w36.cell? ⟨gb337, 1, none⟩ = some (.int .i64 a0_1) := (blk_cell Za.out 1).trans rfl; have hcz37_2 : w36.cell? ⟨gb337, 2, none⟩ = some (.int .i64 a0_2) := (blk_cell Za.out 2).trans rfl; have hcz37_3 : w36.cell? ⟨gb337, 3, none⟩ = some (.string a0_3) := (blk_cell Za.out 3).trans rfl; have hfz37_0 := blk_frozen Za.out 0; have hfz37_1 := blk_frozen Za.out 1; have hfz37_2 := blk_frozen Za.out 2; have hfz37_3 := blk_frozen Za.out 3) | ((with_reducible refine gate_callee (f := 39) rfl ?_); refine goesL_ (some 5) rfl rfl Tryd.func39 (by kernel_rfl) rfl #[.agg #[.int .i64 a0_0, .int .i64 a0_1, .int .i64 a0_2, .string a0_3]] rfl zq ?_; (with_reducible refine (spec_ReqOK.calls k a0_0 a0_1 a0_2 a0_3 false _ A2.out).mono ?_); rintro e w38 ⟨rfl, hb⟩; refine ⟨_, rfl, ?_⟩; have n0_ := zm (blk_below (g := gb337) (o := .cells #[.int .i64 a0_0, .int .i64 a0_1, .int .i64 a0_2, .string a0_3] 23 (0, 0)) (zg_1 Za.out) hb); have n1_ := zm (below_step (zg_2 HB.out Zb.out) hb); clear Za; clear HB; have Za := n0_; have HB := n1_; clear n0_ n1_; (try clear hb); (try clear hb2); (try clear hk); (try clear hi)))
  go_ret2
  exact ⟨by first | rfl | (simp [errW_none, errW_some] <;> rfl) | (simp [*, errW_none, errW_some] <;> rfl), zg_2 HB.out Zb.out⟩
end
section
attribute [local go_sem high] eqA23
/-! ### laws_FnReqText: function 4 -/
def laws_FnReqText.f (k : Nat) (l0 : List Int) : Option (Bool) := if (l0.length : Int) > 1048576 then (some true) else ((spec_ReqOf.f k l0).bind fun bt345 => ((impl_ReqText.f k bt345.1 bt345.2.1 bt345.2.2.1 bt345.2.2.2).bind fun bt350 => ((spec_ReqText.f k bt345.1 bt345.2.1 bt345.2.2.1 bt345.2.2.2).bind fun bt352 => ((impl_ReadReq.f k bt350.1).bind fun bt354 => (if bt350.1.size + 4 ≤ 9223372036854775807 then ((impl_ReadReq.f k (bt350.1 ++ (⟨#[32, 120, 32, 121]⟩ : ByteArray))).bind fun bt360 => (if bt350.2 = 0 then (if bt350.1.toList = bt352.1.toList then (if bt354.2.2.2.2 = 0 then (if (bt354.1 == bt345.1 && (bt354.2.1 == bt345.2.1 && (bt354.2.2.1 == bt345.2.2.1 && (bt354.2.2.2.1.toList == bt345.2.2.2.toList)))) = true then (some (bt360.2.2.2.2 == 3)) else (some false)) else (some false)) else (some false)) else (some false))) else (none))))))
theorem laws_FnReqText.mono : ∀ a0 k, LeO (laws_FnReqText.f k a0) (laws_FnReqText.f (k + 1) a0) := by
  intro a0 k
  unfold laws_FnReqText.f
  repeat' first
      | (with_reducible exact impl_ReadReq.mono _ _)
      | (with_reducible exact impl_ReqText.mono _ _ _ _ _)
      | (with_reducible exact spec_ReqOf.mono _ _)
      | (with_reducible exact spec_ReqText.mono _ _ _ _ _)
      | (with_reducible exact LeO.refl _)
      | (with_reducible exact LeO.none _)
      | (with_reducible refine LeO.ite ?_ ?_)
      | (with_reducible refine LeO.bind ?_ (fun _ => ?_))
      | exact impl_ReadReq.mono _ _
      | exact impl_ReqText.mono _ _ _ _ _
      | exact spec_ReqOf.mono _ _
      | exact spec_ReqText.mono _ _ _ _ _
      | exact LeO.none _
      | refine LeO.ite ?_ ?_
      | refine LeO.bind ?_ (fun _ => ?_)
set_option maxHeartbeats 8000000 in
set_option maxRecDepth 100000 in
theorem laws_FnReqText.calls (k : Nat) (A0 : Option Addr) (c0 : Nat) (l0 : List Int) (r : Bool) (w : World) (hr0 : Kd.C (Kd.int .u8) w A0 l0.length l0) (hc0 : l0.length ≤ c0) (h : laws_FnReqText.f k l0 = some r) (hr_ : Aside0 (r = true)) (HTB_ : TrydTab w := by first | exact HTB_ | exact TrydTab.to HTB_ HB.out | exact TrydTab.to HTB_ (by repeat (first | exact HB.out | apply below_alloc | apply pw_below_drewN | apply below_drew1 | refine below_set ?_ (Aside0.out (by assumption))))) :
    Calls Tryd.prog 4 #[.slice A0 l0.length c0] w fun e w' => e = .returned (.bool r) ∧ Below w.heap.size w w' := by
 have hu23 := Tryd.underlying23
 have HR0 := zm hr0
 have HC0 := zm hc0
 clear hr0 hc0
 have HB := zm (Below.refl w.heap.size w)
 have H : (if (l0.length : Int) > 1048576 then (some true) else ((spec_ReqOf.f k l0).bind fun bt345 => ((impl_ReqText.f k bt345.1 bt345.2.1 bt345.2.2.1 bt345.2.2.2).bind fun bt350 => ((spec_ReqText.f k bt345.1 bt345.2.1 bt345.2.2.1 bt345.2.2.2).bind fun bt352 => ((impl_ReadReq.f k bt350.1).bind fun bt354 => (if bt350.1.size + 4 ≤ 9223372036854775807 then ((impl_ReadReq.f k (bt350.1 ++ (⟨#[32, 120, 32, 121]⟩ : ByteArray))).bind fun bt360 => (if bt350.2 = 0 then (if bt350.1.toList = bt352.1.toList then (if bt354.2.2.2.2 = 0 then (if (bt354.1 == bt345.1 && (bt354.2.1 == bt345.2.1 && (bt354.2.2.1 == bt345.2.2.1 && (bt354.2.2.2.1.toList == bt345.2.2.2.toList)))) = true then (some (bt360.2.2.2.2 == 3)) else (some false)) else (some false)) else (some false)) else (some false))) else (none))))))) = some r := h
 clear h
 by_cases c2 : (l0.length : Int) > 1048576
 ·rw [if_pos c2] at H
  have c2b0 : decide (1048576 < (l0.length : Int)) = true := decide_eq_true c2
  have c2b1 : decide (1048576 < l0.length) = true := decide_eq_true (by omega)
  clear c2
  obtain rfl := Option.some.inj H
  go_enter Tryd.func4, Tryd.ntmps4
  go_wp2
  go_ret
  exact ⟨by first | rfl | (simp [errW_none, errW_some] <;> rfl) | (simp [*, errW_none, errW_some] <;> rfl), zg_0 HB.out⟩
 ·rw [if_neg c2] at H
  have c2b0 : decide (1048576 < (l0.length : Int)) = false := decide_eq_false c2
  have c2b1 : decide (1048576 < l0.length) = false := decide_eq_false (by omega)
  clear c2
  replace H := Option.bind_eq_some_iff.mp H
  obtain ⟨⟨t345, t346, t347, t348⟩, A30, H⟩ := H
  replace H : ((impl_ReqText.f k t345 t346 t347 t348).bind fun bt350 => ((spec_ReqText.f k t345 t346 t347 t348).bind fun bt352 => ((impl_ReadReq.f k bt350.1).bind fun bt354 => (if bt350.1.size + 4 ≤ 9223372036854775807 then ((impl_ReadReq.f k (bt350.1 ++ (⟨#[32, 120, 32, 121]⟩ : ByteArray))).bind fun bt360 => (if bt350.2 = 0 then (if bt350.1.toList = bt352.1.toList then (if bt354.2.2.2.2 = 0 then (if (bt354.1 == t345 && (bt354.2.1 == t346 && (bt354.2.2.1 == t347 && (bt354.2.2.2.1.toList == t348.toList)))) = true then (some (bt360.2.2.2.2 == 3)) else (some false)) else (some false)) else (some false)) else (some false))) else (none))))) = some r := H
  have A3 := zm A30
  clear A30
  replace H := Option.bind_eq_some_iff.mp H
  obtain ⟨⟨t350, t351⟩, A40, H⟩ := H
  replace H : ((spec_ReqText.f k t345 t346 t347 t348).bind fun bt352 => ((impl_ReadReq.f k t350).bind fun bt354 => (if t350.size + 4 ≤ 9223372036854775807 then ((impl_ReadReq.f k (t350 ++ (⟨#[32, 120, 32, 121]⟩ : ByteArray))).bind fun bt360 => (if t351 = 0 then (if t350.toList = bt352.1.toList then (if bt354.2.2.2.2 = 0 then (if (bt354.1 == t345 && (bt354.2.1 == t346 && (bt354.2.2.1 == t347 && (bt354.2.2.2.1.toList == t348.toList)))) = true then (some (bt360.2.2.2.2 == 3)) else (some false)) else (some false)) else (some false)) else (some false))) else (none)))) = some r := H
  have A4 := zm A40
  clear A40
  replace H := Option.bind_eq_some_iff.mp H
  obtain ⟨⟨t352, t353⟩, A50, H⟩ := H
  replace H : ((impl_ReadReq.f k t350).bind fun bt354 => (if t350.size + 4 ≤ 9223372036854775807 then ((impl_ReadReq.f k (t350 ++ (⟨#[32, 120, 32, 121]⟩ : ByteArray))).bind fun bt360 => (if t351 = 0 then (if t350.toList = t352.toList then (if bt354.2.2.2.2 = 0 then (if (bt354.1 == t345 && (bt354.2.1 == t346 && (bt354.2.2.1 == t347 && (bt354.2.2.2.1.toList == t348.toList)))) = true then (some (bt360.2.2.2.2 == 3)) else (some false)) else (some false)) else (some false)) else (some false))) else (none))) = some r := H
  have A5 := zm A50
  clear A50
  replace H := Option.bind_eq_some_iff.mp H
  obtain ⟨⟨t354, t355, t356, t357, t358⟩, A60, H⟩ := H
  replace H : (if t350.size + 4 ≤ 9223372036854775807 then ((impl_ReadReq.f k (t350 ++ (⟨#[32, 120, 32, 121]⟩ : ByteArray))).bind fun bt360 => (if t351 = 0 then (if t350.toList = t352.toList then (if t358 = 0 then (if (t354 == t345 && (t355 == t346 && (t356 == t347 && (t357.toList == t348.toList)))) = true then (some (bt360.2.2.2.2 == 3)) else (some false)) else (some false)) else (some false)) else (some false))) else (none)) = some r := H
  have A6 := zm A60
  clear A60
  by_cases c7 : t350.size + 4 ≤ 9223372036854775807
  ·rw [if_pos c7] at H
   have c7b0 := eq_true c7
   have c7b1 : decide (t350.size + 4 ≤ 9223372036854775807) = true := decide_eq_true c7
   try have c7b2 : (9223372036854775807 < t350.size + 4) = False := eq_false (Nat.not_lt.2 c7)
   replace H := Option.bind_eq_some_iff.mp H
   obtain ⟨⟨t360, t361, t362, t363, t364⟩, A80, H⟩ := H
   replace H : (if t351 = 0 then (if t350.toList = t352.toList then (if t358 = 0 then (if (t354 == t345 && (t355 == t346 && (t356 == t347 && (t357.toList == t348.toList)))) = true then (some (t364 == 3)) else (some false)) else (some false)) else (some false)) else (some false)) = some r := H
   have A8 := zm A80
   clear A80
   by_cases c9 : t351 = 0
   ·rw [if_pos c9] at H
    have c9b0 : (t351 == 0) = true := beq_iff_eq.mpr c9
    have c9b1 : (t351 != 0) = false := bne_eq_false_iff_eq.mpr c9
    clear c9
    by_cases c10 : t350.toList = t352.toList
    ·rw [if_pos c10] at H
     have c10b0 : (t350.toList == t352.toList) = true := beq_iff_eq.mpr c10
     have c10b1 : (t350.toList != t352.toList) = false := bne_eq_false_iff_eq.mpr c10
     clear c10
     by_cases c11 : t358 = 0
     ·rw [if_pos c11] at H
      have c11b0 : (t358 == 0) = true := beq_iff_eq.mpr c11
      have c11b1 : (t358 != 0) = false := bne_eq_false_iff_eq.mpr c11
      clear c11
      by_cases c12 : (t354 == t345 && (t355 == t346 && (t356 == t347 && (t357.toList == t348.toList)))) = true
      ·rw [if_pos c12] at H
       have c12b0 : (t354 == t345 && (t355 == t346 && (t356 == t347 && (t357.toList == t348.toList)))) = true := c12
       (try (have c12b1 : decide (t354 = t345 && (t355 == t346 && (t356 == t347 && (t357.toList == t348.toList)))) = true := by simpa using c12))
       (try (have c12b2 : (t354 == t345 && (t355 == t346 && (t356 == t347 && (t357.toList == t348.toList)))) = true := by simpa using c12))
       clear c12
       obtain rfl := Option.some.inj H
       go_enter Tryd.func4, Tryd.ntmps4
       go_wp2_with (first | ((with_reducible refine gate_callee (f := 11) rfl ?_); refine goesL_ (some 16) rfl rfl Tryd.func11 (by kernel_rfl) rfl #[.slice A0 l0.length c0] rfl zq ?_; (with_reducible refine (spec_ReqOf.calls k _ _ l0 t345 t346 t347 t348 _ ?side1 ?side2 A3.out).mono ?_); (case side1 => exact zC HR0.out); (case side2 => exact HC0.out); rintro e w13 ⟨rfl, hb⟩; refine ⟨_, rfl, ?_⟩; have n0_ := zm (below_step (zg_0 HB.out) hb); clear HB; have HB := n0_; clear n0_; (try clear hb); (try clear hb2); (try clear hk); (try clear hi)) | ((with_reducible refine gate_dst (N := 3) rfl ?_); refine box_event ?hg (N := 3) ?hd (cs := #[.int .i64 0, .int .i64 0, .int .i64 0, .string (⟨#[]⟩ : ByteArray)]) (t := 23) ?hr ?_; (case hd => rfl); (case hg => rfl); (case hr => first | (go_simp; done) | (go_simp; rfl)); intro gb349 hg w14 hbox hb; have n0_ := zm (below_step (zg_0 HB.out) hb); have n1_ := zm (hbox); have n2_ := zm ((by rw [hg]; exact (below_size (zg_0 HB.out)) : w.heap.size ≤ gb349)); have n3_ := zm ((by rw [hg]; exact (below_size (zg_0 HB.out)) : w.heap.size ≤ gb349)); clear HB; have HB := n0_; have Za := n1_; have Zm := n2_; have Zd := n3_; clear n0_ n1_ n2_ n3_; clear hb hbox hg; have hcz15_0 : w14.cell? ⟨gb349, 0, none⟩ = some (.int .i64 0) := (blk_cell Za.out 0).trans rfl; have hcz15_1 : w14.cell? ⟨gb349, 1, none⟩ = some (.int .i64 0) := (blk_cell Za.out 1).trans rfl; have hcz15_2 : w14.cell? ⟨gb349, 2, none⟩ = some (.int .i64 0) := (blk_cell Za.out 2).trans rfl; have hcz15_3 : w14.cell? ⟨gb349, 3, none⟩ = some (.string (⟨#[]⟩ : ByteArray)) := (blk_cell Za.out 3).trans rfl; have hfz15_0 := blk_frozen Za.out 0; have hfz15_1 := blk_frozen Za.out 1; have hfz15_2 := blk_frozen Za.out 2; have hfz15_3 := blk_frozen Za.out 3) | ((with_reducible refine gate_callee (f := 12) rfl ?_); refine goesL_ (some 19) rfl rfl Tryd.func12 (by kernel_rfl) rfl #[.agg #[.int .i64 t345, .int .i64 t346, .int .i64 t347, .string t348]] rfl zq ?_; (with_reducible refine (impl_ReqText.calls k t345 t346 t347 t348 t350 t351 _ A4.out).mono ?_); rintro e w16 ⟨rfl, hb⟩; refine ⟨_, rfl, ?_⟩; have n0_ := zm (blk_below (g := gb349) (o := .cells #[.int .i64 t345, .int .i64 t346, .int .i64 t347, .string t348] 23 (0, 0)) (by (with_reducible repeat (first | refine blk_drewN ?_ _ | refine blk_drew ?_ | refine blk_alloc ?_ _)); refine blk_put (cs := #[.int .i64 t345, .int .i64 t346, .int .i64 t347, .string (⟨#[]⟩ : ByteArray)]) ?_ 3 _ rfl; (with_reducible repeat (first | refine blk_drewN ?_ _ | refine blk_drew ?_ | refine blk_alloc ?_ _)); refine blk_put (cs := #[.int .i64 t345, .int .i64 t346, .int .i64 0, .string (⟨#[]⟩ : ByteArray)]) ?_ 2 _ rfl; (with_reducible repeat (first | refine blk_drewN ?_ _ | refine blk_drew ?_ | refine blk_alloc ?_ _)); refine blk_put (cs := #[.int .i64 t345, .int .i64 0, .int .i64 0, .string (⟨#[]⟩ : ByteArray)]) ?_ 1 _ rfl; (with_reducible repeat (first | refine blk_drewN ?_ _ | refine blk_drew ?_ | refine blk_alloc ?_ _)); refine blk_put (cs := #[.int .i64 0, .int .i64 0, .int .i64 0, .string (⟨#[]⟩ : ByteArray)]) ?_ 0 _ rfl; (with_reducible repeat (first | refine blk_drewN ?_ _ | refine blk_drew ?_ | refine blk_alloc ?_ _)); exact Za.out) hb); have n1_ := zm (below_step (zg_2 HB.out Zd.out) hb); clear Za; clear HB; have Za := n0_; have HB := n1_; clear n0_ n1_; (try clear hb); (try clear hb2); (try clear hk); (try clear hi); have hcz17_0 : w16.cell? ⟨gb349, 0, none⟩ = some (.int .i64 t345) := (blk_cell Za.out 0).trans rfl; have hcz17_1 : w16.cell? ⟨gb349, 1, none⟩ = some (.int .i64 t346) := (blk_cell Za.out 1).trans rfl; have hcz17_2 : w16.cell? ⟨gb349, 2, none⟩ = some (.int .i64 t347) := (blk_cell Za.out 2).trans rfl; have hcz17_3 : w16.cell? ⟨gb349, 3, none⟩ = some (.string t348) := (blk_cell Za.out 3).trans rfl; have hfz17_0 := blk_frozen Za.out 0; have hfz17_1 := blk_frozen Za.out 1; have hfz17_2 := blk_frozen Za.out 2; have hfz17_3 := blk_frozen Za.out 3) | ((with_reducible refine gate_callee (f := 13) rfl ?_); refine goesL_ (some 24) rfl rfl Tryd.func13 (by kernel_rfl) rfl #[.agg #[.int .i64 t345, .int .i64 t346, .int .i64 t347, .string t348]] rfl zq ?_; (with_reducible refine (spec_ReqText.calls k t345 t346 t347 t348 t352 t353 _ A5.out).mono ?_); rintro e w18 ⟨rfl, hb⟩; refine ⟨_, rfl, ?_⟩; have n0_ := zm (blk_below (g := gb349) (o := .cells #[.int .i64 t345, .int .i64 t346, .int .i64 t347, .string t348] 23 (0, 0)) (zg_1 Za.out) hb); have n1_ := zm (below_step (zg_2 HB.out Zd.out) hb); clear Za; clear HB; have Za := n0_; have HB := n1_; clear n0_ n1_; (try clear hb); (try clear hb2); (try clear hk); (try clear hi)) | ((with_reducible refine gate_callee (f := 9) rfl ?_); refine goesL_ (some 29) rfl rfl Tryd.func9 (by kernel_rfl) rfl #[.string t350] rfl zq ?_; (with_reducible refine (impl_ReadReq.calls k t350 t354 t355 t356 t357 t358 _ A6.out).mono ?_); rintro e w19 ⟨rfl, hb⟩; refine ⟨_, rfl, ?_⟩; have n0_ := zm (blk_below (g := gb349) (o := .cells #[.int .i64 t345, .int .i64 t346, .int .i64 t347, .string t348] 23 (0, 0)) (zg_1 Za.out) hb); have n1_ := zm (below_step (zg_2 HB.out Zd.out) hb); clear Za; clear HB; have Za := n0_; have HB := n1_; clear n0_ n1_; (try clear hb); (try clear hb2); (try clear hk); (try clear hi)) | ((with_reducible refine gate_dst (N := 8) rfl ?_); refine box_event ?hg (N := 8) ?hd (cs := #[.int .i64 0, .int .i64 0, .int .i64 0, .string (⟨#[]⟩ : ByteArray)]) (t := 23) ?hr ?_; (case hd => rfl); (case hg => rfl); (case hr => first | (go_simp; done) | (go_simp; rfl)); intro gb359 hg w20 hbox hb; have n0_ := zm (blk_below (g := gb349) (o := .cells #[.int .i64 t345, .int .i64 t346, .int .i64 t347, .string t348] 23 (0, 0)) (zg_1 Za.out) hb); have n1_ := zm (below_step (zg_2 HB.out Zd.out) hb); have n2_ := zm (hbox); have n3_ := zm ((by rw [hg]; exact (below_size (zg_2 HB.out Zd.out)) : w.heap.size ≤ gb359)); have n4_ := zm ((by rw [hg]; exact (below_size (zg_2 HB.out Zd.out)) : w.heap.size ≤ gb359)); have n5_ := zm ((by rw [hg]; exact Nat.ne_of_lt (blk_lt (g := gb349) (o := .cells #[.int .i64 t345, .int .i64 t346, .int .i64 t347, .string t348] 23 (0, 0)) (zg_1 Za.out)) : gb349 ≠ gb359)); have n6_ := zm ((by rw [hg]; exact Nat.ne_of_gt (blk_lt (g := gb349) (o := .cells #[.int .i64 t345, .int .i64 t346, .int .i64 t347, .string t348] 23 (0, 0)) (zg_1 Za.out)) : gb359 ≠ gb349)); clear Za; clear HB; have Za := n0_; have HB := n1_; have Zb := n2_; have Zn := n3_; have Zf := n4_; have Zc := n5_; have Zg := n6_; clear n0_ n1_ n2_ n3_ n4_ n5_ n6_; clear hb hbox hg; have hnb21 := Zg.out; have hnc21 := Zc.out; have hcz22_0 : w20.cell? ⟨gb359, 0, none⟩ = some (.int .i64 0) := (blk_cell Zb.out 0).trans rfl; have hcz22_1 : w20.cell? ⟨gb359, 1, none⟩ = some (.int .i64 0) := (blk_cell Zb.out 1).trans rfl; have hcz22_2 : w20.cell? ⟨gb359, 2, none⟩ = some (.int .i64 0) := (blk_cell Zb.out 2).trans rfl; have hcz22_3 : w20.cell? ⟨gb359, 3, none⟩ = some (.string (⟨#[]⟩ : ByteArray)) := (blk_cell Zb.out 3).trans rfl; have hfz22_0 := blk_frozen Zb.out 0; have hfz22_1 := blk_frozen Zb.out 1; have hfz22_2 := blk_frozen Zb.out 2; have hfz22_3 := blk_frozen Zb.out 3) | ((with_reducible refine gate_callee (f := 9) rfl ?_); refine goesL_ (some 35) rfl rfl Tryd.func9 (by kernel_rfl) rfl #[.string (t350 ++ (⟨#[32, 120, 32, 121]⟩ : ByteArray))] rfl zq ?_; (with_reducible refine (impl_ReadReq.calls k (t350 ++ (⟨#[32, 120, 32, 121]⟩ : ByteArray)) t360 t361 t362 t363 t364 _ A8.out).mono ?_); rintro e w23 ⟨rfl, hb⟩; refine ⟨_, rfl, ?_⟩; have n0_ := zm (blk_below (g := gb349) (o := .cells #[.int .i64 t345, .int .i64 t346, .int .i64 t347, .string t348] 23 (0, 0)) (by (with_reducible repeat (first | refine blk_drewN ?_ _ | refine blk_drew ?_ | refine blk_alloc ?_ _)); refine blk_far ?_ Zc.out _; (with_reducible repeat (first | refine blk_drewN ?_ _ | refine blk_drew ?_ | refine blk_alloc ?_ _)); refine blk_far ?_ Zc.out _; (with_reducible repeat (first | refine blk_drewN ?_ _ | refine blk_drew ?_ | refine blk_alloc ?_ _)); refine blk_far ?_ Zc.out _; (with_reducible repeat (first | refine blk_drewN ?_ _ | refine blk_drew ?_ | refine blk_alloc ?_ _)); refine blk_far ?_ Zc.out _; (with_reducible repeat (first | refine blk_drewN ?_ _ | refine blk_drew ?_ | refine blk_alloc ?_ _)); exact Za.out) hb); have n1_ := zm (blk_below (g := gb359) (o := .cells #[.int .i64 t354, .int .i64 t355, .int .i64 t356, .string t357] 23 (0, 0)) (by (with_reducible repeat (first | refine blk_drewN ?_ _ | refine blk_drew ?_ | refine blk_alloc ?_ _)); refine blk_put (cs := #[.int .i64 t354, .int .i64 t355, .int .i64 t356, .string (⟨#[]⟩ : ByteArray)]) ?_ 3 _ rfl; (with_reducible repeat (first | refine blk_drewN ?_ _ | refine blk_drew ?_ | refine blk_alloc ?_ _)); refine blk_put (cs := #[.int .i64 t354, .int .i64 t355, .int .i64 0, .string (⟨#[]⟩ : ByteArray)]) ?_ 2 _ rfl; (with_reducible repeat (first | refine blk_drewN ?_ _ | refine blk_drew ?_ | refine blk_alloc ?_ _)); refine blk_put (cs := #[.int .i64 t354, .int .i64 0, .int .i64 0, .string (⟨#[]⟩ : ByteArray)]) ?_ 1 _ rfl; (with_reducible repeat (first | refine blk_drewN ?_ _ | refine blk_drew ?_ | refine blk_alloc ?_ _)); refine blk_put (cs := #[.int .i64 0, .int .i64 0, .int .i64 0, .string (⟨#[]⟩ : ByteArray)]) ?_ 0 _ rfl; (with_reducible repeat (first | refine blk_drewN ?_ _ | refine blk_drew ?_ | refine blk_alloc ?_ _)); exact Zb.out) hb); have n2_ := zm (below_step (zg_3 HB.out Zd.out Zf.out) hb); clear Za; clear Zb; clear HB; have Za := n0_; have Zb := n1_; have HB := n2_; clear n0_ n1_ n2_; (try clear hb); (try clear hb2); (try clear hk); (try clear hi)) | ((with_reducible refine gate_dst (N := 10) rfl ?_); refine box_event ?hg (N := 10) ?hd (cs := #[.int .i64 0, .int .i64 0, .int .i64 0, .string (⟨#[]⟩ : ByteArray)]) (t := 23) ?hr ?_; (case hd => rfl); (case hg => rfl); (case hr => first | (go_simp; done) | (go_simp; rfl)); intro gb365 hg w24 hbox hb; have n0_ := zm (blk_below (g := gb349) (o := .cells #[.int .i64 t345, .int .i64 t346, .int .i64 t347, .string t348] 23 (0, 0)) (zg_1 Za.out) hb); have n1_ := zm (blk_below (g := gb359) (o := .cells #[.int .i64 t354, .int .i64 t355, .int .i64 t356, .string t357] 23 (0, 0)) (zg_1 Zb.out) hb); have n2_ := zm (below_step (zg_3 HB.out Zd.out Zf.out) hb); have n3_ := zm (hbox); have n4_ := zm ((by rw [hg]; exact (below_size (zg_3 HB.out Zd.out Zf.out)) : w.heap.size ≤ gb365)); have n5_ := zm ((by rw [hg]; exact (below_size (zg_3 HB.out Zd.out Zf.out)) : w.heap.size ≤ gb365)); have n6_ := zm ((by rw [hg]; exact Nat.ne_of_lt (blk_lt (g := gb349) (o := .cells #[.int .i64 t345, .int .i64 t346, .int .i64 t347, .string t348] 23 (0, 0)) (zg_1 Za.out)) : gb349 ≠ gb365)); have n7_ := zm ((by rw [hg]; exact Nat.ne_of_gt (blk_lt (g := gb349) (o := .cells #[.int .i64 t345, .int .i64 t346, .int .i64 t347, .string t348] 23 (0, 0)) (zg_1 Za.out)) : gb365 ≠ gb349)); have n8_ := zm ((by rw [hg]; exact Nat.ne_of_lt (blk_lt (g := gb359) (o := .cells #[.int .i64 t354, .int .i64 t355, .int .i64 t356, .string t357] 23 (0, 0)) (zg_1 Zb.out)) : gb359 ≠ gb365)); have n9_ := zm ((by rw [hg]; exact Nat.ne_of_gt (blk_lt (g := gb359) (o := .cells #[.int .i64 t354, .int .i64 t355, .int .i64 t356, .string t357] 23 (0, 0)) (zg_1 Zb.out)) : gb365 ≠ gb359)); clear Za; clear Zb; clear HB; have Za := n0_; have Zb := n1_; have HB := n2_; have Ze := n3_; have Zo := n4_; have Zl := n5_; have Zh := n6_; have Zi := n7_; have Zj := n8_; have Zk := n9_; clear n0_ n1_ n2_ n3_ n4_ n5_ n6_ n7_ n8_ n9_; clear hb hbox hg; have hnb25 := Zi.out; have hnc25 := Zh.out; have hnb26 := Zk.out; have hnc26 := Zj.out; have hcz27_0 : w24.cell? ⟨gb365, 0, none⟩ = some (.int .i64 0) := (blk_cell Ze.out 0).trans rfl; have hcz27_1 : w24.cell? ⟨gb365, 1, none⟩ = some (.int .i64 0) := (blk_cell Ze.out 1).trans rfl; have hcz27_2 : w24.cell? ⟨gb365, 2, none⟩ = some (.int .i64 0) := (blk_cell Ze.out 2).trans rfl; have hcz27_3 : w24.cell? ⟨gb365, 3, none⟩ = some (.string (⟨#[]⟩ : ByteArray)) := (blk_cell Ze.out 3).trans rfl; have hfz27_0 := blk_frozen Ze.out 0; have hfz27_1 := blk_frozen Ze.out 1; have hfz27_2 := blk_frozen Ze.out 2; have hfz27_3 := blk_frozen Ze.out 3; have hcz28_0 : w24.cell? ⟨gb359, 0, none⟩ = some (.int .i64 t354) := (blk_cell Zb.out 0).trans rfl; have hcz28_1 : w24.cell? ⟨gb359, 1, none⟩ = some (.int .i64 t355) := (blk_cell Zb.out 1).trans rfl; have hcz28_2 : w24.cell? ⟨gb359, 2, none⟩ = some (.int .i64 t356) := (blk_cell Zb.out 2).trans rfl; have hcz28_3 : w24.cell? ⟨gb359, 3, none⟩ = some (.string t357) := (blk_cell Zb.out 3).trans rfl; have hfz28_0 := blk_frozen Zb.out 0; have hfz28_1 := blk_frozen Zb.out 1; have hfz28_2 := blk_frozen Zb.out 2; have hfz28_3 := blk_frozen Zb.out 3; have hcz29_0 : w24.cell? ⟨gb349, 0, none⟩ = some (.int .i64 t345) := (blk_cell Za.out 0).trans rfl; have hcz29_1 : w24.cell? ⟨gb349, 1, none⟩ = some (.int .i64 t346) := (blk_cell Za.out 1).trans rfl; have hcz29_2 : w24.cell? ⟨gb349, 2, none⟩ = some (.int .i64 t347) := (blk_cell Za.out 2).trans rfl; have hcz29_3 : w24.cell? ⟨gb349, 3, none⟩ = some (.string t348) := (blk_cell Za.out 3).trans rfl; have hfz29_0 := blk_frozen Za.out 0; have hfz29_1 := blk_frozen Za.out 1; have hfz29_2 := blk_frozen Za.out 2; have hfz29_3 := blk_frozen Za.out 3))
       go_ret
       exact ⟨by first | rfl | (simp [errW_none, errW_some] <;> rfl) | (simp [*, errW_none, errW_some] <;> rfl), zg_14 HB.out Zd.out Zf.out Zl.out⟩
      ·rw [if_neg c12] at H
       have c12b0 : (t354 == t345 && (t355 == t346 && (t356 == t347 && (t357.toList == t348.toList)))) = false := by simpa using c12
       (try (have c12b1 : decide (t354 = t345 && (t355 == t346 && (t356 == t347 && (t357.toList == t348.toList)))) = false := by simpa using c12))
       (try (have c12b2 : (t354 == t345 && (t355 == t346 && (t356 == t347 && (t357.toList == t348.toList)))) = false := by simpa using c12))
       (try (have c12b3 : ¬ (t354 = t345 && (t355 == t346 && (t356 == t347 && (t357.toList == t348.toList)))) := by simpa using c12))
       clear c12
       exact absurd hr_.out (by rw [← Option.some.inj H]; decide)
     ·rw [if_neg c11] at H
      have c11b0 : (t358 == 0) = false := beq_eq_false_iff_ne.mpr c11
      have c11b1 : (t358 != 0) = true := bne_iff_ne.mpr c11
      exact absurd hr_.out (by rw [← Option.some.inj H]; decide)
    ·rw [if_neg c10] at H
     have c10b0 : (t350.toList == t352.toList) = false := beq_eq_false_iff_ne.mpr c10
     have c10b1 : (t350.toList != t352.toList) = true := bne_iff_ne.mpr c10
     exact absurd hr_.out (by rw [← Option.some.inj H]; decide)
   ·rw [if_neg c9] at H
    have c9b0 : (t351 == 0) = false := beq_eq_false_iff_ne.mpr c9
    have c9b1 : (t351 != 0) = true := bne_iff_ne.mpr c9
    exact absurd hr_.out (by rw [← Option.some.inj H]; decide)
  ·rw [if_neg c7] at H
   exact absurd H (by simp)
end
/-! ### Base -/
def okI (x : Int) : Prop := (Lit.int .i64 x).wf = true
def okU8 (x : Int) : Prop := (Lit.int .u8 x).wf = true
def okB (_ : Bool) : Prop := True
def okS (x : ByteArray) : Prop := x.size ≤ maxLen
theorem w64 {n : Int} (h0 : -9223372036854775808 ≤ n) (h1 : n ≤ 9223372036854775807) : wrap64 n = n := by unfold wrap64; omega
theorem okI_iff {n : Int} (h : (Lit.int .i64 n).wf = true) : -9223372036854775808 ≤ n ∧ n ≤ 9223372036854775807 := by
  simp [Lit.wf, IntKind.min, IntKind.max, IntKind.signed, IntKind.bits] at h
  omega
theorem Ev.k {α : Type} {g : Nat → Option α} {r : α} (K : Nat) (h : ∀ k, K ≤ k → g k = some r) : Ev g r := ⟨K, h⟩
theorem ev_some {α : Type} (r : α) : Ev (fun _ => some r) r := ⟨0, fun _ _ => rfl⟩
theorem ev_of_eq {α : Type} {g : Nat → Option α} {r : α} (h : ∀ k, g k = some r) : Ev g r := ⟨0, fun k _ => h k⟩
theorem ev_bind {α β : Type} {g : Nat → Option α} {f : Nat → α → Option β} {a : α} {r : β} (h : Ev g a) (k : Ev (fun n => f n a) r) : Ev (fun n => (g n).bind (f n)) r := Ev.bind h k
theorem ev_if {α : Type} {c : Prop} [Decidable c] {g f : Nat → Option α} {r : α} (h : c → Ev g r) (h' : ¬ c → Ev f r) : Ev (fun n => if c then g n else f n) r := by
  by_cases hc : c
  · simp only [if_pos hc]; exact h hc
  · simp only [if_neg hc]; exact h' hc
theorem ev_pos {α : Type} {c : Prop} [Decidable c] {g f : Nat → Option α} {r : α} (hc : c) (h : Ev g r) : Ev (fun n => if c then g n else f n) r := by
  simp only [if_pos hc]; exact h
theorem ev_neg {α : Type} {c : Prop} [Decidable c] {g f : Nat → Option α} {r : α} (hc : ¬ c) (h : Ev f r) : Ev (fun n => if c then g n else f n) r := by
  simp only [if_neg hc]; exact h
theorem strOfNums_size (l : List Int) : (strOfNums l).size = l.length := by show (List.map _ l).toArray.size = _; simp
theorem ba_size_append (a b : ByteArray) : (a ++ b).size = a.size + b.size := by simp
theorem toList_inj {a b : ByteArray} : a.toList = b.toList ↔ a = b := by
  constructor
  · intro h
    have h1 : a.data.toList = b.data.toList := by simpa [ByteArray.toList_eq] using h
    have : a.data = b.data := Array.toList_inj.1 h1
    cases a; cases b; simp_all
  · rintro rfl; rfl
/-! ### Src -/
def srcOK (at_ seed : Int) (n : Nat) : Prop := 0 ≤ at_ ∧ at_ ≤ (n : Int) ∧ 0 ≤ seed ∧ seed < 2147483648
theorem rd_byte (l : List Int) (h : ∀ x ∈ l, 0 ≤ x ∧ x ≤ 255) (i : Int) : 0 ≤ rd l i ∧ rd l i ≤ 255 := by
  unfold rd
  by_cases hi : i.toNat < l.length
  · have : l.getD i.toNat 0 = l[i.toNat] := by simp [hi]
    rw [this]; exact h _ (List.getElem_mem hi)
  · have : l.getD i.toNat 0 = 0 := by simp [hi]
    rw [this]; omega
theorem byte_ok (l : List Int) (h : ∀ x ∈ l, 0 ≤ x ∧ x ≤ 255) (at_ seed : Int) (n : Nat) (hs : srcOK at_ seed n) (hn : n ≤ 1000000000000) :
    ∃ r a s, spec_l00Src_byte.f l at_ seed = some (r, a, s) ∧ 0 ≤ r ∧ r ≤ 255 ∧ srcOK a s (n + 1) := by
  obtain ⟨h0, h1, h2, h3⟩ := hs
  unfold spec_l00Src_byte.f
  have e1 : wrap64 (at_ + 1) = at_ + 1 := w64 (by omega) (by omega)
  have e2 : wrap64 (at_ + 1 - 1) = at_ := by rw [w64 (by omega) (by omega)]; omega
  rw [e1, e2]
  by_cases c1 : at_ + 1 ≤ (l.length : Int)
  · rw [if_pos c1, if_pos h0, if_pos (by omega)]
    have hb := rd_byte l h at_
    generalize rd l at_ = v at hb ⊢
    have e3 : wrap64 v = v := w64 (by omega) (by omega)
    have e4 : wrap64 (seed * 31) = seed * 31 := w64 (by omega) (by omega)
    rw [e3, e4]
    have e5 : wrap64 (seed * 31 + v) = seed * 31 + v := w64 (by omega) (by omega)
    rw [e5]
    have e6 : wrap64 (seed * 31 + v + 7) = seed * 31 + v + 7 := w64 (by omega) (by omega)
    rw [e6]
    refine ⟨_, _, _, rfl, hb.1, hb.2, by omega, by omega, ?_, ?_⟩
    · rw [Int.tmod_eq_emod_of_nonneg (by omega)]; omega
    · rw [Int.tmod_eq_emod_of_nonneg (by omega)]; omega
  · rw [if_neg c1]
    by_cases c2 : at_ + 1 > 3000
    · rw [if_pos c2]; exact ⟨_, _, _, rfl, by omega, by omega, by omega, by omega, h2, h3⟩
    · rw [if_neg c2]
      have e4 : wrap64 (seed * 1103515245) = seed * 1103515245 := w64 (by omega) (by omega)
      rw [e4]
      have e6 : wrap64 (seed * 1103515245 + 12345) = seed * 1103515245 + 12345 := w64 (by omega) (by omega)
      rw [e6, Int.tmod_eq_emod_of_nonneg (by omega : 0 ≤ seed * 1103515245 + 12345)]
      have hq0 : 0 ≤ (seed * 1103515245 + 12345) % 2147483648 := by omega
      have hq1 : (seed * 1103515245 + 12345) % 2147483648 < 2147483648 := by omega
      generalize (seed * 1103515245 + 12345) % 2147483648 = q at hq0 hq1 ⊢
      rw [Int.tdiv_eq_ediv_of_nonneg hq0]
      have e7 : wrap64 (q / 65536) = q / 65536 := w64 (by omega) (by omega)
      rw [e7, Int.tmod_eq_emod_of_nonneg (by omega)]
      exact ⟨_, _, _, rfl, by omega, by omega, by omega, by omega, hq0, hq1⟩
theorem srcOK_mono {a s : Int} {n m : Nat} (h : srcOK a s n) (hm : n ≤ m) : srcOK a s m := ⟨h.1, by have := h.2.1; omega, h.2.2.1, h.2.2.2⟩
theorem tmod_range {x n : Int} (h0 : 0 ≤ x) (hn : 0 < n) : 0 ≤ Int.tmod x n ∧ Int.tmod x n < n := by
  rw [Int.tmod_eq_emod_of_nonneg h0]; exact ⟨Int.emod_nonneg _ (by omega), Int.emod_lt_of_pos _ hn⟩
theorem next_ok (l : List Int) (h : ∀ x ∈ l, 0 ≤ x ∧ x ≤ 255) (at_ seed : Int) (n : Nat) (hs : srcOK at_ seed n) (hn : n ≤ 100000000000) (m : Int) :
    ∃ r a s, spec_l00Src_next.f l at_ seed m = some (r, a, s) ∧ 0 ≤ r ∧ (m ≤ 1 → r = 0) ∧ (1 ≤ m → r < m) ∧ srcOK a s (n + 3) := by
  unfold spec_l00Src_next.f
  by_cases c1 : m ≤ 1
  · rw [if_pos c1]; exact ⟨_, _, _, rfl, by omega, fun _ => rfl, fun _ => by omega, srcOK_mono hs (by omega)⟩
  · rw [if_neg c1]
    obtain ⟨r, a, s, e, r0, r1, ho⟩ := byte_ok l h at_ seed n hs (by omega)
    by_cases c2 : m ≤ 256
    · rw [if_pos c2, e, Option.bind_some, if_neg (by omega)]
      have := tmod_range r0 (show 0 < m by omega)
      exact ⟨_, _, _, rfl, this.1, fun h => absurd h c1, fun _ => this.2, srcOK_mono ho (by omega)⟩
    · rw [if_neg c2, e, Option.bind_some]
      obtain ⟨r', a', s', e', r0', r1', ho'⟩ := byte_ok l h a s (n + 1) ho (by omega)
      rw [e', Option.bind_some]
      obtain ⟨r'', a'', s'', e'', r0'', r1'', ho''⟩ := byte_ok l h a' s' (n + 2) ho' (by omega)
      rw [e'', Option.bind_some, if_neg (by omega)]
      dsimp only
      have x1 : wrap64 (r * 65536) = r * 65536 := w64 (by omega) (by omega)
      have x2 : wrap64 (r' * 256) = r' * 256 := w64 (by omega) (by omega)
      rw [x1, x2]
      have x3 : wrap64 (r * 65536 + r' * 256) = r * 65536 + r' * 256 := w64 (by omega) (by omega)
      rw [x3]
      have x4 : wrap64 (r * 65536 + r' * 256 + r'') = r * 65536 + r' * 256 + r'' := w64 (by omega) (by omega)
      rw [x4]
      have := tmod_range (show 0 ≤ r * 65536 + r' * 256 + r'' by omega) (show 0 < m by omega)
      exact ⟨_, _, _, rfl, this.1, fun h => absurd h c1, fun _ => this.2, ho''⟩
theorem source_ok (l : List Int) : srcOK 0 ((l.length : Int) % 1000) 0 := ⟨by omega, by omega, by omega, by omega⟩
theorem bytes_of {l : List Int} (h : ∀ x ∈ l, (Lit.int .u8 x).wf = true) : ∀ x ∈ l, 0 ≤ x ∧ x ≤ 255 := by
  intro x hx
  have := h x hx
  simp [Lit.wf, IntKind.min, IntKind.max, IntKind.signed, IntKind.bits] at this
  omega
/-! ### In -/
def inB (n a b : Int) : Bool := decide (a ≤ n) && decide (n ≤ b)
theorem inB_iff {n a b : Int} : inB n a b = true ↔ a ≤ n ∧ n ≤ b := by simp [inB]
theorem inB_no {n a b : Int} : inB n a b = false ↔ ¬ (a ≤ n ∧ n ≤ b) := by rw [← inB_iff]; simp
theorem l01In_eq (n a b : Int) : spec_l01In.f n a b = some (inB n a b) := by
  unfold spec_l01In.f inB; by_cases h : a ≤ n <;> simp [h]
theorem within_eq (n a b : Int) : impl_within.f n a b = some (inB n a b) := by
  unfold impl_within.f inB; by_cases h : a ≤ n <;> simp [h]
theorem and_opt {b : Bool} {c : Option Bool} {c' : Bool} (h : c = some c') : (if b = true then c else some false) = some (b && c') := by
  cases b <;> simp [h]
/-! ### Mark -/
theorem ev_loop {α : Type} {g : Nat → Nat → Option α} {r : α} (n : Nat) (hend : Ev (fun k => g k n) r) (hstep : ∀ i, i < n → ∃ c, ∀ k, g (k + c) i = g k (i + 1) ∧ 1 ≤ c) : ∀ d i, i ≤ n → n - i = d → Ev (fun k => g k i) r := by
  intro d
  induction d with
  | zero =>
    intro i hi hd
    have e : i = n := by omega
    rw [e]; exact hend
  | succ d ih =>
    intro i hi hd
    obtain ⟨K, hK⟩ := ih (i + 1) (by omega) (by omega)
    obtain ⟨c, hc⟩ := hstep i (by omega)
    refine ⟨K + c, fun k hk => ?_⟩
    obtain ⟨m, rfl⟩ : ∃ m, k = m + c := ⟨k - c, by omega⟩
    show g (m + c) i = _
    rw [(hc m).1]; exact hK m (by omega)
theorem rdn (l : List Int) (i : Nat) (h : i < l.length) : rd l (i : Int) = l[i] := by simp [rd, h]
theorem wnext (i : Nat) (h : i < 1000000000000000000) : wrap64 ((i : Int) + 1) = ((i + 1 : Nat) : Int) := by rw [w64 (by omega) (by omega)]; omega
def countUp (a : Int) (n : Nat) : List Int := (List.range n).map (fun j : Nat => a + (j : Int))
theorem countUp_length (a : Int) (n : Nat) : (countUp a n).length = n := by simp [countUp]
theorem countUp_get (a : Int) (n i : Nat) (h : i < n) : (countUp a n)[i]'(by rw [countUp_length]; exact h) = a + (i : Int) := by simp [countUp]
theorem set_mid {α : Type} (l m : List α) (hlm : m.length = l.length) (i : Nat) (h : i < l.length) (x : α) (hx : m[i]'(by omega) = x) : (m.take i ++ l.drop i).set i x = m.take (i + 1) ++ l.drop (i + 1) := by
  subst hx
  rw [List.drop_eq_getElem_cons h, List.set_append_right _ _ (by rw [List.length_take]; omega)]
  have : i - (m.take i).length = 0 := by rw [List.length_take]; omega
  rw [this, List.set_cons_zero, List.take_succ_eq_append_getElem (by omega), List.append_assoc]
  rfl
/-! ### Ev -/
theorem Ev.succ {α : Type} {g : Nat → Option α} {r : α} (h : Ev (fun k => g (k + 1)) r) : Ev g r := Ev.step (f := fun k => g (k + 1)) (fun _ => rfl) h
theorem ev_all {α : Type} {g : Nat → Nat → Option Bool} (l : List α) (q : α → Bool) (r : Bool) (hend : Ev (fun k => g k l.length) r) (hstep : ∀ i (h : i < l.length) k, g (k + 1) i = if q l[i] = true then g k (i + 1) else some false) : Ev (fun k => g k 0) (l.all q && r) := by
  have hgo : ∀ d i, i ≤ l.length → l.length - i = d → Ev (fun k => g k i) ((l.drop i).all q && r) := by
    intro d
    induction d with
    | zero =>
      intro i hi hd
      have e : i = l.length := by omega
      subst e
      rw [List.drop_of_length_le (by omega)]; simp only [List.all_nil, Bool.true_and]; exact hend
    | succ d ih =>
      intro i hi hd
      have hlt : i < l.length := by omega
      refine Ev.step (f := fun k => if q l[i] = true then g k (i + 1) else some false) (hstep i hlt) ?_
      rw [List.drop_eq_getElem_cons hlt, List.all_cons]
      cases hq : q l[i]
      · simp only [Bool.false_and, Bool.false_eq_true, if_false]; exact ev_some _
      · simp only [Bool.true_and, if_true]; exact ih (i + 1) (by omega) (by omega)
  have := hgo l.length 0 (by omega) (by omega)
  rwa [List.drop_zero] at this
theorem ev_asks {α β : Type} {g : Nat → Nat → Option β} (l : List α) (q : α → Bool) (r bad : β) (hend : Ev (fun k => g k l.length) r) (hstep : ∀ i (h : i < l.length) k, g (k + 1) i = if q l[i] = true then g k (i + 1) else some bad) : Ev (fun k => g k 0) (if l.all q = true then r else bad) := by
  have hgo : ∀ d i, i ≤ l.length → l.length - i = d → Ev (fun k => g k i) (if (l.drop i).all q = true then r else bad) := by
    intro d
    induction d with
    | zero =>
      intro i hi hd
      have e : i = l.length := by omega
      subst e
      rw [List.drop_of_length_le (by omega)]; simp only [List.all_nil, if_true]; exact hend
    | succ d ih =>
      intro i hi hd
      have hlt : i < l.length := by omega
      refine Ev.step (f := fun k => if q l[i] = true then g k (i + 1) else some bad) (hstep i hlt) ?_
      rw [List.drop_eq_getElem_cons hlt, List.all_cons]
      cases hq : q l[i]
      · simp only [Bool.false_and, Bool.false_eq_true, if_false]; exact ev_some _
      · simp only [Bool.true_and, if_true]; exact ih (i + 1) (by omega) (by omega)
  have := hgo l.length 0 (by omega) (by omega)
  rwa [List.drop_zero] at this
/-- A loop that asks each element in turn, each question with rounds of its own. -/
theorem ev_asksE {α β : Type} {g : Nat → Nat → Option β} (l : List α) (q : α → Bool) (r bad : β) (hend : l.all q = true → Ev (fun k => g k l.length) r)
    (hstep : ∀ i (h : i < l.length), (q l[i] = true → Ev (fun k => g k (i + 1)) (if (l.drop (i + 1)).all q = true then r else bad) → Ev (fun k => g k i) (if (l.drop (i + 1)).all q = true then r else bad)) ∧ (q l[i] = false → Ev (fun k => g k i) bad)) : Ev (fun k => g k 0) (if l.all q = true then r else bad) := by
  have key : ∀ d i, i ≤ l.length → l.length - i = d → (l.take i).all q = true → Ev (fun k => g k i) (if (l.drop i).all q = true then r else bad) := by
    intro d
    induction d with
    | zero =>
      intro i hi hd ht
      have e : i = l.length := by omega
      subst e
      rw [List.take_length] at ht
      rw [List.drop_length, List.all_nil, if_pos rfl]
      exact hend ht
    | succ d ih =>
      intro i hi hd ht
      have hlt : i < l.length := by omega
      rw [List.drop_eq_getElem_cons hlt, List.all_cons]
      cases hq : q l[i] with
      | false => simpa using (hstep i hlt).2 hq
      | true =>
        rw [Bool.true_and]
        refine (hstep i hlt).1 hq (ih (i + 1) (by omega) (by omega) ?_)
        rw [List.take_succ_eq_append_getElem hlt, List.all_append, ht]
        simp [hq]
  simpa using key l.length 0 (by omega) (by omega) (by simp)
/-! ### Compact -/
theorem compact_full (zs : List (List UInt8)) : (Lib.compact zs).length = zs.length ↔ ∀ j, j < zs.length → Lib.keeps zs.toArray j = true := by
  unfold Lib.compact Lib.compactUpTo
  rw [List.length_map]
  constructor
  · intro h j hj
    have h2 : ((List.range zs.length).filter (Lib.keeps zs.toArray)).length = (List.range zs.length).length := by rw [h, List.length_range]
    exact (List.length_filter_eq_length_iff.1 h2) j (List.mem_range.2 hj)
  · intro h
    have : ((List.range zs.length).filter (Lib.keeps zs.toArray)).length = (List.range zs.length).length := List.length_filter_eq_length_iff.2 (fun j hj => h j (List.mem_range.1 hj))
    rw [this, List.length_range]
theorem sorted_nodup (ss : List (List UInt8)) : (Lib.compact (ss.mergeSort fun x y => decide (x ≤ y))).length = ss.length ↔ ss.Nodup := by
  have hp := List.mergeSort_perm ss (fun x y => decide (x ≤ y))
  have hs : (ss.mergeSort fun x y => decide (x ≤ y)).Pairwise (fun x y => decide (x ≤ y) = true) := List.pairwise_mergeSort (fun a b c h1 h2 => by
    simp only [decide_eq_true_eq] at *; exact List.le_trans h1 h2) (fun a b => by
    simp only [Bool.or_eq_true, decide_eq_true_eq]; exact List.le_total a b) ss
  rw [← hp.nodup_iff, ← hp.length_eq, compact_full]
  generalize (ss.mergeSort fun x y => decide (x ≤ y)) = s at hs
  have hle : ∀ i j (hi : i < j) (hj : j < s.length), s[i] ≤ s[j] := fun i j hi hj => by
    have := List.pairwise_iff_getElem.1 hs i j (by omega) hj hi
    simpa using this
  constructor
  · intro h
    rw [List.nodup_iff_pairwise_ne, List.pairwise_iff_getElem]
    intro i j hi hj hij e
    have h1 := h (i + 1) (by omega)
    have h2 : s[i]'hi = s[i + 1]'(by omega) := by
      refine List.le_antisymm (hle i (i + 1) (by omega) (by omega)) ?_
      by_cases c : i + 1 = j
      · subst c; rw [e]; exact List.le_refl _
      · rw [e]; exact hle (i + 1) j (by omega) hj
    simp [Lib.keeps, h2, show i + 1 < s.length by omega, show i < s.length from hi] at h1
  · intro h j hj
    by_cases c : j = 0
    · subst c; simp [Lib.keeps]
    · have hne : s[j]'hj ≠ s[j - 1]'(by omega) := by
        intro e
        have := List.pairwise_iff_getElem.1 (List.nodup_iff_pairwise_ne.1 h) (j - 1) j (by omega) hj (by omega)
        exact this e.symm
      simp [Lib.keeps, hj, show j - 1 < s.length by omega, hne]
/-! ### SnapName -/
def nmOK (t : ByteArray) : Bool := (List.range t.size).all (fun i => inB (bt t (i : Int)) 97 122) && inB (t.size : Int) 1 6
theorem spec_Name_ev (t : ByteArray) (ht : t.size ≤ 1000000000) : Ev (fun k => spec_l10Name.f k t) (nmOK t) := by
  unfold spec_l10Name.f nmOK
  refine ev_all (g := fun k i => spec_l10Name.l0 k t (i : Int)) (List.range t.size) (fun i => inB (bt t (i : Int)) 97 122) _ ?_ ?_
  · refine Ev.step (f := fun _ => some (inB (t.size : Int) 1 6)) (fun k => ?_) (ev_some _)
    simp only [spec_l10Name.l0, l01In_eq, Option.bind_some, List.length_range]; rw [if_neg (by omega)]
  · intro i hi k
    rw [List.length_range] at hi
    simp only [spec_l10Name.l0, List.getElem_range]
    rw [if_pos (by omega), if_pos (by omega), wnext i (by omega)]
    unfold inB
    by_cases h1 : bt t (i : Int) < 97
    · rw [if_pos h1, if_neg (by simp; omega)]
    · rw [if_neg h1]
      by_cases h2 : bt t (i : Int) > 122
      · rw [if_pos h2, if_neg (by simp; omega)]
      · rw [if_neg h2, if_pos (by simp; omega)]
theorem impl_Name_ev (t : ByteArray) (ht : t.size ≤ 1000000000) : Ev (fun k => impl_snapNameOK.f k t) (nmOK t) := by
  unfold impl_snapNameOK.f nmOK
  refine ev_all (g := fun k i => impl_snapNameOK.l0 k t (t.size : Int) (i : Int)) (List.range t.size) (fun i => inB (bt t (i : Int)) 97 122) _ ?_ ?_
  · refine Ev.step (f := fun _ => some (inB (t.size : Int) 1 6)) (fun k => ?_) (ev_some _)
    simp only [impl_snapNameOK.l0, within_eq, Option.bind_some, List.length_range]; rw [if_neg (by omega)]
  · intro i hi k
    rw [List.length_range] at hi
    simp only [impl_snapNameOK.l0, List.getElem_range]
    rw [if_pos (by omega), if_pos (by omega), if_pos (by omega), wnext i (by omega)]
    unfold inB
    by_cases h1 : bt t (i : Int) < 97
    · rw [if_pos h1, if_neg (by simp; omega)]
    · rw [if_neg h1]
      by_cases h2 : bt t (i : Int) > 122
      · rw [if_pos h2, if_neg (by simp; omega)]
      · rw [if_neg h2, if_pos (by simp; omega)]
theorem ev_allO {α : Type} (p : Nat → α → Option Bool) (q : α → Bool) : ∀ l : List α, (∀ x ∈ l, Ev (fun k => p k x) (q x)) → Ev (fun k => allO (p k) l) (l.all q) := by
  intro l
  induction l with
  | nil => intro _; exact ev_some true
  | cons x xs ih =>
    intro h
    have hx := h x (by simp)
    have hxs := ih (fun y hy => h y (by simp [hy]))
    simp only [allO, List.all_cons]
    refine ev_bind hx ?_
    cases q x
    · exact ev_neg (by decide) (ev_some _)
    · exact ev_pos rfl (by simpa using hxs)
def namesOK (l : List ByteArray) : Bool := decide ((l.length : Int) ≤ 3) && (l.all nmOK && decide l.Nodup)
/-! ### MarkT -/
theorem ev_down {α : Type} {g : Nat → Nat → Option α} {r : α} (n : Nat) (hend : Ev (fun k => g k n) r) (hstep : ∀ i, i < n → Ev (fun k => g k (i + 1)) r → Ev (fun k => g k i) r) : Ev (fun k => g k 0) r := by
  have : ∀ d i, i ≤ n → n - i = d → Ev (fun k => g k i) r := by
    intro d
    induction d with
    | zero => intro i hi hd; have e : i = n := by omega
              rw [e]; exact hend
    | succ d ih => intro i hi hd; exact hstep i (by omega) (ih (i + 1) (by omega) (by omega))
  exact this n 0 (by omega) (by omega)
/-! ### Digits -/
def dgs (n : Int) : ByteArray := ⟨(Lib.itoa n).toArray⟩
theorem dgs_small {n : Int} (h0 : 0 ≤ n) (h : n < 10) : dgs n = strOfNums [(wrap64 (48 + n)) % 256] := by
  rw [w64 (n := 48 + n) (by omega) (by omega)]
  unfold dgs Lib.itoa
  rw [if_neg (by omega), Lib.decDigits_one (by omega)]
  have e : (48 + n) % 256 = ((48 + n.toNat : Nat) : Int) := by omega
  rw [e]; rfl
theorem dgs_step {n : Int} (h : 10 ≤ n) (hn : n ≤ 1000000000000) : dgs n = dgs (n / 10) ++ strOfNums [(wrap64 (48 + (Int.tmod n 10))) % 256] := by
  have hm : Int.tmod n 10 = n % 10 := Int.tmod_eq_emod_of_nonneg (by omega)
  rw [hm, w64 (n := 48 + n % 10) (by omega) (by omega)]
  unfold dgs Lib.itoa
  rw [if_neg (by omega), if_neg (by omega)]
  have e : (48 + n % 10) % 256 = ((48 + n.toNat % 10 : Nat) : Int) := by omega
  have e2 : (n / 10).toNat = n.toNat / 10 := by omega
  rw [e, e2]
  conv => lhs; rw [Lib.decDigits, dif_neg (by omega)]
  rw [← List.append_toArray]
  apply ByteArray.ext
  rw [ByteArray.data_append]; rfl
theorem digits_ev : ∀ (d : Nat) (n : Int), 0 ≤ n → n.toNat ≤ d → n ≤ 1000000000000 → Ev (fun k => spec_l00Digits.f k n) (dgs n) ∧ (dgs n).size ≤ n.toNat + 1 := by
  intro d
  induction d with
  | zero =>
    intro n h0 hd hn
    have h := dgs_small h0 (by omega : n < 10)
    refine ⟨Ev.succ ?_, by rw [h, strOfNums_size]; simp⟩
    simp only [spec_l00Digits.f]
    exact ev_neg (by omega) (ev_neg (by omega) (ev_pos (by omega) (by rw [← h]; exact ev_some _)))
  | succ d ih =>
    intro n h0 hd hn
    by_cases c : n < 10
    · have h := dgs_small h0 c
      refine ⟨Ev.succ ?_, by rw [h, strOfNums_size]; simp⟩
      simp only [spec_l00Digits.f]
      exact ev_neg (by omega) (ev_neg (by omega) (ev_pos (by omega) (by rw [← h]; exact ev_some _)))
    · have h := dgs_step (by omega : 10 ≤ n) hn
      have hq : Int.tdiv n 10 = n / 10 := Int.tdiv_eq_ediv_of_nonneg h0
      obtain ⟨h1, h2⟩ := ih (n / 10) (by omega) (by omega) (by omega)
      have hz : (strOfNums [(wrap64 (48 + (Int.tmod n 10))) % 256]).size = 1 := by rw [strOfNums_size]; rfl
      refine ⟨Ev.succ ?_, by rw [h, ba_size_append, hz]; omega⟩
      simp only [spec_l00Digits.f, Option.bind_some]
      refine ev_neg (by omega) (ev_neg (by omega) (ev_neg (by omega) ?_))
      rw [hq, w64 (n := n / 10) (by omega) (by omega)]
      refine ev_bind h1 (ev_pos (by rw [hz]; omega) ?_)
      rw [← h]; exact ev_some _
theorem ba_assoc (a b c : ByteArray) : (a ++ b) ++ c = a ++ (b ++ c) := by
  apply ByteArray.ext
  simp [ByteArray.data_append]
def bl : ByteArray := ⟨#[32]⟩
theorem bl_size : bl.size = 1 := rfl
/-- A word, and others behind it, each with a blank ahead. -/
def jn (w : ByteArray) (r : List ByteArray) : ByteArray := r.foldl (fun o x => o ++ (bl ++ x)) w
theorem jn_cons (w x : ByteArray) (r : List ByteArray) : jn w (x :: r) = jn (w ++ (bl ++ x)) r := rfl
theorem jn_snoc (w x : ByteArray) (r : List ByteArray) : jn w (r ++ [x]) = jn w r ++ (bl ++ x) := by simp [jn]
theorem join_jn : ∀ (r : List ByteArray) (w : ByteArray), Lib.join ((w :: r).map (·.data.toList)) [32] = (jn w r).data.toList := by
  intro r
  induction r with
  | nil => intro w; simp [Lib.join, List.intercalate, jn]
  | cons x r ih =>
    intro w
    rw [jn_cons, ← ih]
    have hb : bl.data.toList = [32] := rfl
    cases r with
    | nil => simp [Lib.join, List.intercalate, ByteArray.data_append, hb]
    | cons y r => simp [Lib.join, List.intercalate, ByteArray.data_append, hb]
theorem jn_size (B : Nat) : ∀ (r : List ByteArray) (w : ByteArray), (∀ x ∈ r, x.size ≤ B) → (jn w r).size ≤ w.size + r.length * (B + 1) := by
  intro r
  induction r with
  | nil => intro w _; simp [jn]
  | cons x r ih =>
    intro w h
    rw [jn_cons]
    have h1 := ih (w ++ (bl ++ x)) (fun y hy => h y (by simp [hy]))
    have h2 := h x (by simp)
    rw [ba_size_append, ba_size_append, bl_size] at h1
    rw [List.length_cons, Nat.add_mul]
    omega
theorem Join_jn (w : ByteArray) (r : List ByteArray) (h : (jn w r).size ≤ 140737488355328) (hl : r.length ≤ 1000000000) : strings_Join.f (w :: r) (⟨#[32]⟩ : ByteArray) = some (jn w r) := by
  unfold strings_Join.f
  have e : (⟨#[32]⟩ : ByteArray).data.toList = [32] := rfl
  rw [e, join_jn, if_pos (by simp; omega), if_pos (show (jn w r).data.toList.length ≤ _ by rw [Array.length_toList]; exact h)]
theorem itoa_eq {n : Int} (h0 : 0 ≤ n) (hn : n ≤ 1000000000000) : strconv_Itoa_95.f n = some (dgs n) := by
  unfold strconv_Itoa_95.f
  rw [if_pos (by omega), if_pos (by omega)]; rfl
def okN (n : Int) : Prop := 0 ≤ n ∧ n ≤ 1000000000000
theorem ints_eq : ∀ (l : List Int) (out : List ByteArray), (∀ x ∈ l, okN x) → out.length + l.length ≤ 1000000000 → impl_said.ints out l = some (out ++ l.map dgs) := by
  intro l
  induction l with
  | nil => intro out _ _; simp [impl_said.ints]
  | cons x r ih =>
    intro out h hl
    rw [List.length_cons] at hl
    have hx := h x (by simp)
    simp only [impl_said.ints]
    rw [itoa_eq hx.1 hx.2, Option.bind_some, if_pos (by omega), ih _ (fun y hy => h y (by simp [hy])) (by simp; omega)]
    simp
/-- What a value of type any says, and whether its numbers are right. -/
def anyW : Any → List ByteArray | .n x => [dgs x] | .s x => [x] | .ss _ l => l | .ns _ l => l.map dgs | .b _ => []
def anyOK : Any → Prop | .n x => okN x | .s _ => True | .ss _ _ => True | .ns _ l => ∀ x ∈ l, okN x | .b _ => False
theorem go_eq : ∀ (l : List Any) (out : List ByteArray), (∀ x ∈ l, anyOK x) → out.length + (l.flatMap anyW).length ≤ 1000000000 → impl_said.go out l = some (out ++ l.flatMap anyW) := by
  intro l
  induction l with
  | nil => intro out _ _; simp [impl_said.go]
  | cons x r ih =>
    intro out h hl
    rw [List.flatMap_cons, List.length_append] at hl
    have hx := h x (by simp)
    have ih := fun o ho => ih o (fun y hy => h y (by simp [hy])) ho
    cases x with
    | b v => exact hx.elim
    | n v =>
      have hl' : (anyW (.n v)).length = 1 := rfl
      simp only [impl_said.go]
      rw [itoa_eq hx.1 hx.2, Option.bind_some, if_pos (by omega), ih _ (by simp only [List.length_append, List.length_singleton, List.length_map]; omega)]
      simp [anyW]
    | s v =>
      have hl' : (anyW (.s v)).length = 1 := rfl
      simp only [impl_said.go]
      rw [if_pos (by omega), ih _ (by simp only [List.length_append, List.length_singleton, List.length_map]; omega)]
      simp [anyW]
    | ss v l =>
      have hl' : (anyW (.ss v l)).length = l.length := rfl
      simp only [impl_said.go]
      rw [if_pos (by omega), ih _ (by simp only [List.length_append, List.length_singleton, List.length_map]; omega)]
      simp [anyW]
    | ns v l =>
      have hl' : (anyW (.ns v l)).length = l.length := by simp [anyW]
      simp only [impl_said.go]
      rw [ints_eq l out hx (by omega), Option.bind_some, ih _ (by simp only [List.length_append, List.length_singleton, List.length_map]; omega)]
      simp [anyW]
theorem said_eq (x : ByteArray) (r : List Any) (B : Nat) (hB : B ≤ 10000000000) (hx : x.size ≤ 1000000000) (hok : ∀ y ∈ r, anyOK y) (hl : (r.flatMap anyW).length ≤ 1000) (hs : ∀ y ∈ r.flatMap anyW, y.size ≤ B) : impl_said.f (.s x :: r) = some (jn x (r.flatMap anyW)) := by
  unfold impl_said.f
  rw [go_eq (.s x :: r) [] (by intro y hy; rcases List.mem_cons.1 hy with rfl | hy; exact trivial; exact hok y hy) (by rw [List.flatMap_cons, List.length_append, show (anyW (.s x)).length = 1 from rfl, List.length_nil]; omega), Option.bind_some]
  have e : [] ++ (Any.s x :: r).flatMap anyW = x :: r.flatMap anyW := rfl
  have h1 := jn_size B (r.flatMap anyW) x hs
  have h2 : (r.flatMap anyW).length * (B + 1) ≤ 1000 * 10000000001 := Nat.mul_le_mul hl (by omega)
  rw [e, Join_jn _ _ (by omega) (by omega)]
theorem said2_eq (x : ByteArray) (a : Any) (h : anyOK a) (hx : x.size ≤ 1000000000) (B : Nat) (hB : B ≤ 10000000000) (hl : (anyW a).length ≤ 500) (hs : ∀ y ∈ anyW a, y.size ≤ B) : impl_said.f [.s x, a] = some (jn x (anyW a)) := by
  have := said_eq x [a] B hB hx (by simpa using h) (by simpa using (by omega : (anyW a).length ≤ 1000)) (by simpa using hs)
  simpa using this
theorem said3_eq (x : ByteArray) (a b : Any) (h : anyOK a) (h' : anyOK b) (hx : x.size ≤ 1000000000) (B : Nat) (hB : B ≤ 10000000000) (hl : (anyW a).length ≤ 500) (hl' : (anyW b).length ≤ 500) (hs : ∀ y ∈ anyW a, y.size ≤ B) (hs' : ∀ y ∈ anyW b, y.size ≤ B) : impl_said.f [.s x, a, b] = some (jn x (anyW a ++ anyW b)) := by
  have := said_eq x [a, b] B hB hx (by intro y hy; simp at hy; rcases hy with rfl | rfl <;> assumption) (by simp; omega) (by intro y hy; simp at hy; rcases hy with hy | hy; exact hs y hy; exact hs' y hy)
  simpa using this
theorem dgs_le {n : Int} (h0 : 0 ≤ n) (hn : n ≤ 1000000000000) : (dgs n).size ≤ n.toNat + 1 := (digits_ev n.toNat n h0 (Nat.le_refl _) hn).2
/-! ### Req -/
theorem toList_nil (s : ByteArray) : (s.toList == ([] : List UInt8)) = (s.toList == (⟨#[]⟩ : ByteArray).toList) := by
  have : (⟨#[]⟩ : ByteArray).toList = [] := by rw [ByteArray.toList_eq]
  rw [this]
def okE (a b c : Int) (s : ByteArray) : Bool := if a = 1 ∨ a = 3 ∨ a = 4 then (decide (c = 0) && (s.toList == ([] : List UInt8))) else if a = 2 then (s.toList == ([] : List UInt8)) else if a = 8 then (decide (b = 0) && (decide (c = 0) && (s.toList == ([] : List UInt8)))) else (decide (b = 0) && decide (c = 0))
def okQ (a b c : Int) (s : ByteArray) : Bool := inB a 1 8 && (!decide ((s.size : Int) > 65536) && okE a b c s)
theorem both_ok (a b c : Int) (s : ByteArray) (k : Nat) : spec_ReqOK.f (k + 5) a b c s = some (okQ a b c s) ∧ impl_ReqOK.f (k + 5) a b c s = some (okQ a b c s) := by
  simp only [spec_ReqOK.f, impl_ReqOK.f, l01In_eq, within_eq, Option.bind_some, impl_isLongText.f, okQ]
  by_cases h1 : inB a 1 8 = true
  · simp only [h1, if_true]
    by_cases h2 : (s.size : Int) > 65536
    · simp [h2, spec_ReqOK.j0]
    · simp only [h2, decide_false, spec_ReqOK.j0, Bool.false_eq_true, if_false]
      simp only [inB_iff] at h1
      have ha : a = 1 ∨ a = 2 ∨ a = 3 ∨ a = 4 ∨ a = 5 ∨ a = 6 ∨ a = 7 ∨ a = 8 := by omega
      rcases ha with rfl | rfl | rfl | rfl | rfl | rfl | rfl | rfl <;> (simp [okE, spec_ReqOK.j1, impl_Req_used.f, impl_Req_used.j0, toList_nil]; try (by_cases hb : b = 0 <;> by_cases hc : c = 0 <;> simp [hb, hc]))
  · have h1' : inB a 1 8 = false := by simpa using h1
    simp [h1', spec_ReqOK.j0]
def wds : List ByteArray := [(⟨#[]⟩ : ByteArray), (⟨#[114, 101, 97, 100]⟩ : ByteArray), (⟨#[119, 114, 105, 116, 101]⟩ : ByteArray), (⟨#[122, 101, 114, 111]⟩ : ByteArray), (⟨#[114, 101, 115, 105, 122, 101]⟩ : ByteArray), (⟨#[99, 114, 101, 97, 116, 101]⟩ : ByteArray), (⟨#[100, 101, 108, 101, 116, 101]⟩ : ByteArray), (⟨#[114, 101, 118, 101, 114, 116]⟩ : ByteArray), (⟨#[108, 105, 115, 116]⟩ : ByteArray)]
def wd (a : Int) : ByteArray := rdOf ByteArray.empty wds a
theorem wd_le {a : Int} (h0 : 1 ≤ a) (h1 : a ≤ 8) : (wd a).size ≤ 6 := by
  have ha : a = 1 ∨ a = 2 ∨ a = 3 ∨ a = 4 ∨ a = 5 ∨ a = 6 ∨ a = 7 ∨ a = 8 := by omega
  rcases ha with rfl | rfl | rfl | rfl | rfl | rfl | rfl | rfl <;> exact of_decide_eq_true rfl
def txt (a b c : Int) (s : ByteArray) : ByteArray := if a = 1 ∨ a = 3 ∨ a = 4 then (wd a ++ bl) ++ dgs b else if a = 2 then (((wd a ++ bl) ++ dgs b) ++ bl) ++ dgs c else if a = 8 then wd a else (wd a ++ bl) ++ s
theorem spec_txt {a b c : Int} {s : ByteArray} (h0 : 1 ≤ a) (h1 : a ≤ 8) (hb0 : 0 ≤ b) (hb : b ≤ 2147483647) (hc0 : 0 ≤ c) (hc : c ≤ 2147483647) (hs : (s.size : Int) ≤ 65536) : Ev (fun k => spec_l13Text.f k a b c s) (txt a b c s) := by
  have hw := wd_le h0 h1
  obtain ⟨d1, d2⟩ := digits_ev b.toNat b hb0 (Nat.le_refl _) (by omega)
  obtain ⟨e1, e2⟩ := digits_ev c.toNat c hc0 (Nat.le_refl _) (by omega)
  have z1 : (wd a ++ bl).size = (wd a).size + 1 := by rw [ba_size_append, bl_size]
  have z2 : ((wd a ++ bl) ++ dgs b).size = (wd a).size + 1 + (dgs b).size := by rw [ba_size_append, z1]
  have z3 : (((wd a ++ bl) ++ dgs b) ++ bl).size = (wd a).size + 1 + (dgs b).size + 1 := by rw [ba_size_append, z2, bl_size]
  unfold spec_l13Text.f
  refine ev_bind (ev_of_eq fun _ => (rfl : spec_l13Words.f = some wds)) (ev_pos (by omega) (ev_pos (by show a < (9 : Int); omega) ?_))
  show Ev (fun k => if a = 1 then spec_l13Text.j0 k (wd a) a (a == 1) a b c s else if a = 3 then spec_l13Text.j0 k (wd a) a (a == 3) a b c s else spec_l13Text.j0 k (wd a) a (a == 4) a b c s) (txt a b c s)
  have one : ∀ y : Bool, y = true → txt a b c s = (wd a ++ bl) ++ dgs b → Ev (fun k => spec_l13Text.j0 k (wd a) a y a b c s) (txt a b c s) := by
    intro y hy ht
    rw [ht]
    refine Ev.succ ?_
    simp only [spec_l13Text.j0]
    exact ev_pos hy (ev_pos (by omega) (ev_bind d1 (ev_pos (by show (wd a ++ bl).size + _ ≤ _; omega) (ev_some _))))
  by_cases a1 : a = 1
  · exact ev_pos a1 (one _ (by simp [a1]) (by simp [txt, a1]))
  · refine ev_neg a1 ?_
    by_cases a3 : a = 3
    · exact ev_pos a3 (one _ (by simp [a3]) (by simp [txt, a3]))
    · refine ev_neg a3 ?_
      by_cases a4 : a = 4
      · exact one _ (by simp [a4]) (by simp [txt, a4])
      · refine Ev.succ ?_
        simp only [spec_l13Text.j0]
        refine ev_neg (by simp [a4]) ?_
        by_cases a2 : a = 2
        · have ht : txt a b c s = (((wd a ++ bl) ++ dgs b) ++ bl) ++ dgs c := by unfold txt; rw [if_neg (by omega), if_pos a2]
          rw [ht]
          exact ev_pos a2 (ev_pos (by omega) (ev_bind d1 (ev_pos (by show (wd a ++ bl).size + _ ≤ _; omega) (ev_pos (by show ((wd a ++ bl) ++ dgs b).size + 1 ≤ _; omega) (ev_bind e1 (ev_pos (by show (((wd a ++ bl) ++ dgs b) ++ bl).size + _ ≤ _; omega) (ev_some _)))))))
        · refine ev_neg a2 ?_
          by_cases a8 : a = 8
          · have ht : txt a b c s = wd a := by unfold txt; rw [if_neg (by omega), if_neg a2, if_pos a8]
            rw [ht]
            exact ev_pos a8 (ev_some _)
          · have ht : txt a b c s = (wd a ++ bl) ++ s := by unfold txt; rw [if_neg (by omega), if_neg a2, if_neg a8]
            rw [ht]
            exact ev_neg a8 (ev_pos (by omega) (ev_pos (by show (wd a ++ bl).size + _ ≤ _; omega) (ev_some _)))
theorem impl_txt {a b c : Int} {s : ByteArray} (h0 : 1 ≤ a) (h1 : a ≤ 8) (hb0 : 0 ≤ b) (hb : b ≤ 2147483647) (hc0 : 0 ≤ c) (hc : c ≤ 2147483647) (hs : (s.size : Int) ≤ 65536) : Ev (fun k => impl_Req_text.f k a b c s) (txt a b c s) := by
  have hw := wd_le h0 h1
  obtain ⟨d1, d2⟩ := digits_ev b.toNat b hb0 (Nat.le_refl _) (by omega)
  obtain ⟨e1, e2⟩ := digits_ev c.toNat c hc0 (Nat.le_refl _) (by omega)
  unfold impl_Req_text.f
  refine ev_bind (ev_of_eq fun _ => (rfl : impl_reqWords.f = some wds)) (ev_pos (by omega) (ev_pos (by show a < (9 : Int); omega) ?_))
  show Ev (fun k => if a = 1 then impl_Req_text.j0 k (wd a) a (a == 1) a b c s else if a = 3 then impl_Req_text.j0 k (wd a) a (a == 3) a b c s else impl_Req_text.j0 k (wd a) a (a == 4) a b c s) (txt a b c s)
  have sN : Ev (fun k => impl_said.f [Any.s (wd a), Any.n b]) ((wd a ++ bl) ++ dgs b) := ev_of_eq fun _ => by rw [said2_eq (wd a) (.n b) ⟨hb0, by omega⟩ (by omega) 2147483648 (by omega) (by show 1 ≤ _; omega) (by intro y hy; rw [List.mem_singleton.1 hy]; omega)]; exact congrArg some (ba_assoc _ _ _).symm
  have sNN : Ev (fun k => impl_said.f [Any.s (wd a), Any.n b, Any.n c]) ((((wd a ++ bl) ++ dgs b) ++ bl) ++ dgs c) := ev_of_eq fun _ => by rw [said3_eq (wd a) (.n b) (.n c) ⟨hb0, by omega⟩ ⟨hc0, by omega⟩ (by omega) 2147483648 (by omega) (by show 1 ≤ _; omega) (by show 1 ≤ _; omega) (by intro y hy; rw [List.mem_singleton.1 hy]; omega) (by intro y hy; rw [List.mem_singleton.1 hy]; omega)]; show some ((wd a ++ (bl ++ dgs b)) ++ (bl ++ dgs c)) = _; simp only [ba_assoc]
  have sS : Ev (fun k => impl_said.f [Any.s (wd a), Any.s s]) ((wd a ++ bl) ++ s) := ev_of_eq fun _ => by rw [said2_eq (wd a) (.s s) trivial (by omega) 65536 (by omega) (by show 1 ≤ _; omega) (by intro y hy; rw [List.mem_singleton.1 hy]; omega)]; exact congrArg some (ba_assoc _ _ _).symm
  have one : ∀ y : Bool, y = true → txt a b c s = (wd a ++ bl) ++ dgs b → Ev (fun k => impl_Req_text.j0 k (wd a) a y a b c s) (txt a b c s) := by
    intro y hy ht
    rw [ht]
    refine Ev.succ ?_
    simp only [impl_Req_text.j0]
    exact ev_pos hy (ev_bind sN (ev_some _))
  by_cases a1 : a = 1
  · exact ev_pos a1 (one _ (by simp [a1]) (by simp [txt, a1]))
  · refine ev_neg a1 ?_
    by_cases a3 : a = 3
    · exact ev_pos a3 (one _ (by simp [a3]) (by simp [txt, a3]))
    · refine ev_neg a3 ?_
      by_cases a4 : a = 4
      · exact one _ (by simp [a4]) (by simp [txt, a4])
      · refine Ev.succ ?_
        simp only [impl_Req_text.j0]
        refine ev_neg (by simp [a4]) ?_
        by_cases a2 : a = 2
        · have ht : txt a b c s = (((wd a ++ bl) ++ dgs b) ++ bl) ++ dgs c := by unfold txt; rw [if_neg (by omega), if_pos a2]
          rw [ht]
          exact ev_pos a2 (ev_bind sNN (ev_some _))
        · refine ev_neg a2 ?_
          by_cases a8 : a = 8
          · have ht : txt a b c s = wd a := by unfold txt; rw [if_neg (by omega), if_neg a2, if_pos a8]
            rw [ht]
            exact ev_neg (by omega) (ev_neg (by omega) (ev_neg (by omega) (ev_some _)))
          · have ht : txt a b c s = (wd a ++ bl) ++ s := by unfold txt; rw [if_neg (by omega), if_neg a2, if_neg a8]
            rw [ht]
            by_cases a5 : a = 5
            · exact ev_pos a5 (ev_bind sS (ev_some _))
            · by_cases a6 : a = 6
              · exact ev_neg a5 (ev_pos a6 (ev_bind sS (ev_some _)))
              · exact ev_neg a5 (ev_neg a6 (ev_pos (by omega) (ev_bind sS (ev_some _))))
def told (a b c : Int) (s : ByteArray) : Bool := inB b 0 2147483647 && (inB c 0 2147483647 && (if inB a 5 7 = true then nmOK s else true))
def res (a b c : Int) (s : ByteArray) : ByteArray × Int := if okQ a b c s = true then (if told a b c s = true then (txt a b c s, 0) else ((⟨#[]⟩ : ByteArray), 1)) else ((⟨#[]⟩ : ByteArray), 1)
theorem okQ_facts {a b c : Int} {s : ByteArray} (h : okQ a b c s = true) : 1 ≤ a ∧ a ≤ 8 ∧ (s.size : Int) ≤ 65536 := by
  unfold okQ at h
  simp only [Bool.and_eq_true, inB_iff, Bool.not_eq_true', decide_eq_false_iff_not] at h
  omega
theorem ok_ev (a b c : Int) (s : ByteArray) : Ev (fun k => spec_ReqOK.f k a b c s) (okQ a b c s) ∧ Ev (fun k => impl_ReqOK.f k a b c s) (okQ a b c s) := by
  refine ⟨⟨5, fun k hk => ?_⟩, ⟨5, fun k hk => ?_⟩⟩
  · obtain ⟨j, rfl⟩ : ∃ j, k = j + 5 := ⟨k - 5, by omega⟩
    exact (both_ok a b c s j).1
  · obtain ⟨j, rfl⟩ : ∃ j, k = j + 5 := ⟨k - 5, by omega⟩
    exact (both_ok a b c s j).2
theorem told_facts {a b c : Int} {s : ByteArray} (h : told a b c s = true) : 0 ≤ b ∧ b ≤ 2147483647 ∧ 0 ≤ c ∧ c ≤ 2147483647 := by
  unfold told at h
  simp only [Bool.and_eq_true, inB_iff] at h
  omega
theorem spec_ev (a b c : Int) (s : ByteArray) : Ev (fun k => spec_ReqText.f k a b c s) (res a b c s) := by
  unfold spec_ReqText.f res
  refine ev_bind (ok_ev a b c s).1 ?_
  cases hk : okQ a b c s
  · exact ev_neg (by decide) (ev_some _)
  · obtain ⟨h0, h1, hs⟩ := okQ_facts hk
    have hn := spec_Name_ev s (by omega)
    have hT := fun h => (told_facts (a := a) (b := b) (c := c) (s := s) h)
    refine ev_pos rfl ?_
    simp only [spec_l02Int.f, l01In_eq, Option.bind_some, if_true]
    cases hb : inB b 0 2147483647
    · rw [show told a b c s = false by simp [told, hb]]; exact ev_neg (by decide) (ev_some _)
    · refine ev_pos rfl ?_
      cases hc : inB c 0 2147483647
      · rw [show told a b c s = false by simp [told, hc]]; exact ev_neg (by decide) (ev_some _)
      · refine ev_pos rfl ?_
        cases h5 : inB a 5 7
        · have ht : told a b c s = true := by simp [told, hb, hc, h5]
          obtain ⟨t1, t2, t3, t4⟩ := hT ht
          rw [ht]
          exact ev_neg (by decide) (ev_bind (spec_txt h0 h1 t1 t2 t3 t4 hs) (ev_some _))
        · refine ev_pos rfl (ev_bind hn ?_)
          cases h6 : nmOK s
          · rw [show told a b c s = false by simp [told, h5, h6]]; exact ev_neg (by decide) (ev_some _)
          · have ht : told a b c s = true := by simp [told, hb, hc, h5, h6]
            obtain ⟨t1, t2, t3, t4⟩ := hT ht
            rw [ht]
            exact ev_pos rfl (ev_bind (spec_txt h0 h1 t1 t2 t3 t4 hs) (ev_some _))
theorem impl_ev (a b c : Int) (s : ByteArray) : Ev (fun k => impl_ReqText.f k a b c s) (res a b c s) := by
  unfold impl_ReqText.f res
  refine ev_bind (ok_ev a b c s).2 ?_
  cases hk : okQ a b c s
  · exact ev_neg (by decide) (ev_some _)
  · obtain ⟨h0, h1, hs⟩ := okQ_facts hk
    have hn := impl_Name_ev s (by omega)
    have hI : Ev (fun k => impl_Req_isTold.f k a b c s) (told a b c s) := by
      unfold impl_Req_isTold.f told
      simp only [impl_isNumber.f, within_eq, Option.bind_some]
      cases hb : inB b 0 2147483647
      · exact ev_neg (by decide) (ev_some _)
      · refine ev_pos rfl ?_
        cases hc : inB c 0 2147483647
        · exact ev_neg (by decide) (ev_some _)
        · refine ev_pos rfl ?_
          cases h5 : inB a 5 7
          · exact ev_neg (by decide) (ev_some _)
          · exact ev_pos rfl (ev_bind hn (ev_some _))
    refine ev_pos rfl (ev_bind hI ?_)
    cases ht : told a b c s
    · exact ev_neg (by decide) (ev_some _)
    · obtain ⟨t1, t2, t3, t4⟩ := told_facts ht
      exact ev_pos rfl (ev_bind (impl_txt h0 h1 t1 t2 t3 t4 hs) (ev_some _))
/-! ### Words -/
def wsL : List UInt8 → List UInt8 → List (List UInt8)
  | cur, [] => if cur = [] then [] else [cur]
  | cur, c :: r => if c = 32 then (if cur = [] then wsL [] r else cur :: wsL [] r) else wsL (cur ++ [c]) r
theorem wsL_app : ∀ (p cur r : List UInt8), (∀ c ∈ p, c ≠ 32) → wsL cur (p ++ 32 :: r) = (if cur ++ p = [] then [] else [cur ++ p]) ++ wsL [] r := by
  intro p
  induction p with
  | nil =>
    intro cur r _
    simp only [List.nil_append, wsL, List.append_nil, if_true]
    by_cases h : cur = [] <;> simp [h]
  | cons c p ih =>
    intro cur r h
    simp only [List.cons_append, wsL]
    rw [if_neg (h c (by simp)), ih _ _ (fun x hx => h x (by simp [hx]))]
    simp
theorem wsL_end : ∀ (p cur : List UInt8), (∀ c ∈ p, c ≠ 32) → wsL cur p = if cur ++ p = [] then [] else [cur ++ p] := by
  intro p
  induction p with
  | nil => intro cur _; simp only [wsL, List.append_nil]
  | cons c p ih =>
    intro cur h
    simp only [wsL]
    rw [if_neg (h c (by simp)), ih _ (fun x hx => h x (by simp [hx]))]
    simp
theorem wsL_mem : ∀ (l cur : List UInt8) (x : List UInt8), x ∈ wsL cur l → x ≠ [] ∧ x.length ≤ cur.length + l.length := by
  intro l
  induction l with
  | nil =>
    intro cur x h
    simp only [wsL] at h
    by_cases c : cur = []
    · rw [if_pos c] at h; simp at h
    · rw [if_neg c] at h
      have := List.mem_singleton.1 h
      subst this
      exact ⟨c, by simp⟩
  | cons a r ih =>
    intro cur x h
    simp only [wsL] at h
    rw [List.length_cons]
    by_cases c : a = 32
    · rw [if_pos c] at h
      by_cases d : cur = []
      · rw [if_pos d] at h
        have := ih [] x h
        rw [List.length_nil] at this
        exact ⟨this.1, by omega⟩
      · rw [if_neg d] at h
        rcases List.mem_cons.1 h with rfl | h
        · exact ⟨d, by omega⟩
        · have := ih [] x h
          rw [List.length_nil] at this
          exact ⟨this.1, by omega⟩
    · rw [if_neg c] at h
      have := ih _ x h
      rw [List.length_append, List.length_singleton] at this
      exact ⟨this.1, by omega⟩
theorem no_blank {l : List UInt8} (h : ∀ k : Nat, l[k]? ≠ some 32) : ∀ c ∈ l, c ≠ 32 := by
  intro c hc e
  obtain ⟨k, hk⟩ := List.mem_iff_getElem?.1 hc
  exact h k (by rw [hk, e])
theorem splitK_ws : ∀ (n : Nat) (l : List UInt8), l.length ≤ n → (Lib.splitK [32] 0 (Lib.count l [32]) l).filter (fun x => !(x == [])) = wsL [] l := by
  intro n
  induction n with
  | zero =>
    intro l hl
    have : l = [] := List.length_eq_zero_iff.1 (by omega)
    subst this
    rfl
  | succ n ih =>
    intro l hl
    by_cases h : Lib.index l [32] = -1
    · rw [Lib.count_miss h]
      have h2 := h
      rw [Lib.index_one] at h2
      have hb := no_blank (Lib.indexByte_none h2)
      rw [wsL_end l [] hb]
      show List.filter _ [l] = _
      by_cases c : l = [] <;> simp [c]
    · have hg := Lib.index_ge l [32]
      obtain ⟨i, hi⟩ : ∃ i : Nat, Lib.index l [32] = i := ⟨(Lib.index l [32]).toNat, by omega⟩
      have h2 := hi
      rw [Lib.index_one] at h2
      obtain ⟨hat, hbe⟩ := Lib.indexByte_some h2
      obtain ⟨hlt, hget⟩ := List.getElem?_eq_some_iff.1 hat
      have el : l = l.take i ++ 32 :: l.drop (i + 1) := by
        conv => lhs; rw [← List.take_append_drop i l, List.drop_eq_getElem_cons hlt, hget]
      have hb : ∀ c ∈ l.take i, c ≠ 32 := by
        intro c hc e
        obtain ⟨k, hk⟩ := List.mem_iff_getElem?.1 hc
        rw [List.getElem?_take] at hk
        by_cases ck : k < i
        · rw [if_pos ck] at hk; exact hbe k ck (by rw [hk, e])
        · rw [if_neg ck] at hk; cases hk
      rw [Lib.count_hit (by simp) hi, Nat.add_comm 1]
      have hm : ¬ (Lib.index l [32] == -1) = true := fun e => h (beq_iff_eq.1 e)
      simp only [Lib.splitK]
      rw [if_neg hm, hi]
      have e1 : ((i : Int)).toNat + 0 = i := by omega
      have e2 : ((i : Int)).toNat + [(32 : UInt8)].length = i + 1 := by simp
      have e3 : i + [(32 : UInt8)].length = i + 1 := by simp
      rw [e1, e2, e3, List.filter_cons]
      have ih' := ih (l.drop (i + 1)) (by rw [List.length_drop]; omega)
      rw [ih']
      conv => rhs; rw [el, wsL_app _ _ _ hb]
      by_cases c : l.take i = [] <;> simp [c]
def mkB (l : List UInt8) : ByteArray := ⟨l.toArray⟩
theorem mkB_data (s : ByteArray) : mkB s.data.toList = s := by apply ByteArray.ext; simp [mkB]
theorem data_mkB (l : List UInt8) : (mkB l).data.toList = l := by simp [mkB]
def ws (s : ByteArray) : List ByteArray := (wsL [] s.data.toList).map mkB
theorem words_filter : ∀ l : List ByteArray, impl_wordsOf_go (fun x => impl_wordsOf_1.f x) l = some (l.filter fun x => !(x.data.toList == [])) := by
  intro l
  induction l with
  | nil => rfl
  | cons x r ih =>
    simp only [impl_wordsOf_go, impl_wordsOf_1.f, Option.bind_some] at ih ⊢
    rw [ih, Option.bind_some, List.filter_cons, ByteArray.toList_eq]
    cases (x.data.toList == []) <;> simp
theorem words_eq (s : ByteArray) (hs : s.size ≤ 1000000) : impl_wordsOf.f s = some (ws s) := by
  unfold impl_wordsOf.f
  rw [if_pos hs, words_filter]
  have h := Lib.splitB_data (⟨#[32]⟩ : ByteArray) 0 (Lib.countB s (⟨#[32]⟩ : ByteArray)) s
  have e : impl_wordsOf_ps s = (Lib.splitK [32] 0 (Lib.count s.data.toList [32]) s.data.toList).map mkB := by
    have e1 : impl_wordsOf_ps s = ((impl_wordsOf_ps s).map (·.data.toList)).map mkB := by
      rw [List.map_map]
      conv => lhs; rw [← List.map_id (impl_wordsOf_ps s)]
      exact List.map_congr_left (fun x _ => (mkB_data x).symm)
    rw [e1]
    exact congrArg (List.map mkB) h
  rw [e, List.filter_map]
  have e2 : ((fun x : ByteArray => !(x.data.toList == [])) ∘ mkB) = fun x => !(x == []) := by funext x; simp only [Function.comp, data_mkB]
  rw [e2, splitK_ws _ _ (Nat.le_refl _)]
  rfl
theorem ws_mem {s x : ByteArray} (h : x ∈ ws s) : 1 ≤ x.size ∧ x.size ≤ s.size := by
  obtain ⟨l, hl, rfl⟩ := List.mem_map.1 h
  obtain ⟨h1, h2⟩ := wsL_mem _ _ _ hl
  have h3 : (mkB l).size = l.length := by simp [mkB, ByteArray.size]
  have h4 : s.data.toList.length = s.size := by rw [Array.length_toList]; rfl
  have h5 : l.length ≠ 0 := fun e => h1 (List.length_eq_zero_iff.1 e)
  rw [List.length_nil] at h2
  omega
theorem bt_is (s : ByteArray) (i : Nat) (h : i < s.data.toList.length) : bt s (i : Int) = ((s.data.toList[i]).toNat : Int) := by
  have h2 : i < s.size := by rw [Array.length_toList] at h; exact h
  unfold bt
  rw [dif_pos (by simpa using h2)]
  rfl
theorem ext_cur (s : ByteArray) (a i : Nat) : s.extract a i = mkB ((s.data.toList.drop a).take (i - a)) := by
  apply ByteArray.ext
  rw [ByteArray.data_extract]
  apply Array.toList_inj.1
  rw [Array.toList_extract]
  simp [mkB, List.extract]
theorem spec_words_ev (s : ByteArray) (hs : s.size ≤ 1000000) : Ev (fun k => spec_l00Words.f k s) (ws s) := by
  have hz : s.data.toList.length = s.size := by rw [Array.length_toList]; rfl
  have key : ∀ (d i a : Nat) (out : List ByteArray), a ≤ i → i ≤ s.size → s.size - i = d → out.length ≤ i → Ev (fun k => spec_l00Words.l0 k s out (a : Int) (i : Int)) (out ++ (wsL ((s.data.toList.drop a).take (i - a)) (s.data.toList.drop i)).map mkB) := by
    intro d
    induction d with
    | zero =>
      intro i a out ha hi hd ho
      have ei : i = s.size := by omega
      have hstop : Ev (fun k => spec_l00Words.l0 k s (out ++ [s.extract a i]) (((i + 1 : Nat)) : Int) (((i + 1 : Nat)) : Int)) (out ++ [s.extract a i]) := by
        refine Ev.succ ?_
        simp only [spec_l00Words.l0]
        exact ev_neg (by omega) (ev_some _)
      have hstop2 : Ev (fun k => spec_l00Words.l0 k s out (((i + 1 : Nat)) : Int) (((i + 1 : Nat)) : Int)) out := by
        refine Ev.succ ?_
        simp only [spec_l00Words.l0]
        exact ev_neg (by omega) (ev_some _)
      rw [show s.data.toList.drop i = [] from List.drop_of_length_le (by omega)]
      refine Ev.succ ?_
      simp only [spec_l00Words.l0]
      refine ev_pos (by omega) (ev_pos (by omega) (Ev.succ ?_))
      simp only [spec_l00Words.j1]
      rw [wnext i (by omega), show ((a : Int)).toNat = a by omega, show ((i : Int)).toNat = i by omega]
      refine ev_pos (by trivial) ?_
      simp only [wsL]
      by_cases c : a < i
      · have hne : ¬ (s.data.toList.drop a).take (i - a) = [] := by
          intro e
          have := congrArg List.length e
          rw [List.length_take, List.length_drop, List.length_nil] at this
          omega
        rw [if_neg hne, List.map_singleton, ← ext_cur]
        exact ev_pos (by omega) (ev_pos (by omega) (ev_pos (by omega) (ev_pos (by omega) (ev_pos (by omega) hstop))))
      · have he : (s.data.toList.drop a).take (i - a) = [] := by rw [show i - a = 0 by omega]; rfl
        rw [if_pos he, List.map_nil, List.append_nil]
        exact ev_neg (by omega) hstop2
    | succ d ih =>
      intro i a out ha hi hd ho
      have hlt : i < s.data.toList.length := by omega
      have hcur : (s.data.toList.drop a).take (i - a) ++ [s.data.toList[i]] = (s.data.toList.drop a).take (i + 1 - a) := by
        have h1 : i - a < (s.data.toList.drop a).length := by rw [List.length_drop]; omega
        rw [show i + 1 - a = (i - a) + 1 by omega, List.take_succ_eq_append_getElem h1, List.getElem_drop]
        simp only [show a + (i - a) = i by omega]
      rw [List.drop_eq_getElem_cons hlt]
      refine Ev.succ ?_
      simp only [spec_l00Words.l0]
      refine ev_pos (by omega) (ev_neg (by omega) (ev_pos (by omega) (ev_pos (by omega) (Ev.succ ?_))))
      simp only [spec_l00Words.j1]
      rw [wnext i (by omega), show ((a : Int)).toNat = a by omega, show ((i : Int)).toNat = i by omega, bt_is s i hlt]
      simp only [wsL]
      by_cases c : s.data.toList[i] = 32
      · rw [if_pos c]
        refine ev_pos (by rw [c]; rfl) ?_
        have hn : ((s.data.toList.drop (i + 1)).take (i + 1 - (i + 1))) = [] := by rw [Nat.sub_self]; rfl
        by_cases c2 : a < i
        · have hne : ¬ (s.data.toList.drop a).take (i - a) = [] := by
            intro e
            have := congrArg List.length e
            rw [List.length_take, List.length_drop, List.length_nil] at this
            omega
          have h := ih (i + 1) (i + 1) (out ++ [s.extract a i]) (Nat.le_refl _) (by omega) (by omega) (by simp; omega)
          rw [hn, ext_cur, List.append_assoc] at h
          rw [if_neg hne, ext_cur]
          exact ev_pos (by omega) (ev_pos (by omega) (ev_pos (by omega) (ev_pos (by omega) (ev_pos (by omega) h))))
        · have he : (s.data.toList.drop a).take (i - a) = [] := by rw [show i - a = 0 by omega]; rfl
          have h := ih (i + 1) (i + 1) out (Nat.le_refl _) (by omega) (by omega) (by omega)
          rw [hn] at h
          rw [if_pos he]
          exact ev_neg (by omega) h
      · rw [if_neg c, hcur]
        refine ev_neg ?_ (ih (i + 1) a out (by omega) (by omega) (by omega) (by omega))
        intro e
        have e2 := beq_iff_eq.1 e
        apply c
        apply UInt8.toNat_inj.1
        have : (s.data.toList[i]).toNat = 32 := by omega
        rw [this]; rfl
  have h := key s.size 0 0 [] (Nat.le_refl _) (by omega) (by omega) (by simp)
  unfold spec_l00Words.f ws
  simpa using h
end Go.Proofs.YtniceoohmhjjlaaDoor.Q
