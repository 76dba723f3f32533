/- What laws.FnExactDiffUpdates reaches, part 4: the functions as Lean functions, the proofs that the program's functions answer so, and plain laws about them. -/
import Derived.Test.YtglcnnmobkocmaaGreatKFnExactDiffUpdates1
import Derived.Test.YtglcnnmobkocmaaGreatKFnExactDiffUpdates3
namespace Go.Proofs.YtglcnnmobkocmaaGreat.Q
open Go.RowKit Go.Proofs.YtglcnnmobkocmaaGreat.Ext Go.Proofs.YtglcnnmobkocmaaGreatW.PrintWords Go.Proofs.YtglcnnmobkocmaaGreatW.PrintLast Go.Proofs.YtglcnnmobkocmaaGreatW.PrintMore
attribute [local go_sem] max2_int min2_int max_two min_two max_three min_three max_four min_four   -- for this text's walks alone
set_option linter.unusedVariables false
set_option linter.unusedSimpArgs false

set_option linter.unusedVariables false
set_option linter.unusedSimpArgs false
def laws_eqSnapS.l0 : Nat → List (S103) → List (S103) → Int → Option (Bool)
  | 0, _, _, _ => none
  | k + 1, x0, x1, x5 => if x5 < (x0.length : Int) then (if 0 ≤ x5 then (if x5 < (x1.length : Int) then ((laws_eqSnap.f k ((rd_T103 x0 x5).f0) ((rd_T103 x0 x5).f1) ((rd_T103 x1 x5).f0) ((rd_T103 x1 x5).f1)).bind fun t585 => (if t585 = true then (laws_eqSnapS.l0 k x0 x1 (wrap64 (x5 + 1))) else (some false))) else (none)) else (none)) else (some true)
def laws_eqSnapS.f (k : Nat) (l0 : List (S103)) (l1 : List (S103)) : Option (Bool) := if (l0.length : Int) = (l1.length : Int) then (laws_eqSnapS.l0 k l0 l1 0) else (some false)
theorem laws_eqSnapS.mono_l : ∀ k, (∀ y0 y1 y2, LeO (laws_eqSnapS.l0 k y0 y1 y2) (laws_eqSnapS.l0 (k + 1) y0 y1 y2))
  | 0 => fun _ _ _ r h => by simp [laws_eqSnapS.l0] at h
  | k + 1 => by
    have ih0 := laws_eqSnapS.mono_l k
    · intro y0 y1 y2
      unfold laws_eqSnapS.l0
      repeat' first| (with_reducible first | exact ih0 _ _ _ | exact laws_eqSnap.mono _ _ _ _ _ | exact LeO.refl _ | exact LeO.none _ | refine LeO.ite ?_ ?_ | refine LeO.bind ?_ (fun _ => ?_)) | exact ih0 _ _ _ | exact laws_eqSnap.mono _ _ _ _ _ | exact LeO.none _ | refine LeO.ite ?_ ?_ | refine LeO.bind ?_ (fun _ => ?_)
theorem laws_eqSnapS.mono : ∀ a0 a1 k, LeO (laws_eqSnapS.f k a0 a1) (laws_eqSnapS.f (k + 1) a0 a1) := by
  intro a0 a1 k
  have ih0 := laws_eqSnapS.mono_l k
  unfold laws_eqSnapS.f
  repeat' first| (with_reducible first | exact ih0 _ _ _ | exact laws_eqSnap.mono _ _ _ _ _ | exact LeO.refl _ | exact LeO.none _ | refine LeO.ite ?_ ?_ | refine LeO.bind ?_ (fun _ => ?_)) | exact ih0 _ _ _ | exact laws_eqSnap.mono _ _ _ _ _ | exact LeO.none _ | refine LeO.ite ?_ ?_ | refine LeO.bind ?_ (fun _ => ?_)
def laws_eqSnapS.T6 : Bool × List (List Nat × List Nat) := (true, [([], []), ([], []), ([0, 1], [0, 1]), ([2], [2]), ([], []), ([], []), ([4, 5], [4, 5]), ([6], [6]), ([3, 7], [3, 7]), ([8], [8])])
def laws_eqSnapS.B6 : List Nat := [0, 0, 3, 7, 0, 0, 48, 112, 255, 511]
theorem laws_eqSnapS.tab6 : rtab .any (opsOf Tryz.f47 6) = laws_eqSnapS.T6 := by kernel_rfl
theorem laws_eqSnapS.bits6 : waitsOk laws_eqSnapS.T6.2 laws_eqSnapS.B6 = true := by kernel_rfl
set_option maxHeartbeats 8000000 in
set_option maxRecDepth 100000 in
theorem laws_eqSnapS.calls (k : Nat) (A0 : Option Addr) (c0 : Nat) (l0 : List (S103)) (A1 : Option Addr) (c1 : Nat) (l1 : List (S103)) (r : Bool) (w : World) (hr0 : Kd.C k103 w A0 l0.length l0) (hc0 : l0.length ≤ c0) (hr1 : Kd.C k103 w A1 l1.length l1) (hc1 : l1.length ≤ c1) (h : laws_eqSnapS.f k l0 l1 = some r) :
    Calls Tryz.prog 47 #[.slice A0 l0.length c0, .slice A1 l1.length c1] w fun e w' => e = .returned (.bool r) ∧ Below w.heap.size w w' := by
 have hu103 := Tryz.underlying103; have HR0 := zm hr0; have HC0 := zm hc0; clear hr0 hc0; have HR1 := zm hr1; have HC1 := zm hc1; clear hr1 hc1; have HB := zm (Below.refl w.heap.size w)
 have H : (if (l0.length : Int) = (l1.length : Int) then (laws_eqSnapS.l0 k l0 l1 0) else (some false)) = some r := h
 clear h
 by_cases c3 : (l0.length : Int) = (l1.length : Int)
 ·rw [if_pos c3] at H
  have c3b0 : ((l0.length : Int) == (l1.length : Int)) = true := beq_iff_eq.mpr c3
  have c3b1 : ((l0.length : Int) != (l1.length : Int)) = false := bne_eq_false_iff_eq.mpr c3
  have c3b2 : (l0.length == l1.length) = true := by first | simpa using c3 | (simp at c3 ⊢; omega)
  clear c3
  have H' := zm H
  clear H
  go_enter Tryz.func47, Tryz.ntmps47
  go_wp2
  go_loopg [5] k (fun kq v5 w' => ∃ (x5_1 : Int), v5 = .int .i64 x5_1 ∧ Aside0 (laws_eqSnapS.l0 kq l0 l1 x5_1 = some r) ∧ Aside0 (kq ≤ k) ∧ Aside0 (Below w.heap.size w w'))
  case atStart => exact ⟨(0), zr, H', ⟨Nat.le_refl _⟩, ⟨zg_1 HB.out⟩⟩
  case round =>
   clear H'
   try clear c1
   try clear p2
   try clear c3
   try clear c3b0
   try clear c3b1
   try clear c3b2
   obtain ⟨x5_1, rfl, HA, HK1, HB⟩ := hrel
   cases gk with
   | zero => exact absurd HA.out (by simp [laws_eqSnapS.l0])
   | succ k1 =>
    have H := HA.out; clear HA
    simp only [laws_eqSnapS.l0] at H
    by_cases c4 : x5_1 < (l0.length : Int)
    ·rw [if_pos c4] at H
     have c4b0 := decide_eq_true c4; clear c4
     by_cases c5 : 0 ≤ x5_1
     ·rw [if_pos c5] at H
      have c5b0 := decide_eq_true c5; clear c5
      by_cases c6 : x5_1 < (l1.length : Int)
      ·rw [if_pos c6] at H
       have c6b0 := decide_eq_true c6; clear c6; replace H := Option.bind_eq_some_iff.mp H
       obtain ⟨t585, A70, H⟩ := H
       try dsimp only at H
       have A7 := zm A70; clear A70
       by_cases c8 : t585 = true
       ·subst c8
        replace H : (laws_eqSnapS.l0 k1 l0 l1 (wrap64 (x5_1 + 1))) = some r := by rw [if_pos rfl] at H; exact H
        have H' := zm H
        clear H
        try go_wp2
        have n0_ := zm (below_drew1 HB.out); clear HB; have HB := n0_; clear n0_
        have p583 : 0 ≤ (x5_1 : Int) := zd
        have q583 : x5_1 < (l0.length : Int) := zd
        obtain ⟨ad583, A583_1, c583_1, e583, hx583_0, hx583_1, hl583_1, hi583_1⟩ := at_T103 HR0.out x5_1 p583 q583
        have hw583_1 := hx583_1; have hw583_0 := hx583_0; cases e583; replace hx583_0 := (HB.out.cell (World.block_lt_of_cell? w _ hx583_0)).trans hx583_0; replace hx583_1 := (HB.out.cell (World.block_lt_of_cell? w _ hx583_1)).trans hx583_1; have Za := zm hi583_1; have Zc := zm hl583_1; clear hi583_1 hl583_1; replace p583 := eq_true p583; replace q583 := eq_true q583
        have p584 : 0 ≤ (x5_1 : Int) := zd
        have q584 : x5_1 < (l1.length : Int) := zd
        obtain ⟨ad584, A584_1, c584_1, e584, hx584_0, hx584_1, hl584_1, hi584_1⟩ := at_T103 HR1.out x5_1 p584 q584
        have hw584_1 := hx584_1; have hw584_0 := hx584_0; cases e584; replace hx584_0 := (HB.out.cell (World.block_lt_of_cell? w _ hx584_0)).trans hx584_0; replace hx584_1 := (HB.out.cell (World.block_lt_of_cell? w _ hx584_1)).trans hx584_1; have Zb := zm hi584_1; have Zd := zm hl584_1; clear hi584_1 hl584_1; replace p584 := eq_true p584; replace q584 := eq_true q584
        refine start_ (n := 10) (S := fun w' => w'.cell? (ad583.add ((x5_1).toNat * 2)) = some (.string ((rd_T103 l0 x5_1).f0)) ∧ w'.cell? ⟨(ad583.add ((x5_1).toNat * 2)).block, (ad583.add ((x5_1).toNat * 2)).off + 1, none⟩ = some (.slice A583_1 ((rd_T103 l0 x5_1).f1).length c583_1) ∧ w'.cell? (ad584.add ((x5_1).toNat * 2)) = some (.string ((rd_T103 l1 x5_1).f0)) ∧ w'.cell? ⟨(ad584.add ((x5_1).toNat * 2)).block, (ad584.add ((x5_1).toNat * 2)).off + 1, none⟩ = some (.slice A584_1 ((rd_T103 l1 x5_1).f1).length c584_1)) (ds := []) #[false, false, false, false, false, false, false, false, false, false] (by kernel_rfl) rfl rfl ⟨((HB.out.cell (World.block_lt_of_cell? w _ hw583_0)).trans hw583_0), ((HB.out.cell (World.block_lt_of_cell? w _ hw583_1)).trans hw583_1), ((HB.out.cell (World.block_lt_of_cell? w _ hw584_0)).trans hw584_0), ((HB.out.cell (World.block_lt_of_cell? w _ hw584_1)).trans hw584_1)⟩ (fun hHeld => ?_); refine with_tabW laws_eqSnapS.tab6 laws_eqSnapS.bits6 (fun HT_ HW_ => ?_)
        generalize wr.drew = w9 at HB Za Zb hx583_0 hx583_1 hx584_0 hx584_1 hHeld ⊢
        refine pure_ (i := 0) (N := some 17) (v := ?_) (a' := ?_) #[true, false, false, false, false, false, false, false, false, false] rfl rfl (any_of HT_.out (by kernel_rfl)) (fun _ _ _ h => h) (Or.inl ⟨by rfl, ?_⟩) ?_ ?_
        rotate_left
        ·intro w'
         go_simp
         with_reducible rfl
        rotate_left
        ·simp only [Act.put, zs, zz, zt, i64_w, i32_w]
         rfl
        refine pure_ (i := 1) (N := some 18) (v := ?_) (a' := ?_) #[true, true, false, false, false, false, false, false, false, false] rfl rfl (any_of HT_.out (by kernel_rfl)) (fun _ _ _ h => h) (Or.inl ⟨by rfl, ?_⟩) ?_ ?_
        rotate_left
        ·intro w'
         go_simp
         with_reducible rfl
        rotate_left
        ·simp only [Act.put, zs, zz, zt, i64_w, i32_w]
         rfl
        refine pure_ (i := 2) (N := some 19) (v := ?_) (a' := ?_) #[true, true, true, false, false, false, false, false, false, false] rfl rfl (any_of HT_.out (by kernel_rfl)) (fun _ _ _ h => h) (Or.inl ⟨by rfl, ?_⟩) ?_ ?_
        rotate_left
        ·intro w'
         go_simp
         with_reducible rfl
        rotate_left
        ·simp only [Act.put, zs, zz, zt, i64_w, i32_w]
         rfl
        refine pure_ (i := 4) (N := some 21) (v := ?_) (a' := ?_) #[true, true, true, false, true, false, false, false, false, false] rfl rfl (any_of HT_.out (by kernel_rfl)) (fun _ _ _ h => h) (Or.inl ⟨by rfl, ?_⟩) ?_ ?_
        rotate_left
        ·intro w'
         go_simp
         with_reducible rfl
        rotate_left
        ·simp only [Act.put, zs, zz, zt, i64_w, i32_w]
         rfl
        refine pure_ (i := 5) (N := some 22) (v := ?_) (a' := ?_) #[true, true, true, false, true, true, false, false, false, false] rfl rfl (any_of HT_.out (by kernel_rfl)) (fun _ _ _ h => h) (Or.inl ⟨by rfl, ?_⟩) ?_ ?_
        rotate_left
        ·intro w'
         go_simp
         with_reducible rfl
        rotate_left
        ·simp only [Act.put, zs, zz, zt, i64_w, i32_w]
         rfl
        refine pure_ (i := 6) (N := some 23) (v := ?_) (a' := ?_) #[true, true, true, false, true, true, true, false, false, false] rfl rfl (any_of HT_.out (by kernel_rfl)) (fun _ _ _ h => h) (Or.inl ⟨by rfl, ?_⟩) ?_ ?_
        rotate_left
        ·intro w'
         go_simp
         with_reducible rfl
        rotate_left
        ·simp only [Act.put, zs, zz, zt, i64_w, i32_w]
         rfl
        refine take_ (i := 3) (N := some 20) (v := ?_) (a' := ?_) #[true, true, true, true, true, true, true, false, false, false] rfl rfl (take_ofW HT_.out HW_.out (by kernel_rfl)) (fun _ _ _ h => h) (Or.inl ⟨by rfl, ?_⟩) hHeld ?_ ?_
        rotate_left
        ·rintro w' ⟨s0, s1, s2, s3⟩
         go_simp
         with_reducible rfl
        rotate_left
        ·simp only [Act.put, zs, zz, zt, i64_w, i32_w]
         rfl
        refine take_ (i := 7) (N := some 24) (v := ?_) (a' := ?_) #[true, true, true, true, true, true, true, true, false, false] rfl rfl (take_ofW HT_.out HW_.out (by kernel_rfl)) (fun _ _ _ h => h) (Or.inl ⟨by rfl, ?_⟩) hHeld ?_ ?_
        rotate_left
        ·rintro w' ⟨s0, s1, s2, s3⟩
         go_simp
         with_reducible rfl
        rotate_left
        ·simp only [Act.put, zs, zz, zt, i64_w, i32_w]
         rfl
        refine one_ (i := 8) (N := some 25) #[true, true, true, true, true, true, true, true, true, false] rfl rfl (one_of HT_.out (by kernel_rfl)) (by decide) (fun K hK => ?_)
        refine goes_ Tryz.func92 (by kernel_rfl) rfl #[.agg #[.string ((rd_T103 l0 x5_1).f0), .slice A583_1 ((rd_T103 l0 x5_1).f1).length c583_1], .agg #[.string ((rd_T103 l1 x5_1).f0), .slice A584_1 ((rd_T103 l1 x5_1).f1).length c584_1]] (by rfl) rfl rfl zq ?_
        with_reducible refine (laws_eqSnap.calls k1 ((rd_T103 l0 x5_1).f0) _ _ ((rd_T103 l0 x5_1).f1) ((rd_T103 l1 x5_1).f0) _ _ ((rd_T103 l1 x5_1).f1) true _ ?side1 ?side2 ?side3 ?side4 A7.out).mono ?_
        (case side1 => exact zC (Kd.C_below Za.out HB.out))
        (case side2 => exact Zc.out)
        (case side3 => exact zC (Kd.C_below Zb.out HB.out))
        (case side4 => exact Zd.out)
        rintro e w10 ⟨rfl, hb⟩
        refine ⟨_, rfl, ?_⟩
        have n0_ := zm (below_step (zg_1 HB.out) hb); clear HB; have HB := n0_; clear n0_
        (try clear hb)
        (try clear hb2)
        (try clear hk)
        (try clear hi)
        refine hK.out _ _ ⟨((HB.out.cell (World.block_lt_of_cell? w _ hw583_0)).trans hw583_0), ((HB.out.cell (World.block_lt_of_cell? w _ hw583_1)).trans hw583_1), ((HB.out.cell (World.block_lt_of_cell? w _ hw584_0)).trans hw584_0), ((HB.out.cell (World.block_lt_of_cell? w _ hw584_1)).trans hw584_1)⟩ (fun hHeld => ?_)
        clear hK K
        refine norm_ (a' := ?_) ?_ ?_
        rotate_left
        ·show Act.put _ (some 25) _ = _
         simp only [Act.put, zs, zz, zt, i64_w, i32_w]
         rfl
        refine pure_ (i := 9) (N := some 26) (v := ?_) (a' := ?_) #[true, true, true, true, true, true, true, true, true, true] rfl rfl (any_of HT_.out (by kernel_rfl)) (fun _ _ _ h => h) (Or.inl ⟨by rfl, ?_⟩) ?_ ?_
        rotate_left
        ·intro w'
         go_simp
         with_reducible rfl
        rotate_left
        ·simp only [Act.put, zs, zz, zt, i64_w, i32_w]
         rfl
        refine done_ (done_of HT_.out (by kernel_rfl)) ?_
        try go_wp2
        go_roundg k1
        case measure => have := HK1.out; omega
        case rel => exact ⟨(wrap64 (x5_1 + 1)), zr, H', ⟨by have := HK1.out; omega⟩, ⟨zg_1 HB.out⟩⟩
       ·replace c8 := Bool.eq_false_iff.mpr c8
        subst c8
        replace H : (some false) = some r := by rw [if_neg (show ¬ (false = true) by decide)] at H; exact H
        obtain rfl := Option.some.inj H
        try go_wp2
        have n0_ := zm (below_drew1 HB.out); clear HB; have HB := n0_; clear n0_
        have p583 : 0 ≤ (x5_1 : Int) := zd
        have q583 : x5_1 < (l0.length : Int) := zd
        obtain ⟨ad583, A583_1, c583_1, e583, hx583_0, hx583_1, hl583_1, hi583_1⟩ := at_T103 HR0.out x5_1 p583 q583
        have hw583_1 := hx583_1; have hw583_0 := hx583_0; cases e583; replace hx583_0 := (HB.out.cell (World.block_lt_of_cell? w _ hx583_0)).trans hx583_0; replace hx583_1 := (HB.out.cell (World.block_lt_of_cell? w _ hx583_1)).trans hx583_1; have Za := zm hi583_1; have Zc := zm hl583_1; clear hi583_1 hl583_1; replace p583 := eq_true p583; replace q583 := eq_true q583
        have p584 : 0 ≤ (x5_1 : Int) := zd
        have q584 : x5_1 < (l1.length : Int) := zd
        obtain ⟨ad584, A584_1, c584_1, e584, hx584_0, hx584_1, hl584_1, hi584_1⟩ := at_T103 HR1.out x5_1 p584 q584
        have hw584_1 := hx584_1; have hw584_0 := hx584_0; cases e584; replace hx584_0 := (HB.out.cell (World.block_lt_of_cell? w _ hx584_0)).trans hx584_0; replace hx584_1 := (HB.out.cell (World.block_lt_of_cell? w _ hx584_1)).trans hx584_1; have Zb := zm hi584_1; have Zd := zm hl584_1; clear hi584_1 hl584_1; replace p584 := eq_true p584; replace q584 := eq_true q584
        refine start_ (n := 10) (S := fun w' => w'.cell? (ad583.add ((x5_1).toNat * 2)) = some (.string ((rd_T103 l0 x5_1).f0)) ∧ w'.cell? ⟨(ad583.add ((x5_1).toNat * 2)).block, (ad583.add ((x5_1).toNat * 2)).off + 1, none⟩ = some (.slice A583_1 ((rd_T103 l0 x5_1).f1).length c583_1) ∧ w'.cell? (ad584.add ((x5_1).toNat * 2)) = some (.string ((rd_T103 l1 x5_1).f0)) ∧ w'.cell? ⟨(ad584.add ((x5_1).toNat * 2)).block, (ad584.add ((x5_1).toNat * 2)).off + 1, none⟩ = some (.slice A584_1 ((rd_T103 l1 x5_1).f1).length c584_1)) (ds := []) #[false, false, false, false, false, false, false, false, false, false] (by kernel_rfl) rfl rfl ⟨((HB.out.cell (World.block_lt_of_cell? w _ hw583_0)).trans hw583_0), ((HB.out.cell (World.block_lt_of_cell? w _ hw583_1)).trans hw583_1), ((HB.out.cell (World.block_lt_of_cell? w _ hw584_0)).trans hw584_0), ((HB.out.cell (World.block_lt_of_cell? w _ hw584_1)).trans hw584_1)⟩ (fun hHeld => ?_); refine with_tabW laws_eqSnapS.tab6 laws_eqSnapS.bits6 (fun HT_ HW_ => ?_)
        generalize wr.drew = w11 at HB Za Zb hx583_0 hx583_1 hx584_0 hx584_1 hHeld ⊢
        refine pure_ (i := 0) (N := some 17) (v := ?_) (a' := ?_) #[true, false, false, false, false, false, false, false, false, false] rfl rfl (any_of HT_.out (by kernel_rfl)) (fun _ _ _ h => h) (Or.inl ⟨by rfl, ?_⟩) ?_ ?_
        rotate_left
        ·intro w'
         go_simp
         with_reducible rfl
        rotate_left
        ·simp only [Act.put, zs, zz, zt, i64_w, i32_w]
         rfl
        refine pure_ (i := 1) (N := some 18) (v := ?_) (a' := ?_) #[true, true, false, false, false, false, false, false, false, false] rfl rfl (any_of HT_.out (by kernel_rfl)) (fun _ _ _ h => h) (Or.inl ⟨by rfl, ?_⟩) ?_ ?_
        rotate_left
        ·intro w'
         go_simp
         with_reducible rfl
        rotate_left
        ·simp only [Act.put, zs, zz, zt, i64_w, i32_w]
         rfl
        refine pure_ (i := 2) (N := some 19) (v := ?_) (a' := ?_) #[true, true, true, false, false, false, false, false, false, false] rfl rfl (any_of HT_.out (by kernel_rfl)) (fun _ _ _ h => h) (Or.inl ⟨by rfl, ?_⟩) ?_ ?_
        rotate_left
        ·intro w'
         go_simp
         with_reducible rfl
        rotate_left
        ·simp only [Act.put, zs, zz, zt, i64_w, i32_w]
         rfl
        refine pure_ (i := 4) (N := some 21) (v := ?_) (a' := ?_) #[true, true, true, false, true, false, false, false, false, false] rfl rfl (any_of HT_.out (by kernel_rfl)) (fun _ _ _ h => h) (Or.inl ⟨by rfl, ?_⟩) ?_ ?_
        rotate_left
        ·intro w'
         go_simp
         with_reducible rfl
        rotate_left
        ·simp only [Act.put, zs, zz, zt, i64_w, i32_w]
         rfl
        refine pure_ (i := 5) (N := some 22) (v := ?_) (a' := ?_) #[true, true, true, false, true, true, false, false, false, false] rfl rfl (any_of HT_.out (by kernel_rfl)) (fun _ _ _ h => h) (Or.inl ⟨by rfl, ?_⟩) ?_ ?_
        rotate_left
        ·intro w'
         go_simp
         with_reducible rfl
        rotate_left
        ·simp only [Act.put, zs, zz, zt, i64_w, i32_w]
         rfl
        refine pure_ (i := 6) (N := some 23) (v := ?_) (a' := ?_) #[true, true, true, false, true, true, true, false, false, false] rfl rfl (any_of HT_.out (by kernel_rfl)) (fun _ _ _ h => h) (Or.inl ⟨by rfl, ?_⟩) ?_ ?_
        rotate_left
        ·intro w'
         go_simp
         with_reducible rfl
        rotate_left
        ·simp only [Act.put, zs, zz, zt, i64_w, i32_w]
         rfl
        refine take_ (i := 3) (N := some 20) (v := ?_) (a' := ?_) #[true, true, true, true, true, true, true, false, false, false] rfl rfl (take_ofW HT_.out HW_.out (by kernel_rfl)) (fun _ _ _ h => h) (Or.inl ⟨by rfl, ?_⟩) hHeld ?_ ?_
        rotate_left
        ·rintro w' ⟨s0, s1, s2, s3⟩
         go_simp
         with_reducible rfl
        rotate_left
        ·simp only [Act.put, zs, zz, zt, i64_w, i32_w]
         rfl
        refine take_ (i := 7) (N := some 24) (v := ?_) (a' := ?_) #[true, true, true, true, true, true, true, true, false, false] rfl rfl (take_ofW HT_.out HW_.out (by kernel_rfl)) (fun _ _ _ h => h) (Or.inl ⟨by rfl, ?_⟩) hHeld ?_ ?_
        rotate_left
        ·rintro w' ⟨s0, s1, s2, s3⟩
         go_simp
         with_reducible rfl
        rotate_left
        ·simp only [Act.put, zs, zz, zt, i64_w, i32_w]
         rfl
        refine one_ (i := 8) (N := some 25) #[true, true, true, true, true, true, true, true, true, false] rfl rfl (one_of HT_.out (by kernel_rfl)) (by decide) (fun K hK => ?_)
        refine goes_ Tryz.func92 (by kernel_rfl) rfl #[.agg #[.string ((rd_T103 l0 x5_1).f0), .slice A583_1 ((rd_T103 l0 x5_1).f1).length c583_1], .agg #[.string ((rd_T103 l1 x5_1).f0), .slice A584_1 ((rd_T103 l1 x5_1).f1).length c584_1]] (by rfl) rfl rfl zq ?_
        with_reducible refine (laws_eqSnap.calls k1 ((rd_T103 l0 x5_1).f0) _ _ ((rd_T103 l0 x5_1).f1) ((rd_T103 l1 x5_1).f0) _ _ ((rd_T103 l1 x5_1).f1) false _ ?side1 ?side2 ?side3 ?side4 A7.out).mono ?_
        (case side1 => exact zC (Kd.C_below Za.out HB.out))
        (case side2 => exact Zc.out)
        (case side3 => exact zC (Kd.C_below Zb.out HB.out))
        (case side4 => exact Zd.out)
        rintro e w12 ⟨rfl, hb⟩
        refine ⟨_, rfl, ?_⟩
        have n0_ := zm (below_step (zg_1 HB.out) hb); clear HB; have HB := n0_; clear n0_
        (try clear hb)
        (try clear hb2)
        (try clear hk)
        (try clear hi)
        refine hK.out _ _ ⟨((HB.out.cell (World.block_lt_of_cell? w _ hw583_0)).trans hw583_0), ((HB.out.cell (World.block_lt_of_cell? w _ hw583_1)).trans hw583_1), ((HB.out.cell (World.block_lt_of_cell? w _ hw584_0)).trans hw584_0), ((HB.out.cell (World.block_lt_of_cell? w _ hw584_1)).trans hw584_1)⟩ (fun hHeld => ?_)
        clear hK K
        refine norm_ (a' := ?_) ?_ ?_
        rotate_left
        ·show Act.put _ (some 25) _ = _
         simp only [Act.put, zs, zz, zt, i64_w, i32_w]
         rfl
        refine pure_ (i := 9) (N := some 26) (v := ?_) (a' := ?_) #[true, true, true, true, true, true, true, true, true, true] rfl rfl (any_of HT_.out (by kernel_rfl)) (fun _ _ _ h => h) (Or.inl ⟨by rfl, ?_⟩) ?_ ?_
        rotate_left
        ·intro w'
         go_simp
         with_reducible rfl
        rotate_left
        ·simp only [Act.put, zs, zz, zt, i64_w, i32_w]
         rfl
        refine done_ (done_of HT_.out (by kernel_rfl)) ?_
        try go_wp2
        go_ret
        exact ⟨ze, zg_1 HB.out⟩
      ·rw [if_neg c6] at H
       exact absurd H (by simp)
     ·rw [if_neg c5] at H
      exact absurd H (by simp)
    ·rw [if_neg c4] at H
     have c4b0 := decide_eq_false c4; clear c4; obtain rfl := Option.some.inj H
     go_wp2
     go_ret
     exact ⟨ze, zg_1 HB.out⟩
 ·rw [if_neg c3] at H
  have c3b0 : ((l0.length : Int) == (l1.length : Int)) = false := beq_eq_false_iff_ne.mpr c3
  have c3b1 : ((l0.length : Int) != (l1.length : Int)) = true := bne_iff_ne.mpr c3
  have c3b2 : (l0.length == l1.length) = false := by first | simpa using c3 | (simp at c3 ⊢; omega)
  obtain rfl := Option.some.inj H
  go_enter Tryz.func47, Tryz.ntmps47
  go_wp2
  go_ret
  exact ⟨ze, zg_1 HB.out⟩
def laws_eqImage.f (k : Nat) (l0_0 : List Int) (l0_1 : List Int) (l0_2 : List (S103)) (l0_3 : List Int) (l1_0 : List Int) (l1_1 : List Int) (l1_2 : List (S103)) (l1_3 : List Int) : Option (Bool) := (laws_eqIntS.f k l0_0 l1_0).bind fun t588 => (if t588 = true then ((laws_eqIntS.f k l0_1 l1_1).bind fun t589 => (if t589 = true then ((laws_eqSnapS.f k l0_2 l1_2).bind fun t590 => (if t590 = true then ((laws_eqIntS.f k l0_3 l1_3).bind fun t591 => (if t591 = true then (some true) else (some false))) else (some false))) else (some false))) else (some false))
theorem laws_eqImage.mono : ∀ a0 a1 a2 a3 a4 a5 a6 a7 k, LeO (laws_eqImage.f k a0 a1 a2 a3 a4 a5 a6 a7) (laws_eqImage.f (k + 1) a0 a1 a2 a3 a4 a5 a6 a7) := by
  intro a0 a1 a2 a3 a4 a5 a6 a7 k
  unfold laws_eqImage.f
  repeat' first| (with_reducible first | exact laws_eqIntS.mono _ _ _ | exact laws_eqSnapS.mono _ _ _ | exact LeO.refl _ | exact LeO.none _ | refine LeO.ite ?_ ?_ | refine LeO.bind ?_ (fun _ => ?_)) | exact laws_eqIntS.mono _ _ _ | exact laws_eqSnapS.mono _ _ _ | exact LeO.none _ | refine LeO.ite ?_ ?_ | refine LeO.bind ?_ (fun _ => ?_)
set_option maxHeartbeats 8000000 in
set_option maxRecDepth 100000 in
theorem laws_eqImage.calls (k : Nat) (A0_0 : Option Addr) (c0_0 : Nat) (l0_0 : List Int) (A0_1 : Option Addr) (c0_1 : Nat) (l0_1 : List Int) (A0_2 : Option Addr) (c0_2 : Nat) (l0_2 : List (S103)) (A0_3 : Option Addr) (c0_3 : Nat) (l0_3 : List Int) (A1_0 : Option Addr) (c1_0 : Nat) (l1_0 : List Int) (A1_1 : Option Addr) (c1_1 : Nat) (l1_1 : List Int) (A1_2 : Option Addr) (c1_2 : Nat) (l1_2 : List (S103)) (A1_3 : Option Addr) (c1_3 : Nat) (l1_3 : List Int) (r : Bool) (w : World) (hr0_0 : Kd.C (Kd.int .i64) w A0_0 l0_0.length l0_0) (hc0_0 : l0_0.length ≤ c0_0) (hr0_1 : Kd.C (Kd.int .i64) w A0_1 l0_1.length l0_1) (hc0_1 : l0_1.length ≤ c0_1) (hr0_2 : Kd.C k103 w A0_2 l0_2.length l0_2) (hc0_2 : l0_2.length ≤ c0_2) (hr0_3 : Kd.C (Kd.int .i64) w A0_3 l0_3.length l0_3) (hc0_3 : l0_3.length ≤ c0_3) (hr1_0 : Kd.C (Kd.int .i64) w A1_0 l1_0.length l1_0) (hc1_0 : l1_0.length ≤ c1_0) (hr1_1 : Kd.C (Kd.int .i64) w A1_1 l1_1.length l1_1) (hc1_1 : l1_1.length ≤ c1_1) (hr1_2 : Kd.C k103 w A1_2 l1_2.length l1_2) (hc1_2 : l1_2.length ≤ c1_2) (hr1_3 : Kd.C (Kd.int .i64) w A1_3 l1_3.length l1_3) (hc1_3 : l1_3.length ≤ c1_3) (h : laws_eqImage.f k l0_0 l0_1 l0_2 l0_3 l1_0 l1_1 l1_2 l1_3 = some r) :
    Calls Tryz.prog 19 #[.agg #[.slice A0_0 l0_0.length c0_0, .slice A0_1 l0_1.length c0_1, .slice A0_2 l0_2.length c0_2, .slice A0_3 l0_3.length c0_3], .agg #[.slice A1_0 l1_0.length c1_0, .slice A1_1 l1_1.length c1_1, .slice A1_2 l1_2.length c1_2, .slice A1_3 l1_3.length c1_3]] w fun e w' => e = .returned (.bool r) ∧ Below w.heap.size w w' := by
 have hu26 := Tryz.underlying26; have Zg := zm hr0_0; have Zh := zm hc0_0; clear hr0_0 hc0_0; have Zk := zm hr0_1; have Zl := zm hc0_1; clear hr0_1 hc0_1; have Zq := zm hr0_2; have Zr := zm hc0_2; clear hr0_2 hc0_2; have Zu := zm hr0_3; have Zv := zm hc0_3; clear hr0_3 hc0_3; have Zi := zm hr1_0; have Zj := zm hc1_0; clear hr1_0 hc1_0; have Zm := zm hr1_1; have Zn := zm hc1_1; clear hr1_1 hc1_1; have Zs := zm hr1_2; have Zt := zm hc1_2; clear hr1_2 hc1_2; have Zw := zm hr1_3; have Zx := zm hc1_3; clear hr1_3 hc1_3; have HB := zm (Below.refl w.heap.size w); have H := h
 unfold laws_eqImage.f at H
 clear h; replace H := Option.bind_eq_some_iff.mp H
 obtain ⟨t588, A30, H⟩ := H
 try dsimp only at H
 have A3 := zm A30; clear A30
 by_cases c4 : t588 = true
 ·subst c4
  replace H : ((laws_eqIntS.f k l0_1 l1_1).bind fun t589 => (if t589 = true then ((laws_eqSnapS.f k l0_2 l1_2).bind fun t590 => (if t590 = true then ((laws_eqIntS.f k l0_3 l1_3).bind fun t591 => (if t591 = true then (some true) else (some false))) else (some false))) else (some false))) = some r := by rw [if_pos rfl] at H; exact H
  replace H := Option.bind_eq_some_iff.mp H
  obtain ⟨t589, A50, H⟩ := H
  try dsimp only at H
  have A5 := zm A50; clear A50
  by_cases c6 : t589 = true
  ·subst c6
   replace H : ((laws_eqSnapS.f k l0_2 l1_2).bind fun t590 => (if t590 = true then ((laws_eqIntS.f k l0_3 l1_3).bind fun t591 => (if t591 = true then (some true) else (some false))) else (some false))) = some r := by rw [if_pos rfl] at H; exact H
   replace H := Option.bind_eq_some_iff.mp H
   obtain ⟨t590, A70, H⟩ := H
   try dsimp only at H
   have A7 := zm A70; clear A70
   by_cases c8 : t590 = true
   ·subst c8
    replace H : ((laws_eqIntS.f k l0_3 l1_3).bind fun t591 => (if t591 = true then (some true) else (some false))) = some r := by rw [if_pos rfl] at H; exact H
    replace H := Option.bind_eq_some_iff.mp H
    obtain ⟨t591, A90, H⟩ := H
    try dsimp only at H
    have A9 := zm A90; clear A90
    by_cases c10 : t591 = true
    ·subst c10
     replace H : (some true) = some r := by rw [if_pos rfl] at H; exact H
     obtain rfl := Option.some.inj H
     go_enter Tryz.func19, Tryz.ntmps19
     go_wp2_with (first | ((with_reducible refine gate_dst (N := 2) rfl ?_); refine box_event ?hg (N := 2) ?hd (cs := #[.slice A0_0 l0_0.length c0_0, .slice A0_1 l0_1.length c0_1, .slice A0_2 l0_2.length c0_2, .slice A0_3 l0_3.length c0_3]) (t := 26) ?hr ?_; (case hd => rfl); (case hg => rfl); (case hr => first | (go_simp; done) | (go_simp; rfl)); intro gb586 hg w11 hbox hb; have n0_ := zm (below_step (zg_1 HB.out) hb); have n1_ := zm (hbox); have n2_ := zm ((by rw [hg]; exact (below_size (zg_1 HB.out)) : w.heap.size ≤ gb586)); have n3_ := zm ((by rw [hg]; exact (below_size (zg_1 HB.out)) : w.heap.size ≤ gb586)); replace HB := n0_; have Za := n1_; have Zo := n2_; have Zc := n3_; clear n0_ n1_ n2_ n3_; clear hb hbox hg) | ((with_reducible refine gate_dst (N := 3) rfl ?_); refine box_event ?hg (N := 3) ?hd (cs := #[.slice A1_0 l1_0.length c1_0, .slice A1_1 l1_1.length c1_1, .slice A1_2 l1_2.length c1_2, .slice A1_3 l1_3.length c1_3]) (t := 26) ?hr ?_; (case hd => rfl); (case hg => rfl); (case hr => first | (go_simp; done) | (go_simp; rfl)); intro gb587 hg w12 hbox hb; have n0_ := zm (blk_below (zg_3 Za.out) hb); have n1_ := zm (below_step (zg_2 HB.out Zc.out) hb); have n2_ := zm (hbox); have n3_ := zm ((by rw [hg]; exact (below_size (zg_2 HB.out Zc.out)) : w.heap.size ≤ gb587)); have n4_ := zm ((by rw [hg]; exact (below_size (zg_2 HB.out Zc.out)) : w.heap.size ≤ gb587)); have n5_ := zm ((by rw [hg]; exact Nat.ne_of_lt (blk_lt (zg_3 Za.out)) : gb586 ≠ gb587)); have n6_ := zm ((by rw [hg]; exact Nat.ne_of_gt (blk_lt (zg_3 Za.out)) : gb587 ≠ gb586)); replace Za := n0_; replace HB := n1_; have Zb := n2_; have Zp := n3_; have Zd := n4_; have Ze := n5_; have Zf := n6_; clear n0_ n1_ n2_ n3_ n4_ n5_ n6_; clear hb hbox hg; have hnb13 := Ze.out; have hnc13 := Zf.out; obtain ⟨hcz14_0, hcz14_1, hcz14_2, hcz14_3, hfz14_0, hfz14_1, hfz14_2, hfz14_3⟩ := zb4 Za.out; obtain ⟨hcz15_0, hcz15_1, hcz15_2, hcz15_3, hfz15_0, hfz15_1, hfz15_2, hfz15_3⟩ := zb4 Zb.out) | ((with_reducible refine gate_callee (f := 45) rfl ?_); refine goesL_ (some 9) rfl rfl Tryz.func45 (by kernel_rfl) rfl #[.slice A0_0 l0_0.length c0_0, .slice A1_0 l1_0.length c1_0] rfl zq ?_; (with_reducible refine (laws_eqIntS.calls k _ _ l0_0 _ _ l1_0 true _ ?side1 ?side2 ?side3 ?side4 A3.out).mono ?_); (case side1 => exact zC (Kd.C_below Zg.out HB.out)); (case side2 => exact Zh.out); (case side3 => exact zC (Kd.C_below Zi.out HB.out)); (case side4 => exact Zj.out); rintro e w' ⟨rfl, ⟨nd, rfl⟩⟩; refine ⟨_, rfl, ?_⟩) | ((with_reducible refine gate_callee (f := 45) rfl ?_); refine goesL_ (some 15) rfl rfl Tryz.func45 (by kernel_rfl) rfl #[.slice A0_1 l0_1.length c0_1, .slice A1_1 l1_1.length c1_1] rfl zq ?_; (with_reducible refine (laws_eqIntS.calls k _ _ l0_1 _ _ l1_1 true _ ?side1 ?side2 ?side3 ?side4 A5.out).mono ?_); (case side1 => exact zC (Kd.C_below Zk.out (zg_5 HB.out Zc.out Zd.out))); (case side2 => exact Zl.out); (case side3 => exact zC (Kd.C_below Zm.out (zg_5 HB.out Zc.out Zd.out))); (case side4 => exact Zn.out); rintro e w' ⟨rfl, ⟨nd, rfl⟩⟩; refine ⟨_, rfl, ?_⟩) | ((with_reducible refine gate_callee (f := 47) rfl ?_); refine goesL_ (some 21) rfl rfl Tryz.func47 (by kernel_rfl) rfl #[.slice A0_2 l0_2.length c0_2, .slice A1_2 l1_2.length c1_2] rfl zq ?_; (with_reducible refine (laws_eqSnapS.calls k _ _ l0_2 _ _ l1_2 true _ ?side1 ?side2 ?side3 ?side4 A7.out).mono ?_); (case side1 => exact zC (Kd.C_below Zq.out (zg_5 HB.out Zc.out Zd.out))); (case side2 => exact Zr.out); (case side3 => exact zC (Kd.C_below Zs.out (zg_5 HB.out Zc.out Zd.out))); (case side4 => exact Zt.out); rintro e w16 ⟨rfl, hb⟩; refine ⟨_, rfl, ?_⟩; have n0_ := zm (blk_below (zg_3 Za.out) hb); have n1_ := zm (blk_below (zg_3 Zb.out) hb); have n2_ := zm (below_step (zg_5 HB.out Zc.out Zd.out) hb); replace Za := n0_; replace Zb := n1_; replace HB := n2_; clear n0_ n1_ n2_; (try clear hb); (try clear hb2); (try clear hk); (try clear hi); obtain ⟨hcz17_0, hcz17_1, hcz17_2, hcz17_3, hfz17_0, hfz17_1, hfz17_2, hfz17_3⟩ := zb4 Za.out; obtain ⟨hcz18_0, hcz18_1, hcz18_2, hcz18_3, hfz18_0, hfz18_1, hfz18_2, hfz18_3⟩ := zb4 Zb.out) | ((with_reducible refine gate_callee (f := 45) rfl ?_); refine goesL_ (some 27) rfl rfl Tryz.func45 (by kernel_rfl) rfl #[.slice A0_3 l0_3.length c0_3, .slice A1_3 l1_3.length c1_3] rfl zq ?_; (with_reducible refine (laws_eqIntS.calls k _ _ l0_3 _ _ l1_3 true _ ?side1 ?side2 ?side3 ?side4 A9.out).mono ?_); (case side1 => exact zC (Kd.C_below Zu.out HB.out)); (case side2 => exact Zv.out); (case side3 => exact zC (Kd.C_below Zw.out HB.out)); (case side4 => exact Zx.out); rintro e w' ⟨rfl, ⟨nd, rfl⟩⟩; refine ⟨_, rfl, ?_⟩))
     go_ret
     exact ⟨ze, zg_5 HB.out Zc.out Zd.out⟩
    ·replace c10 := Bool.eq_false_iff.mpr c10
     subst c10
     replace H : (some false) = some r := by rw [if_neg (show ¬ (false = true) by decide)] at H; exact H
     obtain rfl := Option.some.inj H
     go_enter Tryz.func19, Tryz.ntmps19
     go_wp2_with (first | ((with_reducible refine gate_dst (N := 2) rfl ?_); refine box_event ?hg (N := 2) ?hd (cs := #[.slice A0_0 l0_0.length c0_0, .slice A0_1 l0_1.length c0_1, .slice A0_2 l0_2.length c0_2, .slice A0_3 l0_3.length c0_3]) (t := 26) ?hr ?_; (case hd => rfl); (case hg => rfl); (case hr => first | (go_simp; done) | (go_simp; rfl)); intro gb586 hg w19 hbox hb; have n0_ := zm (below_step (zg_1 HB.out) hb); have n1_ := zm (hbox); have n2_ := zm ((by rw [hg]; exact (below_size (zg_1 HB.out)) : w.heap.size ≤ gb586)); have n3_ := zm ((by rw [hg]; exact (below_size (zg_1 HB.out)) : w.heap.size ≤ gb586)); replace HB := n0_; have Za := n1_; have Zo := n2_; have Zc := n3_; clear n0_ n1_ n2_ n3_; clear hb hbox hg) | ((with_reducible refine gate_dst (N := 3) rfl ?_); refine box_event ?hg (N := 3) ?hd (cs := #[.slice A1_0 l1_0.length c1_0, .slice A1_1 l1_1.length c1_1, .slice A1_2 l1_2.length c1_2, .slice A1_3 l1_3.length c1_3]) (t := 26) ?hr ?_; (case hd => rfl); (case hg => rfl); (case hr => first | (go_simp; done) | (go_simp; rfl)); intro gb587 hg w20 hbox hb; have n0_ := zm (blk_below (zg_3 Za.out) hb); have n1_ := zm (below_step (zg_2 HB.out Zc.out) hb); have n2_ := zm (hbox); have n3_ := zm ((by rw [hg]; exact (below_size (zg_2 HB.out Zc.out)) : w.heap.size ≤ gb587)); have n4_ := zm ((by rw [hg]; exact (below_size (zg_2 HB.out Zc.out)) : w.heap.size ≤ gb587)); have n5_ := zm ((by rw [hg]; exact Nat.ne_of_lt (blk_lt (zg_3 Za.out)) : gb586 ≠ gb587)); have n6_ := zm ((by rw [hg]; exact Nat.ne_of_gt (blk_lt (zg_3 Za.out)) : gb587 ≠ gb586)); replace Za := n0_; replace HB := n1_; have Zb := n2_; have Zp := n3_; have Zd := n4_; have Ze := n5_; have Zf := n6_; clear n0_ n1_ n2_ n3_ n4_ n5_ n6_; clear hb hbox hg; have hnb21 := Ze.out; have hnc21 := Zf.out; obtain ⟨hcz22_0, hcz22_1, hcz22_2, hcz22_3, hfz22_0, hfz22_1, hfz22_2, hfz22_3⟩ := zb4 Za.out; obtain ⟨hcz23_0, hcz23_1, hcz23_2, hcz23_3, hfz23_0, hfz23_1, hfz23_2, hfz23_3⟩ := zb4 Zb.out) | ((with_reducible refine gate_callee (f := 45) rfl ?_); refine goesL_ (some 9) rfl rfl Tryz.func45 (by kernel_rfl) rfl #[.slice A0_0 l0_0.length c0_0, .slice A1_0 l1_0.length c1_0] rfl zq ?_; (with_reducible refine (laws_eqIntS.calls k _ _ l0_0 _ _ l1_0 true _ ?side1 ?side2 ?side3 ?side4 A3.out).mono ?_); (case side1 => exact zC (Kd.C_below Zg.out HB.out)); (case side2 => exact Zh.out); (case side3 => exact zC (Kd.C_below Zi.out HB.out)); (case side4 => exact Zj.out); rintro e w' ⟨rfl, ⟨nd, rfl⟩⟩; refine ⟨_, rfl, ?_⟩) | ((with_reducible refine gate_callee (f := 45) rfl ?_); refine goesL_ (some 15) rfl rfl Tryz.func45 (by kernel_rfl) rfl #[.slice A0_1 l0_1.length c0_1, .slice A1_1 l1_1.length c1_1] rfl zq ?_; (with_reducible refine (laws_eqIntS.calls k _ _ l0_1 _ _ l1_1 true _ ?side1 ?side2 ?side3 ?side4 A5.out).mono ?_); (case side1 => exact zC (Kd.C_below Zk.out (zg_5 HB.out Zc.out Zd.out))); (case side2 => exact Zl.out); (case side3 => exact zC (Kd.C_below Zm.out (zg_5 HB.out Zc.out Zd.out))); (case side4 => exact Zn.out); rintro e w' ⟨rfl, ⟨nd, rfl⟩⟩; refine ⟨_, rfl, ?_⟩) | ((with_reducible refine gate_callee (f := 47) rfl ?_); refine goesL_ (some 21) rfl rfl Tryz.func47 (by kernel_rfl) rfl #[.slice A0_2 l0_2.length c0_2, .slice A1_2 l1_2.length c1_2] rfl zq ?_; (with_reducible refine (laws_eqSnapS.calls k _ _ l0_2 _ _ l1_2 true _ ?side1 ?side2 ?side3 ?side4 A7.out).mono ?_); (case side1 => exact zC (Kd.C_below Zq.out (zg_5 HB.out Zc.out Zd.out))); (case side2 => exact Zr.out); (case side3 => exact zC (Kd.C_below Zs.out (zg_5 HB.out Zc.out Zd.out))); (case side4 => exact Zt.out); rintro e w24 ⟨rfl, hb⟩; refine ⟨_, rfl, ?_⟩; have n0_ := zm (blk_below (zg_3 Za.out) hb); have n1_ := zm (blk_below (zg_3 Zb.out) hb); have n2_ := zm (below_step (zg_5 HB.out Zc.out Zd.out) hb); replace Za := n0_; replace Zb := n1_; replace HB := n2_; clear n0_ n1_ n2_; (try clear hb); (try clear hb2); (try clear hk); (try clear hi); obtain ⟨hcz25_0, hcz25_1, hcz25_2, hcz25_3, hfz25_0, hfz25_1, hfz25_2, hfz25_3⟩ := zb4 Za.out; obtain ⟨hcz26_0, hcz26_1, hcz26_2, hcz26_3, hfz26_0, hfz26_1, hfz26_2, hfz26_3⟩ := zb4 Zb.out) | ((with_reducible refine gate_callee (f := 45) rfl ?_); refine goesL_ (some 27) rfl rfl Tryz.func45 (by kernel_rfl) rfl #[.slice A0_3 l0_3.length c0_3, .slice A1_3 l1_3.length c1_3] rfl zq ?_; (with_reducible refine (laws_eqIntS.calls k _ _ l0_3 _ _ l1_3 false _ ?side1 ?side2 ?side3 ?side4 A9.out).mono ?_); (case side1 => exact zC (Kd.C_below Zu.out HB.out)); (case side2 => exact Zv.out); (case side3 => exact zC (Kd.C_below Zw.out HB.out)); (case side4 => exact Zx.out); rintro e w' ⟨rfl, ⟨nd, rfl⟩⟩; refine ⟨_, rfl, ?_⟩))
     go_ret
     exact ⟨ze, zg_5 HB.out Zc.out Zd.out⟩
   ·replace c8 := Bool.eq_false_iff.mpr c8
    subst c8
    replace H : (some false) = some r := by rw [if_neg (show ¬ (false = true) by decide)] at H; exact H
    obtain rfl := Option.some.inj H
    go_enter Tryz.func19, Tryz.ntmps19
    go_wp2_with (first | ((with_reducible refine gate_dst (N := 2) rfl ?_); refine box_event ?hg (N := 2) ?hd (cs := #[.slice A0_0 l0_0.length c0_0, .slice A0_1 l0_1.length c0_1, .slice A0_2 l0_2.length c0_2, .slice A0_3 l0_3.length c0_3]) (t := 26) ?hr ?_; (case hd => rfl); (case hg => rfl); (case hr => first | (go_simp; done) | (go_simp; rfl)); intro gb586 hg w27 hbox hb; have n0_ := zm (below_step (zg_1 HB.out) hb); have n1_ := zm (hbox); have n2_ := zm ((by rw [hg]; exact (below_size (zg_1 HB.out)) : w.heap.size ≤ gb586)); have n3_ := zm ((by rw [hg]; exact (below_size (zg_1 HB.out)) : w.heap.size ≤ gb586)); replace HB := n0_; have Za := n1_; have Zo := n2_; have Zc := n3_; clear n0_ n1_ n2_ n3_; clear hb hbox hg) | ((with_reducible refine gate_dst (N := 3) rfl ?_); refine box_event ?hg (N := 3) ?hd (cs := #[.slice A1_0 l1_0.length c1_0, .slice A1_1 l1_1.length c1_1, .slice A1_2 l1_2.length c1_2, .slice A1_3 l1_3.length c1_3]) (t := 26) ?hr ?_; (case hd => rfl); (case hg => rfl); (case hr => first | (go_simp; done) | (go_simp; rfl)); intro gb587 hg w28 hbox hb; have n0_ := zm (blk_below (zg_3 Za.out) hb); have n1_ := zm (below_step (zg_2 HB.out Zc.out) hb); have n2_ := zm (hbox); have n3_ := zm ((by rw [hg]; exact (below_size (zg_2 HB.out Zc.out)) : w.heap.size ≤ gb587)); have n4_ := zm ((by rw [hg]; exact (below_size (zg_2 HB.out Zc.out)) : w.heap.size ≤ gb587)); have n5_ := zm ((by rw [hg]; exact Nat.ne_of_lt (blk_lt (zg_3 Za.out)) : gb586 ≠ gb587)); have n6_ := zm ((by rw [hg]; exact Nat.ne_of_gt (blk_lt (zg_3 Za.out)) : gb587 ≠ gb586)); replace Za := n0_; replace HB := n1_; have Zb := n2_; have Zp := n3_; have Zd := n4_; have Ze := n5_; have Zf := n6_; clear n0_ n1_ n2_ n3_ n4_ n5_ n6_; clear hb hbox hg; have hnb29 := Ze.out; have hnc29 := Zf.out; obtain ⟨hcz30_0, hcz30_1, hcz30_2, hcz30_3, hfz30_0, hfz30_1, hfz30_2, hfz30_3⟩ := zb4 Za.out; obtain ⟨hcz31_0, hcz31_1, hcz31_2, hcz31_3, hfz31_0, hfz31_1, hfz31_2, hfz31_3⟩ := zb4 Zb.out) | ((with_reducible refine gate_callee (f := 45) rfl ?_); refine goesL_ (some 9) rfl rfl Tryz.func45 (by kernel_rfl) rfl #[.slice A0_0 l0_0.length c0_0, .slice A1_0 l1_0.length c1_0] rfl zq ?_; (with_reducible refine (laws_eqIntS.calls k _ _ l0_0 _ _ l1_0 true _ ?side1 ?side2 ?side3 ?side4 A3.out).mono ?_); (case side1 => exact zC (Kd.C_below Zg.out HB.out)); (case side2 => exact Zh.out); (case side3 => exact zC (Kd.C_below Zi.out HB.out)); (case side4 => exact Zj.out); rintro e w' ⟨rfl, ⟨nd, rfl⟩⟩; refine ⟨_, rfl, ?_⟩) | ((with_reducible refine gate_callee (f := 45) rfl ?_); refine goesL_ (some 15) rfl rfl Tryz.func45 (by kernel_rfl) rfl #[.slice A0_1 l0_1.length c0_1, .slice A1_1 l1_1.length c1_1] rfl zq ?_; (with_reducible refine (laws_eqIntS.calls k _ _ l0_1 _ _ l1_1 true _ ?side1 ?side2 ?side3 ?side4 A5.out).mono ?_); (case side1 => exact zC (Kd.C_below Zk.out (zg_5 HB.out Zc.out Zd.out))); (case side2 => exact Zl.out); (case side3 => exact zC (Kd.C_below Zm.out (zg_5 HB.out Zc.out Zd.out))); (case side4 => exact Zn.out); rintro e w' ⟨rfl, ⟨nd, rfl⟩⟩; refine ⟨_, rfl, ?_⟩) | ((with_reducible refine gate_callee (f := 47) rfl ?_); refine goesL_ (some 21) rfl rfl Tryz.func47 (by kernel_rfl) rfl #[.slice A0_2 l0_2.length c0_2, .slice A1_2 l1_2.length c1_2] rfl zq ?_; (with_reducible refine (laws_eqSnapS.calls k _ _ l0_2 _ _ l1_2 false _ ?side1 ?side2 ?side3 ?side4 A7.out).mono ?_); (case side1 => exact zC (Kd.C_below Zq.out (zg_5 HB.out Zc.out Zd.out))); (case side2 => exact Zr.out); (case side3 => exact zC (Kd.C_below Zs.out (zg_5 HB.out Zc.out Zd.out))); (case side4 => exact Zt.out); rintro e w32 ⟨rfl, hb⟩; refine ⟨_, rfl, ?_⟩; have n0_ := zm (blk_below (zg_3 Za.out) hb); have n1_ := zm (blk_below (zg_3 Zb.out) hb); have n2_ := zm (below_step (zg_5 HB.out Zc.out Zd.out) hb); replace Za := n0_; replace Zb := n1_; replace HB := n2_; clear n0_ n1_ n2_; (try clear hb); (try clear hb2); (try clear hk); (try clear hi)))
    go_ret
    exact ⟨ze, zg_5 HB.out Zc.out Zd.out⟩
  ·replace c6 := Bool.eq_false_iff.mpr c6
   subst c6
   replace H : (some false) = some r := by rw [if_neg (show ¬ (false = true) by decide)] at H; exact H
   obtain rfl := Option.some.inj H
   go_enter Tryz.func19, Tryz.ntmps19
   go_wp2_with (first | ((with_reducible refine gate_dst (N := 2) rfl ?_); refine box_event ?hg (N := 2) ?hd (cs := #[.slice A0_0 l0_0.length c0_0, .slice A0_1 l0_1.length c0_1, .slice A0_2 l0_2.length c0_2, .slice A0_3 l0_3.length c0_3]) (t := 26) ?hr ?_; (case hd => rfl); (case hg => rfl); (case hr => first | (go_simp; done) | (go_simp; rfl)); intro gb586 hg w33 hbox hb; have n0_ := zm (below_step (zg_1 HB.out) hb); have n1_ := zm (hbox); have n2_ := zm ((by rw [hg]; exact (below_size (zg_1 HB.out)) : w.heap.size ≤ gb586)); have n3_ := zm ((by rw [hg]; exact (below_size (zg_1 HB.out)) : w.heap.size ≤ gb586)); replace HB := n0_; have Za := n1_; have Zo := n2_; have Zc := n3_; clear n0_ n1_ n2_ n3_; clear hb hbox hg) | ((with_reducible refine gate_dst (N := 3) rfl ?_); refine box_event ?hg (N := 3) ?hd (cs := #[.slice A1_0 l1_0.length c1_0, .slice A1_1 l1_1.length c1_1, .slice A1_2 l1_2.length c1_2, .slice A1_3 l1_3.length c1_3]) (t := 26) ?hr ?_; (case hd => rfl); (case hg => rfl); (case hr => first | (go_simp; done) | (go_simp; rfl)); intro gb587 hg w34 hbox hb; have n0_ := zm (blk_below (zg_3 Za.out) hb); have n1_ := zm (below_step (zg_2 HB.out Zc.out) hb); have n2_ := zm (hbox); have n3_ := zm ((by rw [hg]; exact (below_size (zg_2 HB.out Zc.out)) : w.heap.size ≤ gb587)); have n4_ := zm ((by rw [hg]; exact (below_size (zg_2 HB.out Zc.out)) : w.heap.size ≤ gb587)); have n5_ := zm ((by rw [hg]; exact Nat.ne_of_lt (blk_lt (zg_3 Za.out)) : gb586 ≠ gb587)); have n6_ := zm ((by rw [hg]; exact Nat.ne_of_gt (blk_lt (zg_3 Za.out)) : gb587 ≠ gb586)); replace Za := n0_; replace HB := n1_; have Zb := n2_; have Zp := n3_; have Zd := n4_; have Ze := n5_; have Zf := n6_; clear n0_ n1_ n2_ n3_ n4_ n5_ n6_; clear hb hbox hg; have hnb35 := Ze.out; have hnc35 := Zf.out; obtain ⟨hcz36_0, hcz36_1, hcz36_2, hcz36_3, hfz36_0, hfz36_1, hfz36_2, hfz36_3⟩ := zb4 Za.out; obtain ⟨hcz37_0, hcz37_1, hcz37_2, hcz37_3, hfz37_0, hfz37_1, hfz37_2, hfz37_3⟩ := zb4 Zb.out) | ((with_reducible refine gate_callee (f := 45) rfl ?_); refine goesL_ (some 9) rfl rfl Tryz.func45 (by kernel_rfl) rfl #[.slice A0_0 l0_0.length c0_0, .slice A1_0 l1_0.length c1_0] rfl zq ?_; (with_reducible refine (laws_eqIntS.calls k _ _ l0_0 _ _ l1_0 true _ ?side1 ?side2 ?side3 ?side4 A3.out).mono ?_); (case side1 => exact zC (Kd.C_below Zg.out HB.out)); (case side2 => exact Zh.out); (case side3 => exact zC (Kd.C_below Zi.out HB.out)); (case side4 => exact Zj.out); rintro e w' ⟨rfl, ⟨nd, rfl⟩⟩; refine ⟨_, rfl, ?_⟩) | ((with_reducible refine gate_callee (f := 45) rfl ?_); refine goesL_ (some 15) rfl rfl Tryz.func45 (by kernel_rfl) rfl #[.slice A0_1 l0_1.length c0_1, .slice A1_1 l1_1.length c1_1] rfl zq ?_; (with_reducible refine (laws_eqIntS.calls k _ _ l0_1 _ _ l1_1 false _ ?side1 ?side2 ?side3 ?side4 A5.out).mono ?_); (case side1 => exact zC (Kd.C_below Zk.out (zg_5 HB.out Zc.out Zd.out))); (case side2 => exact Zl.out); (case side3 => exact zC (Kd.C_below Zm.out (zg_5 HB.out Zc.out Zd.out))); (case side4 => exact Zn.out); rintro e w' ⟨rfl, ⟨nd, rfl⟩⟩; refine ⟨_, rfl, ?_⟩))
   go_ret
   exact ⟨ze, zg_5 HB.out Zc.out Zd.out⟩
 ·replace c4 := Bool.eq_false_iff.mpr c4
  subst c4
  replace H : (some false) = some r := by rw [if_neg (show ¬ (false = true) by decide)] at H; exact H
  obtain rfl := Option.some.inj H
  go_enter Tryz.func19, Tryz.ntmps19
  go_wp2_with (first | ((with_reducible refine gate_dst (N := 2) rfl ?_); refine box_event ?hg (N := 2) ?hd (cs := #[.slice A0_0 l0_0.length c0_0, .slice A0_1 l0_1.length c0_1, .slice A0_2 l0_2.length c0_2, .slice A0_3 l0_3.length c0_3]) (t := 26) ?hr ?_; (case hd => rfl); (case hg => rfl); (case hr => first | (go_simp; done) | (go_simp; rfl)); intro gb586 hg w38 hbox hb; have n0_ := zm (below_step (zg_1 HB.out) hb); have n1_ := zm (hbox); have n2_ := zm ((by rw [hg]; exact (below_size (zg_1 HB.out)) : w.heap.size ≤ gb586)); have n3_ := zm ((by rw [hg]; exact (below_size (zg_1 HB.out)) : w.heap.size ≤ gb586)); replace HB := n0_; have Za := n1_; have Zo := n2_; have Zc := n3_; clear n0_ n1_ n2_ n3_; clear hb hbox hg) | ((with_reducible refine gate_dst (N := 3) rfl ?_); refine box_event ?hg (N := 3) ?hd (cs := #[.slice A1_0 l1_0.length c1_0, .slice A1_1 l1_1.length c1_1, .slice A1_2 l1_2.length c1_2, .slice A1_3 l1_3.length c1_3]) (t := 26) ?hr ?_; (case hd => rfl); (case hg => rfl); (case hr => first | (go_simp; done) | (go_simp; rfl)); intro gb587 hg w39 hbox hb; have n0_ := zm (blk_below (zg_3 Za.out) hb); have n1_ := zm (below_step (zg_2 HB.out Zc.out) hb); have n2_ := zm (hbox); have n3_ := zm ((by rw [hg]; exact (below_size (zg_2 HB.out Zc.out)) : w.heap.size ≤ gb587)); have n4_ := zm ((by rw [hg]; exact (below_size (zg_2 HB.out Zc.out)) : w.heap.size ≤ gb587)); have n5_ := zm ((by rw [hg]; exact Nat.ne_of_lt (blk_lt (zg_3 Za.out)) : gb586 ≠ gb587)); have n6_ := zm ((by rw [hg]; exact Nat.ne_of_gt (blk_lt (zg_3 Za.out)) : gb587 ≠ gb586)); replace Za := n0_; replace HB := n1_; have Zb := n2_; have Zp := n3_; have Zd := n4_; have Ze := n5_; have Zf := n6_; clear n0_ n1_ n2_ n3_ n4_ n5_ n6_; clear hb hbox hg; have hnb40 := Ze.out; have hnc40 := Zf.out; obtain ⟨hcz41_0, hcz41_1, hcz41_2, hcz41_3, hfz41_0, hfz41_1, hfz41_2, hfz41_3⟩ := zb4 Za.out; obtain ⟨hcz42_0, hcz42_1, hcz42_2, hcz42_3, hfz42_0, hfz42_1, hfz42_2, hfz42_3⟩ := zb4 Zb.out) | ((with_reducible refine gate_callee (f := 45) rfl ?_); refine goesL_ (some 9) rfl rfl Tryz.func45 (by kernel_rfl) rfl #[.slice A0_0 l0_0.length c0_0, .slice A1_0 l1_0.length c1_0] rfl zq ?_; (with_reducible refine (laws_eqIntS.calls k _ _ l0_0 _ _ l1_0 false _ ?side1 ?side2 ?side3 ?side4 A3.out).mono ?_); (case side1 => exact zC (Kd.C_below Zg.out HB.out)); (case side2 => exact Zh.out); (case side3 => exact zC (Kd.C_below Zi.out HB.out)); (case side4 => exact Zj.out); rintro e w' ⟨rfl, ⟨nd, rfl⟩⟩; refine ⟨_, rfl, ?_⟩))
  go_ret
  exact ⟨ze, zg_5 HB.out Zc.out Zd.out⟩
def laws_eqUpdate.f (a0_0 : Int) (a0_1 : ByteArray) (a1_0 : Int) (a1_1 : ByteArray) : Option (Bool) := if a0_0 = a1_0 then (if a0_1.toList = a1_1.toList then (some true) else (some false)) else (some false)
set_option maxHeartbeats 8000000 in
set_option maxRecDepth 100000 in
theorem laws_eqUpdate.calls (a0_0 : Int) (a0_1 : ByteArray) (a1_0 : Int) (a1_1 : ByteArray) (r : Bool) (w : World) (h : laws_eqUpdate.f a0_0 a0_1 a1_0 a1_1 = some r) :
    Calls Tryz.prog 55 #[.agg #[.int .i64 a0_0, .string a0_1], .agg #[.int .i64 a1_0, .string a1_1]] w fun e w' => e = .returned (.bool r) ∧ Below w.heap.size w w' := by
 have hu77 := Tryz.underlying77; have HB := zm (Below.refl w.heap.size w)
 have H : (if a0_0 = a1_0 then (if a0_1.toList = a1_1.toList then (some true) else (some false)) else (some false)) = some r := h
 clear h
 by_cases c3 : a0_0 = a1_0
 ·rw [if_pos c3] at H
  have c3b0 : (a0_0 == a1_0) = true := beq_iff_eq.mpr c3
  have c3b1 : (a0_0 != a1_0) = false := bne_eq_false_iff_eq.mpr c3
  clear c3
  by_cases c4 : a0_1.toList = a1_1.toList
  ·rw [if_pos c4] at H
   have c4b0 : (a0_1.toList == a1_1.toList) = true := beq_iff_eq.mpr c4
   have c4b1 : (a0_1.toList != a1_1.toList) = false := bne_eq_false_iff_eq.mpr c4
   clear c4; obtain rfl := Option.some.inj H
   go_enter Tryz.func55, Tryz.ntmps55
   go_wp2_with (first | ((with_reducible refine gate_dst (N := 2) rfl ?_); refine box_event ?hg (N := 2) ?hd (cs := #[.int .i64 a0_0, .string a0_1]) (t := 77) ?hr ?_; (case hd => rfl); (case hg => rfl); (case hr => first | (go_simp; done) | (go_simp; rfl)); intro gb809 hg w5 hbox hb; have n0_ := zm (below_step (zg_1 HB.out) hb); have n1_ := zm (hbox); have n2_ := zm ((by rw [hg]; exact (below_size (zg_1 HB.out)) : w.heap.size ≤ gb809)); have n3_ := zm ((by rw [hg]; exact (below_size (zg_1 HB.out)) : w.heap.size ≤ gb809)); replace HB := n0_; have Za := n1_; have Zg := n2_; have Zb := n3_; clear n0_ n1_ n2_ n3_; clear hb hbox hg) | ((with_reducible refine gate_dst (N := 3) rfl ?_); refine box_event ?hg (N := 3) ?hd (cs := #[.int .i64 a1_0, .string a1_1]) (t := 77) ?hr ?_; (case hd => rfl); (case hg => rfl); (case hr => first | (go_simp; done) | (go_simp; rfl)); intro gb810 hg w6 hbox hb; have n0_ := zm (blk_below (zg_3 Za.out) hb); have n1_ := zm (below_step (zg_2 HB.out Zb.out) hb); have n2_ := zm (hbox); have n3_ := zm ((by rw [hg]; exact (below_size (zg_2 HB.out Zb.out)) : w.heap.size ≤ gb810)); have n4_ := zm ((by rw [hg]; exact (below_size (zg_2 HB.out Zb.out)) : w.heap.size ≤ gb810)); have n5_ := zm ((by rw [hg]; exact Nat.ne_of_lt (blk_lt (zg_3 Za.out)) : gb809 ≠ gb810)); have n6_ := zm ((by rw [hg]; exact Nat.ne_of_gt (blk_lt (zg_3 Za.out)) : gb810 ≠ gb809)); replace Za := n0_; replace HB := n1_; have Zc := n2_; have Zh := n3_; have Zf := n4_; have Zd := n5_; have Ze := n6_; clear n0_ n1_ n2_ n3_ n4_ n5_ n6_; clear hb hbox hg; have hnb7 := Zd.out; have hnc7 := Ze.out; obtain ⟨hcz8_0, hcz8_1, hfz8_0, hfz8_1⟩ := zb2 Za.out; obtain ⟨hcz9_0, hcz9_1, hfz9_0, hfz9_1⟩ := zb2 Zc.out))
   go_ret
   exact ⟨ze, zg_5 HB.out Zb.out Zf.out⟩
  ·rw [if_neg c4] at H
   have c4b0 : (a0_1.toList == a1_1.toList) = false := beq_eq_false_iff_ne.mpr c4
   have c4b1 : (a0_1.toList != a1_1.toList) = true := bne_iff_ne.mpr c4
   obtain rfl := Option.some.inj H
   go_enter Tryz.func55, Tryz.ntmps55
   go_wp2_with (first | ((with_reducible refine gate_dst (N := 2) rfl ?_); refine box_event ?hg (N := 2) ?hd (cs := #[.int .i64 a0_0, .string a0_1]) (t := 77) ?hr ?_; (case hd => rfl); (case hg => rfl); (case hr => first | (go_simp; done) | (go_simp; rfl)); intro gb809 hg w10 hbox hb; have n0_ := zm (below_step (zg_1 HB.out) hb); have n1_ := zm (hbox); have n2_ := zm ((by rw [hg]; exact (below_size (zg_1 HB.out)) : w.heap.size ≤ gb809)); have n3_ := zm ((by rw [hg]; exact (below_size (zg_1 HB.out)) : w.heap.size ≤ gb809)); replace HB := n0_; have Za := n1_; have Zg := n2_; have Zb := n3_; clear n0_ n1_ n2_ n3_; clear hb hbox hg) | ((with_reducible refine gate_dst (N := 3) rfl ?_); refine box_event ?hg (N := 3) ?hd (cs := #[.int .i64 a1_0, .string a1_1]) (t := 77) ?hr ?_; (case hd => rfl); (case hg => rfl); (case hr => first | (go_simp; done) | (go_simp; rfl)); intro gb810 hg w11 hbox hb; have n0_ := zm (blk_below (zg_3 Za.out) hb); have n1_ := zm (below_step (zg_2 HB.out Zb.out) hb); have n2_ := zm (hbox); have n3_ := zm ((by rw [hg]; exact (below_size (zg_2 HB.out Zb.out)) : w.heap.size ≤ gb810)); have n4_ := zm ((by rw [hg]; exact (below_size (zg_2 HB.out Zb.out)) : w.heap.size ≤ gb810)); have n5_ := zm ((by rw [hg]; exact Nat.ne_of_lt (blk_lt (zg_3 Za.out)) : gb809 ≠ gb810)); have n6_ := zm ((by rw [hg]; exact Nat.ne_of_gt (blk_lt (zg_3 Za.out)) : gb810 ≠ gb809)); replace Za := n0_; replace HB := n1_; have Zc := n2_; have Zh := n3_; have Zf := n4_; have Zd := n5_; have Ze := n6_; clear n0_ n1_ n2_ n3_ n4_ n5_ n6_; clear hb hbox hg; have hnb12 := Zd.out; have hnc12 := Ze.out; obtain ⟨hcz13_0, hcz13_1, hfz13_0, hfz13_1⟩ := zb2 Za.out; obtain ⟨hcz14_0, hcz14_1, hfz14_0, hfz14_1⟩ := zb2 Zc.out))
   go_ret
   exact ⟨ze, zg_5 HB.out Zb.out Zf.out⟩
 ·rw [if_neg c3] at H
  have c3b0 : (a0_0 == a1_0) = false := beq_eq_false_iff_ne.mpr c3
  have c3b1 : (a0_0 != a1_0) = true := bne_iff_ne.mpr c3
  obtain rfl := Option.some.inj H
  go_enter Tryz.func55, Tryz.ntmps55
  go_wp2_with (first | ((with_reducible refine gate_dst (N := 2) rfl ?_); refine box_event ?hg (N := 2) ?hd (cs := #[.int .i64 a0_0, .string a0_1]) (t := 77) ?hr ?_; (case hd => rfl); (case hg => rfl); (case hr => first | (go_simp; done) | (go_simp; rfl)); intro gb809 hg w15 hbox hb; have n0_ := zm (below_step (zg_1 HB.out) hb); have n1_ := zm (hbox); have n2_ := zm ((by rw [hg]; exact (below_size (zg_1 HB.out)) : w.heap.size ≤ gb809)); have n3_ := zm ((by rw [hg]; exact (below_size (zg_1 HB.out)) : w.heap.size ≤ gb809)); replace HB := n0_; have Za := n1_; have Zg := n2_; have Zb := n3_; clear n0_ n1_ n2_ n3_; clear hb hbox hg) | ((with_reducible refine gate_dst (N := 3) rfl ?_); refine box_event ?hg (N := 3) ?hd (cs := #[.int .i64 a1_0, .string a1_1]) (t := 77) ?hr ?_; (case hd => rfl); (case hg => rfl); (case hr => first | (go_simp; done) | (go_simp; rfl)); intro gb810 hg w16 hbox hb; have n0_ := zm (blk_below (zg_3 Za.out) hb); have n1_ := zm (below_step (zg_2 HB.out Zb.out) hb); have n2_ := zm (hbox); have n3_ := zm ((by rw [hg]; exact (below_size (zg_2 HB.out Zb.out)) : w.heap.size ≤ gb810)); have n4_ := zm ((by rw [hg]; exact (below_size (zg_2 HB.out Zb.out)) : w.heap.size ≤ gb810)); have n5_ := zm ((by rw [hg]; exact Nat.ne_of_lt (blk_lt (zg_3 Za.out)) : gb809 ≠ gb810)); have n6_ := zm ((by rw [hg]; exact Nat.ne_of_gt (blk_lt (zg_3 Za.out)) : gb810 ≠ gb809)); replace Za := n0_; replace HB := n1_; have Zc := n2_; have Zh := n3_; have Zf := n4_; have Zd := n5_; have Ze := n6_; clear n0_ n1_ n2_ n3_ n4_ n5_ n6_; clear hb hbox hg; have hnb17 := Zd.out; have hnc17 := Ze.out; obtain ⟨hcz18_0, hcz18_1, hfz18_0, hfz18_1⟩ := zb2 Za.out; obtain ⟨hcz19_0, hcz19_1, hfz19_0, hfz19_1⟩ := zb2 Zc.out))
  go_ret
  exact ⟨ze, zg_5 HB.out Zb.out Zf.out⟩
def laws_eqUpdateS.l0 : Nat → List (S77) → List (S77) → Int → Option (Bool)
  | 0, _, _, _ => none
  | k + 1, x0, x1, x5 => if x5 < (x0.length : Int) then (if 0 ≤ x5 then (if x5 < (x1.length : Int) then ((laws_eqUpdate.f ((rd_T77 x0 x5).f0) ((rd_T77 x0 x5).f1) ((rd_T77 x1 x5).f0) ((rd_T77 x1 x5).f1)).bind fun t813 => (if t813 = true then (laws_eqUpdateS.l0 k x0 x1 (wrap64 (x5 + 1))) else (some false))) else (none)) else (none)) else (some true)
def laws_eqUpdateS.f (k : Nat) (l0 : List (S77)) (l1 : List (S77)) : Option (Bool) := if (l0.length : Int) = (l1.length : Int) then (laws_eqUpdateS.l0 k l0 l1 0) else (some false)
theorem laws_eqUpdateS.mono_l : ∀ k, (∀ y0 y1 y2, LeO (laws_eqUpdateS.l0 k y0 y1 y2) (laws_eqUpdateS.l0 (k + 1) y0 y1 y2))
  | 0 => fun _ _ _ r h => by simp [laws_eqUpdateS.l0] at h
  | k + 1 => by
    have ih0 := laws_eqUpdateS.mono_l k
    · intro y0 y1 y2
      unfold laws_eqUpdateS.l0
      repeat' first| (with_reducible first | exact ih0 _ _ _ | exact LeO.refl _ | exact LeO.none _ | refine LeO.ite ?_ ?_ | refine LeO.bind ?_ (fun _ => ?_)) | exact ih0 _ _ _ | exact LeO.none _ | refine LeO.ite ?_ ?_ | refine LeO.bind ?_ (fun _ => ?_)
theorem laws_eqUpdateS.mono : ∀ a0 a1 k, LeO (laws_eqUpdateS.f k a0 a1) (laws_eqUpdateS.f (k + 1) a0 a1) := by
  intro a0 a1 k
  have ih0 := laws_eqUpdateS.mono_l k
  unfold laws_eqUpdateS.f
  repeat' first| (with_reducible first | exact ih0 _ _ _ | exact LeO.refl _ | exact LeO.none _ | refine LeO.ite ?_ ?_ | refine LeO.bind ?_ (fun _ => ?_)) | exact ih0 _ _ _ | exact LeO.none _ | refine LeO.ite ?_ ?_ | refine LeO.bind ?_ (fun _ => ?_)
def laws_eqUpdateS.T6 : Bool × List (List Nat × List Nat) := (true, [([], []), ([], []), ([0, 1], [0, 1]), ([2], [2]), ([], []), ([], []), ([4, 5], [4, 5]), ([6], [6]), ([3, 7], [3, 7]), ([8], [8])])
def laws_eqUpdateS.B6 : List Nat := [0, 0, 3, 7, 0, 0, 48, 112, 255, 511]
theorem laws_eqUpdateS.tab6 : rtab .any (opsOf Tryz.f25 6) = laws_eqUpdateS.T6 := by kernel_rfl
theorem laws_eqUpdateS.bits6 : waitsOk laws_eqUpdateS.T6.2 laws_eqUpdateS.B6 = true := by kernel_rfl
set_option maxHeartbeats 8000000 in
set_option maxRecDepth 100000 in
theorem laws_eqUpdateS.calls (k : Nat) (A0 : Option Addr) (c0 : Nat) (l0 : List (S77)) (A1 : Option Addr) (c1 : Nat) (l1 : List (S77)) (r : Bool) (w : World) (hr0 : Kd.C k77 w A0 l0.length l0) (hc0 : l0.length ≤ c0) (hr1 : Kd.C k77 w A1 l1.length l1) (hc1 : l1.length ≤ c1) (h : laws_eqUpdateS.f k l0 l1 = some r) :
    Calls Tryz.prog 25 #[.slice A0 l0.length c0, .slice A1 l1.length c1] w fun e w' => e = .returned (.bool r) ∧ Below w.heap.size w w' := by
 have hu77 := Tryz.underlying77; have HR0 := zm hr0; have HC0 := zm hc0; clear hr0 hc0; have HR1 := zm hr1; have HC1 := zm hc1; clear hr1 hc1; have HB := zm (Below.refl w.heap.size w)
 have H : (if (l0.length : Int) = (l1.length : Int) then (laws_eqUpdateS.l0 k l0 l1 0) else (some false)) = some r := h
 clear h
 by_cases c3 : (l0.length : Int) = (l1.length : Int)
 ·rw [if_pos c3] at H
  have c3b0 : ((l0.length : Int) == (l1.length : Int)) = true := beq_iff_eq.mpr c3
  have c3b1 : ((l0.length : Int) != (l1.length : Int)) = false := bne_eq_false_iff_eq.mpr c3
  have c3b2 : (l0.length == l1.length) = true := by first | simpa using c3 | (simp at c3 ⊢; omega)
  clear c3
  have H' := zm H
  clear H
  go_enter Tryz.func25, Tryz.ntmps25
  go_wp2
  go_loopg [5] k (fun kq v5 w' => ∃ (x5_1 : Int), v5 = .int .i64 x5_1 ∧ Aside0 (laws_eqUpdateS.l0 kq l0 l1 x5_1 = some r) ∧ Aside0 (kq ≤ k) ∧ Aside0 (Below w.heap.size w w'))
  case atStart => exact ⟨(0), zr, H', ⟨Nat.le_refl _⟩, ⟨zg_1 HB.out⟩⟩
  case round =>
   clear H'
   try clear c1
   try clear c2
   try clear p2
   try clear c3
   try clear c3b0
   try clear c3b1
   try clear c3b2
   obtain ⟨x5_1, rfl, HA, HK1, HB⟩ := hrel
   cases gk with
   | zero => exact absurd HA.out (by simp [laws_eqUpdateS.l0])
   | succ k1 =>
    have H := HA.out; clear HA
    simp only [laws_eqUpdateS.l0] at H
    by_cases c4 : x5_1 < (l0.length : Int)
    ·rw [if_pos c4] at H
     have c4b0 := decide_eq_true c4; clear c4
     by_cases c5 : 0 ≤ x5_1
     ·rw [if_pos c5] at H
      have c5b0 := decide_eq_true c5; clear c5
      by_cases c6 : x5_1 < (l1.length : Int)
      ·rw [if_pos c6] at H
       have c6b0 := decide_eq_true c6; clear c6; replace H := Option.bind_eq_some_iff.mp H
       obtain ⟨t813, A70, H⟩ := H
       try dsimp only at H
       have A7 := zm A70; clear A70
       by_cases c8 : t813 = true
       ·subst c8
        replace H : (laws_eqUpdateS.l0 k1 l0 l1 (wrap64 (x5_1 + 1))) = some r := by rw [if_pos rfl] at H; exact H
        have H' := zm H
        clear H
        try go_wp2
        have n0_ := zm (below_drew1 HB.out); clear HB; have HB := n0_; clear n0_
        have p811 : 0 ≤ (x5_1 : Int) := zd
        have q811 : x5_1 < (l0.length : Int) := zd
        obtain ⟨ad811, e811, hx811_0, hx811_1⟩ := at_T77 HR0.out x5_1 p811 q811
        have hw811_1 := hx811_1; have hw811_0 := hx811_0; cases e811; replace hx811_0 := (HB.out.cell (World.block_lt_of_cell? w _ hx811_0)).trans hx811_0; replace hx811_1 := (HB.out.cell (World.block_lt_of_cell? w _ hx811_1)).trans hx811_1; replace p811 := eq_true p811; replace q811 := eq_true q811
        have p812 : 0 ≤ (x5_1 : Int) := zd
        have q812 : x5_1 < (l1.length : Int) := zd
        obtain ⟨ad812, e812, hx812_0, hx812_1⟩ := at_T77 HR1.out x5_1 p812 q812
        have hw812_1 := hx812_1; have hw812_0 := hx812_0; cases e812; replace hx812_0 := (HB.out.cell (World.block_lt_of_cell? w _ hx812_0)).trans hx812_0; replace hx812_1 := (HB.out.cell (World.block_lt_of_cell? w _ hx812_1)).trans hx812_1; replace p812 := eq_true p812; replace q812 := eq_true q812
        refine start_ (n := 10) (S := fun w' => w'.cell? (ad811.add ((x5_1).toNat * 2)) = some (.int .i64 ((rd_T77 l0 x5_1).f0)) ∧ w'.cell? ⟨(ad811.add ((x5_1).toNat * 2)).block, (ad811.add ((x5_1).toNat * 2)).off + 1, none⟩ = some (.string ((rd_T77 l0 x5_1).f1)) ∧ w'.cell? (ad812.add ((x5_1).toNat * 2)) = some (.int .i64 ((rd_T77 l1 x5_1).f0)) ∧ w'.cell? ⟨(ad812.add ((x5_1).toNat * 2)).block, (ad812.add ((x5_1).toNat * 2)).off + 1, none⟩ = some (.string ((rd_T77 l1 x5_1).f1))) (ds := []) #[false, false, false, false, false, false, false, false, false, false] (by kernel_rfl) rfl rfl ⟨((HB.out.cell (World.block_lt_of_cell? w _ hw811_0)).trans hw811_0), ((HB.out.cell (World.block_lt_of_cell? w _ hw811_1)).trans hw811_1), ((HB.out.cell (World.block_lt_of_cell? w _ hw812_0)).trans hw812_0), ((HB.out.cell (World.block_lt_of_cell? w _ hw812_1)).trans hw812_1)⟩ (fun hHeld => ?_); refine with_tabW laws_eqUpdateS.tab6 laws_eqUpdateS.bits6 (fun HT_ HW_ => ?_)
        generalize wr.drew = w9 at HB hx811_0 hx811_1 hx812_0 hx812_1 hHeld ⊢
        refine pure_ (i := 0) (N := some 17) (v := ?_) (a' := ?_) #[true, false, false, false, false, false, false, false, false, false] rfl rfl (any_of HT_.out (by kernel_rfl)) (fun _ _ _ h => h) (Or.inl ⟨by rfl, ?_⟩) ?_ ?_
        rotate_left
        ·intro w'
         go_simp
         with_reducible rfl
        rotate_left
        ·simp only [Act.put, zs, zz, zt, i64_w, i32_w]
         rfl
        refine pure_ (i := 1) (N := some 18) (v := ?_) (a' := ?_) #[true, true, false, false, false, false, false, false, false, false] rfl rfl (any_of HT_.out (by kernel_rfl)) (fun _ _ _ h => h) (Or.inl ⟨by rfl, ?_⟩) ?_ ?_
        rotate_left
        ·intro w'
         go_simp
         with_reducible rfl
        rotate_left
        ·simp only [Act.put, zs, zz, zt, i64_w, i32_w]
         rfl
        refine pure_ (i := 2) (N := some 19) (v := ?_) (a' := ?_) #[true, true, true, false, false, false, false, false, false, false] rfl rfl (any_of HT_.out (by kernel_rfl)) (fun _ _ _ h => h) (Or.inl ⟨by rfl, ?_⟩) ?_ ?_
        rotate_left
        ·intro w'
         go_simp
         with_reducible rfl
        rotate_left
        ·simp only [Act.put, zs, zz, zt, i64_w, i32_w]
         rfl
        refine pure_ (i := 4) (N := some 21) (v := ?_) (a' := ?_) #[true, true, true, false, true, false, false, false, false, false] rfl rfl (any_of HT_.out (by kernel_rfl)) (fun _ _ _ h => h) (Or.inl ⟨by rfl, ?_⟩) ?_ ?_
        rotate_left
        ·intro w'
         go_simp
         with_reducible rfl
        rotate_left
        ·simp only [Act.put, zs, zz, zt, i64_w, i32_w]
         rfl
        refine pure_ (i := 5) (N := some 22) (v := ?_) (a' := ?_) #[true, true, true, false, true, true, false, false, false, false] rfl rfl (any_of HT_.out (by kernel_rfl)) (fun _ _ _ h => h) (Or.inl ⟨by rfl, ?_⟩) ?_ ?_
        rotate_left
        ·intro w'
         go_simp
         with_reducible rfl
        rotate_left
        ·simp only [Act.put, zs, zz, zt, i64_w, i32_w]
         rfl
        refine pure_ (i := 6) (N := some 23) (v := ?_) (a' := ?_) #[true, true, true, false, true, true, true, false, false, false] rfl rfl (any_of HT_.out (by kernel_rfl)) (fun _ _ _ h => h) (Or.inl ⟨by rfl, ?_⟩) ?_ ?_
        rotate_left
        ·intro w'
         go_simp
         with_reducible rfl
        rotate_left
        ·simp only [Act.put, zs, zz, zt, i64_w, i32_w]
         rfl
        refine take_ (i := 3) (N := some 20) (v := ?_) (a' := ?_) #[true, true, true, true, true, true, true, false, false, false] rfl rfl (take_ofW HT_.out HW_.out (by kernel_rfl)) (fun _ _ _ h => h) (Or.inl ⟨by rfl, ?_⟩) hHeld ?_ ?_
        rotate_left
        ·rintro w' ⟨s0, s1, s2, s3⟩
         go_simp
         with_reducible rfl
        rotate_left
        ·simp only [Act.put, zs, zz, zt, i64_w, i32_w]
         rfl
        refine take_ (i := 7) (N := some 24) (v := ?_) (a' := ?_) #[true, true, true, true, true, true, true, true, false, false] rfl rfl (take_ofW HT_.out HW_.out (by kernel_rfl)) (fun _ _ _ h => h) (Or.inl ⟨by rfl, ?_⟩) hHeld ?_ ?_
        rotate_left
        ·rintro w' ⟨s0, s1, s2, s3⟩
         go_simp
         with_reducible rfl
        rotate_left
        ·simp only [Act.put, zs, zz, zt, i64_w, i32_w]
         rfl
        refine one_ (i := 8) (N := some 25) #[true, true, true, true, true, true, true, true, true, false] rfl rfl (one_of HT_.out (by kernel_rfl)) (by decide) (fun K hK => ?_)
        refine goes_ Tryz.func55 (by kernel_rfl) rfl #[.agg #[.int .i64 ((rd_T77 l0 x5_1).f0), .string ((rd_T77 l0 x5_1).f1)], .agg #[.int .i64 ((rd_T77 l1 x5_1).f0), .string ((rd_T77 l1 x5_1).f1)]] (by rfl) rfl rfl zq ?_
        with_reducible refine (laws_eqUpdate.calls ((rd_T77 l0 x5_1).f0) ((rd_T77 l0 x5_1).f1) ((rd_T77 l1 x5_1).f0) ((rd_T77 l1 x5_1).f1) true _ A7.out).mono ?_
        rintro e w10 ⟨rfl, hb⟩
        refine ⟨_, rfl, ?_⟩
        have n0_ := zm (below_step (zg_1 HB.out) hb); clear HB; have HB := n0_; clear n0_
        (try clear hb)
        (try clear hb2)
        (try clear hk)
        (try clear hi)
        refine hK.out _ _ ⟨((HB.out.cell (World.block_lt_of_cell? w _ hw811_0)).trans hw811_0), ((HB.out.cell (World.block_lt_of_cell? w _ hw811_1)).trans hw811_1), ((HB.out.cell (World.block_lt_of_cell? w _ hw812_0)).trans hw812_0), ((HB.out.cell (World.block_lt_of_cell? w _ hw812_1)).trans hw812_1)⟩ (fun hHeld => ?_)
        clear hK K
        refine norm_ (a' := ?_) ?_ ?_
        rotate_left
        ·show Act.put _ (some 25) _ = _
         simp only [Act.put, zs, zz, zt, i64_w, i32_w]
         rfl
        refine pure_ (i := 9) (N := some 26) (v := ?_) (a' := ?_) #[true, true, true, true, true, true, true, true, true, true] rfl rfl (any_of HT_.out (by kernel_rfl)) (fun _ _ _ h => h) (Or.inl ⟨by rfl, ?_⟩) ?_ ?_
        rotate_left
        ·intro w'
         go_simp
         with_reducible rfl
        rotate_left
        ·simp only [Act.put, zs, zz, zt, i64_w, i32_w]
         rfl
        refine done_ (done_of HT_.out (by kernel_rfl)) ?_
        try go_wp2
        go_roundg k1
        case measure => have := HK1.out; omega
        case rel => exact ⟨(wrap64 (x5_1 + 1)), zr, H', ⟨by have := HK1.out; omega⟩, ⟨zg_1 HB.out⟩⟩
       ·replace c8 := Bool.eq_false_iff.mpr c8
        subst c8
        replace H : (some false) = some r := by rw [if_neg (show ¬ (false = true) by decide)] at H; exact H
        obtain rfl := Option.some.inj H
        try go_wp2
        have n0_ := zm (below_drew1 HB.out); clear HB; have HB := n0_; clear n0_
        have p811 : 0 ≤ (x5_1 : Int) := zd
        have q811 : x5_1 < (l0.length : Int) := zd
        obtain ⟨ad811, e811, hx811_0, hx811_1⟩ := at_T77 HR0.out x5_1 p811 q811
        have hw811_1 := hx811_1; have hw811_0 := hx811_0; cases e811; replace hx811_0 := (HB.out.cell (World.block_lt_of_cell? w _ hx811_0)).trans hx811_0; replace hx811_1 := (HB.out.cell (World.block_lt_of_cell? w _ hx811_1)).trans hx811_1; replace p811 := eq_true p811; replace q811 := eq_true q811
        have p812 : 0 ≤ (x5_1 : Int) := zd
        have q812 : x5_1 < (l1.length : Int) := zd
        obtain ⟨ad812, e812, hx812_0, hx812_1⟩ := at_T77 HR1.out x5_1 p812 q812
        have hw812_1 := hx812_1; have hw812_0 := hx812_0; cases e812; replace hx812_0 := (HB.out.cell (World.block_lt_of_cell? w _ hx812_0)).trans hx812_0; replace hx812_1 := (HB.out.cell (World.block_lt_of_cell? w _ hx812_1)).trans hx812_1; replace p812 := eq_true p812; replace q812 := eq_true q812
        refine start_ (n := 10) (S := fun w' => w'.cell? (ad811.add ((x5_1).toNat * 2)) = some (.int .i64 ((rd_T77 l0 x5_1).f0)) ∧ w'.cell? ⟨(ad811.add ((x5_1).toNat * 2)).block, (ad811.add ((x5_1).toNat * 2)).off + 1, none⟩ = some (.string ((rd_T77 l0 x5_1).f1)) ∧ w'.cell? (ad812.add ((x5_1).toNat * 2)) = some (.int .i64 ((rd_T77 l1 x5_1).f0)) ∧ w'.cell? ⟨(ad812.add ((x5_1).toNat * 2)).block, (ad812.add ((x5_1).toNat * 2)).off + 1, none⟩ = some (.string ((rd_T77 l1 x5_1).f1))) (ds := []) #[false, false, false, false, false, false, false, false, false, false] (by kernel_rfl) rfl rfl ⟨((HB.out.cell (World.block_lt_of_cell? w _ hw811_0)).trans hw811_0), ((HB.out.cell (World.block_lt_of_cell? w _ hw811_1)).trans hw811_1), ((HB.out.cell (World.block_lt_of_cell? w _ hw812_0)).trans hw812_0), ((HB.out.cell (World.block_lt_of_cell? w _ hw812_1)).trans hw812_1)⟩ (fun hHeld => ?_); refine with_tabW laws_eqUpdateS.tab6 laws_eqUpdateS.bits6 (fun HT_ HW_ => ?_)
        generalize wr.drew = w11 at HB hx811_0 hx811_1 hx812_0 hx812_1 hHeld ⊢
        refine pure_ (i := 0) (N := some 17) (v := ?_) (a' := ?_) #[true, false, false, false, false, false, false, false, false, false] rfl rfl (any_of HT_.out (by kernel_rfl)) (fun _ _ _ h => h) (Or.inl ⟨by rfl, ?_⟩) ?_ ?_
        rotate_left
        ·intro w'
         go_simp
         with_reducible rfl
        rotate_left
        ·simp only [Act.put, zs, zz, zt, i64_w, i32_w]
         rfl
        refine pure_ (i := 1) (N := some 18) (v := ?_) (a' := ?_) #[true, true, false, false, false, false, false, false, false, false] rfl rfl (any_of HT_.out (by kernel_rfl)) (fun _ _ _ h => h) (Or.inl ⟨by rfl, ?_⟩) ?_ ?_
        rotate_left
        ·intro w'
         go_simp
         with_reducible rfl
        rotate_left
        ·simp only [Act.put, zs, zz, zt, i64_w, i32_w]
         rfl
        refine pure_ (i := 2) (N := some 19) (v := ?_) (a' := ?_) #[true, true, true, false, false, false, false, false, false, false] rfl rfl (any_of HT_.out (by kernel_rfl)) (fun _ _ _ h => h) (Or.inl ⟨by rfl, ?_⟩) ?_ ?_
        rotate_left
        ·intro w'
         go_simp
         with_reducible rfl
        rotate_left
        ·simp only [Act.put, zs, zz, zt, i64_w, i32_w]
         rfl
        refine pure_ (i := 4) (N := some 21) (v := ?_) (a' := ?_) #[true, true, true, false, true, false, false, false, false, false] rfl rfl (any_of HT_.out (by kernel_rfl)) (fun _ _ _ h => h) (Or.inl ⟨by rfl, ?_⟩) ?_ ?_
        rotate_left
        ·intro w'
         go_simp
         with_reducible rfl
        rotate_left
        ·simp only [Act.put, zs, zz, zt, i64_w, i32_w]
         rfl
        refine pure_ (i := 5) (N := some 22) (v := ?_) (a' := ?_) #[true, true, true, false, true, true, false, false, false, false] rfl rfl (any_of HT_.out (by kernel_rfl)) (fun _ _ _ h => h) (Or.inl ⟨by rfl, ?_⟩) ?_ ?_
        rotate_left
        ·intro w'
         go_simp
         with_reducible rfl
        rotate_left
        ·simp only [Act.put, zs, zz, zt, i64_w, i32_w]
         rfl
        refine pure_ (i := 6) (N := some 23) (v := ?_) (a' := ?_) #[true, true, true, false, true, true, true, false, false, false] rfl rfl (any_of HT_.out (by kernel_rfl)) (fun _ _ _ h => h) (Or.inl ⟨by rfl, ?_⟩) ?_ ?_
        rotate_left
        ·intro w'
         go_simp
         with_reducible rfl
        rotate_left
        ·simp only [Act.put, zs, zz, zt, i64_w, i32_w]
         rfl
        refine take_ (i := 3) (N := some 20) (v := ?_) (a' := ?_) #[true, true, true, true, true, true, true, false, false, false] rfl rfl (take_ofW HT_.out HW_.out (by kernel_rfl)) (fun _ _ _ h => h) (Or.inl ⟨by rfl, ?_⟩) hHeld ?_ ?_
        rotate_left
        ·rintro w' ⟨s0, s1, s2, s3⟩
         go_simp
         with_reducible rfl
        rotate_left
        ·simp only [Act.put, zs, zz, zt, i64_w, i32_w]
         rfl
        refine take_ (i := 7) (N := some 24) (v := ?_) (a' := ?_) #[true, true, true, true, true, true, true, true, false, false] rfl rfl (take_ofW HT_.out HW_.out (by kernel_rfl)) (fun _ _ _ h => h) (Or.inl ⟨by rfl, ?_⟩) hHeld ?_ ?_
        rotate_left
        ·rintro w' ⟨s0, s1, s2, s3⟩
         go_simp
         with_reducible rfl
        rotate_left
        ·simp only [Act.put, zs, zz, zt, i64_w, i32_w]
         rfl
        refine one_ (i := 8) (N := some 25) #[true, true, true, true, true, true, true, true, true, false] rfl rfl (one_of HT_.out (by kernel_rfl)) (by decide) (fun K hK => ?_)
        refine goes_ Tryz.func55 (by kernel_rfl) rfl #[.agg #[.int .i64 ((rd_T77 l0 x5_1).f0), .string ((rd_T77 l0 x5_1).f1)], .agg #[.int .i64 ((rd_T77 l1 x5_1).f0), .string ((rd_T77 l1 x5_1).f1)]] (by rfl) rfl rfl zq ?_
        with_reducible refine (laws_eqUpdate.calls ((rd_T77 l0 x5_1).f0) ((rd_T77 l0 x5_1).f1) ((rd_T77 l1 x5_1).f0) ((rd_T77 l1 x5_1).f1) false _ A7.out).mono ?_
        rintro e w12 ⟨rfl, hb⟩
        refine ⟨_, rfl, ?_⟩
        have n0_ := zm (below_step (zg_1 HB.out) hb); clear HB; have HB := n0_; clear n0_
        (try clear hb)
        (try clear hb2)
        (try clear hk)
        (try clear hi)
        refine hK.out _ _ ⟨((HB.out.cell (World.block_lt_of_cell? w _ hw811_0)).trans hw811_0), ((HB.out.cell (World.block_lt_of_cell? w _ hw811_1)).trans hw811_1), ((HB.out.cell (World.block_lt_of_cell? w _ hw812_0)).trans hw812_0), ((HB.out.cell (World.block_lt_of_cell? w _ hw812_1)).trans hw812_1)⟩ (fun hHeld => ?_)
        clear hK K
        refine norm_ (a' := ?_) ?_ ?_
        rotate_left
        ·show Act.put _ (some 25) _ = _
         simp only [Act.put, zs, zz, zt, i64_w, i32_w]
         rfl
        refine pure_ (i := 9) (N := some 26) (v := ?_) (a' := ?_) #[true, true, true, true, true, true, true, true, true, true] rfl rfl (any_of HT_.out (by kernel_rfl)) (fun _ _ _ h => h) (Or.inl ⟨by rfl, ?_⟩) ?_ ?_
        rotate_left
        ·intro w'
         go_simp
         with_reducible rfl
        rotate_left
        ·simp only [Act.put, zs, zz, zt, i64_w, i32_w]
         rfl
        refine done_ (done_of HT_.out (by kernel_rfl)) ?_
        try go_wp2
        go_ret
        exact ⟨ze, zg_1 HB.out⟩
      ·rw [if_neg c6] at H
       exact absurd H (by simp)
     ·rw [if_neg c5] at H
      exact absurd H (by simp)
    ·rw [if_neg c4] at H
     have c4b0 := decide_eq_false c4; clear c4; obtain rfl := Option.some.inj H
     go_wp2
     go_ret
     exact ⟨ze, zg_1 HB.out⟩
 ·rw [if_neg c3] at H
  have c3b0 : ((l0.length : Int) == (l1.length : Int)) = false := beq_eq_false_iff_ne.mpr c3
  have c3b1 : ((l0.length : Int) != (l1.length : Int)) = true := bne_iff_ne.mpr c3
  have c3b2 : (l0.length == l1.length) = false := by first | simpa using c3 | (simp at c3 ⊢; omega)
  obtain rfl := Option.some.inj H
  go_enter Tryz.func25, Tryz.ntmps25
  go_wp2
  go_ret
  exact ⟨ze, zg_1 HB.out⟩
def laws_markText.l0 : Nat → Int → ByteArray → Option (ByteArray)
  | 0, _, _ => none
  | k + 1, x0, x3 => if x0 > 0 then ((some (([(wrap64 (48 + (Int.tmod x0 10))) % 256] : List Int) : List Int)).bind fun y593 => (if (strOfNums y593).size + x3.size ≤ 9223372036854775807 then (laws_markText.l0 k (wrap64 (Int.tdiv x0 10)) ((strOfNums y593) ++ x3)) else (none))) else (if 1 + x3.size ≤ 9223372036854775807 then (some ((⟨#[109]⟩ : ByteArray) ++ x3)) else (none))
def laws_markText.f (k : Nat) (a0 : Int) : Option (ByteArray) := if a0 ≤ 0 then (some (⟨#[109, 48]⟩ : ByteArray)) else (laws_markText.l0 k a0 (⟨#[]⟩ : ByteArray))
theorem laws_markText.mono_l : ∀ k, (∀ y0 y1, LeO (laws_markText.l0 k y0 y1) (laws_markText.l0 (k + 1) y0 y1))
  | 0 => fun _ _ r h => by simp [laws_markText.l0] at h
  | k + 1 => by
    have ih0 := laws_markText.mono_l k
    · intro y0 y1
      unfold laws_markText.l0
      repeat' first| (with_reducible first | exact ih0 _ _ | exact LeO.refl _ | exact LeO.none _ | refine LeO.ite ?_ ?_ | refine LeO.bind ?_ (fun _ => ?_)) | exact ih0 _ _ | exact LeO.none _ | refine LeO.ite ?_ ?_ | refine LeO.bind ?_ (fun _ => ?_)
theorem laws_markText.mono : ∀ a0 k, LeO (laws_markText.f k a0) (laws_markText.f (k + 1) a0) := by
  intro a0 k
  have ih0 := laws_markText.mono_l k
  unfold laws_markText.f
  repeat' first| (with_reducible first | exact ih0 _ _ | exact LeO.refl _ | exact LeO.none _ | refine LeO.ite ?_ ?_ | refine LeO.bind ?_ (fun _ => ?_)) | exact ih0 _ _ | exact LeO.none _ | refine LeO.ite ?_ ?_ | refine LeO.bind ?_ (fun _ => ?_)
set_option maxHeartbeats 8000000 in
set_option maxRecDepth 100000 in
theorem laws_markText.calls (k : Nat) (a0 : Int) (r : ByteArray) (w : World) (h : laws_markText.f k a0 = some r) :
    Calls Tryz.prog 56 #[.int .i64 a0] w fun e w' => e = .returned (.string r) ∧ Below w.heap.size w w' := by
 have HB := zm (Below.refl w.heap.size w)
 have H : (if a0 ≤ 0 then (some (⟨#[109, 48]⟩ : ByteArray)) else (laws_markText.l0 k a0 (⟨#[]⟩ : ByteArray))) = some r := h
 clear h
 by_cases c2 : a0 ≤ 0
 ·rw [if_pos c2] at H
  have c2b0 := decide_eq_true c2; clear c2; obtain rfl := Option.some.inj H
  go_enter Tryz.func56, Tryz.ntmps56
  go_wp2
  go_ret
  exact ⟨ze, zg_1 HB.out⟩
 ·rw [if_neg c2] at H
  have c2b0 := decide_eq_false c2; clear c2
  have H' := zm H
  clear H
  go_enter Tryz.func56, Tryz.ntmps56
  go_wp2
  go_loopg [0, 3] k (fun kq v0 v3 w' => ∃ (x0_1 : Int) (x3_1 : ByteArray), v0 = .int .i64 x0_1 ∧ v3 = .string x3_1 ∧ Aside0 (laws_markText.l0 kq x0_1 x3_1 = some r) ∧ Aside0 (kq ≤ k) ∧ Aside0 (Below w.heap.size w w'))
  case atStart => exact ⟨(a0), ((⟨#[]⟩ : ByteArray)), zr, zr, H', ⟨Nat.le_refl _⟩, ⟨zg_1 HB.out⟩⟩
  case round =>
   clear H'
   try clear c2
   try clear c2b0
   try clear p2
   obtain ⟨x0_1, x3_1, rfl, rfl, HA, HK1, HB⟩ := hrel
   cases gk with
   | zero => exact absurd HA.out (by simp [laws_markText.l0])
   | succ k1 =>
    have H := HA.out; clear HA
    simp only [laws_markText.l0] at H
    by_cases c3 : x0_1 > 0
    ·rw [if_pos c3] at H
     have c3b0 := decide_eq_true c3; clear c3
     obtain ⟨y593, hy593⟩ : ∃ y_ : List Int, y_ = (([(wrap64 (48 + (Int.tmod x0_1 10))) % 256] : List Int)) := ⟨_, rfl⟩
     replace H : (if (strOfNums y593).size + x3_1.size ≤ 9223372036854775807 then (laws_markText.l0 k1 (wrap64 (Int.tdiv x0_1 10)) ((strOfNums y593) ++ x3_1)) else (none)) = some r := by first | (rw [hy593]; with_reducible exact H) | (have H2_ := (Option.bind_some _ _).symm.trans H; rw [hy593]; with_reducible exact H2_) | (have H2_ := (Option.bind_some _ _).symm.trans H; with_reducible exact H2_) | with_reducible exact H | (rw [hy593]; exact H) | exact H
     have Ny593 := zm hy593; clear hy593
     by_cases c4 : (strOfNums y593).size + x3_1.size ≤ 9223372036854775807
     ·rw [if_pos c4] at H
      have c4b0 := eq_true c4; have c4b1 := decide_eq_true c4
      try have c4b2 : (9223372036854775807 < (strOfNums y593).size + x3_1.size) = False := eq_false (Nat.not_lt.2 c4)
      have H' := zm H
      clear H
      go_wp2_with (first | ((with_reducible refine gate_dst (N := 12) rfl ?_); refine Kd.R_lit (Kd.int .u8) _ 5 ?hg (N := 12) ?hd (xs := ([(wrap64 (48 + (Int.tmod x0_1 10))) % 256] : List Int)) (inner := [.int .u8 ((wrap64 (48 + (Int.tmod x0_1 10))) % 256)]) (ok := fun _ => True) (okp := fun _ => True) ?hr ?hp (fun _ hk => hk) trivial (Below.refl _ _) (Nat.le_refl _) (by simp) ?_; (case hd => rfl); (case hg => rfl); (case hr => first | (go_simp; done) | (go_simp; rfl)); (case hp => exact (Reps.one (show Kd.M (Kd.int .u8) _ _ _ ((wrap64 (48 + (Int.tmod x0_1 10))) % 256) [.int .u8 ((wrap64 (48 + (Int.tmod x0_1 10))) % 256)] from rfl) (Reps.none _ _))); intro v594 w5 ho6 hb hg_ hnew_; clear hg_ hnew_; (first | rw [← Ny593.out] at ho6 | (simp only [Int.reduceToNat] at ho6; rw [← Ny593.out] at ho6)); have n0_ := zm (Kd.R_lower ho6 (below_size (zg_1 HB.out))); have n1_ := zm (below_step (zg_1 HB.out) hb); have HO595 := n0_; replace HB := n1_; clear n0_ n1_; clear hb ho6; have hcv7 := own_string (P := Tryz.prog) Tryz.underlying22 Tryz.underlying5 Tryz.underlying9 (Kd.own_of_R HO595.out)))
      go_roundg k1
      case measure => have := HK1.out; omega
      case rel => exact ⟨(wrap64 (Int.tdiv x0_1 10)), ((strOfNums y593) ++ x3_1), zr, zr, H', ⟨by have := HK1.out; omega⟩, ⟨zg_1 HB.out⟩⟩
     ·rw [if_neg c4] at H
      exact absurd H (by simp)
    ·rw [if_neg c3] at H
     have c3b0 := decide_eq_false c3; clear c3
     by_cases c8 : 1 + x3_1.size ≤ 9223372036854775807
     ·rw [if_pos c8] at H
      have c8b0 := eq_true c8; have c8b1 := decide_eq_true c8
      try have c8b2 : (9223372036854775807 < 1 + x3_1.size) = False := eq_false (Nat.not_lt.2 c8)
      obtain rfl := Option.some.inj H
      go_wp2
      go_ret
      exact ⟨ze, zg_1 HB.out⟩
     ·rw [if_neg c8] at H
      exact absurd H (by simp)
def laws_heldUpdateS.l0 : Nat → List (S77) → Int → Int → Option (Int)
  | 0, _, _, _ => none
  | k + 1, x0, x1, x5 => if x5 < (x0.length : Int) then (if 0 ≤ x5 then (if ((rd_T77 x0 x5).f0) = x1 then ((laws_markText.f k (wrap64 (x1 + 1))).bind fun t819 => (if ((rd_T77 x0 x5).f1).toList = t819.toList then (laws_heldUpdateS.l0 k x0 (wrap64 ((wrap64 (x1 + 1)) + 1)) (wrap64 (x5 + 1))) else (some (-1)))) else (some (-1))) else (none)) else (some x1)
def laws_heldUpdateS.f (k : Nat) (l0 : List (S77)) (a1 : Int) : Option (Int) := laws_heldUpdateS.l0 k l0 a1 0
theorem laws_heldUpdateS.mono_l : ∀ k, (∀ y0 y1 y2, LeO (laws_heldUpdateS.l0 k y0 y1 y2) (laws_heldUpdateS.l0 (k + 1) y0 y1 y2))
  | 0 => fun _ _ _ r h => by simp [laws_heldUpdateS.l0] at h
  | k + 1 => by
    have ih0 := laws_heldUpdateS.mono_l k
    · intro y0 y1 y2
      unfold laws_heldUpdateS.l0
      repeat' first| (with_reducible first | exact ih0 _ _ _ | exact laws_markText.mono _ _ | exact LeO.refl _ | exact LeO.none _ | refine LeO.ite ?_ ?_ | refine LeO.bind ?_ (fun _ => ?_)) | exact ih0 _ _ _ | exact laws_markText.mono _ _ | exact LeO.none _ | refine LeO.ite ?_ ?_ | refine LeO.bind ?_ (fun _ => ?_)
theorem laws_heldUpdateS.mono : ∀ a0 a1 k, LeO (laws_heldUpdateS.f k a0 a1) (laws_heldUpdateS.f (k + 1) a0 a1) := by
  intro a0 a1 k
  have ih0 := laws_heldUpdateS.mono_l k
  unfold laws_heldUpdateS.f
  repeat' first| (with_reducible first | exact ih0 _ _ _ | exact laws_markText.mono _ _ | exact LeO.refl _ | exact LeO.none _ | refine LeO.ite ?_ ?_ | refine LeO.bind ?_ (fun _ => ?_)) | exact ih0 _ _ _ | exact laws_markText.mono _ _ | exact LeO.none _ | refine LeO.ite ?_ ?_ | refine LeO.bind ?_ (fun _ => ?_)
def laws_heldUpdateS.T7 : Bool × List (List Nat × List Nat) := (true, [([], []), ([], []), ([0, 1], [0, 1]), ([2], [2]), ([3], [3]), ([], []), ([5], [5]), ([4, 6], [4, 6])])
def laws_heldUpdateS.B7 : List Nat := [0, 0, 3, 7, 15, 0, 32, 127]
theorem laws_heldUpdateS.tab7 : rtab .any (opsOf Tryz.f27 7) = laws_heldUpdateS.T7 := by kernel_rfl
theorem laws_heldUpdateS.bits7 : waitsOk laws_heldUpdateS.T7.2 laws_heldUpdateS.B7 = true := by kernel_rfl
set_option maxHeartbeats 8000000 in
set_option maxRecDepth 100000 in
theorem laws_heldUpdateS.calls (k : Nat) (A0 : Option Addr) (c0 : Nat) (l0 : List (S77)) (a1 : Int) (r : Int) (w : World) (hr0 : Kd.C k77 w A0 l0.length l0) (hc0 : l0.length ≤ c0) (h : laws_heldUpdateS.f k l0 a1 = some r) :
    Calls Tryz.prog 27 #[.slice A0 l0.length c0, .int .i64 a1] w fun e w' => e = .returned (.int .i64 r) ∧ Below w.heap.size w w' := by
 have HR0 := zm hr0; have HC0 := zm hc0; clear hr0 hc0; have HB := zm (Below.refl w.heap.size w)
 have H : (laws_heldUpdateS.l0 k l0 a1 0) = some r := h
 clear h
 have H' := zm H
 clear H
 go_enter Tryz.func27, Tryz.ntmps27
 go_wp2
 go_loopg [1, 5] k (fun kq v1 v5 w' => ∃ (x1_1 : Int) (x5_1 : Int), v1 = .int .i64 x1_1 ∧ v5 = .int .i64 x5_1 ∧ Aside0 (laws_heldUpdateS.l0 kq l0 x1_1 x5_1 = some r) ∧ Aside0 (kq ≤ k) ∧ Aside0 (Below w.heap.size w w'))
 case atStart => exact ⟨(a1), (0), zr, zr, H', ⟨Nat.le_refl _⟩, ⟨zg_1 HB.out⟩⟩
 case round =>
  clear H'
  try clear c2
  try clear p2
  obtain ⟨x1_1, x5_1, rfl, rfl, HA, HK1, HB⟩ := hrel
  cases gk with
  | zero => exact absurd HA.out (by simp [laws_heldUpdateS.l0])
  | succ k1 =>
   have H := HA.out; clear HA
   simp only [laws_heldUpdateS.l0] at H
   by_cases c3 : x5_1 < (l0.length : Int)
   ·rw [if_pos c3] at H
    have c3b0 := decide_eq_true c3; clear c3
    by_cases c4 : 0 ≤ x5_1
    ·rw [if_pos c4] at H
     have c4b0 := decide_eq_true c4; clear c4
     by_cases c5 : ((rd_T77 l0 x5_1).f0) = x1_1
     ·rw [if_pos c5] at H
      have c5b0 : (((rd_T77 l0 x5_1).f0) == x1_1) = true := beq_iff_eq.mpr c5
      have c5b1 : (((rd_T77 l0 x5_1).f0) != x1_1) = false := bne_eq_false_iff_eq.mpr c5
      clear c5; replace H := Option.bind_eq_some_iff.mp H
      obtain ⟨t819, A60, H⟩ := H
      try dsimp only at H
      have A6 := zm A60; clear A60
      by_cases c7 : ((rd_T77 l0 x5_1).f1).toList = t819.toList
      ·rw [if_pos c7] at H
       have c7b0 : (((rd_T77 l0 x5_1).f1).toList == t819.toList) = true := beq_iff_eq.mpr c7
       have c7b1 : (((rd_T77 l0 x5_1).f1).toList != t819.toList) = false := bne_eq_false_iff_eq.mpr c7
       clear c7
       have H' := zm H
       clear H
       have p817 : 0 ≤ (x5_1 : Int) := zd
       have q817 : x5_1 < (l0.length : Int) := zd
       obtain ⟨ad817, e817, hx817_0, hx817_1⟩ := at_T77 HR0.out x5_1 p817 q817
       cases e817; replace hx817_0 := (HB.out.cell (World.block_lt_of_cell? w _ hx817_0)).trans hx817_0; replace hx817_1 := (HB.out.cell (World.block_lt_of_cell? w _ hx817_1)).trans hx817_1; replace p817 := eq_true p817; replace q817 := eq_true q817
       try go_wp2
       have n0_ := zm (below_drew1 HB.out); clear HB; have HB := n0_; clear n0_
       have p818 : 0 ≤ (x5_1 : Int) := zd
       have q818 : x5_1 < (l0.length : Int) := zd
       obtain ⟨ad818, e818, hx818_0, hx818_1⟩ := at_T77 HR0.out x5_1 p818 q818
       have hw818_1 := hx818_1; have hw818_0 := hx818_0
       obtain rfl : ad817 = ad818 := (by injection e818)
       replace hx818_0 := (HB.out.cell (World.block_lt_of_cell? w _ hx818_0)).trans hx818_0; replace hx818_1 := (HB.out.cell (World.block_lt_of_cell? w _ hx818_1)).trans hx818_1; replace p818 := eq_true p818; replace q818 := eq_true q818
       refine start_ (n := 8) (S := fun w' => w'.cell? (ad817.add ((x5_1).toNat * 2)) = some (.int .i64 ((rd_T77 l0 x5_1).f0)) ∧ w'.cell? ⟨(ad817.add ((x5_1).toNat * 2)).block, (ad817.add ((x5_1).toNat * 2)).off + 1, none⟩ = some (.string ((rd_T77 l0 x5_1).f1))) (ds := []) #[false, false, false, false, false, false, false, false] (by kernel_rfl) rfl rfl ⟨((HB.out.cell (World.block_lt_of_cell? w _ hw818_0)).trans hw818_0), ((HB.out.cell (World.block_lt_of_cell? w _ hw818_1)).trans hw818_1)⟩ (fun hHeld => ?_); refine with_tabW laws_heldUpdateS.tab7 laws_heldUpdateS.bits7 (fun HT_ HW_ => ?_)
       generalize wr.drew = w8 at HB hx818_0 hx818_1 hHeld ⊢
       refine pure_ (i := 0) (N := some 21) (v := ?_) (a' := ?_) #[true, false, false, false, false, false, false, false] rfl rfl (any_of HT_.out (by kernel_rfl)) (fun _ _ _ h => h) (Or.inl ⟨by rfl, ?_⟩) ?_ ?_
       rotate_left
       ·intro w'
        go_simp
        with_reducible rfl
       rotate_left
       ·simp only [Act.put, zs, zz, zt, i64_w, i32_w]
        rfl
       refine pure_ (i := 1) (N := some 22) (v := ?_) (a' := ?_) #[true, true, false, false, false, false, false, false] rfl rfl (any_of HT_.out (by kernel_rfl)) (fun _ _ _ h => h) (Or.inl ⟨by rfl, ?_⟩) ?_ ?_
       rotate_left
       ·intro w'
        go_simp
        with_reducible rfl
       rotate_left
       ·simp only [Act.put, zs, zz, zt, i64_w, i32_w]
        rfl
       refine pure_ (i := 2) (N := some 23) (v := ?_) (a' := ?_) #[true, true, true, false, false, false, false, false] rfl rfl (any_of HT_.out (by kernel_rfl)) (fun _ _ _ h => h) (Or.inl ⟨by rfl, ?_⟩) ?_ ?_
       rotate_left
       ·intro w'
        go_simp
        with_reducible rfl
       rotate_left
       ·simp only [Act.put, zs, zz, zt, i64_w, i32_w]
        rfl
       refine pure_ (i := 3) (N := some 24) (v := ?_) (a' := ?_) #[true, true, true, true, false, false, false, false] rfl rfl (any_of HT_.out (by kernel_rfl)) (fun _ _ _ h => h) (Or.inl ⟨by rfl, ?_⟩) ?_ ?_
       rotate_left
       ·intro w'
        go_simp
        with_reducible rfl
       rotate_left
       ·simp only [Act.put, zs, zz, zt, i64_w, i32_w]
        rfl
       refine pure_ (i := 5) (N := some 26) (v := ?_) (a' := ?_) #[true, true, true, true, false, true, false, false] rfl rfl (any_of HT_.out (by kernel_rfl)) (fun _ _ _ h => h) (Or.inl ⟨by rfl, ?_⟩) ?_ ?_
       rotate_left
       ·intro w'
        go_simp
        with_reducible rfl
       rotate_left
       ·simp only [Act.put, zs, zz, zt, i64_w, i32_w]
        rfl
       refine take_ (i := 4) (N := some 25) (v := ?_) (a' := ?_) #[true, true, true, true, true, true, false, false] rfl rfl (take_ofW HT_.out HW_.out (by kernel_rfl)) (fun _ _ _ h => h) (Or.inl ⟨by rfl, ?_⟩) hHeld ?_ ?_
       rotate_left
       ·rintro w' ⟨s0, s1⟩
        go_simp
        with_reducible rfl
       rotate_left
       ·simp only [Act.put, zs, zz, zt, i64_w, i32_w]
        rfl
       refine one_ (i := 6) (N := some 27) #[true, true, true, true, true, true, true, false] rfl rfl (one_of HT_.out (by kernel_rfl)) (by decide) (fun K hK => ?_)
       refine goes_ Tryz.func56 (by kernel_rfl) rfl #[.int .i64 (wrap64 (x1_1 + 1))] (by rfl) rfl rfl zq ?_
       with_reducible refine (laws_markText.calls k1 (wrap64 (x1_1 + 1)) t819 _ A6.out).mono ?_
       rintro e w9 ⟨rfl, hb⟩
       refine ⟨_, rfl, ?_⟩
       have n0_ := zm (below_step (zg_1 HB.out) hb); clear HB; have HB := n0_; clear n0_
       (try clear hb)
       (try clear hb2)
       (try clear hk)
       (try clear hi)
       refine hK.out _ _ ⟨((HB.out.cell (World.block_lt_of_cell? w _ hw818_0)).trans hw818_0), ((HB.out.cell (World.block_lt_of_cell? w _ hw818_1)).trans hw818_1)⟩ (fun hHeld => ?_)
       clear hK K
       refine norm_ (a' := ?_) ?_ ?_
       rotate_left
       ·show Act.put _ (some 27) _ = _
        simp only [Act.put, zs, zz, zt, i64_w, i32_w]
        rfl
       refine pure_ (i := 7) (N := some 28) (v := ?_) (a' := ?_) #[true, true, true, true, true, true, true, true] rfl rfl (any_of HT_.out (by kernel_rfl)) (fun _ _ _ h => h) (Or.inl ⟨by rfl, ?_⟩) ?_ ?_
       rotate_left
       ·intro w'
        go_simp
        with_reducible rfl
       rotate_left
       ·simp only [Act.put, zs, zz, zt, i64_w, i32_w]
        rfl
       refine done_ (done_of HT_.out (by kernel_rfl)) ?_
       try go_wp2
       go_roundg k1
       case measure => have := HK1.out; omega
       case rel => exact ⟨(wrap64 ((wrap64 (x1_1 + 1)) + 1)), (wrap64 (x5_1 + 1)), zr, zr, H', ⟨by have := HK1.out; omega⟩, ⟨zg_1 HB.out⟩⟩
      ·rw [if_neg c7] at H
       have c7b0 : (((rd_T77 l0 x5_1).f1).toList == t819.toList) = false := beq_eq_false_iff_ne.mpr c7
       have c7b1 : (((rd_T77 l0 x5_1).f1).toList != t819.toList) = true := bne_iff_ne.mpr c7
       obtain rfl := Option.some.inj H
       have p817 : 0 ≤ (x5_1 : Int) := zd
       have q817 : x5_1 < (l0.length : Int) := zd
       obtain ⟨ad817, e817, hx817_0, hx817_1⟩ := at_T77 HR0.out x5_1 p817 q817
       cases e817; replace hx817_0 := (HB.out.cell (World.block_lt_of_cell? w _ hx817_0)).trans hx817_0; replace hx817_1 := (HB.out.cell (World.block_lt_of_cell? w _ hx817_1)).trans hx817_1; replace p817 := eq_true p817; replace q817 := eq_true q817
       try go_wp2
       have n0_ := zm (below_drew1 HB.out); clear HB; have HB := n0_; clear n0_
       have p818 : 0 ≤ (x5_1 : Int) := zd
       have q818 : x5_1 < (l0.length : Int) := zd
       obtain ⟨ad818, e818, hx818_0, hx818_1⟩ := at_T77 HR0.out x5_1 p818 q818
       have hw818_1 := hx818_1; have hw818_0 := hx818_0
       obtain rfl : ad817 = ad818 := (by injection e818)
       replace hx818_0 := (HB.out.cell (World.block_lt_of_cell? w _ hx818_0)).trans hx818_0; replace hx818_1 := (HB.out.cell (World.block_lt_of_cell? w _ hx818_1)).trans hx818_1; replace p818 := eq_true p818; replace q818 := eq_true q818
       refine start_ (n := 8) (S := fun w' => w'.cell? (ad817.add ((x5_1).toNat * 2)) = some (.int .i64 ((rd_T77 l0 x5_1).f0)) ∧ w'.cell? ⟨(ad817.add ((x5_1).toNat * 2)).block, (ad817.add ((x5_1).toNat * 2)).off + 1, none⟩ = some (.string ((rd_T77 l0 x5_1).f1))) (ds := []) #[false, false, false, false, false, false, false, false] (by kernel_rfl) rfl rfl ⟨((HB.out.cell (World.block_lt_of_cell? w _ hw818_0)).trans hw818_0), ((HB.out.cell (World.block_lt_of_cell? w _ hw818_1)).trans hw818_1)⟩ (fun hHeld => ?_); refine with_tabW laws_heldUpdateS.tab7 laws_heldUpdateS.bits7 (fun HT_ HW_ => ?_)
       generalize wr.drew = w10 at HB hx818_0 hx818_1 hHeld ⊢
       refine pure_ (i := 0) (N := some 21) (v := ?_) (a' := ?_) #[true, false, false, false, false, false, false, false] rfl rfl (any_of HT_.out (by kernel_rfl)) (fun _ _ _ h => h) (Or.inl ⟨by rfl, ?_⟩) ?_ ?_
       rotate_left
       ·intro w'
        go_simp
        with_reducible rfl
       rotate_left
       ·simp only [Act.put, zs, zz, zt, i64_w, i32_w]
        rfl
       refine pure_ (i := 1) (N := some 22) (v := ?_) (a' := ?_) #[true, true, false, false, false, false, false, false] rfl rfl (any_of HT_.out (by kernel_rfl)) (fun _ _ _ h => h) (Or.inl ⟨by rfl, ?_⟩) ?_ ?_
       rotate_left
       ·intro w'
        go_simp
        with_reducible rfl
       rotate_left
       ·simp only [Act.put, zs, zz, zt, i64_w, i32_w]
        rfl
       refine pure_ (i := 2) (N := some 23) (v := ?_) (a' := ?_) #[true, true, true, false, false, false, false, false] rfl rfl (any_of HT_.out (by kernel_rfl)) (fun _ _ _ h => h) (Or.inl ⟨by rfl, ?_⟩) ?_ ?_
       rotate_left
       ·intro w'
        go_simp
        with_reducible rfl
       rotate_left
       ·simp only [Act.put, zs, zz, zt, i64_w, i32_w]
        rfl
       refine pure_ (i := 3) (N := some 24) (v := ?_) (a' := ?_) #[true, true, true, true, false, false, false, false] rfl rfl (any_of HT_.out (by kernel_rfl)) (fun _ _ _ h => h) (Or.inl ⟨by rfl, ?_⟩) ?_ ?_
       rotate_left
       ·intro w'
        go_simp
        with_reducible rfl
       rotate_left
       ·simp only [Act.put, zs, zz, zt, i64_w, i32_w]
        rfl
       refine pure_ (i := 5) (N := some 26) (v := ?_) (a' := ?_) #[true, true, true, true, false, true, false, false] rfl rfl (any_of HT_.out (by kernel_rfl)) (fun _ _ _ h => h) (Or.inl ⟨by rfl, ?_⟩) ?_ ?_
       rotate_left
       ·intro w'
        go_simp
        with_reducible rfl
       rotate_left
       ·simp only [Act.put, zs, zz, zt, i64_w, i32_w]
        rfl
       refine take_ (i := 4) (N := some 25) (v := ?_) (a' := ?_) #[true, true, true, true, true, true, false, false] rfl rfl (take_ofW HT_.out HW_.out (by kernel_rfl)) (fun _ _ _ h => h) (Or.inl ⟨by rfl, ?_⟩) hHeld ?_ ?_
       rotate_left
       ·rintro w' ⟨s0, s1⟩
        go_simp
        with_reducible rfl
       rotate_left
       ·simp only [Act.put, zs, zz, zt, i64_w, i32_w]
        rfl
       refine one_ (i := 6) (N := some 27) #[true, true, true, true, true, true, true, false] rfl rfl (one_of HT_.out (by kernel_rfl)) (by decide) (fun K hK => ?_)
       refine goes_ Tryz.func56 (by kernel_rfl) rfl #[.int .i64 (wrap64 (x1_1 + 1))] (by rfl) rfl rfl zq ?_
       with_reducible refine (laws_markText.calls k1 (wrap64 (x1_1 + 1)) t819 _ A6.out).mono ?_
       rintro e w11 ⟨rfl, hb⟩
       refine ⟨_, rfl, ?_⟩
       have n0_ := zm (below_step (zg_1 HB.out) hb); clear HB; have HB := n0_; clear n0_
       (try clear hb)
       (try clear hb2)
       (try clear hk)
       (try clear hi)
       refine hK.out _ _ ⟨((HB.out.cell (World.block_lt_of_cell? w _ hw818_0)).trans hw818_0), ((HB.out.cell (World.block_lt_of_cell? w _ hw818_1)).trans hw818_1)⟩ (fun hHeld => ?_)
       clear hK K
       refine norm_ (a' := ?_) ?_ ?_
       rotate_left
       ·show Act.put _ (some 27) _ = _
        simp only [Act.put, zs, zz, zt, i64_w, i32_w]
        rfl
       refine pure_ (i := 7) (N := some 28) (v := ?_) (a' := ?_) #[true, true, true, true, true, true, true, true] rfl rfl (any_of HT_.out (by kernel_rfl)) (fun _ _ _ h => h) (Or.inl ⟨by rfl, ?_⟩) ?_ ?_
       rotate_left
       ·intro w'
        go_simp
        with_reducible rfl
       rotate_left
       ·simp only [Act.put, zs, zz, zt, i64_w, i32_w]
        rfl
       refine done_ (done_of HT_.out (by kernel_rfl)) ?_
       try go_wp2
       go_ret
       exact ⟨ze, zg_1 HB.out⟩
     ·rw [if_neg c5] at H
      have c5b0 : (((rd_T77 l0 x5_1).f0) == x1_1) = false := beq_eq_false_iff_ne.mpr c5
      have c5b1 : (((rd_T77 l0 x5_1).f0) != x1_1) = true := bne_iff_ne.mpr c5
      obtain rfl := Option.some.inj H
      have p817 : 0 ≤ (x5_1 : Int) := zd
      have q817 : x5_1 < (l0.length : Int) := zd
      obtain ⟨ad817, e817, hx817_0, hx817_1⟩ := at_T77 HR0.out x5_1 p817 q817
      cases e817; replace hx817_0 := (HB.out.cell (World.block_lt_of_cell? w _ hx817_0)).trans hx817_0; replace hx817_1 := (HB.out.cell (World.block_lt_of_cell? w _ hx817_1)).trans hx817_1; replace p817 := eq_true p817; replace q817 := eq_true q817
      go_wp2
      go_ret
      exact ⟨ze, zg_1 HB.out⟩
    ·rw [if_neg c4] at H
     exact absurd H (by simp)
   ·rw [if_neg c3] at H
    have c3b0 := decide_eq_false c3; clear c3; obtain rfl := Option.some.inj H
    go_wp2
    go_ret
    exact ⟨ze, zg_1 HB.out⟩
def laws_markIntS.l0 : Nat → List Int → Int → Int → Option (Int × List Int)
  | 0, _, _, _ => none
  | k + 1, x0, x1, x5 => if x5 < (x0.length : Int) then (if 0 ≤ x5 then (laws_markIntS.l0 k (x0.set (x5 : Int).toNat x1) (wrap64 (x1 + 1)) (wrap64 (x5 + 1))) else (none)) else (some (x1, x0))
def laws_markIntS.f (k : Nat) (l0 : List Int) (a1 : Int) : Option (Int × List Int) := laws_markIntS.l0 k l0 a1 0
theorem laws_markIntS.mono_l : ∀ k, (∀ y0 y1 y2, LeO (laws_markIntS.l0 k y0 y1 y2) (laws_markIntS.l0 (k + 1) y0 y1 y2))
  | 0 => fun _ _ _ r h => by simp [laws_markIntS.l0] at h
  | k + 1 => by
    have ih0 := laws_markIntS.mono_l k
    · intro y0 y1 y2
      unfold laws_markIntS.l0
      repeat' first| (with_reducible first | exact ih0 _ _ _ | exact LeO.refl _ | exact LeO.none _ | refine LeO.ite ?_ ?_ | refine LeO.bind ?_ (fun _ => ?_)) | exact ih0 _ _ _ | exact LeO.none _ | refine LeO.ite ?_ ?_ | refine LeO.bind ?_ (fun _ => ?_)
theorem laws_markIntS.mono : ∀ a0 a1 k, LeO (laws_markIntS.f k a0 a1) (laws_markIntS.f (k + 1) a0 a1) := by
  intro a0 a1 k
  have ih0 := laws_markIntS.mono_l k
  unfold laws_markIntS.f
  repeat' first| (with_reducible first | exact ih0 _ _ _ | exact LeO.refl _ | exact LeO.none _ | refine LeO.ite ?_ ?_ | refine LeO.bind ?_ (fun _ => ?_)) | exact ih0 _ _ _ | exact LeO.none _ | refine LeO.ite ?_ ?_ | refine LeO.bind ?_ (fun _ => ?_)
set_option maxHeartbeats 8000000 in
set_option maxRecDepth 100000 in
theorem laws_markIntS.calls (k : Nat) (P0_ : Nat → Prop) (u9000_ : Value) (l0 : List Int) (a1 : Int) (r1 : Int) (r2 : List Int) (w0 w : World) (hB : Below w0.heap.size w0 w) (ho0 : Kd.R (Kd.int .i64) 3 w w0.heap.size P0_ u9000_ l0) (h : laws_markIntS.f k l0 a1 = some (r1, r2)) :
    Calls Tryz.prog 48 #[u9000_, .int .i64 a1] w fun e w' => e = .returned (.int .i64 r1) ∧ Kd.R (Kd.int .i64) 3 w' w0.heap.size (fun k_ => (P0_ k_ ∨ w.heap.size ≤ k_)) u9000_ r2 ∧ Below w0.heap.size w0 w' ∧ Kept w w' (fun k_ => P0_ k_) := by
 have HO0 := zm (show Kd.R (Kd.int .i64) 3 w w0.heap.size (fun k_ => (P0_ k_ ∨ w.heap.size ≤ k_)) u9000_ l0 from Kd.R_mono ho0 (fun k_ hk => (.inl hk))); have HK := zm (Kept.refl w (fun k_ => P0_ k_)); have HW0 := zm hB.size; have HB := zm hB; clear hB
 have H : (laws_markIntS.l0 k l0 a1 0) = some (r1, r2) := h
 clear h
 have H' := zm H
 clear H
 go_enter Tryz.func48, Tryz.ntmps48
 go_wp2
 go_loopg [1, 5] k (fun kq v1 v5 w' => ∃ (x0_1 : List Int) (x1_1 : Int) (x5_1 : Int), v1 = .int .i64 x1_1 ∧ v5 = .int .i64 x5_1 ∧ Aside0 (laws_markIntS.l0 kq x0_1 x1_1 x5_1 = some (r1, r2)) ∧ Aside0 (kq ≤ k) ∧ Aside0 (Kd.R (Kd.int .i64) 3 w' w0.heap.size (fun k_ => (P0_ k_ ∨ w.heap.size ≤ k_)) u9000_ x0_1) ∧ Aside0 (Kept w w' (fun k_ => P0_ k_)) ∧ Aside0 (Below w0.heap.size w0 w'))
 case atStart => exact ⟨(l0), (a1), (0), zr, zr, H', ⟨Nat.le_refl _⟩, ⟨zlR HO0.out⟩, ⟨zg_7 HK.out⟩, ⟨zg_1 HB.out⟩⟩
 case round =>
  clear H'
  try clear p2
  obtain ⟨x0_1, x1_1, x5_1, rfl, rfl, HA, HK1, HO_0, HK, HB⟩ := hrel
  cases gk with
  | zero => exact absurd HA.out (by simp [laws_markIntS.l0])
  | succ k1 =>
   have H := HA.out; clear HA
   simp only [laws_markIntS.l0] at H
   by_cases c3 : x5_1 < (x0_1.length : Int)
   ·rw [if_pos c3] at H
    have c3b0 := decide_eq_true c3; clear c3
    by_cases c4 : 0 ≤ x5_1
    ·rw [if_pos c4] at H
     have c4b0 := decide_eq_true c4; clear c4
     obtain ⟨y592, hy592⟩ : ∃ y_ : List Int, y_ = (x0_1.set (x5_1 : Int).toNat x1_1) := ⟨_, rfl⟩
     replace H : (laws_markIntS.l0 k1 y592 (wrap64 (x1_1 + 1)) (wrap64 (x5_1 + 1))) = some (r1, r2) := by first | (rw [hy592]; with_reducible exact H) | (have H2_ := (Option.bind_some _ _).symm.trans H; rw [hy592]; with_reducible exact H2_) | (have H2_ := (Option.bind_some _ _).symm.trans H; with_reducible exact H2_) | with_reducible exact H | (rw [hy592]; exact H) | exact H
     have Ny592 := zm hy592; clear hy592
     have H' := zm H
     clear H
     obtain ⟨Ao6, co6, eo6⟩ := Kd.R_slice HO_0.out
     subst eo6
     have p5 : 0 ≤ (x5_1 : Int) := zd
     have q5 : (x5_1 : Int) < ((x0_1.length : Int) : Int) := zd
     obtain ⟨go5, co5, eo5, gb5, gl5, cl5, HG5⟩ := Kd.R_form HO_0.out (by omega)
     (first | cases eo5 | (injection eo5 with ea_ en_ ec_; (first | subst ea_ | (injection ea_ with ea_; subst ea_)); subst ec_; clear en_))
     have GB5 := zm gb5; have GG5 := zm HG5; clear gb5 gl5 HG5; have HMgo5 := zm (show (P0_ go5 ∨ w.heap.size ≤ go5) from (HO_0.out.1 _ rfl))
     obtain ⟨hx5_0, hf5_0⟩ := Kd.R_celln 0 HO_0.out (x5_1 : Int) p5 q5
     replace p5 := eq_true p5; replace q5 := eq_true q5; have HP7 := Kd.R_putg HO_0.out (x5_1 : Int) x1_1
     go_wp2_with (first | ((with_reducible refine gate_store (t := 3) (p := 15) rfl ?_); refine store_event (t := 3) (p := 15) (v := ?vo_w8) (w1 := (wr.setCell ⟨go5, (x5_1 : Int).toNat, none⟩ (.int .i64 x1_1))) ?hg ?ho ?hn ?hr ?_; (case ho => rfl); (case hg => rfl); (case hn => rfl); (case hr => first | (go_simp; done) | (go_simp; rfl)); intro w8 hw; have hg : wr.grownBy w8 (some go5) := (by rw [hw]; exact HP7.2); have hp_ : Kd.R (Kd.int .i64) 3 w8 w0.heap.size (fun k_ => (P0_ k_ ∨ w.heap.size ≤ k_)) (.slice (some ⟨go5, 0, none⟩) x0_1.length co6) y592 := (by rw [hw, Ny592.out]; exact HP7.1); clear HP7; have n0_ := zm (hp_); have n1_ := zm ((by rw [hw]; exact below_set (HB.out) GB5.out : Below w0.heap.size w0 w8)); have n2_ := zm (Kept.of_grown (S := (fun k_ => P0_ k_)) hg (zg_7 HK.out) (fun k_ e_ => (HO_0.out.1 k_ e_))); replace HO_0 := n0_; replace HB := n1_; replace HK := n2_; clear n0_ n1_ n2_; clear hg hw hp_))
     go_roundg k1
     case measure => have := HK1.out; omega
     case rel => exact ⟨(y592), (wrap64 (x1_1 + 1)), (wrap64 (x5_1 + 1)), zr, zr, H', ⟨by have := HK1.out; omega⟩, ⟨zlR HO_0.out⟩, ⟨zg_7 HK.out⟩, ⟨zg_1 HB.out⟩⟩
    ·rw [if_neg c4] at H
     exact absurd H (by simp)
   ·rw [if_neg c3] at H
    have c3b0 := decide_eq_false c3; clear c3
    simp only [Option.some.injEq, Prod.mk.injEq] at H
    obtain ⟨rfl, rfl⟩ := H
    obtain ⟨Ao9, co9, eo9⟩ := Kd.R_slice HO_0.out
    subst eo9
    go_wp2
    go_ret
    exact ⟨ze, by (with_reducible repeat (first | apply Kd.R_alloc | apply Kd.R_drewN | apply Kd.R_drew)); exact HO_0.out, zg_1 HB.out, zg_7 HK.out⟩
def laws_markSnapS.l0 : Nat → List (S103) → Int → Int → Option (Int × List (S103))
  | 0, _, _, _ => none
  | k + 1, x0, x1, x5 => if x5 < (x0.length : Int) then (if 0 ≤ x5 then ((laws_markText.f k x1).bind fun t => (laws_markIntS.f k ((rd_T103 (x0.set (x5 : Int).toNat (⟨t, (rd_T103 x0 x5).f1⟩ : S103)) x5).f1) (wrap64 (x1 + 1))).bind fun b => laws_markSnapS.l0 k ((x0.set (x5 : Int).toNat (⟨t, (rd_T103 x0 x5).f1⟩ : S103)).set (x5 : Int).toNat (⟨(rd_T103 (x0.set (x5 : Int).toNat (⟨t, (rd_T103 x0 x5).f1⟩ : S103)) x5).f0, b.2⟩ : S103)) b.1 (wrap64 (x5 + 1))) else none) else some (x1, x0)
def laws_markSnapS.f (k : Nat) (l0 : List (S103)) (a1 : Int) : Option (Int × List (S103)) := laws_markSnapS.l0 k l0 a1 0
theorem laws_markSnapS.mono_l : ∀ k, (∀ y0 y1 y2, LeO (laws_markSnapS.l0 k y0 y1 y2) (laws_markSnapS.l0 (k + 1) y0 y1 y2))
  | 0 => fun _ _ _ r h => by simp [laws_markSnapS.l0] at h
  | k + 1 => by
    have ih0 := laws_markSnapS.mono_l k
    intro y0 y1 y2
    unfold laws_markSnapS.l0
    refine LeO.ite (LeO.ite (LeO.bind (laws_markText.mono _ _) fun _ => LeO.bind (laws_markIntS.mono _ _ _) fun _ => ih0 _ _ _) (LeO.none _)) (LeO.refl _)
theorem laws_markSnapS.mono : ∀ a0 a1 k, LeO (laws_markSnapS.f k a0 a1) (laws_markSnapS.f (k + 1) a0 a1) := fun a0 a1 k => laws_markSnapS.mono_l k a0 a1 0
set_option maxHeartbeats 8000000 in
set_option maxRecDepth 100000 in
theorem laws_markSnapS.calls (k : Nat) (P0_ : Nat → Prop) (u9000_ : Value) (l0 : List (S103)) (a1 : Int) (r1 : Int) (r2 : List (S103)) (w0 w : World) (hB : Below w0.heap.size w0 w) (ho0 : Kd.S k103 103 w w0.heap.size P0_ u9000_ l0) (h : laws_markSnapS.f k l0 a1 = some (r1, r2)) :
    Calls Tryz.prog 49 #[u9000_, .int .i64 a1] w fun e w' => e = .returned (.int .i64 r1) ∧ Kd.S k103 103 w' w0.heap.size P0_ u9000_ r2 ∧ Below w0.heap.size w0 w' ∧ Kept w w' (fun k_ => P0_ k_) := by
 have HO0 := zm ho0; have HK := zm (Kept.refl w (fun k_ => P0_ k_)); have HW0 := zm hB.size; have HB := zm hB; clear hB ho0
 have H : (laws_markSnapS.l0 k l0 a1 0) = some (r1, r2) := h
 clear h
 have H' := zm H
 clear H
 go_enter Tryz.func49, Tryz.ntmps49
 go_wp2
 go_loopg [1, 5] k (fun kq v1 v5 w' => ∃ (x0_1 : List (S103)) (x1_1 : Int) (x5_1 : Int), v1 = .int .i64 x1_1 ∧ v5 = .int .i64 x5_1 ∧ Aside0 (laws_markSnapS.l0 kq x0_1 x1_1 x5_1 = some (r1, r2)) ∧ Aside0 (kq ≤ k) ∧ Aside0 (Kd.S k103 103 w' w0.heap.size P0_ u9000_ x0_1) ∧ Aside0 (Kept w w' (fun k_ => P0_ k_)) ∧ Aside0 (Below w0.heap.size w0 w'))
 case atStart => exact ⟨l0, a1, 0, zr, zr, H', ⟨Nat.le_refl _⟩, ⟨zlS HO0.out⟩, ⟨zg_7 HK.out⟩, ⟨zg_1 HB.out⟩⟩
 case round =>
  clear H'
  try clear c1
  try clear p2
  obtain ⟨x0_1, x1_1, x5_1, rfl, rfl, HA, HK1, Za, HK, HB⟩ := hrel
  cases gk with
  | zero => exact absurd HA.out (by simp [laws_markSnapS.l0])
  | succ k1 =>
   have H := HA.out; clear HA
   simp only [laws_markSnapS.l0] at H
   by_cases c3 : x5_1 < (x0_1.length : Int)
   ·rw [if_pos c3] at H
    have c3b0 := decide_eq_true c3
    by_cases c4 : 0 ≤ x5_1
    ·rw [if_pos c4] at H
     have c4b0 := decide_eq_true c4; have P3 := zm c3; have P4 := zm c4; clear c3 c4
     obtain ⟨t1, ht1, H⟩ := Option.bind_eq_some_iff.mp H
     obtain ⟨y1, hy1⟩ : ∃ y_ : List (S103), y_ = (x0_1.set (x5_1 : Int).toNat (⟨t1, (rd_T103 x0_1 x5_1).f1⟩ : S103)) := ⟨_, rfl⟩
     rw [← hy1] at H
     obtain ⟨⟨t2, t3⟩, ht2, H⟩ := Option.bind_eq_some_iff.mp H
     obtain ⟨y2, hy2⟩ : ∃ y_ : List (S103), y_ = (y1.set (x5_1 : Int).toNat (⟨(rd_T103 y1 x5_1).f0, t3⟩ : S103)) := ⟨_, rfl⟩
     replace H : laws_markSnapS.l0 k1 y2 t2 (wrap64 (x5_1 + 1)) = some (r1, r2) := by rw [hy2]; exact H
     have N1 := zm hy1; have N2 := zm hy2; have T1 := zm ht1; have T2 := zm ht2
     have L1 : Aside0 (y1.length = x0_1.length) := ⟨by rw [hy1, List.length_set]⟩
     clear hy1 hy2 ht1 ht2
     have H' := zm H
     clear H
     obtain ⟨go5, co9, rfl, _, _, _⟩ := Kd.S_form Za.out (by have := P3.out; have := P4.out; omega)
     have q3 := eq_true P3.out; have q4 := eq_true P4.out
     go_wp2_with (first
      | ((with_reducible refine gate_callee (f := 56) rfl ?_); refine goesL_ (some 15) rfl rfl Tryz.func56 (by kernel_rfl) rfl #[.int .i64 x1_1] rfl (by (try simp only [List.map_toArray, List.map_cons, List.map_nil]); first | done | rfl) ?_; (with_reducible refine (laws_markText.calls k1 x1_1 t1 _ T1.out).mono ?_); rintro e w8 ⟨rfl, hb⟩; refine ⟨_, rfl, ?_⟩; have n0_ := zm (Kd.S_below (zg_8 Za.out) hb); have n1_ := zm (Kept.below (S := (fun k_ => P0_ k_)) (zg_7 HK.out) hb); have n2_ := zm (below_step (zg_1 HB.out) hb); clear Za HK HB hb; have Za := n0_; have HK := n1_; have HB := n2_; clear n0_ n1_ n2_; obtain ⟨oki, ce, hcl, hM, hcc, hfr, hoki, hH⟩ := Kd.S_elem (Kd.S_mono (ok' := fun k_ => P0_ k_ ∧ ¬ (fun _ => False) k_) Za.out (fun _ h_ => ⟨h_, fun f_ => f_⟩)) z103 x5_1 P4.out P3.out; obtain ⟨ve, rfl, ge⟩ := k103_openM hM; have hx0 := hcc 0 _ rfl; have hf0 := hfr 0; (try simp only [show (k103).sz = 2 from rfl, Nat.mul_one, Nat.add_zero] at hx0 hf0); have HP := zm (Kd.S_seg (okg := fun _ => False) hH P4.out P3.out (seg := [.string t1]) (j := 0) (show 1 ≤ 2 from by decide) (x' := (⟨t1, (rd_T103 x0_1 x5_1).f1⟩ : S103)) (okp := oki) (k103_mkM _ _ _ (⟨t1, (rd_T103 x0_1 x5_1).f1⟩ : S103) ge) (fun _ h_ => .inl h_) (fun _ f_ => f_.elim)); clear hcl hM hcc hfr hoki hH ge)
      | ((with_reducible refine gate_store (t := 9) (p := 17) rfl ?_); refine store_event (t := 9) (p := 17) (v := ?vo_w10) (w1 := (w8.setCell ⟨go5, (x5_1 : Int).toNat * 2, none⟩ (.string t1))) ?hg ?ho ?hn ?hr ?_; (case ho => rfl); (case hg => rfl); (case hn => rfl); (case hr => first | (go_simp; done) | (go_simp; rfl)); intro w10 hw; have hg : w8.grownBy w10 (some go5) := (by rw [hw]; exact HP.out.2); have hp_ : Kd.S k103 103 w10 w0.heap.size P0_ (.slice (some ⟨go5, 0, none⟩) x0_1.length co9) y1 := (by rw [hw, N1.out]; exact HP.out.1); have n0_ := zm hp_; have n1_ := zm ((by rw [hw]; exact below_set HB.out (Kd.S_base Za.out _ rfl) : Below w0.heap.size w0 w10)); have n2_ := zm (Kept.of_grown (S := (fun k_ => P0_ k_)) hg HK.out (fun k_ e_ => .inl ((Kd.S_R Za.out).1 k_ e_))); clear Za HK HB HP hx0 hf0 hg hw hp_; have Za := n0_; have HB := n1_; have HK := n2_; clear n0_ n1_ n2_; obtain ⟨oki, ce, hcl, hM, hcc, hfr, hoki, hH⟩ := Kd.S_elem Za.out z103 x5_1 P4.out P3.out; obtain ⟨ve, rfl, ge⟩ := k103_openM hM; have hge : Kd.R (Kd.int .i64) 3 w10 w0.heap.size oki ve (rd_T103 y1 x5_1).f1 := ge; obtain ⟨A2, c2, rfl⟩ := Kd.R_slice hge; have hx1 := hcc 1 _ rfl; (try simp only [show (k103).sz = 2 from rfl, Nat.mul_one, Nat.add_zero] at hx1); have GE := zm hge; have HH := zm hH; have OKI := zm hoki; clear hcl hM hcc hfr hoki hH ge hge)
      | ((with_reducible refine gate_callee (f := 48) rfl ?_); refine goesL_ (some 26) rfl rfl Tryz.func48 (by kernel_rfl) rfl #[.slice A2 (rd_T103 y1 x5_1).f1.length c2, .int .i64 (wrap64 (x1_1 + 1))] rfl (by (try simp only [List.map_toArray, List.map_cons, List.map_nil]); first | done | rfl) ?_; (with_reducible refine (laws_markIntS.calls k1 oki (.slice A2 (rd_T103 y1 x5_1).f1.length c2) (rd_T103 y1 x5_1).f1 (wrap64 (x1_1 + 1)) t2 t3 w0 _ ?s1 ?s2 T2.out).mono ?_); (case s1 => exact HB.out); (case s2 => exact GE.out); rintro e w12 ⟨rfl, hy, hb, hkp⟩; refine ⟨_, rfl, ?_⟩; have hy2 : Kd.R (Kd.int .i64) 3 w12 w0.heap.size oki (.slice A2 (rd_T103 y1 x5_1).f1.length c2) t3 := Kd.R_reok rfl hy (fun k_ e_ => GE.out.1 k_ e_); have hs := Kd.H_back (Kd.H_kept HH.out hkp (fun _ _ h_ => h_)) (x' := (⟨(rd_T103 y1 x5_1).f0, t3⟩ : S103)) (okp := oki) (k103_mkM _ _ _ (⟨(rd_T103 y1 x5_1).f0, t3⟩ : S103) hy2) (fun _ h_ => h_); rw [← N2.out] at hs; have n0_ := zm hs; have n1_ := zm (HK.out.then_ hkp (fun k_ h_ => .inl (OKI.out k_ h_).1)); have n2_ := zm hb; clear Za HK HB HH GE OKI hx1 hy hy2 hb hkp hs; have Za := n0_; have HK := n1_; have HB := n2_; clear n0_ n1_ n2_))
     go_roundg k1
     case measure => have := HK1.out; omega
     case rel => exact ⟨y2, t2, (wrap64 (x5_1 + 1)), zr, zr, H', ⟨by have := HK1.out; omega⟩, ⟨zlS Za.out⟩, ⟨zg_7 HK.out⟩, ⟨zg_1 HB.out⟩⟩
    ·rw [if_neg c4] at H
     exact absurd H (by simp)
   ·rw [if_neg c3] at H
    have c3b0 := decide_eq_false c3; clear c3
    simp only [Option.some.injEq, Prod.mk.injEq] at H
    obtain ⟨rfl, rfl⟩ := H
    obtain ⟨Ao17, co17, eo17⟩ := Kd.S_slice Za.out
    subst eo17
    go_wp2
    go_ret
    exact ⟨by first | rfl | (simp <;> rfl) | (simp [*] <;> rfl), by (with_reducible repeat (first | apply Kd.S_alloc | apply Kd.S_drewN | apply Kd.S_drew)); exact Za.out, zg_1 HB.out, zg_7 HK.out⟩
def laws_markImage.f (k : Nat) (l0_0 : List Int) (l0_1 : List Int) (l0_2 : List (S103)) (l0_3 : List Int) (a1 : Int) : Option (Int) := (laws_markIntS.f k l0_0 a1).bind fun t0 => (laws_markIntS.f k l0_1 t0.1).bind fun t1 => (laws_markSnapS.f k l0_2 t1.1).bind fun t2 => (laws_markIntS.f k l0_3 t2.1).bind fun t3 => some (t3.1)
theorem laws_markImage.mono : ∀ b0 b1 b2 b3 a1 k, LeO (laws_markImage.f k b0 b1 b2 b3 a1) (laws_markImage.f (k + 1) b0 b1 b2 b3 a1) := fun _ _ _ _ _ _ => LeO.bind (laws_markIntS.mono _ _ _) fun _ => LeO.bind (laws_markIntS.mono _ _ _) fun _ => LeO.bind (laws_markSnapS.mono _ _ _) fun _ => LeO.bind (laws_markIntS.mono _ _ _) fun _ => LeO.refl _
set_option maxHeartbeats 8000000 in
set_option maxRecDepth 100000 in
theorem laws_markImage.calls (k : Nat) (P0_0_ : Nat → Prop) (u9000_ : Value) (l0_0 : List Int) (P0_1_ : Nat → Prop) (u9001_ : Value) (l0_1 : List Int) (P0_2_ : Nat → Prop) (u9002_ : Value) (l0_2 : List (S103)) (P0_3_ : Nat → Prop) (u9003_ : Value) (l0_3 : List Int) (a1 : Int) (r : Int) (w0 w : World) (hB : Below w0.heap.size w0 w) (ho0_0 : Kd.R (Kd.int .i64) 3 w w0.heap.size P0_0_ u9000_ l0_0) (hp0_0_0_1 : ∀ k_, P0_0_ k_ → ¬ P0_1_ k_) (hp0_0_0_2 : ∀ k_, P0_0_ k_ → ¬ P0_2_ k_) (hp0_0_0_3 : ∀ k_, P0_0_ k_ → ¬ P0_3_ k_) (ho0_1 : Kd.R (Kd.int .i64) 3 w w0.heap.size P0_1_ u9001_ l0_1) (hp0_1_0_0 : ∀ k_, P0_1_ k_ → ¬ P0_0_ k_) (hp0_1_0_2 : ∀ k_, P0_1_ k_ → ¬ P0_2_ k_) (hp0_1_0_3 : ∀ k_, P0_1_ k_ → ¬ P0_3_ k_) (ho0_2 : Kd.S k103 103 w w0.heap.size P0_2_ u9002_ l0_2) (hp0_2_0_0 : ∀ k_, P0_2_ k_ → ¬ P0_0_ k_) (hp0_2_0_1 : ∀ k_, P0_2_ k_ → ¬ P0_1_ k_) (hp0_2_0_3 : ∀ k_, P0_2_ k_ → ¬ P0_3_ k_) (ho0_3 : Kd.R (Kd.int .i64) 3 w w0.heap.size P0_3_ u9003_ l0_3) (hp0_3_0_0 : ∀ k_, P0_3_ k_ → ¬ P0_0_ k_) (hp0_3_0_1 : ∀ k_, P0_3_ k_ → ¬ P0_1_ k_) (hp0_3_0_2 : ∀ k_, P0_3_ k_ → ¬ P0_2_ k_) (h : laws_markImage.f k l0_0 l0_1 l0_2 l0_3 a1 = some r) :
    Calls Tryz.prog 20 #[.agg #[u9000_, u9001_, u9002_, u9003_], .int .i64 a1] w fun e w' => e = .returned (.int .i64 r) ∧ Below w0.heap.size w0 w' ∧ Kept w w' (fun k_ => P0_0_ k_ ∨ P0_1_ k_ ∨ P0_2_ k_ ∨ P0_3_ k_) := by
 have hu26 := Tryz.underlying26
 obtain ⟨Ao0, co0, rfl⟩ := Kd.R_slice ho0_0
 obtain ⟨Ao1, co1, rfl⟩ := Kd.R_slice ho0_1
 obtain ⟨Ao2, co2, rfl⟩ := Kd.S_slice ho0_2
 obtain ⟨Ao3, co3, rfl⟩ := Kd.R_slice ho0_3
 have B0 := zm (show Kd.R (Kd.int .i64) 3 w w0.heap.size (fun k_ => some k_ = (.slice Ao0 l0_0.length co0 : Value).ownBlock) (.slice Ao0 l0_0.length co0 : Value) l0_0 from Kd.R_tight rfl ho0_0); have lt0 := zm (show ∀ k_, (fun k_ => some k_ = (.slice Ao0 l0_0.length co0 : Value).ownBlock) k_ → k_ < w.heap.size from fun k_ e_ => Kd.R_lt ho0_0 k_ e_.symm); have in0 := zm (show ∀ k_, (fun k_ => some k_ = (.slice Ao0 l0_0.length co0 : Value).ownBlock) k_ → P0_0_ k_ from fun k_ e_ => ho0_0.1 k_ e_.symm); have B1 := zm (show Kd.R (Kd.int .i64) 3 w w0.heap.size (fun k_ => some k_ = (.slice Ao1 l0_1.length co1 : Value).ownBlock) (.slice Ao1 l0_1.length co1 : Value) l0_1 from Kd.R_tight rfl ho0_1); have lt1 := zm (show ∀ k_, (fun k_ => some k_ = (.slice Ao1 l0_1.length co1 : Value).ownBlock) k_ → k_ < w.heap.size from fun k_ e_ => Kd.R_lt ho0_1 k_ e_.symm); have in1 := zm (show ∀ k_, (fun k_ => some k_ = (.slice Ao1 l0_1.length co1 : Value).ownBlock) k_ → P0_1_ k_ from fun k_ e_ => ho0_1.1 k_ e_.symm); have B2 := zm (show Kd.S k103 103 w w0.heap.size (fun k_ => P0_2_ k_ ∧ k_ < w.heap.size) (.slice Ao2 l0_2.length co2 : Value) l0_2 from Kd.S_mono (Kd.S_bound ho0_2) (fun _ h_ => ⟨h_.1, h_.2.2.1⟩)); have lt2 := zm (show ∀ k_, (fun k_ => P0_2_ k_ ∧ k_ < w.heap.size) k_ → k_ < w.heap.size from fun _ h_ => h_.2); have in2 := zm (show ∀ k_, (fun k_ => P0_2_ k_ ∧ k_ < w.heap.size) k_ → P0_2_ k_ from fun _ h_ => h_.1); have B3 := zm (show Kd.R (Kd.int .i64) 3 w w0.heap.size (fun k_ => some k_ = (.slice Ao3 l0_3.length co3 : Value).ownBlock) (.slice Ao3 l0_3.length co3 : Value) l0_3 from Kd.R_tight rfl ho0_3); have lt3 := zm (show ∀ k_, (fun k_ => some k_ = (.slice Ao3 l0_3.length co3 : Value).ownBlock) k_ → k_ < w.heap.size from fun k_ e_ => Kd.R_lt ho0_3 k_ e_.symm); have in3 := zm (show ∀ k_, (fun k_ => some k_ = (.slice Ao3 l0_3.length co3 : Value).ownBlock) k_ → P0_3_ k_ from fun k_ e_ => ho0_3.1 k_ e_.symm); have ap0_1 := zm (show ∀ k_, (fun k_ => some k_ = (.slice Ao0 l0_0.length co0 : Value).ownBlock) k_ → ¬ (fun k_ => some k_ = (.slice Ao1 l0_1.length co1 : Value).ownBlock) k_ from fun k_ h_ h2_ => hp0_0_0_1 k_ (in0.out k_ h_) (in1.out k_ h2_)); have ap0_2 := zm (show ∀ k_, (fun k_ => some k_ = (.slice Ao0 l0_0.length co0 : Value).ownBlock) k_ → ¬ (fun k_ => P0_2_ k_ ∧ k_ < w.heap.size) k_ from fun k_ h_ h2_ => hp0_0_0_2 k_ (in0.out k_ h_) (in2.out k_ h2_)); have ap0_3 := zm (show ∀ k_, (fun k_ => some k_ = (.slice Ao0 l0_0.length co0 : Value).ownBlock) k_ → ¬ (fun k_ => some k_ = (.slice Ao3 l0_3.length co3 : Value).ownBlock) k_ from fun k_ h_ h2_ => hp0_0_0_3 k_ (in0.out k_ h_) (in3.out k_ h2_)); have ap1_0 := zm (show ∀ k_, (fun k_ => some k_ = (.slice Ao1 l0_1.length co1 : Value).ownBlock) k_ → ¬ (fun k_ => some k_ = (.slice Ao0 l0_0.length co0 : Value).ownBlock) k_ from fun k_ h_ h2_ => hp0_1_0_0 k_ (in1.out k_ h_) (in0.out k_ h2_)); have ap1_2 := zm (show ∀ k_, (fun k_ => some k_ = (.slice Ao1 l0_1.length co1 : Value).ownBlock) k_ → ¬ (fun k_ => P0_2_ k_ ∧ k_ < w.heap.size) k_ from fun k_ h_ h2_ => hp0_1_0_2 k_ (in1.out k_ h_) (in2.out k_ h2_)); have ap1_3 := zm (show ∀ k_, (fun k_ => some k_ = (.slice Ao1 l0_1.length co1 : Value).ownBlock) k_ → ¬ (fun k_ => some k_ = (.slice Ao3 l0_3.length co3 : Value).ownBlock) k_ from fun k_ h_ h2_ => hp0_1_0_3 k_ (in1.out k_ h_) (in3.out k_ h2_)); have ap2_0 := zm (show ∀ k_, (fun k_ => P0_2_ k_ ∧ k_ < w.heap.size) k_ → ¬ (fun k_ => some k_ = (.slice Ao0 l0_0.length co0 : Value).ownBlock) k_ from fun k_ h_ h2_ => hp0_2_0_0 k_ (in2.out k_ h_) (in0.out k_ h2_)); have ap2_1 := zm (show ∀ k_, (fun k_ => P0_2_ k_ ∧ k_ < w.heap.size) k_ → ¬ (fun k_ => some k_ = (.slice Ao1 l0_1.length co1 : Value).ownBlock) k_ from fun k_ h_ h2_ => hp0_2_0_1 k_ (in2.out k_ h_) (in1.out k_ h2_)); have ap2_3 := zm (show ∀ k_, (fun k_ => P0_2_ k_ ∧ k_ < w.heap.size) k_ → ¬ (fun k_ => some k_ = (.slice Ao3 l0_3.length co3 : Value).ownBlock) k_ from fun k_ h_ h2_ => hp0_2_0_3 k_ (in2.out k_ h_) (in3.out k_ h2_)); have ap3_0 := zm (show ∀ k_, (fun k_ => some k_ = (.slice Ao3 l0_3.length co3 : Value).ownBlock) k_ → ¬ (fun k_ => some k_ = (.slice Ao0 l0_0.length co0 : Value).ownBlock) k_ from fun k_ h_ h2_ => hp0_3_0_0 k_ (in3.out k_ h_) (in0.out k_ h2_)); have ap3_1 := zm (show ∀ k_, (fun k_ => some k_ = (.slice Ao3 l0_3.length co3 : Value).ownBlock) k_ → ¬ (fun k_ => some k_ = (.slice Ao1 l0_1.length co1 : Value).ownBlock) k_ from fun k_ h_ h2_ => hp0_3_0_1 k_ (in3.out k_ h_) (in1.out k_ h2_)); have ap3_2 := zm (show ∀ k_, (fun k_ => some k_ = (.slice Ao3 l0_3.length co3 : Value).ownBlock) k_ → ¬ (fun k_ => P0_2_ k_ ∧ k_ < w.heap.size) k_ from fun k_ h_ h2_ => hp0_3_0_2 k_ (in3.out k_ h_) (in2.out k_ h2_)); have HK := zm (Kept.refl w (fun k_ => P0_0_ k_ ∨ P0_1_ k_ ∨ P0_2_ k_ ∨ P0_3_ k_)); have HB := zm hB; clear hB ho0_0 ho0_1 ho0_2 ho0_3 hp0_0_0_1 hp0_0_0_2 hp0_0_0_3 hp0_1_0_0 hp0_1_0_2 hp0_1_0_3 hp0_2_0_0 hp0_2_0_1 hp0_2_0_3 hp0_3_0_0 hp0_3_0_1 hp0_3_0_2
 unfold laws_markImage.f at h
 obtain ⟨⟨t0, s0⟩, hh0, h⟩ := Option.bind_eq_some_iff.mp h
 have H0 := zm hh0; clear hh0
 obtain ⟨⟨t1, s1⟩, hh1, h⟩ := Option.bind_eq_some_iff.mp h
 have H1 := zm hh1; clear hh1
 obtain ⟨⟨t2, s2⟩, hh2, h⟩ := Option.bind_eq_some_iff.mp h
 have H2 := zm hh2; clear hh2
 obtain ⟨⟨t3, s3⟩, hh3, h⟩ := Option.bind_eq_some_iff.mp h
 have H3 := zm hh3; clear hh3
 simp only [Option.some.injEq] at h
 obtain rfl := h
 go_enter Tryz.func20, Tryz.ntmps20
 go_wp2_with (first | ((with_reducible refine gate_dst (N := 2) rfl ?_); refine box_event ?hg (N := 2) ?hd (cs := #[.slice Ao0 l0_0.length co0, .slice Ao1 l0_1.length co1, .slice Ao2 l0_2.length co2, .slice Ao3 l0_3.length co3]) (t := 26) ?hr ?_; (case hd => rfl); (case hg => rfl); (case hr => first | (go_simp; done) | (go_simp; rfl)); intro gb hg w7 hbox hb; have n0_ := zm (Kd.R_below (zg_6 B0.out) hb); have n1_ := zm (Kd.R_below (zg_6 B1.out) hb); have n2_ := zm (Kd.S_below (zg_8 B2.out) hb); have n3_ := zm (Kd.R_below (zg_6 B3.out) hb); have nk_ := zm (Kept.below (S := (fun k_ => P0_0_ k_ ∨ P0_1_ k_ ∨ P0_2_ k_ ∨ P0_3_ k_)) (zg_7 HK.out) hb); have nb_ := zm (below_step (zg_1 HB.out) hb); have BK := zm hbox; have GW := zm ((by rw [hg]; exact (show Kept w _ (fun k_ => P0_0_ k_ ∨ P0_1_ k_ ∨ P0_2_ k_ ∨ P0_3_ k_) from (zg_7 HK.out)).1) : w.heap.size ≤ gb); clear HB HK B0 B1 B2 B3; have B0 := n0_; have B1 := n1_; have B2 := n2_; have B3 := n3_; have HK := nk_; have HB := nb_; clear nk_ nb_ n0_ n1_ n2_ n3_ hb hbox hg; obtain ⟨hcz0_0, hcz0_1, hcz0_2, hcz0_3, hfz0_0, hfz0_1, hfz0_2, hfz0_3⟩ := zb4 BK.out) | ((with_reducible refine gate_callee (f := 48) rfl ?_); refine goesL_ (some 8) rfl rfl Tryz.func48 (by kernel_rfl) rfl #[.slice Ao0 l0_0.length co0, .int .i64 a1] rfl (by (try simp only [List.map_toArray, List.map_cons, List.map_nil]); first | done | rfl) ?_; (with_reducible refine (laws_markIntS.calls k (fun k_ => some k_ = (.slice Ao0 l0_0.length co0 : Value).ownBlock) (.slice Ao0 l0_0.length co0 : Value) l0_0 a1 t0 s0 w0 _ ?s1 ?s2 H0.out).mono ?_); (case s1 => exact (zg_1 HB.out)); (case s2 => exact (zg_6 B0.out)); rintro e w20 ⟨rfl, hy, hb, hkp⟩; refine ⟨_, rfl, ?_⟩; have n1_ := zm (Kd.R_kept (zg_6 B1.out) hkp ap1_0.out); have n2_ := zm (Kd.S_kept (zg_8 B2.out) hkp ap2_0.out); have n3_ := zm (Kd.R_kept (zg_6 B3.out) hkp ap3_0.out); have nk_ := zm (Kept.then_ (S := (fun k_ => P0_0_ k_ ∨ P0_1_ k_ ∨ P0_2_ k_ ∨ P0_3_ k_)) (zg_7 HK.out) hkp (fun k_ h_ => .inl (Or.inl (in0.out k_ h_)))); have nb_ := zm hb; have nB_ := zm (blk_kept BK.out hkp (fun h_ => Nat.not_lt.2 GW.out (lt0.out _ h_))); clear HK HB BK hy hb hkp B0 B1 B2 B3 hcz0_0 hfz0_0 hcz0_1 hfz0_1 hcz0_2 hfz0_2 hcz0_3 hfz0_3; have HK := nk_; have HB := nb_; have BK := nB_; have B1 := n1_; have B2 := n2_; have B3 := n3_; clear nk_ nb_ nB_ n1_ n2_ n3_; obtain ⟨hcz1_0, hcz1_1, hcz1_2, hcz1_3, hfz1_0, hfz1_1, hfz1_2, hfz1_3⟩ := zb4 BK.out) | ((with_reducible refine gate_callee (f := 48) rfl ?_); refine goesL_ (some 12) rfl rfl Tryz.func48 (by kernel_rfl) rfl #[.slice Ao1 l0_1.length co1, .int .i64 t0] rfl (by (try simp only [List.map_toArray, List.map_cons, List.map_nil]); first | done | rfl) ?_; (with_reducible refine (laws_markIntS.calls k (fun k_ => some k_ = (.slice Ao1 l0_1.length co1 : Value).ownBlock) (.slice Ao1 l0_1.length co1 : Value) l0_1 t0 t1 s1 w0 _ ?s1 ?s2 H1.out).mono ?_); (case s1 => exact (zg_1 HB.out)); (case s2 => exact (zg_6 B1.out)); rintro e w21 ⟨rfl, hy, hb, hkp⟩; refine ⟨_, rfl, ?_⟩; have n2_ := zm (Kd.S_kept (zg_8 B2.out) hkp ap2_1.out); have n3_ := zm (Kd.R_kept (zg_6 B3.out) hkp ap3_1.out); have nk_ := zm (Kept.then_ (S := (fun k_ => P0_0_ k_ ∨ P0_1_ k_ ∨ P0_2_ k_ ∨ P0_3_ k_)) (zg_7 HK.out) hkp (fun k_ h_ => .inl (Or.inr (Or.inl (in1.out k_ h_))))); have nb_ := zm hb; have nB_ := zm (blk_kept BK.out hkp (fun h_ => Nat.not_lt.2 GW.out (lt1.out _ h_))); clear HK HB BK hy hb hkp B1 B2 B3 hcz1_0 hfz1_0 hcz1_1 hfz1_1 hcz1_2 hfz1_2 hcz1_3 hfz1_3; have HK := nk_; have HB := nb_; have BK := nB_; have B2 := n2_; have B3 := n3_; clear nk_ nb_ nB_ n2_ n3_; obtain ⟨hcz2_0, hcz2_1, hcz2_2, hcz2_3, hfz2_0, hfz2_1, hfz2_2, hfz2_3⟩ := zb4 BK.out) | ((with_reducible refine gate_callee (f := 49) rfl ?_); refine goesL_ (some 16) rfl rfl Tryz.func49 (by kernel_rfl) rfl #[.slice Ao2 l0_2.length co2, .int .i64 t1] rfl (by (try simp only [List.map_toArray, List.map_cons, List.map_nil]); first | done | rfl) ?_; (with_reducible refine (laws_markSnapS.calls k (fun k_ => P0_2_ k_ ∧ k_ < w.heap.size) (.slice Ao2 l0_2.length co2 : Value) l0_2 t1 t2 s2 w0 _ ?s1 ?s2 H2.out).mono ?_); (case s1 => exact (zg_1 HB.out)); (case s2 => exact (zg_8 B2.out)); rintro e w22 ⟨rfl, hy, hb, hkp⟩; refine ⟨_, rfl, ?_⟩; have n3_ := zm (Kd.R_kept (zg_6 B3.out) hkp ap3_2.out); have nk_ := zm (Kept.then_ (S := (fun k_ => P0_0_ k_ ∨ P0_1_ k_ ∨ P0_2_ k_ ∨ P0_3_ k_)) (zg_7 HK.out) hkp (fun k_ h_ => .inl (Or.inr (Or.inr (Or.inl (in2.out k_ h_)))))); have nb_ := zm hb; have nB_ := zm (blk_kept BK.out hkp (fun h_ => Nat.not_lt.2 GW.out (lt2.out _ h_))); clear HK HB BK hy hb hkp B2 B3 hcz2_0 hfz2_0 hcz2_1 hfz2_1 hcz2_2 hfz2_2 hcz2_3 hfz2_3; have HK := nk_; have HB := nb_; have BK := nB_; have B3 := n3_; clear nk_ nb_ nB_ n3_; obtain ⟨hcz3_0, hcz3_1, hcz3_2, hcz3_3, hfz3_0, hfz3_1, hfz3_2, hfz3_3⟩ := zb4 BK.out) | ((with_reducible refine gate_callee (f := 48) rfl ?_); refine goesL_ (some 20) rfl rfl Tryz.func48 (by kernel_rfl) rfl #[.slice Ao3 l0_3.length co3, .int .i64 t2] rfl (by (try simp only [List.map_toArray, List.map_cons, List.map_nil]); first | done | rfl) ?_; (with_reducible refine (laws_markIntS.calls k (fun k_ => some k_ = (.slice Ao3 l0_3.length co3 : Value).ownBlock) (.slice Ao3 l0_3.length co3 : Value) l0_3 t2 t3 s3 w0 _ ?s1 ?s2 H3.out).mono ?_); (case s1 => exact (zg_1 HB.out)); (case s2 => exact (zg_6 B3.out)); rintro e w23 ⟨rfl, hy, hb, hkp⟩; refine ⟨_, rfl, ?_⟩; have nk_ := zm (Kept.then_ (S := (fun k_ => P0_0_ k_ ∨ P0_1_ k_ ∨ P0_2_ k_ ∨ P0_3_ k_)) (zg_7 HK.out) hkp (fun k_ h_ => .inl (Or.inr (Or.inr (Or.inr (in3.out k_ h_)))))); have nb_ := zm hb; have nB_ := zm (blk_kept BK.out hkp (fun h_ => Nat.not_lt.2 GW.out (lt3.out _ h_))); clear HK HB BK hy hb hkp B3 hcz3_0 hfz3_0 hcz3_1 hfz3_1 hcz3_2 hfz3_2 hcz3_3 hfz3_3; have HK := nk_; have HB := nb_; have BK := nB_; clear nk_ nb_ nB_ ; obtain ⟨hcz4_0, hcz4_1, hcz4_2, hcz4_3, hfz4_0, hfz4_1, hfz4_2, hfz4_3⟩ := zb4 BK.out))
 go_ret
 exact ⟨by first | rfl | (simp <;> rfl) | (simp [*] <;> rfl), (zg_1 HB.out), (zg_7 HK.out)⟩
def laws_markUpdateS.l0 : Nat → List (S77) → Int → Int → Option (Int × (List (S77)))
  | 0, _, _, _ => none
  | k + 1, x0, x1, x5 => if x5 < (x0.length : Int) then (if 0 ≤ x5 then ((some (x0.set (x5 : Int).toNat (⟨x1, (rd_T77 x0 x5).f1⟩ : S77) : List (S77))).bind fun y814 => ((laws_markText.f k (wrap64 (x1 + 1))).bind fun t815 => (laws_markUpdateS.l0 k (y814.set (x5 : Int).toNat (⟨(rd_T77 y814 x5).f0, t815⟩ : S77)) (wrap64 ((wrap64 (x1 + 1)) + 1)) (wrap64 (x5 + 1))))) else (none)) else (some (x1, x0))
def laws_markUpdateS.f (k : Nat) (l0 : List (S77)) (a1 : Int) : Option (Int × (List (S77))) := laws_markUpdateS.l0 k l0 a1 0
theorem laws_markUpdateS.mono_l : ∀ k, (∀ y0 y1 y2, LeO (laws_markUpdateS.l0 k y0 y1 y2) (laws_markUpdateS.l0 (k + 1) y0 y1 y2))
  | 0 => fun _ _ _ r h => by simp [laws_markUpdateS.l0] at h
  | k + 1 => by
    have ih0 := laws_markUpdateS.mono_l k
    · intro y0 y1 y2
      unfold laws_markUpdateS.l0
      repeat' first| (with_reducible first | exact ih0 _ _ _ | exact laws_markText.mono _ _ | exact LeO.refl _ | exact LeO.none _ | refine LeO.ite ?_ ?_ | refine LeO.bind ?_ (fun _ => ?_)) | exact ih0 _ _ _ | exact laws_markText.mono _ _ | exact LeO.none _ | refine LeO.ite ?_ ?_ | refine LeO.bind ?_ (fun _ => ?_)
theorem laws_markUpdateS.mono : ∀ a0 a1 k, LeO (laws_markUpdateS.f k a0 a1) (laws_markUpdateS.f (k + 1) a0 a1) := by
  intro a0 a1 k
  have ih0 := laws_markUpdateS.mono_l k
  unfold laws_markUpdateS.f
  repeat' first| (with_reducible first | exact ih0 _ _ _ | exact laws_markText.mono _ _ | exact LeO.refl _ | exact LeO.none _ | refine LeO.ite ?_ ?_ | refine LeO.bind ?_ (fun _ => ?_)) | exact ih0 _ _ _ | exact laws_markText.mono _ _ | exact LeO.none _ | refine LeO.ite ?_ ?_ | refine LeO.bind ?_ (fun _ => ?_)
set_option maxHeartbeats 8000000 in
set_option maxRecDepth 100000 in
theorem laws_markUpdateS.calls (k : Nat) (P0_ : Nat → Prop) (u9000_ : Value) (l0 : List (S77)) (a1 : Int) (r1 : Int) (r2 : List (S77)) (w0 w : World) (hB : Below w0.heap.size w0 w) (ho0 : Kd.R k77 77 w w0.heap.size P0_ u9000_ l0) (h : laws_markUpdateS.f k l0 a1 = some (r1, r2)) :
    Calls Tryz.prog 26 #[u9000_, .int .i64 a1] w fun e w' => e = .returned (.int .i64 r1) ∧ Kd.R k77 77 w' w0.heap.size (fun k_ => (P0_ k_ ∨ w.heap.size ≤ k_)) u9000_ r2 ∧ Below w0.heap.size w0 w' ∧ Kept w w' (fun k_ => P0_ k_) := by
 have HO0 := zm (show Kd.R k77 77 w w0.heap.size (fun k_ => (P0_ k_ ∨ w.heap.size ≤ k_)) u9000_ l0 from Kd.R_mono ho0 (fun k_ hk => (.inl hk))); have HK := zm (Kept.refl w (fun k_ => P0_ k_)); have HW0 := zm hB.size; have HB := zm hB; clear hB
 have H : (laws_markUpdateS.l0 k l0 a1 0) = some (r1, r2) := h
 clear h
 have H' := zm H
 clear H
 go_enter Tryz.func26, Tryz.ntmps26
 go_wp2
 go_loopg [1, 5] k (fun kq v1 v5 w' => ∃ (x0_1 : List (S77)) (x1_1 : Int) (x5_1 : Int), v1 = .int .i64 x1_1 ∧ v5 = .int .i64 x5_1 ∧ Aside0 (laws_markUpdateS.l0 kq x0_1 x1_1 x5_1 = some (r1, r2)) ∧ Aside0 (kq ≤ k) ∧ Aside0 (Kd.R k77 77 w' w0.heap.size (fun k_ => (P0_ k_ ∨ w.heap.size ≤ k_)) u9000_ x0_1) ∧ Aside0 (Kept w w' (fun k_ => P0_ k_)) ∧ Aside0 (Below w0.heap.size w0 w'))
 case atStart => exact ⟨(l0), (a1), (0), zr, zr, H', ⟨Nat.le_refl _⟩, ⟨zlR HO0.out⟩, ⟨zg_7 HK.out⟩, ⟨zg_1 HB.out⟩⟩
 case round =>
  clear H'
  try clear c2
  try clear p2
  obtain ⟨x0_1, x1_1, x5_1, rfl, rfl, HA, HK1, Za, HK, HB⟩ := hrel
  cases gk with
  | zero => exact absurd HA.out (by simp [laws_markUpdateS.l0])
  | succ k1 =>
   have H := HA.out; clear HA
   simp only [laws_markUpdateS.l0] at H
   by_cases c3 : x5_1 < (x0_1.length : Int)
   ·rw [if_pos c3] at H
    have c3b0 := decide_eq_true c3; clear c3
    by_cases c4 : 0 ≤ x5_1
    ·rw [if_pos c4] at H
     have c4b0 := decide_eq_true c4; clear c4
     obtain ⟨y814, hy814⟩ : ∃ y_ : List (S77), y_ = (x0_1.set (x5_1 : Int).toNat (⟨x1_1, (rd_T77 x0_1 x5_1).f1⟩ : S77)) := ⟨_, rfl⟩
     replace H : ((laws_markText.f k1 (wrap64 (x1_1 + 1))).bind fun t815 => (laws_markUpdateS.l0 k1 (y814.set (x5_1 : Int).toNat (⟨(rd_T77 y814 x5_1).f0, t815⟩ : S77)) (wrap64 ((wrap64 (x1_1 + 1)) + 1)) (wrap64 (x5_1 + 1)))) = some (r1, r2) := by first | (rw [hy814]; with_reducible exact H) | (have H2_ := (Option.bind_some _ _).symm.trans H; rw [hy814]; with_reducible exact H2_) | (have H2_ := (Option.bind_some _ _).symm.trans H; with_reducible exact H2_) | with_reducible exact H | (rw [hy814]; exact H) | exact H
     have Ny814 := zm hy814; clear hy814; replace H := Option.bind_eq_some_iff.mp H
     obtain ⟨t815, A60, H⟩ := H
     try dsimp only at H
     have A6 := zm A60; clear A60
     obtain ⟨y816, hy816⟩ : ∃ y_ : List (S77), y_ = (y814.set (x5_1 : Int).toNat (⟨(rd_T77 y814 x5_1).f0, t815⟩ : S77)) := ⟨_, rfl⟩
     replace H : (laws_markUpdateS.l0 k1 y816 (wrap64 ((wrap64 (x1_1 + 1)) + 1)) (wrap64 (x5_1 + 1))) = some (r1, r2) := by first | (rw [hy816]; with_reducible exact H) | (have H2_ := (Option.bind_some _ _).symm.trans H; rw [hy816]; with_reducible exact H2_) | (have H2_ := (Option.bind_some _ _).symm.trans H; with_reducible exact H2_) | with_reducible exact H | (rw [hy816]; exact H) | exact H
     have Ny816 := zm hy816; clear hy816
     have H' := zm H
     clear H
     obtain ⟨Ao8, co8, eo8⟩ := Kd.R_slice Za.out
     subst eo8
     have p5 : 0 ≤ (x5_1 : Int) := zd
     have q5 : (x5_1 : Int) < ((x0_1.length : Int) : Int) := zd
     obtain ⟨go5, co5, eo5, gb5, gl5, cl5, HG5⟩ := Kd.R_form Za.out (by omega)
     (first | cases eo5 | (injection eo5 with ea_ en_ ec_; (first | subst ea_ | (injection ea_ with ea_; subst ea_)); subst ec_; clear en_))
     have GB5 := zm gb5; have GG5 := zm HG5; clear gb5 gl5 HG5; have HMgo5 := zm (show (P0_ go5 ∨ w.heap.size ≤ go5) from (Za.out.1 _ rfl))
     obtain ⟨ce5, hcl5, hM5, hcc5, hfr5⟩ := Kd.R_elem Za.out z77 (x5_1 : Int) p5 q5
     obtain rfl := k77_openM hM5
     have hx5_0 : wr.cell? ⟨go5, (x5_1 : Int).toNat * 2, none⟩ = some (.int .i64 ((rd_T77 x0_1 x5_1).f0)) := hcc5 0 _ rfl
     have hx5_1 : wr.cell? ⟨go5, (x5_1 : Int).toNat * 2 + 1, none⟩ = some (.string ((rd_T77 x0_1 x5_1).f1)) := hcc5 1 _ rfl
     have hf5_0 : wr.frozen? ⟨go5, (x5_1 : Int).toNat * 2, none⟩ = false := hfr5 0
     have hf5_1 : wr.frozen? ⟨go5, (x5_1 : Int).toNat * 2 + 1, none⟩ = false := hfr5 1
     clear hcl5 hcc5 hfr5 hM5; replace p5 := eq_true p5; replace q5 := eq_true q5; have HX9 := zm (show Kd.R k77 77 wr w0.heap.size (fun k_ => (P0_ k_ ∨ w.heap.size ≤ k_)) (.slice (some ⟨go5, 0, none⟩) x0_1.length co8) x0_1 from (zg_6 Za.out))
     obtain ⟨ce9, hcl9, hM9, hcc9, hfr9⟩ := Kd.R_elem HX9.out z77 (x5_1 : Int) (zd) (by have h_ : (x5_1 : Int) < ((x0_1.length : Int) : Int) := zd; first | exact h_ | (have e_ := (Kd.R_reads' Za.out).1; omega) | simpa using h_)
     obtain rfl := k77_openM hM9; have HP9 := Kd.R_seg HX9.out (x5_1 : Int) (zd) (by have h_ : (x5_1 : Int) < ((x0_1.length : Int) : Int) := zd; first | exact h_ | (have e_ := (Kd.R_reads' Za.out).1; omega) | simpa using h_) (seg := [.int .i64 x1_1]) (j := 0) hcl9 hcc9 (show 1 ≤ 2 from by decide) (x' := (⟨x1_1, (rd_T77 x0_1 x5_1).f1⟩ : S77)) (k77_mkM _ _ _ (⟨x1_1, (rd_T77 x0_1 x5_1).f1⟩ : S77) ) (fun _ hk => hk); have hx9_0 := hcc9 0 _ rfl
     (try simp only [show (k77).sz = 2 from rfl, Nat.mul_one, Nat.add_zero] at hx9_0)
     have hf9_0 := hfr9 0
     (try simp only [show (k77).sz = 2 from rfl, Nat.mul_one, Nat.add_zero] at hf9_0)
     clear hcl9 hcc9 hfr9 hM9
     go_wp2_with (first | ((with_reducible refine gate_store (t := 3) (p := 16) rfl ?_); refine store_event (t := 3) (p := 16) (v := ?vo_w10) (w1 := (wr.setCell ⟨go5, (x5_1 : Int).toNat * 2, none⟩ (.int .i64 x1_1))) ?hg ?ho ?hn ?hr ?_; (case ho => rfl); (case hg => rfl); (case hn => rfl); (case hr => first | (go_simp; done) | (go_simp; rfl)); intro w10 hw; have hg : wr.grownBy w10 (some go5) := (by rw [hw]; exact HP9.2); have hp_ : Kd.R k77 77 w10 w0.heap.size (fun k_ => (P0_ k_ ∨ w.heap.size ≤ k_)) (.slice (some ⟨go5, 0, none⟩) x0_1.length co8) y814 := (by rw [hw, Ny814.out]; exact HP9.1); clear HP9; have n0_ := zm (hp_); have n1_ := zm ((by rw [hw]; exact below_set (HB.out) GB5.out : Below w0.heap.size w0 w10)); have n2_ := zm (Kept.of_grown (S := (fun k_ => P0_ k_)) hg (zg_7 HK.out) (fun k_ e_ => (Za.out.1 k_ e_))); replace Za := n0_; replace HB := n1_; replace HK := n2_; clear n0_ n1_ n2_; clear hg hw hp_) | ((with_reducible refine gate_callee (f := 56) rfl ?_); refine goesL_ (some 22) rfl rfl Tryz.func56 (by kernel_rfl) rfl #[.int .i64 (wrap64 (x1_1 + 1))] rfl zq ?_; (with_reducible refine (laws_markText.calls k1 (wrap64 (x1_1 + 1)) t815 _ A6.out).mono ?_); rintro e w11 ⟨rfl, hb⟩; refine ⟨_, rfl, ?_⟩; have n0_ := zm (Kd.R_below (zg_6 Za.out) hb); have n1_ := zm (Kept.below (S := (fun k_ => P0_ k_)) (zg_7 HK.out) hb); have n2_ := zm (below_step (zg_1 HB.out) hb); replace Za := n0_; replace HK := n1_; replace HB := n2_; clear n0_ n1_ n2_; (try clear hb); (try clear hb2); (try clear hk); (try clear hi); have p7 : 0 ≤ (x5_1 : Int) := zd; have q7 : (x5_1 : Int) < ((x0_1.length : Int) : Int) := zd; obtain ⟨ce7, hcl7, hM7, hcc7, hfr7⟩ := Kd.R_elem Za.out z77 (x5_1 : Int) p7 q7; obtain rfl := k77_openM hM7; have hx7_0 : w11.cell? ⟨go5, (x5_1 : Int).toNat * 2, none⟩ = some (.int .i64 ((rd_T77 y814 x5_1).f0)) := hcc7 0 _ rfl; have hx7_1 : w11.cell? ⟨go5, (x5_1 : Int).toNat * 2 + 1, none⟩ = some (.string ((rd_T77 y814 x5_1).f1)) := hcc7 1 _ rfl; have hf7_0 : w11.frozen? ⟨go5, (x5_1 : Int).toNat * 2, none⟩ = false := hfr7 0; have hf7_1 : w11.frozen? ⟨go5, (x5_1 : Int).toNat * 2 + 1, none⟩ = false := hfr7 1; clear hcl7 hcc7 hfr7 hM7; replace p7 := eq_true p7; replace q7 := eq_true q7; have Zc := zm (show Kd.R k77 77 w11 w0.heap.size (fun k_ => (P0_ k_ ∨ w.heap.size ≤ k_)) (.slice (some ⟨go5, 0, none⟩) x0_1.length co8) y814 from (zg_6 Za.out)); obtain ⟨ce12, hcl12, hM12, hcc12, hfr12⟩ := Kd.R_elem Zc.out z77 (x5_1 : Int) (zd) (by have h_ : (x5_1 : Int) < ((x0_1.length : Int) : Int) := zd; first | exact h_ | (have e_ := (Kd.R_reads' Za.out).1; omega) | simpa using h_); obtain rfl := k77_openM hM12; have Zb := Kd.R_seg Zc.out (x5_1 : Int) (zd) (by have h_ : (x5_1 : Int) < ((x0_1.length : Int) : Int) := zd; first | exact h_ | (have e_ := (Kd.R_reads' Za.out).1; omega) | simpa using h_) (seg := [.string t815]) (j := 1) hcl12 hcc12 (show 2 ≤ 2 from by decide) (x' := (⟨(rd_T77 y814 x5_1).f0, t815⟩ : S77)) (k77_mkM _ _ _ (⟨(rd_T77 y814 x5_1).f0, t815⟩ : S77) ) (fun _ hk => hk); have hx12_1 := hcc12 1 _ rfl; (try simp only [show (k77).sz = 2 from rfl, Nat.mul_one, Nat.add_zero] at hx12_1); have hf12_1 := hfr12 1; (try simp only [show (k77).sz = 2 from rfl, Nat.mul_one, Nat.add_zero] at hf12_1); clear hcl12 hcc12 hfr12 hM12) | ((with_reducible refine gate_store (t := 9) (p := 24) rfl ?_); refine store_event (t := 9) (p := 24) (v := ?vo_w13) (w1 := (w11.setCell ⟨go5, (x5_1 : Int).toNat * 2 + 1, none⟩ (.string t815))) ?hg ?ho ?hn ?hr ?_; (case ho => rfl); (case hg => rfl); (case hn => rfl); (case hr => first | (go_simp; done) | (go_simp; rfl)); intro w13 hw; have hg : w11.grownBy w13 (some go5) := (by rw [hw]; exact Zb.2); have hp_ : Kd.R k77 77 w13 w0.heap.size (fun k_ => (P0_ k_ ∨ w.heap.size ≤ k_)) (.slice (some ⟨go5, 0, none⟩) x0_1.length co8) y816 := (by rw [hw, Ny816.out]; exact Zb.1); clear Zb; have n0_ := zm (hp_); have n1_ := zm ((by rw [hw]; exact below_set (HB.out) GB5.out : Below w0.heap.size w0 w13)); have n2_ := zm (Kept.of_grown (S := (fun k_ => P0_ k_)) hg (zg_7 HK.out) (fun k_ e_ => (Za.out.1 k_ e_))); replace Za := n0_; replace HB := n1_; replace HK := n2_; clear n0_ n1_ n2_; clear hg hw hp_))
     go_roundg k1
     case measure => have := HK1.out; omega
     case rel => exact ⟨(y816), (wrap64 ((wrap64 (x1_1 + 1)) + 1)), (wrap64 (x5_1 + 1)), zr, zr, H', ⟨by have := HK1.out; omega⟩, ⟨zlR Za.out⟩, ⟨zg_7 HK.out⟩, ⟨zg_1 HB.out⟩⟩
    ·rw [if_neg c4] at H
     exact absurd H (by simp)
   ·rw [if_neg c3] at H
    have c3b0 := decide_eq_false c3; clear c3
    simp only [Option.some.injEq, Prod.mk.injEq] at H
    obtain ⟨rfl, rfl⟩ := H
    obtain ⟨Ao14, co14, eo14⟩ := Kd.R_slice Za.out
    subst eo14
    go_wp2
    go_ret
    exact ⟨ze, by (with_reducible repeat (first | apply Kd.R_alloc | apply Kd.R_drewN | apply Kd.R_drew)); exact Za.out, zg_1 HB.out, zg_7 HK.out⟩
def laws_szIntS.f (l0 : List Int) (a1 : Int) : Option (Int) := if (wrap64 (a1 - (l0.length : Int))) < 0 then (some (-1)) else (some (wrap64 (a1 - (l0.length : Int))))
set_option maxHeartbeats 8000000 in
set_option maxRecDepth 100000 in
theorem laws_szIntS.calls (A0 : Option Addr) (c0 : Nat) (l0 : List Int) (a1 : Int) (r : Int) (w : World) (hr0 : Kd.C (Kd.int .i64) w A0 l0.length l0) (hc0 : l0.length ≤ c0) (h : laws_szIntS.f l0 a1 = some r) :
    Calls Tryz.prog 38 #[.slice A0 l0.length c0, .int .i64 a1] w fun e w' => e = .returned (.int .i64 r) ∧ Drawn0 w w' := by
  have HR0 := zm hr0; have HC0 := zm hc0; clear hr0 hc0
  have H : (if (wrap64 (a1 - (l0.length : Int))) < 0 then (some (-1)) else (some (wrap64 (a1 - (l0.length : Int))))) = some r := h
  clear h
  by_cases c3 : (wrap64 (a1 - (l0.length : Int))) < 0
  · rw [if_pos c3] at H
    have c3b0 := decide_eq_true c3; clear c3; obtain rfl := Option.some.inj H
    go_enter Tryz.func38, Tryz.ntmps38
    go_wp2
    go_ret
    exact ⟨zr, by repeat (first | exact Drawn0.refl _ | apply Drawn0.step)⟩
  · rw [if_neg c3] at H
    have c3b0 := decide_eq_false c3; clear c3; obtain rfl := Option.some.inj H
    go_enter Tryz.func38, Tryz.ntmps38
    go_wp2
    go_ret
    exact ⟨zr, by repeat (first | exact Drawn0.refl _ | apply Drawn0.step)⟩
def laws_szSnap.f (a0_0 : ByteArray) (l0_1 : List Int) (a1 : Int) : Option (Int) := if (wrap64 (a1 - (a0_0.size : Int))) < 0 then (some (-1)) else ((laws_szIntS.f l0_1 (wrap64 (a1 - (a0_0.size : Int)))).bind fun t414 => (if t414 < 0 then (some (-1)) else (some t414)))
set_option maxHeartbeats 8000000 in
set_option maxRecDepth 100000 in
theorem laws_szSnap.calls (a0_0 : ByteArray) (A0_1 : Option Addr) (c0_1 : Nat) (l0_1 : List Int) (a1 : Int) (r : Int) (w : World) (hr0_1 : Kd.C (Kd.int .i64) w A0_1 l0_1.length l0_1) (hc0_1 : l0_1.length ≤ c0_1) (h : laws_szSnap.f a0_0 l0_1 a1 = some r) :
    Calls Tryz.prog 83 #[.agg #[.string a0_0, .slice A0_1 l0_1.length c0_1], .int .i64 a1] w fun e w' => e = .returned (.int .i64 r) ∧ Below w.heap.size w w' := by
 have hu102 := Tryz.underlying102; have HR0_1 := zm hr0_1; have HC0_1 := zm hc0_1; clear hr0_1 hc0_1; have HB := zm (Below.refl w.heap.size w); have H := h
 unfold laws_szSnap.f at H
 clear h
 by_cases c3 : (wrap64 (a1 - (a0_0.size : Int))) < 0
 ·rw [if_pos c3] at H
  have c3b0 := decide_eq_true c3; clear c3; obtain rfl := Option.some.inj H
  go_enter Tryz.func83, Tryz.ntmps83
  go_wp2_with (first | ((with_reducible refine gate_dst (N := 2) rfl ?_); refine box_event ?hg (N := 2) ?hd (cs := #[.string a0_0, .slice A0_1 l0_1.length c0_1]) (t := 102) ?hr ?_; (case hd => rfl); (case hg => rfl); (case hr => first | (go_simp; done) | (go_simp; rfl)); intro gb413 hg w4 hbox hb; have n0_ := zm (below_step (zg_1 HB.out) hb); have n1_ := zm (hbox); have n2_ := zm ((by rw [hg]; exact (below_size (zg_1 HB.out)) : w.heap.size ≤ gb413)); have n3_ := zm ((by rw [hg]; exact (below_size (zg_1 HB.out)) : w.heap.size ≤ gb413)); replace HB := n0_; have BK413 := n1_; have GW413 := n2_; have GE413 := n3_; clear n0_ n1_ n2_ n3_; clear hb hbox hg; obtain ⟨hcz5_0, hcz5_1, hfz5_0, hfz5_1⟩ := zb2 BK413.out))
  go_ret
  exact ⟨ze, zg_2 HB.out GE413.out⟩
 ·rw [if_neg c3] at H
  have c3b0 := decide_eq_false c3; clear c3; replace H := Option.bind_eq_some_iff.mp H
  obtain ⟨t414, A60, H⟩ := H
  try dsimp only at H
  have A6 := zm A60; clear A60
  by_cases c7 : t414 < 0
  ·rw [if_pos c7] at H
   have c7b0 := decide_eq_true c7; clear c7; obtain rfl := Option.some.inj H
   go_enter Tryz.func83, Tryz.ntmps83
   go_wp2_with (first | ((with_reducible refine gate_dst (N := 2) rfl ?_); refine box_event ?hg (N := 2) ?hd (cs := #[.string a0_0, .slice A0_1 l0_1.length c0_1]) (t := 102) ?hr ?_; (case hd => rfl); (case hg => rfl); (case hr => first | (go_simp; done) | (go_simp; rfl)); intro gb413 hg w8 hbox hb; have n0_ := zm (below_step (zg_1 HB.out) hb); have n1_ := zm (hbox); have n2_ := zm ((by rw [hg]; exact (below_size (zg_1 HB.out)) : w.heap.size ≤ gb413)); have n3_ := zm ((by rw [hg]; exact (below_size (zg_1 HB.out)) : w.heap.size ≤ gb413)); replace HB := n0_; have BK413 := n1_; have GW413 := n2_; have GE413 := n3_; clear n0_ n1_ n2_ n3_; clear hb hbox hg; obtain ⟨hcz9_0, hcz9_1, hfz9_0, hfz9_1⟩ := zb2 BK413.out) | ((with_reducible refine gate_callee (f := 38) rfl ?_); refine goesL_ (some 15) rfl rfl Tryz.func38 (by kernel_rfl) rfl #[.slice A0_1 l0_1.length c0_1, .int .i64 (wrap64 (a1 - (a0_0.size : Int)))] rfl zq ?_; (with_reducible refine (laws_szIntS.calls _ _ l0_1 (wrap64 (a1 - (a0_0.size : Int))) t414 _ ?side1 ?side2 A6.out).mono ?_); (case side1 => exact zC (Kd.C_below HR0_1.out HB.out)); (case side2 => exact HC0_1.out); rintro e w' ⟨rfl, ⟨nd, rfl⟩⟩; refine ⟨_, rfl, ?_⟩))
   go_ret
   exact ⟨ze, zg_2 HB.out GE413.out⟩
  ·rw [if_neg c7] at H
   have c7b0 := decide_eq_false c7; clear c7; obtain rfl := Option.some.inj H
   go_enter Tryz.func83, Tryz.ntmps83
   go_wp2_with (first | ((with_reducible refine gate_dst (N := 2) rfl ?_); refine box_event ?hg (N := 2) ?hd (cs := #[.string a0_0, .slice A0_1 l0_1.length c0_1]) (t := 102) ?hr ?_; (case hd => rfl); (case hg => rfl); (case hr => first | (go_simp; done) | (go_simp; rfl)); intro gb413 hg w10 hbox hb; have n0_ := zm (below_step (zg_1 HB.out) hb); have n1_ := zm (hbox); have n2_ := zm ((by rw [hg]; exact (below_size (zg_1 HB.out)) : w.heap.size ≤ gb413)); have n3_ := zm ((by rw [hg]; exact (below_size (zg_1 HB.out)) : w.heap.size ≤ gb413)); replace HB := n0_; have BK413 := n1_; have GW413 := n2_; have GE413 := n3_; clear n0_ n1_ n2_ n3_; clear hb hbox hg; obtain ⟨hcz11_0, hcz11_1, hfz11_0, hfz11_1⟩ := zb2 BK413.out) | ((with_reducible refine gate_callee (f := 38) rfl ?_); refine goesL_ (some 15) rfl rfl Tryz.func38 (by kernel_rfl) rfl #[.slice A0_1 l0_1.length c0_1, .int .i64 (wrap64 (a1 - (a0_0.size : Int)))] rfl zq ?_; (with_reducible refine (laws_szIntS.calls _ _ l0_1 (wrap64 (a1 - (a0_0.size : Int))) t414 _ ?side1 ?side2 A6.out).mono ?_); (case side1 => exact zC (Kd.C_below HR0_1.out HB.out)); (case side2 => exact HC0_1.out); rintro e w' ⟨rfl, ⟨nd, rfl⟩⟩; refine ⟨_, rfl, ?_⟩))
   go_ret
   exact ⟨ze, zg_2 HB.out GE413.out⟩
end Go.Proofs.YtglcnnmobkocmaaGreat.Q
