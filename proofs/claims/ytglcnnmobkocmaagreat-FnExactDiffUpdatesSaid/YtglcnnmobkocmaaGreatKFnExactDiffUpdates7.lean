/- What laws.FnExactDiffUpdates reaches, part 7: the functions as Lean functions, the proofs that the program's functions answer so, and plain laws about them. -/
import Derived.Test.YtglcnnmobkocmaaGreatKFnExactDiffUpdates1
import Derived.Test.YtglcnnmobkocmaaGreatKFnExactDiffUpdates6
namespace Go.Proofs.YtglcnnmobkocmaaGreat.Q
open Go.RowKit Go.Proofs.YtglcnnmobkocmaaGreat.Ext Go.Proofs.YtglcnnmobkocmaaGreatW.PrintWords Go.Proofs.YtglcnnmobkocmaaGreatW.PrintLast Go.Proofs.YtglcnnmobkocmaaGreatW.PrintMore
attribute [local go_sem] max2_int min2_int max_two min_two max_three min_three max_four min_four   -- for this text's walks alone
set_option linter.unusedVariables false
set_option linter.unusedSimpArgs false

set_option linter.unusedVariables false
set_option linter.unusedSimpArgs false
mutual
def spec_l11All.l0 : Nat → List (S77) → Int → List Int → List Int → List (S103) → List Int → Option ((List (S77)))
  | 0, _, _, _, _, _, _ => none
  | k + 1, x3, x4, x724000, x724001, x724002, x724003 => if x4 < (x724002.length : Int) then (if 0 ≤ x4 then ((spec_l09Encode.f k ((rd_T103 x724002 x4).f1)).bind fun t731 => (if x3.length < 5864062014805 then (spec_l11All.l0 k (x3 ++ [(⟨wrap64 (12 + x4), t731⟩ : S77)]) (wrap64 (x4 + 1)) x724000 x724001 x724002 x724003) else (none))) else (none)) else (spec_l11All.l1 k x3 0 x724000 x724001 x724002 x724003)
def spec_l11All.l1 : Nat → List (S77) → Int → List Int → List Int → List (S103) → List Int → Option ((List (S77)))
  | 0, _, _, _, _, _, _ => none
  | k + 1, x3, x5, x724000, x724001, x724002, x724003 => if x5 < 24 then (if 0 ≤ x5 then (if x5 < (x724000.length : Int) then (if (rd x724000 x5) > 0 then (if x5 < (x724003.length : Int) then ((spec_l02Seal.f k 4 (([rd x724003 x5] : List Int))).bind fun t740 => (if x3.length < 5864062014805 then (spec_l11All.l1 k (x3 ++ [(⟨wrap64 (15 + x5), t740⟩ : S77)]) (wrap64 (x5 + 1)) x724000 x724001 x724002 x724003) else (none))) else (none)) else (spec_l11All.l1 k x3 (wrap64 (x5 + 1)) x724000 x724001 x724002 x724003)) else (none)) else (none)) else (some x3)
end
def spec_l11All.f (k : Nat) (l0_0 : List Int) (l0_1 : List Int) (l0_2 : List (S103)) (l0_3 : List Int) : Option ((List (S77))) := (spec_l11Super.f k l0_0 l0_1 l0_2 l0_3).bind fun t724 => ((spec_l08Encode.f k l0_0).bind fun t725 => ((spec_l09Encode.f k l0_1).bind fun t726 => (spec_l11All.l0 k (([(⟨9, t724⟩ : S77), (⟨10, t725⟩ : S77), (⟨11, t726⟩ : S77)] : List (S77))) 0 l0_0 l0_1 l0_2 l0_3)))
theorem spec_l11All.mono_l : ∀ k, (∀ y0 y1 y2 y3 y4 y5, LeO (spec_l11All.l0 k y0 y1 y2 y3 y4 y5) (spec_l11All.l0 (k + 1) y0 y1 y2 y3 y4 y5)) ∧ (∀ y0 y1 y2 y3 y4 y5, LeO (spec_l11All.l1 k y0 y1 y2 y3 y4 y5) (spec_l11All.l1 (k + 1) y0 y1 y2 y3 y4 y5))
  | 0 => ⟨fun _ _ _ _ _ _ r h => by simp [spec_l11All.l0] at h, fun _ _ _ _ _ _ r h => by simp [spec_l11All.l1] at h⟩
  | k + 1 => by
    obtain ⟨ih0, ih1⟩ := spec_l11All.mono_l k
    refine ⟨?_, ?_⟩
    · intro y0 y1 y2 y3 y4 y5
      unfold spec_l11All.l0
      repeat' first| (with_reducible first | exact ih0 _ _ _ _ _ _ | exact ih1 _ _ _ _ _ _ | exact spec_l02Seal.mono _ _ _ | exact spec_l08Encode.mono _ _ | exact spec_l09Encode.mono _ _ | exact spec_l11Super.mono _ _ _ _ _ | exact LeO.refl _ | exact LeO.none _ | refine LeO.ite ?_ ?_ | refine LeO.bind ?_ (fun _ => ?_)) | exact ih0 _ _ _ _ _ _ | exact ih1 _ _ _ _ _ _ | exact spec_l02Seal.mono _ _ _ | exact spec_l08Encode.mono _ _ | exact spec_l09Encode.mono _ _ | exact spec_l11Super.mono _ _ _ _ _ | exact LeO.none _ | refine LeO.ite ?_ ?_ | refine LeO.bind ?_ (fun _ => ?_)
    · intro y0 y1 y2 y3 y4 y5
      unfold spec_l11All.l1
      repeat' first| (with_reducible first | exact ih0 _ _ _ _ _ _ | exact ih1 _ _ _ _ _ _ | exact spec_l02Seal.mono _ _ _ | exact spec_l08Encode.mono _ _ | exact spec_l09Encode.mono _ _ | exact spec_l11Super.mono _ _ _ _ _ | exact LeO.refl _ | exact LeO.none _ | refine LeO.ite ?_ ?_ | refine LeO.bind ?_ (fun _ => ?_)) | exact ih0 _ _ _ _ _ _ | exact ih1 _ _ _ _ _ _ | exact spec_l02Seal.mono _ _ _ | exact spec_l08Encode.mono _ _ | exact spec_l09Encode.mono _ _ | exact spec_l11Super.mono _ _ _ _ _ | exact LeO.none _ | refine LeO.ite ?_ ?_ | refine LeO.bind ?_ (fun _ => ?_)
theorem spec_l11All.mono : ∀ a0 a1 a2 a3 k, LeO (spec_l11All.f k a0 a1 a2 a3) (spec_l11All.f (k + 1) a0 a1 a2 a3) := by
  intro a0 a1 a2 a3 k
  obtain ⟨ih0, ih1⟩ := spec_l11All.mono_l k
  unfold spec_l11All.f
  repeat' first| (with_reducible first | exact ih0 _ _ _ _ _ _ | exact ih1 _ _ _ _ _ _ | exact spec_l02Seal.mono _ _ _ | exact spec_l08Encode.mono _ _ | exact spec_l09Encode.mono _ _ | exact spec_l11Super.mono _ _ _ _ _ | exact LeO.refl _ | exact LeO.none _ | refine LeO.ite ?_ ?_ | refine LeO.bind ?_ (fun _ => ?_)) | exact ih0 _ _ _ _ _ _ | exact ih1 _ _ _ _ _ _ | exact spec_l02Seal.mono _ _ _ | exact spec_l08Encode.mono _ _ | exact spec_l09Encode.mono _ _ | exact spec_l11Super.mono _ _ _ _ _ | exact LeO.none _ | refine LeO.ite ?_ ?_ | refine LeO.bind ?_ (fun _ => ?_)
def spec_l11All.T1 : Bool × List (List Nat × List Nat) := (true, [([], []), ([0], [0]), ([1], [1]), ([], []), ([3], [3]), ([4, 1], [4]), ([5], [5]), ([], []), ([7], [7]), ([8, 5], [8]), ([9], [9]), ([2, 6, 10], [2, 6, 10]), ([11, 9, 0, 1, 2, 3, 4, 5, 6, 7, 8, 9, 10, 11], [11])])
def spec_l11All.B1 : List Nat := [0, 1, 3, 0, 8, 27, 59, 0, 128, 443, 955, 2047, 4095]
theorem spec_l11All.tab1 : rtab .any (opsOf Tryz.f53 1) = spec_l11All.T1 := by kernel_rfl
theorem spec_l11All.bits1 : waitsOk spec_l11All.T1.2 spec_l11All.B1 = true := by kernel_rfl
set_option maxHeartbeats 8000000 in
set_option maxRecDepth 100000 in
theorem spec_l11All.calls (k : Nat) (A0_0 : Option Addr) (c0_0 : Nat) (l0_0 : List Int) (A0_1 : Option Addr) (c0_1 : Nat) (l0_1 : List Int) (A0_2 : Option Addr) (c0_2 : Nat) (l0_2 : List (S103)) (A0_3 : Option Addr) (c0_3 : Nat) (l0_3 : List Int) (r : List (S77)) (w : World) (hr0_0 : Kd.C (Kd.int .i64) w A0_0 l0_0.length l0_0) (hc0_0 : l0_0.length ≤ c0_0) (hr0_1 : Kd.C (Kd.int .i64) w A0_1 l0_1.length l0_1) (hc0_1 : l0_1.length ≤ c0_1) (hr0_2 : Kd.C k103 w A0_2 l0_2.length l0_2) (hc0_2 : l0_2.length ≤ c0_2) (hr0_3 : Kd.C (Kd.int .i64) w A0_3 l0_3.length l0_3) (hc0_3 : l0_3.length ≤ c0_3) (h : spec_l11All.f k l0_0 l0_1 l0_2 l0_3 = some r) :
    Calls Tryz.prog 53 #[.agg #[.slice A0_0 l0_0.length c0_0, .slice A0_1 l0_1.length c0_1, .slice A0_2 l0_2.length c0_2, .slice A0_3 l0_3.length c0_3]] w fun e w' => ∃ v0_ : Value, e = .returned (v0_) ∧ Kd.R k77 77 w' w.heap.size (fun _ => True) v0_ r ∧ Below w.heap.size w w' := by
 have hu26 := Tryz.underlying26; have hu77 := Tryz.underlying77; have Ze := zm hr0_0; have Zh := zm hc0_0; clear hr0_0 hc0_0; have Zi := zm hr0_1; have Zj := zm hc0_1; clear hr0_1 hc0_1; have Zk := zm hr0_2; have Zm := zm hc0_2; clear hr0_2 hc0_2; have Zl := zm hr0_3; have Zn := zm hc0_3; clear hr0_3 hc0_3; have HB := zm (Below.refl w.heap.size w); have H := h
 unfold spec_l11All.f at H
 clear h; replace H := Option.bind_eq_some_iff.mp H
 obtain ⟨t724, A20, H⟩ := H
 try dsimp only at H
 have A2 := zm A20; clear A20; replace H := Option.bind_eq_some_iff.mp H
 obtain ⟨t725, A30, H⟩ := H
 try dsimp only at H
 have A3 := zm A30; clear A30; replace H := Option.bind_eq_some_iff.mp H
 obtain ⟨t726, A40, H⟩ := H
 try dsimp only at H
 have A4 := zm A40; clear A40
 obtain ⟨y727, hy727⟩ : ∃ y_ : List (S77), y_ = (([(⟨9, t724⟩ : S77), (⟨10, t725⟩ : S77), (⟨11, t726⟩ : S77)] : List (S77))) := ⟨_, rfl⟩
 replace H : (spec_l11All.l0 k y727 0 l0_0 l0_1 l0_2 l0_3) = some r := by first | (rw [hy727]; with_reducible exact H) | (have H2_ := (Option.bind_some _ _).symm.trans H; rw [hy727]; with_reducible exact H2_) | (have H2_ := (Option.bind_some _ _).symm.trans H; with_reducible exact H2_) | with_reducible exact H | (rw [hy727]; exact H) | exact H
 have Ny727 := zm hy727; clear hy727
 have H' := zm H
 clear H
 go_enter Tryz.func53, Tryz.ntmps53
 try go_wp2_with (first | ((with_reducible refine gate_dst (N := 1) rfl ?_); refine box_event ?hg (N := 1) ?hd (cs := #[.slice A0_0 l0_0.length c0_0, .slice A0_1 l0_1.length c0_1, .slice A0_2 l0_2.length c0_2, .slice A0_3 l0_3.length c0_3]) (t := 26) ?hr ?_; (case hd => rfl); (case hg => rfl); (case hr => first | (go_simp; done) | (go_simp; rfl)); intro gb723 hg w5 hbox hb; have n0_ := zm (below_step (zg_1 HB.out) hb); have n1_ := zm (hbox); have n2_ := zm ((by rw [hg]; exact (below_size (zg_1 HB.out)) : w.heap.size ≤ gb723)); have n3_ := zm ((by rw [hg]; exact (below_size (zg_1 HB.out)) : w.heap.size ≤ gb723)); replace HB := n0_; have Za := n1_; have Zr := n2_; have Zb := n3_; clear n0_ n1_ n2_ n3_; clear hb hbox hg))
 have n0_ := zm (blk_drew Za.out); have n1_ := zm (below_drew1 HB.out); clear Za; clear HB; have Za := n0_; have HB := n1_; clear n0_ n1_
 refine start_ (n := 13) (S := fun w' => w'.cell? ⟨gb723, 0, none⟩ = some (.slice A0_0 l0_0.length c0_0) ∧ w'.cell? ⟨gb723, 1, none⟩ = some (.slice A0_1 l0_1.length c0_1) ∧ w'.cell? ⟨gb723, 2, none⟩ = some (.slice A0_2 l0_2.length c0_2) ∧ w'.cell? ⟨gb723, 3, none⟩ = some (.slice A0_3 l0_3.length c0_3)) (ds := []) #[false, false, false, false, false, false, false, false, false, false, false, false, false] (by kernel_rfl) rfl rfl ⟨(blk_cell Za.out 0).trans rfl, (blk_cell Za.out 1).trans rfl, (blk_cell Za.out 2).trans rfl, (blk_cell Za.out 3).trans rfl⟩ (fun hHeld => ?_); refine with_tabW spec_l11All.tab1 spec_l11All.bits1 (fun HT_ HW_ => ?_)
 generalize w5.drew = w6 at Za HB hHeld ⊢
 refine pure_ (i := 3) (N := some 9) (v := ?_) (a' := ?_) #[false, false, false, true, false, false, false, false, false, false, false, false, false] rfl rfl (any_of HT_.out (by kernel_rfl)) (fun _ _ _ h => h) (Or.inl ⟨by rfl, ?_⟩) ?_ ?_
 rotate_left
 ·intro w'
  go_simp
  with_reducible rfl
 rotate_left
 ·simp only [Act.put, zs, zz, zt, i64_w, i32_w]
  rfl
 refine pure_ (i := 7) (N := some 13) (v := ?_) (a' := ?_) #[false, false, false, true, false, false, false, true, false, false, false, false, false] rfl rfl (any_of HT_.out (by kernel_rfl)) (fun _ _ _ h => h) (Or.inl ⟨by rfl, ?_⟩) ?_ ?_
 rotate_left
 ·intro w'
  go_simp
  with_reducible rfl
 rotate_left
 ·simp only [Act.put, zs, zz, zt, i64_w, i32_w]
  rfl
 refine take_ (i := 0) (N := some 6) (v := ?_) (a' := ?_) #[true, false, false, true, false, false, false, true, false, false, false, false, false] rfl rfl (take_ofW HT_.out HW_.out (by kernel_rfl)) (fun _ _ _ h => h) (Or.inl ⟨by rfl, ?_⟩) hHeld ?_ ?_
 rotate_left
 ·rintro w' ⟨s0, s1, s2, s3⟩
  go_simp
  with_reducible rfl
 rotate_left
 ·simp only [Act.put, zs, zz, zt, i64_w, i32_w]
  rfl
 refine take_ (i := 4) (N := some 10) (v := ?_) (a' := ?_) #[true, false, false, true, true, false, false, true, false, false, false, false, false] rfl rfl (take_ofW HT_.out HW_.out (by kernel_rfl)) (fun _ _ _ h => h) (Or.inl ⟨by rfl, ?_⟩) hHeld ?_ ?_
 rotate_left
 ·rintro w' ⟨s0, s1, s2, s3⟩
  go_simp
  with_reducible rfl
 rotate_left
 ·simp only [Act.put, zs, zz, zt, i64_w, i32_w]
  rfl
 refine take_ (i := 8) (N := some 14) (v := ?_) (a' := ?_) #[true, false, false, true, true, false, false, true, true, false, false, false, false] rfl rfl (take_ofW HT_.out HW_.out (by kernel_rfl)) (fun _ _ _ h => h) (Or.inl ⟨by rfl, ?_⟩) hHeld ?_ ?_
 rotate_left
 ·rintro w' ⟨s0, s1, s2, s3⟩
  go_simp
  with_reducible rfl
 rotate_left
 ·simp only [Act.put, zs, zz, zt, i64_w, i32_w]
  rfl
 refine one_ (i := 1) (N := some 7) #[true, true, false, true, true, false, false, true, true, false, false, false, false] rfl rfl (one_of HT_.out (by kernel_rfl)) (by decide) (fun K hK => ?_)
 refine goes_ Tryz.func93 (by kernel_rfl) rfl #[.agg #[.slice A0_0 l0_0.length c0_0, .slice A0_1 l0_1.length c0_1, .slice A0_2 l0_2.length c0_2, .slice A0_3 l0_3.length c0_3]] (by rfl) rfl rfl zq ?_
 with_reducible refine (spec_l11Super.calls k _ _ l0_0 _ _ l0_1 _ _ l0_2 _ _ l0_3 t724 _ ?side1 ?side2 ?side3 ?side4 ?side5 ?side6 ?side7 ?side8 A2.out).mono ?_
 (case side1 => exact zC (Kd.C_below Ze.out HB.out))
 (case side2 => exact Zh.out)
 (case side3 => exact zC (Kd.C_below Zi.out HB.out))
 (case side4 => exact Zj.out)
 (case side5 => exact zC (Kd.C_below Zk.out HB.out))
 (case side6 => exact Zm.out)
 (case side7 => exact zC (Kd.C_below Zl.out HB.out))
 (case side8 => exact Zn.out)
 rintro e w7 ⟨rfl, hb⟩
 refine ⟨_, rfl, ?_⟩
 have n0_ := zm (blk_below (zg_3 Za.out) hb); have n1_ := zm (below_step (zg_2 HB.out Zb.out) hb); clear Za; clear HB; have Za := n0_; have HB := n1_; clear n0_ n1_
 (try clear hb)
 (try clear hb2)
 (try clear hk)
 (try clear hi)
 refine hK.out _ _ ⟨(blk_cell Za.out 0).trans rfl, (blk_cell Za.out 1).trans rfl, (blk_cell Za.out 2).trans rfl, (blk_cell Za.out 3).trans rfl⟩ (fun hHeld => ?_)
 clear hK K
 refine norm_ (a' := ?_) ?_ ?_
 rotate_left
 ·show Act.put _ (some 7) _ = _
  simp only [Act.put, zs, zz, zt, i64_w, i32_w]
  rfl
 refine pure_ (i := 2) (N := some 8) (v := ?_) (a' := ?_) #[true, true, true, true, true, false, false, true, true, false, false, false, false] rfl rfl (any_of HT_.out (by kernel_rfl)) (fun _ _ _ h => h) (Or.inl ⟨by rfl, ?_⟩) ?_ ?_
 rotate_left
 ·intro w'
  go_simp
  with_reducible rfl
 rotate_left
 ·simp only [Act.put, zs, zz, zt, i64_w, i32_w]
  rfl
 refine one_ (i := 5) (N := some 11) #[true, true, true, true, true, true, false, true, true, false, false, false, false] rfl rfl (one_of HT_.out (by kernel_rfl)) (by decide) (fun K hK => ?_)
 refine goes_ Tryz.func94 (by kernel_rfl) rfl #[.slice A0_0 l0_0.length c0_0] (by rfl) rfl rfl zq ?_
 with_reducible refine (spec_l08Encode.calls k _ _ l0_0 t725 _ ?side1 ?side2 A3.out).mono ?_
 (case side1 => exact zC (Kd.C_below Ze.out HB.out))
 (case side2 => exact Zh.out)
 rintro e w8 ⟨rfl, hb⟩
 refine ⟨_, rfl, ?_⟩
 have n0_ := zm (blk_below (zg_3 Za.out) hb); have n1_ := zm (below_step (zg_2 HB.out Zb.out) hb); clear Za; clear HB; have Za := n0_; have HB := n1_; clear n0_ n1_
 (try clear hb)
 (try clear hb2)
 (try clear hk)
 (try clear hi)
 refine hK.out _ _ ⟨(blk_cell Za.out 0).trans rfl, (blk_cell Za.out 1).trans rfl, (blk_cell Za.out 2).trans rfl, (blk_cell Za.out 3).trans rfl⟩ (fun hHeld => ?_)
 clear hK K
 refine norm_ (a' := ?_) ?_ ?_
 rotate_left
 ·show Act.put _ (some 11) _ = _
  simp only [Act.put, zs, zz, zt, i64_w, i32_w]
  rfl
 refine pure_ (i := 6) (N := some 12) (v := ?_) (a' := ?_) #[true, true, true, true, true, true, true, true, true, false, false, false, false] rfl rfl (any_of HT_.out (by kernel_rfl)) (fun _ _ _ h => h) (Or.inl ⟨by rfl, ?_⟩) ?_ ?_
 rotate_left
 ·intro w'
  go_simp
  with_reducible rfl
 rotate_left
 ·simp only [Act.put, zs, zz, zt, i64_w, i32_w]
  rfl
 refine one_ (i := 9) (N := some 15) #[true, true, true, true, true, true, true, true, true, true, false, false, false] rfl rfl (one_of HT_.out (by kernel_rfl)) (by decide) (fun K hK => ?_)
 refine goes_ Tryz.func95 (by kernel_rfl) rfl #[.slice A0_1 l0_1.length c0_1] (by rfl) rfl rfl zq ?_
 with_reducible refine (spec_l09Encode.calls k _ _ l0_1 t726 _ ?side1 ?side2 A4.out).mono ?_
 (case side1 => exact zC (Kd.C_below Zi.out HB.out))
 (case side2 => exact Zj.out)
 rintro e w9 ⟨rfl, hb⟩
 refine ⟨_, rfl, ?_⟩
 have n0_ := zm (blk_below (zg_3 Za.out) hb); have n1_ := zm (below_step (zg_2 HB.out Zb.out) hb); clear Za; clear HB; have Za := n0_; have HB := n1_; clear n0_ n1_
 (try clear hb)
 (try clear hb2)
 (try clear hk)
 (try clear hi)
 refine hK.out _ _ ⟨(blk_cell Za.out 0).trans rfl, (blk_cell Za.out 1).trans rfl, (blk_cell Za.out 2).trans rfl, (blk_cell Za.out 3).trans rfl⟩ (fun hHeld => ?_)
 clear hK K
 refine norm_ (a' := ?_) ?_ ?_
 rotate_left
 ·show Act.put _ (some 15) _ = _
  simp only [Act.put, zs, zz, zt, i64_w, i32_w]
  rfl
 refine pure_ (i := 10) (N := some 16) (v := ?_) (a' := ?_) #[true, true, true, true, true, true, true, true, true, true, true, false, false] rfl rfl (any_of HT_.out (by kernel_rfl)) (fun _ _ _ h => h) (Or.inl ⟨by rfl, ?_⟩) ?_ ?_
 rotate_left
 ·intro w'
  go_simp
  with_reducible rfl
 rotate_left
 ·simp only [Act.put, zs, zz, zt, i64_w, i32_w]
  rfl
 refine one_ (i := 11) (N := some 17) #[true, true, true, true, true, true, true, true, true, true, true, true, false] rfl rfl (one_of HT_.out (by kernel_rfl)) (by decide) (fun K hK => ?_)
 refine Kd.R_lit_step k77 _ 77 ?hg (N := 17) ?hd (xs := ([(⟨9, t724⟩ : S77), (⟨10, t725⟩ : S77), (⟨11, t726⟩ : S77)] : List (S77))) (inner := [.int .i64 9, .string t724, .int .i64 10, .string t725, .int .i64 11, .string t726]) (ok := fun _ => True) (okp := fun _ => True) ?hr ?hp (fun _ hk => hk) trivial (Below.refl _ _) (Nat.le_refl _) (by simp) ?_; (case hd => rfl); (case hg => rfl); (case hr => first | (go_simp; done) | (go_simp; rfl)); (case hp => exact (Reps.c2 (show Kd.M k77 _ _ _ (⟨9, t724⟩ : S77) [.int .i64 9, .string t724] from (k77_mkM _ _ _ (⟨9, t724⟩ : S77) )) (Reps.c2 (show Kd.M k77 _ _ _ (⟨10, t725⟩ : S77) [.int .i64 10, .string t725] from (k77_mkM _ _ _ (⟨10, t725⟩ : S77) )) (Reps.c2 (show Kd.M k77 _ _ _ (⟨11, t726⟩ : S77) [.int .i64 11, .string t726] from (k77_mkM _ _ _ (⟨11, t726⟩ : S77) )) (Reps.none _ _)))))
 intro v728 w10 ho11 hb hg_ hnew_
 clear hg_ hnew_
 (first | rw [← Ny727.out] at ho11 | (simp only [Int.reduceToNat] at ho11; rw [← Ny727.out] at ho11))
 have n0_ := zm (Kd.R_lower ho11 (below_size (zg_2 HB.out Zb.out))); have n1_ := zm (blk_below (zg_3 Za.out) hb); have n2_ := zm (below_step (zg_2 HB.out Zb.out) hb); clear Za; clear HB; have Zo := n0_; have Za := n1_; have HB := n2_; clear n0_ n1_ n2_; clear hb ho11
 refine hK.out _ _ ⟨(blk_cell Za.out 0).trans rfl, (blk_cell Za.out 1).trans rfl, (blk_cell Za.out 2).trans rfl, (blk_cell Za.out 3).trans rfl⟩ (fun hHeld => ?_)
 clear hK K
 refine norm_ (a' := ?_) ?_ ?_
 rotate_left
 ·show Act.put _ (some 17) _ = _
  simp only [Act.put, zs, zz, zt, i64_w, i32_w]
  rfl
 refine pure_ (i := 12) (N := some 3) (v := ?_) (a' := ?_) #[true, true, true, true, true, true, true, true, true, true, true, true, true] rfl rfl (any_of HT_.out (by kernel_rfl)) (fun _ _ _ h => h) (Or.inl ⟨by rfl, ?_⟩) ?_ ?_
 rotate_left
 ·intro w'
  go_simp
  with_reducible rfl
 rotate_left
 ·simp only [Act.put, zs, zz, zt, i64_w, i32_w]
  rfl
 refine done_ (done_of HT_.out (by kernel_rfl)) ?_
 try go_wp2
 go_loopg [3, 4] k (fun kq v3 v4 w' => ∃ (x3_1 : List (S77)) (x4_1 : Int), v4 = .int .i64 x4_1 ∧ Aside0 (spec_l11All.l0 kq x3_1 x4_1 l0_0 l0_1 l0_2 l0_3 = some r) ∧ Aside0 (kq ≤ k) ∧ Aside0 (Kd.R k77 77 w' w.heap.size (fun _ => True) v3 x3_1) ∧ Aside0 (w'.heap[gb723]? = some (.cells #[(.slice A0_0 l0_0.length c0_0), (.slice A0_1 l0_1.length c0_1), (.slice A0_2 l0_2.length c0_2), (.slice A0_3 l0_3.length c0_3)] 26 (0, 0))) ∧ Aside0 (Below w.heap.size w w'))
 case atStart => exact ⟨(y727), (0), zr, H', ⟨Nat.le_refl _⟩, ⟨zlR Zo.out⟩, ⟨zl Za.out⟩, ⟨zg_2 HB.out Zb.out⟩⟩
 case round =>
  clear H'
  try clear c2
  try clear p2
  try clear c5
  try clear c9
  obtain ⟨x3_1, x4_1, rfl, HA, HK1, Zc, Za, HB⟩ := hrel
  cases gk with
  | zero => exact absurd HA.out (by simp [spec_l11All.l0])
  | succ k1 =>
   have H := HA.out; clear HA
   simp only [spec_l11All.l0] at H
   by_cases c12 : x4_1 < (l0_2.length : Int)
   ·rw [if_pos c12] at H
    have c12b0 := decide_eq_true c12; clear c12
    by_cases c13 : 0 ≤ x4_1
    ·rw [if_pos c13] at H
     have c13b0 := decide_eq_true c13; clear c13; replace H := Option.bind_eq_some_iff.mp H
     obtain ⟨t731, A140, H⟩ := H
     try dsimp only at H
     have A14 := zm A140; clear A140
     by_cases c15 : x3_1.length < 5864062014805
     ·rw [if_pos c15] at H
      have LMc15 := zm c15; clear c15
      obtain ⟨y732, hy732⟩ : ∃ y_ : List (S77), y_ = (x3_1 ++ [(⟨wrap64 (12 + x4_1), t731⟩ : S77)]) := ⟨_, rfl⟩
      replace H : (spec_l11All.l0 k1 y732 (wrap64 (x4_1 + 1)) l0_0 l0_1 l0_2 l0_3) = some r := by first | (rw [hy732]; with_reducible exact H) | (have H2_ := (Option.bind_some _ _).symm.trans H; rw [hy732]; with_reducible exact H2_) | (have H2_ := (Option.bind_some _ _).symm.trans H; with_reducible exact H2_) | with_reducible exact H | (rw [hy732]; exact H) | exact H
      have Ny732 := zm hy732; clear hy732
      have H' := zm H
      clear H
      obtain ⟨hcz16_0, hcz16_1, hcz16_2, hcz16_3, hfz16_0, hfz16_1, hfz16_2, hfz16_3⟩ := zb4 Za.out
      have p730 : 0 ≤ (x4_1 : Int) := zd
      have q730 : x4_1 < (l0_2.length : Int) := zd
      obtain ⟨ad730, A730_1, c730_1, e730, hx730_0, hx730_1, hl730_1, hi730_1⟩ := at_T103 Zk.out x4_1 p730 q730
      cases e730; replace hx730_0 := (HB.out.cell (World.block_lt_of_cell? w _ hx730_0)).trans hx730_0; replace hx730_1 := (HB.out.cell (World.block_lt_of_cell? w _ hx730_1)).trans hx730_1; have Zf := zm hi730_1; have Zg := zm hl730_1; clear hi730_1 hl730_1; replace p730 := eq_true p730; replace q730 := eq_true q730
      go_wp2_with (first | ((with_reducible refine gate_callee (f := 95) rfl ?_); refine goesL_ (some 34) rfl rfl Tryz.func95 (by kernel_rfl) rfl #[.slice A730_1 ((rd_T103 l0_2 x4_1).f1).length c730_1] rfl zq ?_; (with_reducible refine (spec_l09Encode.calls k1 _ _ ((rd_T103 l0_2 x4_1).f1) t731 _ ?side1 ?side2 A14.out).mono ?_); (case side1 => exact zC (Kd.C_below Zf.out HB.out)); (case side2 => exact Zg.out); rintro e w17 ⟨rfl, hb⟩; refine ⟨_, rfl, ?_⟩; have n0_ := zm (Kd.R_below (zg_6 Zc.out) hb); have n1_ := zm (blk_below (zg_3 Za.out) hb); have n2_ := zm (below_step (zg_2 HB.out Zb.out) hb); replace Zc := n0_; replace Za := n1_; replace HB := n2_; clear n0_ n1_ n2_; (try clear hb); (try clear hb2); (try clear hk); (try clear hi)) | ((with_reducible refine gate_builtin (b := .append) (xs := #[.tmp 25, .tmp 36]) rfl ?_); at_builtin; refine Kd.R_append k77 (w0 := w) w.heap.size rfl (.tmp 25) (.tmp 36) 49 77 (.agg #[(.int .i64 0), (.string ⟨#[]⟩)]) 24 rfl Tryz.underlying49 info77 rfl (by decide) (by omega) u3 x3_1 (⟨wrap64 (12 + x4_1), t731⟩ : S77) [.int .i64 (wrap64 (12 + x4_1)), .string t731] (fun _ => True) (fun _ => False) rfl rfl ?aP (fun _ hk => hk.elim) ?aF ?aO ?aB ?aS ?aL ?_; (case aP => exact k77_mkM _ _ _ (⟨wrap64 (12 + x4_1), t731⟩ : S77)); (case aB => exact (zg_2 HB.out Zb.out)); (case aF => exact (fun _ _ => trivial)); (case aO => exact (zg_6 Zc.out)); (case aS => exact (below_size (zg_2 HB.out Zb.out))); (case aL => have := LMc15.out; omega); intro v733 w18 ho hb hg hat; rw [← Ny732.out] at ho; have n0_ := zm (blk_grown (zg_3 Za.out) hg (Kd.R_ne Zc.out Za.out (by decide))); have n1_ := zm (hb); have n2_ := zm (ho); clear Zc; replace Za := n0_; replace HB := n1_; have Zp := n2_; clear n0_ n1_ n2_; clear ho hb hg hat))
      go_roundg k1
      case measure => have := HK1.out; omega
      case rel => exact ⟨(y732), (wrap64 (x4_1 + 1)), zr, H', ⟨by have := HK1.out; omega⟩, ⟨zlR Zp.out⟩, ⟨zl Za.out⟩, ⟨zg_2 HB.out Zb.out⟩⟩
     ·rw [if_neg c15] at H
      exact absurd H (by simp)
    ·rw [if_neg c13] at H
     exact absurd H (by simp)
   ·rw [if_neg c12] at H
    have c12b0 := decide_eq_false c12; clear c12
    have H' := zm H
    clear H
    obtain ⟨hcz19_0, hcz19_1, hcz19_2, hcz19_3, hfz19_0, hfz19_1, hfz19_2, hfz19_3⟩ := zb4 Za.out
    go_wp2
    go_loopg [3, 5] k1 (fun kq v3 v5 w' => ∃ (x3_2 : List (S77)) (x5_2 : Int), v5 = .int .i64 x5_2 ∧ Aside0 (spec_l11All.l1 kq x3_2 x5_2 l0_0 l0_1 l0_2 l0_3 = some r) ∧ Aside0 (kq ≤ k1) ∧ Aside0 (Kd.R k77 77 w' w.heap.size (fun _ => True) v3 x3_2) ∧ Aside0 (w'.heap[gb723]? = some (.cells #[(.slice A0_0 l0_0.length c0_0), (.slice A0_1 l0_1.length c0_1), (.slice A0_2 l0_2.length c0_2), (.slice A0_3 l0_3.length c0_3)] 26 (0, 0))) ∧ Aside0 (Below w.heap.size w w'))
    case atStart => exact ⟨(x3_1), (0), zr, H', ⟨Nat.le_refl _⟩, ⟨zlR Zc.out⟩, ⟨zl Za.out⟩, ⟨zg_2 HB.out Zb.out⟩⟩
    case round =>
     clear H'
     try clear c1
     try clear c2
     try clear p2
     try clear c5
     try clear p6
     try clear c7
     try clear p7
     try clear q7
     try clear hx7
     try clear c9
     try clear c12
     try clear c12b0
     try clear c13
     try clear c13b0
     try clear c15
     try clear hx730_0
     try clear hx730_1
     try clear p2
     try clear p730
     try clear q730
     obtain ⟨x3_2, x5_2, rfl, HA, HK2, Zc, Za, HB⟩ := hrel
     cases gk with
     | zero => exact absurd HA.out (by simp [spec_l11All.l1])
     | succ k2 =>
      have H := HA.out; clear HA
      simp only [spec_l11All.l1] at H
      by_cases c20 : x5_2 < 24
      ·rw [if_pos c20] at H
       have c20b0 := decide_eq_true c20; clear c20
       by_cases c21 : 0 ≤ x5_2
       ·rw [if_pos c21] at H
        have c21b0 := decide_eq_true c21; clear c21
        by_cases c22 : x5_2 < (l0_0.length : Int)
        ·rw [if_pos c22] at H
         have c22b0 := decide_eq_true c22; clear c22
         by_cases c23 : (rd l0_0 x5_2) > 0
         ·rw [if_pos c23] at H
          have c23b0 := decide_eq_true c23; clear c23
          by_cases c24 : x5_2 < (l0_3.length : Int)
          ·rw [if_pos c24] at H
           have c24b0 := decide_eq_true c24; clear c24
           obtain ⟨y737, hy737⟩ : ∃ y_ : List Int, y_ = (([rd l0_3 x5_2] : List Int)) := ⟨_, rfl⟩
           replace H : ((spec_l02Seal.f k2 4 y737).bind fun t740 => (if x3_2.length < 5864062014805 then (spec_l11All.l1 k2 (x3_2 ++ [(⟨wrap64 (15 + x5_2), t740⟩ : S77)]) (wrap64 (x5_2 + 1)) l0_0 l0_1 l0_2 l0_3) else (none))) = some r := by first | (rw [hy737]; with_reducible exact H) | (have H2_ := (Option.bind_some _ _).symm.trans H; rw [hy737]; with_reducible exact H2_) | (have H2_ := (Option.bind_some _ _).symm.trans H; with_reducible exact H2_) | with_reducible exact H | (rw [hy737]; exact H) | exact H
           have Ny737 := zm hy737; clear hy737; replace H := Option.bind_eq_some_iff.mp H
           obtain ⟨t740, A250, H⟩ := H
           try dsimp only at H
           have A25 := zm A250; clear A250
           by_cases c26 : x3_2.length < 5864062014805
           ·rw [if_pos c26] at H
            have LMc26 := zm c26; clear c26
            obtain ⟨y741, hy741⟩ : ∃ y_ : List (S77), y_ = (x3_2 ++ [(⟨wrap64 (15 + x5_2), t740⟩ : S77)]) := ⟨_, rfl⟩
            replace H : (spec_l11All.l1 k2 y741 (wrap64 (x5_2 + 1)) l0_0 l0_1 l0_2 l0_3) = some r := by first | (rw [hy741]; with_reducible exact H) | (have H2_ := (Option.bind_some _ _).symm.trans H; rw [hy741]; with_reducible exact H2_) | (have H2_ := (Option.bind_some _ _).symm.trans H; with_reducible exact H2_) | with_reducible exact H | (rw [hy741]; exact H) | exact H
            have Ny741 := zm hy741; clear hy741
            have H' := zm H
            clear H
            obtain ⟨hcz27_0, hcz27_1, hcz27_2, hcz27_3, hfz27_0, hfz27_1, hfz27_2, hfz27_3⟩ := zb4 Za.out
            have p735 : 0 ≤ (x5_2 : Int) := zd
            have q735 : x5_2 < (l0_0.length : Int) := zd
            obtain ⟨ad735, e735, hx735_0⟩ := Kd.at_int Ze.out x5_2 p735 q735
            cases e735; replace hx735_0 := (HB.out.cell (World.block_lt_of_cell? w _ hx735_0)).trans hx735_0; replace p735 := eq_true p735; replace q735 := eq_true q735
            have p736 : 0 ≤ (x5_2 : Int) := zd
            have q736 : x5_2 < (l0_3.length : Int) := zd
            obtain ⟨ad736, e736, hx736_0⟩ := Kd.at_int Zl.out x5_2 p736 q736
            cases e736; replace hx736_0 := (HB.out.cell (World.block_lt_of_cell? w _ hx736_0)).trans hx736_0; replace p736 := eq_true p736; replace q736 := eq_true q736
            go_wp2_with (first | ((with_reducible refine gate_dst (N := 56) rfl ?_); refine Kd.R_lit (Kd.int .i64) _ 3 ?hg (N := 56) ?hd (xs := ([rd l0_3 x5_2] : List Int)) (inner := [.int .i64 (rd l0_3 x5_2)]) (ok := fun _ => True) (okp := fun _ => True) ?hr ?hp (fun _ hk => hk) trivial (Below.refl _ _) (Nat.le_refl _) (by simp) ?_; (case hd => rfl); (case hg => rfl); (case hr => first | (go_simp; done) | (go_simp; rfl)); (case hp => exact (Reps.one (show Kd.M (Kd.int .i64) _ _ _ (rd l0_3 x5_2) [.int .i64 (rd l0_3 x5_2)] from rfl) (Reps.none _ _))); intro v738 w28 ho29 hb hg_ hnew_; clear hg_ hnew_; (first | rw [← Ny737.out] at ho29 | (simp only [Int.reduceToNat] at ho29; rw [← Ny737.out] at ho29)); have n0_ := zm (Kd.R_below (zg_6 Zc.out) hb); have n1_ := zm (Kd.R_lower ho29 (below_size (zg_2 HB.out Zb.out))); have n2_ := zm (blk_below (zg_3 Za.out) hb); have n3_ := zm (below_step (zg_2 HB.out Zb.out) hb); replace Zc := n0_; have Zd := n1_; replace Za := n2_; replace HB := n3_; clear n0_ n1_ n2_ n3_; clear hb ho29; obtain ⟨Ao30, co30, eo30⟩ := Kd.R_slice Zd.out; subst eo30) | ((with_reducible refine gate_callee (f := 96) rfl ?_); refine goesL_ (some 57) rfl rfl Tryz.func96 (by kernel_rfl) rfl #[.int .i64 4, .slice Ao30 y737.length co30] rfl zq ?_; (with_reducible refine (spec_l02Seal.calls k2 4 _ _ y737 t740 _ ?side1 ?side2 A25.out).mono ?_); (case side1 => exact zC ((Kd.R_reads' Zd.out).2.2)); (case side2 => exact (Kd.R_reads' Zd.out).2.1); rintro e w31 ⟨rfl, hb⟩; refine ⟨_, rfl, ?_⟩; have n0_ := zm (Kd.R_below (zg_6 Zc.out) hb); have n1_ := zm (Kd.R_below (zg_6 Zd.out) hb); have n2_ := zm (blk_below (zg_3 Za.out) hb); have n3_ := zm (below_step (zg_2 HB.out Zb.out) hb); replace Zc := n0_; replace Zd := n1_; replace Za := n2_; replace HB := n3_; clear n0_ n1_ n2_ n3_; (try clear hb); (try clear hb2); (try clear hk); (try clear hi)) | ((with_reducible refine gate_builtin (b := .append) (xs := #[.tmp 48, .tmp 59]) rfl ?_); at_builtin; refine Kd.R_append k77 (w0 := w) w.heap.size rfl (.tmp 48) (.tmp 59) 49 77 (.agg #[(.int .i64 0), (.string ⟨#[]⟩)]) 24 rfl Tryz.underlying49 info77 rfl (by decide) (by omega) u3 x3_2 (⟨wrap64 (15 + x5_2), t740⟩ : S77) [.int .i64 (wrap64 (15 + x5_2)), .string t740] (fun _ => True) (fun _ => False) rfl rfl ?aP (fun _ hk => hk.elim) ?aF ?aO ?aB ?aS ?aL ?_; (case aP => exact k77_mkM _ _ _ (⟨wrap64 (15 + x5_2), t740⟩ : S77)); (case aB => exact (zg_2 HB.out Zb.out)); (case aF => exact (fun _ _ => trivial)); (case aO => exact (zg_6 Zc.out)); (case aS => exact (below_size (zg_2 HB.out Zb.out))); (case aL => have := LMc26.out; omega); intro v742 w32 ho hb hg hat; rw [← Ny741.out] at ho; have n0_ := zm (blk_grown (zg_3 Za.out) hg (Kd.R_ne Zc.out Za.out (by decide))); have n1_ := zm (Kd.R_over' (zg_6 Zd.out) (Kd.R_typed (zg_6 Zc.out)) (by decide) hg); have n2_ := zm (hb); have n3_ := zm (ho); clear Zc; replace Za := n0_; replace Zd := n1_; replace HB := n2_; have Zq := n3_; clear n0_ n1_ n2_ n3_; clear ho hb hg hat))
            go_roundg k2
            case measure => have := HK1.out; have := HK2.out; omega
            case rel => exact ⟨(y741), (wrap64 (x5_2 + 1)), zr, H', ⟨by have := HK1.out; have := HK2.out; omega⟩, ⟨zlR Zq.out⟩, ⟨zl Za.out⟩, ⟨zg_2 HB.out Zb.out⟩⟩
           ·rw [if_neg c26] at H
            exact absurd H (by simp)
          ·rw [if_neg c24] at H
           exact absurd H (by simp)
         ·rw [if_neg c23] at H
          have c23b0 := decide_eq_false c23; clear c23
          have H' := zm H
          clear H
          obtain ⟨hcz33_0, hcz33_1, hcz33_2, hcz33_3, hfz33_0, hfz33_1, hfz33_2, hfz33_3⟩ := zb4 Za.out
          have p735 : 0 ≤ (x5_2 : Int) := zd
          have q735 : x5_2 < (l0_0.length : Int) := zd
          obtain ⟨ad735, e735, hx735_0⟩ := Kd.at_int Ze.out x5_2 p735 q735
          cases e735; replace hx735_0 := (HB.out.cell (World.block_lt_of_cell? w _ hx735_0)).trans hx735_0; replace p735 := eq_true p735; replace q735 := eq_true q735
          go_wp2
          go_roundg k2
          case measure => have := HK1.out; have := HK2.out; omega
          case rel => exact ⟨(x3_2), (wrap64 (x5_2 + 1)), zr, H', ⟨by have := HK1.out; have := HK2.out; omega⟩, ⟨zlR Zc.out⟩, ⟨zl Za.out⟩, ⟨zg_2 HB.out Zb.out⟩⟩
        ·rw [if_neg c22] at H
         exact absurd H (by simp)
       ·rw [if_neg c21] at H
        exact absurd H (by simp)
      ·rw [if_neg c20] at H
       have c20b0 := decide_eq_false c20; clear c20; obtain rfl := Option.some.inj H
       go_wp2
       go_ret
       exact ⟨_, ze, by (with_reducible repeat (first | apply Kd.R_alloc | apply Kd.R_drewN | apply Kd.R_drew)); exact Zc.out, zg_2 HB.out Zb.out⟩
section
attribute [local go_sem high] eqA77
mutual
def spec_l11Diff.l0 : Nat → List (S77) → List (S77) → List (S77) → Int → Option ((List (S77)))
  | 0, _, _, _, _ => none
  | k + 1, x5, x6, x7, x8 => if x8 < (x6.length : Int) then (spec_l11Diff.l1 k x5 x6 x7 x8 false 0) else (some x7)
def spec_l11Diff.l1 : Nat → List (S77) → List (S77) → List (S77) → Int → Bool → Int → Option ((List (S77)))
  | 0, _, _, _, _, _, _ => none
  | k + 1, x5, x6, x7, x8, x9, x10 => if x10 < (x5.length : Int) then (if x9 = true then (spec_l11Diff.l1 k x5 x6 x7 x8 true (wrap64 (x10 + 1))) else (if 0 ≤ x10 then (if 0 ≤ x8 then (if x8 < (x6.length : Int) then (spec_l11Diff.l1 k x5 x6 x7 x8 (((rd_T77 x5 x10).f0) == ((rd_T77 x6 x8).f0) && ((((rd_T77 x5 x10).f1).toList) == (((rd_T77 x6 x8).f1).toList))) (wrap64 (x10 + 1))) else (none)) else (none)) else (none))) else (if x9 = true then (spec_l11Diff.l0 k x5 x6 x7 (wrap64 (x8 + 1))) else (if 0 ≤ x8 then (if x8 < (x6.length : Int) then (if x7.length < 5864062014805 then (spec_l11Diff.l0 k x5 x6 (x7 ++ [(⟨(rd_T77 x6 x8).f0, (rd_T77 x6 x8).f1⟩ : S77)]) (wrap64 (x8 + 1))) else (none)) else (none)) else (none)))
end
def spec_l11Diff.f (k : Nat) (l0_0 : List Int) (l0_1 : List Int) (l0_2 : List (S103)) (l0_3 : List Int) (l1_0 : List Int) (l1_1 : List Int) (l1_2 : List (S103)) (l1_3 : List Int) : Option ((List (S77))) := (spec_l11All.f k l0_0 l0_1 l0_2 l0_3).bind fun t894 => ((spec_l11All.f k l1_0 l1_1 l1_2 l1_3).bind fun t897 => (spec_l11Diff.l0 k t894 t897 (([] : List (S77))) 0))
theorem spec_l11Diff.mono_l : ∀ k, (∀ y0 y1 y2 y3, LeO (spec_l11Diff.l0 k y0 y1 y2 y3) (spec_l11Diff.l0 (k + 1) y0 y1 y2 y3)) ∧ (∀ y0 y1 y2 y3 y4 y5, LeO (spec_l11Diff.l1 k y0 y1 y2 y3 y4 y5) (spec_l11Diff.l1 (k + 1) y0 y1 y2 y3 y4 y5))
  | 0 => ⟨fun _ _ _ _ r h => by simp [spec_l11Diff.l0] at h, fun _ _ _ _ _ _ r h => by simp [spec_l11Diff.l1] at h⟩
  | k + 1 => by
    obtain ⟨ih0, ih1⟩ := spec_l11Diff.mono_l k
    refine ⟨?_, ?_⟩
    · intro y0 y1 y2 y3
      unfold spec_l11Diff.l0
      repeat' first| (with_reducible first | exact ih0 _ _ _ _ | exact ih1 _ _ _ _ _ _ | exact spec_l11All.mono _ _ _ _ _ | exact LeO.refl _ | exact LeO.none _ | refine LeO.ite ?_ ?_ | refine LeO.bind ?_ (fun _ => ?_)) | exact ih0 _ _ _ _ | exact ih1 _ _ _ _ _ _ | exact spec_l11All.mono _ _ _ _ _ | exact LeO.none _ | refine LeO.ite ?_ ?_ | refine LeO.bind ?_ (fun _ => ?_)
    · intro y0 y1 y2 y3 y4 y5
      unfold spec_l11Diff.l1
      repeat' first| (with_reducible first | exact ih0 _ _ _ _ | exact ih1 _ _ _ _ _ _ | exact spec_l11All.mono _ _ _ _ _ | exact LeO.refl _ | exact LeO.none _ | refine LeO.ite ?_ ?_ | refine LeO.bind ?_ (fun _ => ?_)) | exact ih0 _ _ _ _ | exact ih1 _ _ _ _ _ _ | exact spec_l11All.mono _ _ _ _ _ | exact LeO.none _ | refine LeO.ite ?_ ?_ | refine LeO.bind ?_ (fun _ => ?_)
theorem spec_l11Diff.mono : ∀ a0 a1 a2 a3 a4 a5 a6 a7 k, LeO (spec_l11Diff.f k a0 a1 a2 a3 a4 a5 a6 a7) (spec_l11Diff.f (k + 1) a0 a1 a2 a3 a4 a5 a6 a7) := by
  intro a0 a1 a2 a3 a4 a5 a6 a7 k
  obtain ⟨ih0, ih1⟩ := spec_l11Diff.mono_l k
  unfold spec_l11Diff.f
  repeat' first| (with_reducible first | exact ih0 _ _ _ _ | exact ih1 _ _ _ _ _ _ | exact spec_l11All.mono _ _ _ _ _ | exact LeO.refl _ | exact LeO.none _ | refine LeO.ite ?_ ?_ | refine LeO.bind ?_ (fun _ => ?_)) | exact ih0 _ _ _ _ | exact ih1 _ _ _ _ _ _ | exact spec_l11All.mono _ _ _ _ _ | exact LeO.none _ | refine LeO.ite ?_ ?_ | refine LeO.bind ?_ (fun _ => ?_)
set_option maxHeartbeats 8000000 in
set_option maxRecDepth 100000 in
theorem spec_l11Diff.calls (k : Nat) (A0_0 : Option Addr) (c0_0 : Nat) (l0_0 : List Int) (A0_1 : Option Addr) (c0_1 : Nat) (l0_1 : List Int) (A0_2 : Option Addr) (c0_2 : Nat) (l0_2 : List (S103)) (A0_3 : Option Addr) (c0_3 : Nat) (l0_3 : List Int) (A1_0 : Option Addr) (c1_0 : Nat) (l1_0 : List Int) (A1_1 : Option Addr) (c1_1 : Nat) (l1_1 : List Int) (A1_2 : Option Addr) (c1_2 : Nat) (l1_2 : List (S103)) (A1_3 : Option Addr) (c1_3 : Nat) (l1_3 : List Int) (r : List (S77)) (w : World) (hr0_0 : Kd.C (Kd.int .i64) w A0_0 l0_0.length l0_0) (hc0_0 : l0_0.length ≤ c0_0) (hr0_1 : Kd.C (Kd.int .i64) w A0_1 l0_1.length l0_1) (hc0_1 : l0_1.length ≤ c0_1) (hr0_2 : Kd.C k103 w A0_2 l0_2.length l0_2) (hc0_2 : l0_2.length ≤ c0_2) (hr0_3 : Kd.C (Kd.int .i64) w A0_3 l0_3.length l0_3) (hc0_3 : l0_3.length ≤ c0_3) (hr1_0 : Kd.C (Kd.int .i64) w A1_0 l1_0.length l1_0) (hc1_0 : l1_0.length ≤ c1_0) (hr1_1 : Kd.C (Kd.int .i64) w A1_1 l1_1.length l1_1) (hc1_1 : l1_1.length ≤ c1_1) (hr1_2 : Kd.C k103 w A1_2 l1_2.length l1_2) (hc1_2 : l1_2.length ≤ c1_2) (hr1_3 : Kd.C (Kd.int .i64) w A1_3 l1_3.length l1_3) (hc1_3 : l1_3.length ≤ c1_3) (h : spec_l11Diff.f k l0_0 l0_1 l0_2 l0_3 l1_0 l1_1 l1_2 l1_3 = some r) :
    Calls Tryz.prog 57 #[.agg #[.slice A0_0 l0_0.length c0_0, .slice A0_1 l0_1.length c0_1, .slice A0_2 l0_2.length c0_2, .slice A0_3 l0_3.length c0_3], .agg #[.slice A1_0 l1_0.length c1_0, .slice A1_1 l1_1.length c1_1, .slice A1_2 l1_2.length c1_2, .slice A1_3 l1_3.length c1_3]] w fun e w' => ∃ v0_ : Value, e = .returned (v0_) ∧ Kd.R k77 77 w' w.heap.size (fun _ => True) v0_ r ∧ Below w.heap.size w w' := by
 have hu26 := Tryz.underlying26; have hu77 := Tryz.underlying77; have Zl := zm hr0_0; have Zm := zm hc0_0; clear hr0_0 hc0_0; have Zn := zm hr0_1; have Zo := zm hc0_1; clear hr0_1 hc0_1; have Zp := zm hr0_2; have Zq := zm hc0_2; clear hr0_2 hc0_2; have Zr := zm hr0_3; have Zs := zm hc0_3; clear hr0_3 hc0_3; have Zt := zm hr1_0; have Zu := zm hc1_0; clear hr1_0 hc1_0; have Zv := zm hr1_1; have Zw := zm hc1_1; clear hr1_1 hc1_1; have Zx := zm hr1_2; have Zy := zm hc1_2; clear hr1_2 hc1_2; have Zz := zm hr1_3; have ZA := zm hc1_3; clear hr1_3 hc1_3; have HB := zm (Below.refl w.heap.size w); have H := h
 unfold spec_l11Diff.f at H
 clear h; replace H := Option.bind_eq_some_iff.mp H
 obtain ⟨t894, A30, H⟩ := H
 try dsimp only at H
 have A3 := zm A30; clear A30; replace H := Option.bind_eq_some_iff.mp H
 obtain ⟨t897, A40, H⟩ := H
 try dsimp only at H
 have A4 := zm A40; clear A40
 obtain ⟨y900, hy900⟩ : ∃ y_ : List (S77), y_ = (([] : List (S77))) := ⟨_, rfl⟩
 replace H : (spec_l11Diff.l0 k t894 t897 y900 0) = some r := by first | (rw [hy900]; with_reducible exact H) | (have H2_ := (Option.bind_some _ _).symm.trans H; rw [hy900]; with_reducible exact H2_) | (have H2_ := (Option.bind_some _ _).symm.trans H; with_reducible exact H2_) | with_reducible exact H | (rw [hy900]; exact H) | exact H
 have Ny900 := zm hy900; clear hy900
 have H' := zm H
 clear H
 go_enter Tryz.func57, Tryz.ntmps57
 go_wp2_with (first | ((with_reducible refine gate_dst (N := 2) rfl ?_); refine box_event ?hg (N := 2) ?hd (cs := #[.slice A0_0 l0_0.length c0_0, .slice A0_1 l0_1.length c0_1, .slice A0_2 l0_2.length c0_2, .slice A0_3 l0_3.length c0_3]) (t := 26) ?hr ?_; (case hd => rfl); (case hg => rfl); (case hr => first | (go_simp; done) | (go_simp; rfl)); intro gb892 hg w5 hbox hb; have n0_ := zm (below_step (zg_1 HB.out) hb); have n1_ := zm (hbox); have n2_ := zm ((by rw [hg]; exact (below_size (zg_1 HB.out)) : w.heap.size ≤ gb892)); have n3_ := zm ((by rw [hg]; exact (below_size (zg_1 HB.out)) : w.heap.size ≤ gb892)); replace HB := n0_; have Za := n1_; have ZD := n2_; have Zc := n3_; clear n0_ n1_ n2_ n3_; clear hb hbox hg) | ((with_reducible refine gate_dst (N := 3) rfl ?_); refine box_event ?hg (N := 3) ?hd (cs := #[.slice A1_0 l1_0.length c1_0, .slice A1_1 l1_1.length c1_1, .slice A1_2 l1_2.length c1_2, .slice A1_3 l1_3.length c1_3]) (t := 26) ?hr ?_; (case hd => rfl); (case hg => rfl); (case hr => first | (go_simp; done) | (go_simp; rfl)); intro gb893 hg w6 hbox hb; have n0_ := zm (blk_below (zg_3 Za.out) hb); have n1_ := zm (below_step (zg_2 HB.out Zc.out) hb); have n2_ := zm (hbox); have n3_ := zm ((by rw [hg]; exact (below_size (zg_2 HB.out Zc.out)) : w.heap.size ≤ gb893)); have n4_ := zm ((by rw [hg]; exact (below_size (zg_2 HB.out Zc.out)) : w.heap.size ≤ gb893)); have n5_ := zm ((by rw [hg]; exact Nat.ne_of_lt (blk_lt (zg_3 Za.out)) : gb892 ≠ gb893)); have n6_ := zm ((by rw [hg]; exact Nat.ne_of_gt (blk_lt (zg_3 Za.out)) : gb893 ≠ gb892)); replace Za := n0_; replace HB := n1_; have Zb := n2_; have ZE := n3_; have Zd := n4_; have Zi := n5_; have Zj := n6_; clear n0_ n1_ n2_ n3_ n4_ n5_ n6_; clear hb hbox hg; have hnb7 := Zi.out; have hnc7 := Zj.out; obtain ⟨hcz8_0, hcz8_1, hcz8_2, hcz8_3, hfz8_0, hfz8_1, hfz8_2, hfz8_3⟩ := zb4 Za.out) | (go_at_call 53; (with_reducible refine (spec_l11All.calls k _ _ l0_0 _ _ l0_1 _ _ l0_2 _ _ l0_3 t894 _ ?side1 ?side2 ?side3 ?side4 ?side5 ?side6 ?side7 ?side8 A3.out).mono ?_); (case side1 => exact zC (Kd.C_below Zl.out HB.out)); (case side2 => exact Zm.out); (case side3 => exact zC (Kd.C_below Zn.out HB.out)); (case side4 => exact Zo.out); (case side5 => exact zC (Kd.C_below Zp.out HB.out)); (case side6 => exact Zq.out); (case side7 => exact zC (Kd.C_below Zr.out HB.out)); (case side8 => exact Zs.out); rintro e w9 ⟨v895, rfl, ho0, hb⟩; have n0_ := zm (Kd.R_lower ho0 (below_size (zg_5 HB.out Zc.out Zd.out))); have n1_ := zm (blk_below (zg_3 Za.out) hb); have n2_ := zm (blk_below (zg_3 Zb.out) hb); have n3_ := zm (below_step (zg_5 HB.out Zc.out Zd.out) hb); have Ze := n0_; replace Za := n1_; replace Zb := n2_; replace HB := n3_; clear n0_ n1_ n2_ n3_; (try clear hb); (try clear hb2); (try clear hk); (try clear hi); (try clear ho0); obtain ⟨hcz10_0, hcz10_1, hcz10_2, hcz10_3, hfz10_0, hfz10_1, hfz10_2, hfz10_3⟩ := zb4 Zb.out) | (go_at_call 53; (with_reducible refine (spec_l11All.calls k _ _ l1_0 _ _ l1_1 _ _ l1_2 _ _ l1_3 t897 _ ?side1 ?side2 ?side3 ?side4 ?side5 ?side6 ?side7 ?side8 A4.out).mono ?_); (case side1 => exact zC (Kd.C_below Zt.out HB.out)); (case side2 => exact Zu.out); (case side3 => exact zC (Kd.C_below Zv.out HB.out)); (case side4 => exact Zw.out); (case side5 => exact zC (Kd.C_below Zx.out HB.out)); (case side6 => exact Zy.out); (case side7 => exact zC (Kd.C_below Zz.out HB.out)); (case side8 => exact ZA.out); rintro e w11 ⟨v898, rfl, ho0, hb⟩; have n0_ := zm (Kd.R_elder' (zg_6 Ze.out) (Kd.R_base ho0) hb); have n1_ := zm (Kd.R_lower (Kd.R_new' ho0 (Kd.R_lt (zg_6 Ze.out))) (below_size (zg_5 HB.out Zc.out Zd.out))); have n2_ := zm (blk_below (zg_3 Za.out) hb); have n3_ := zm (blk_below (zg_3 Zb.out) hb); have n4_ := zm (below_step (zg_5 HB.out Zc.out Zd.out) hb); replace Ze := n0_; have Zf := n1_; replace Za := n2_; replace Zb := n3_; replace HB := n4_; clear n0_ n1_ n2_ n3_ n4_; (try clear hb); (try clear hb2); (try clear hk); (try clear hi); (try clear ho0)) | ((with_reducible refine gate_dst (N := 15) rfl ?_); refine Kd.R_lit k77 _ 77 ?hg (N := 15) ?hd (xs := ([] : List (S77))) (inner := []) (ok := fun _ => True) (okp := fun _ => True) ?hr ?hp (fun _ hk => hk) trivial (Below.refl _ _) (Nat.le_refl _) (by simp) ?_; (case hd => rfl); (case hg => rfl); (case hr => first | (go_simp; done) | (go_simp; rfl)); (case hp => exact (Reps.none _ _)); intro v901 w12 ho13 hb hg_ hnew_; clear hg_ hnew_; (first | rw [← Ny900.out] at ho13 | (simp only [Int.reduceToNat] at ho13; rw [← Ny900.out] at ho13)); have n0_ := zm (Kd.R_elder' (zg_6 Ze.out) (Kd.R_base ho13) hb); have n1_ := zm (Kd.R_elder' (zg_6 Zf.out) (Kd.R_base ho13) hb); have n2_ := zm (Kd.R_lower (Kd.R_new' (Kd.R_new' ho13 (Kd.R_lt (zg_6 Ze.out))) (Kd.R_lt (zg_6 Zf.out))) (below_size (zg_5 HB.out Zc.out Zd.out))); have n3_ := zm (blk_below (zg_3 Za.out) hb); have n4_ := zm (blk_below (zg_3 Zb.out) hb); have n5_ := zm (below_step (zg_5 HB.out Zc.out Zd.out) hb); replace Ze := n0_; replace Zf := n1_; have ZB := n2_; replace Za := n3_; replace Zb := n4_; replace HB := n5_; clear n0_ n1_ n2_ n3_ n4_ n5_; clear hb ho13))
 repeat (go_quiet (first | ((with_reducible refine gate_dst (N := 2) rfl ?_); refine box_event ?hg (N := 2) ?hd (cs := #[.slice A0_0 l0_0.length c0_0, .slice A0_1 l0_1.length c0_1, .slice A0_2 l0_2.length c0_2, .slice A0_3 l0_3.length c0_3]) (t := 26) ?hr ?_; (case hd => rfl); (case hg => rfl); (case hr => first | (go_simp; done) | (go_simp; rfl)); intro gb892 hg w5 hbox hb; have n0_ := zm (below_step (zg_1 HB.out) hb); have n1_ := zm (hbox); have n2_ := zm ((by rw [hg]; exact (below_size (zg_1 HB.out)) : w.heap.size ≤ gb892)); have n3_ := zm ((by rw [hg]; exact (below_size (zg_1 HB.out)) : w.heap.size ≤ gb892)); replace HB := n0_; have Za := n1_; have ZD := n2_; have Zc := n3_; clear n0_ n1_ n2_ n3_; clear hb hbox hg) | ((with_reducible refine gate_dst (N := 3) rfl ?_); refine box_event ?hg (N := 3) ?hd (cs := #[.slice A1_0 l1_0.length c1_0, .slice A1_1 l1_1.length c1_1, .slice A1_2 l1_2.length c1_2, .slice A1_3 l1_3.length c1_3]) (t := 26) ?hr ?_; (case hd => rfl); (case hg => rfl); (case hr => first | (go_simp; done) | (go_simp; rfl)); intro gb893 hg w6 hbox hb; have n0_ := zm (blk_below (zg_3 Za.out) hb); have n1_ := zm (below_step (zg_2 HB.out Zc.out) hb); have n2_ := zm (hbox); have n3_ := zm ((by rw [hg]; exact (below_size (zg_2 HB.out Zc.out)) : w.heap.size ≤ gb893)); have n4_ := zm ((by rw [hg]; exact (below_size (zg_2 HB.out Zc.out)) : w.heap.size ≤ gb893)); have n5_ := zm ((by rw [hg]; exact Nat.ne_of_lt (blk_lt (zg_3 Za.out)) : gb892 ≠ gb893)); have n6_ := zm ((by rw [hg]; exact Nat.ne_of_gt (blk_lt (zg_3 Za.out)) : gb893 ≠ gb892)); replace Za := n0_; replace HB := n1_; have Zb := n2_; have ZE := n3_; have Zd := n4_; have Zi := n5_; have Zj := n6_; clear n0_ n1_ n2_ n3_ n4_ n5_ n6_; clear hb hbox hg; have hnb7 := Zi.out; have hnc7 := Zj.out; obtain ⟨hcz8_0, hcz8_1, hcz8_2, hcz8_3, hfz8_0, hfz8_1, hfz8_2, hfz8_3⟩ := zb4 Za.out) | (go_at_call 53; (with_reducible refine (spec_l11All.calls k _ _ l0_0 _ _ l0_1 _ _ l0_2 _ _ l0_3 t894 _ ?side1 ?side2 ?side3 ?side4 ?side5 ?side6 ?side7 ?side8 A3.out).mono ?_); (case side1 => exact zC (Kd.C_below Zl.out HB.out)); (case side2 => exact Zm.out); (case side3 => exact zC (Kd.C_below Zn.out HB.out)); (case side4 => exact Zo.out); (case side5 => exact zC (Kd.C_below Zp.out HB.out)); (case side6 => exact Zq.out); (case side7 => exact zC (Kd.C_below Zr.out HB.out)); (case side8 => exact Zs.out); rintro e w9 ⟨v895, rfl, ho0, hb⟩; have n0_ := zm (Kd.R_lower ho0 (below_size (zg_5 HB.out Zc.out Zd.out))); have n1_ := zm (blk_below (zg_3 Za.out) hb); have n2_ := zm (blk_below (zg_3 Zb.out) hb); have n3_ := zm (below_step (zg_5 HB.out Zc.out Zd.out) hb); have Ze := n0_; replace Za := n1_; replace Zb := n2_; replace HB := n3_; clear n0_ n1_ n2_ n3_; (try clear hb); (try clear hb2); (try clear hk); (try clear hi); (try clear ho0); obtain ⟨hcz10_0, hcz10_1, hcz10_2, hcz10_3, hfz10_0, hfz10_1, hfz10_2, hfz10_3⟩ := zb4 Zb.out) | (go_at_call 53; (with_reducible refine (spec_l11All.calls k _ _ l1_0 _ _ l1_1 _ _ l1_2 _ _ l1_3 t897 _ ?side1 ?side2 ?side3 ?side4 ?side5 ?side6 ?side7 ?side8 A4.out).mono ?_); (case side1 => exact zC (Kd.C_below Zt.out HB.out)); (case side2 => exact Zu.out); (case side3 => exact zC (Kd.C_below Zv.out HB.out)); (case side4 => exact Zw.out); (case side5 => exact zC (Kd.C_below Zx.out HB.out)); (case side6 => exact Zy.out); (case side7 => exact zC (Kd.C_below Zz.out HB.out)); (case side8 => exact ZA.out); rintro e w11 ⟨v898, rfl, ho0, hb⟩; have n0_ := zm (Kd.R_elder' (zg_6 Ze.out) (Kd.R_base ho0) hb); have n1_ := zm (Kd.R_lower (Kd.R_new' ho0 (Kd.R_lt (zg_6 Ze.out))) (below_size (zg_5 HB.out Zc.out Zd.out))); have n2_ := zm (blk_below (zg_3 Za.out) hb); have n3_ := zm (blk_below (zg_3 Zb.out) hb); have n4_ := zm (below_step (zg_5 HB.out Zc.out Zd.out) hb); replace Ze := n0_; have Zf := n1_; replace Za := n2_; replace Zb := n3_; replace HB := n4_; clear n0_ n1_ n2_ n3_ n4_; (try clear hb); (try clear hb2); (try clear hk); (try clear hi); (try clear ho0)) | ((with_reducible refine gate_dst (N := 15) rfl ?_); refine Kd.R_lit k77 _ 77 ?hg (N := 15) ?hd (xs := ([] : List (S77))) (inner := []) (ok := fun _ => True) (okp := fun _ => True) ?hr ?hp (fun _ hk => hk) trivial (Below.refl _ _) (Nat.le_refl _) (by simp) ?_; (case hd => rfl); (case hg => rfl); (case hr => first | (go_simp; done) | (go_simp; rfl)); (case hp => exact (Reps.none _ _)); intro v901 w12 ho13 hb hg_ hnew_; clear hg_ hnew_; (first | rw [← Ny900.out] at ho13 | (simp only [Int.reduceToNat] at ho13; rw [← Ny900.out] at ho13)); have n0_ := zm (Kd.R_elder' (zg_6 Ze.out) (Kd.R_base ho13) hb); have n1_ := zm (Kd.R_elder' (zg_6 Zf.out) (Kd.R_base ho13) hb); have n2_ := zm (Kd.R_lower (Kd.R_new' (Kd.R_new' ho13 (Kd.R_lt (zg_6 Ze.out))) (Kd.R_lt (zg_6 Zf.out))) (below_size (zg_5 HB.out Zc.out Zd.out))); have n3_ := zm (blk_below (zg_3 Za.out) hb); have n4_ := zm (blk_below (zg_3 Zb.out) hb); have n5_ := zm (below_step (zg_5 HB.out Zc.out Zd.out) hb); replace Ze := n0_; replace Zf := n1_; have ZB := n2_; replace Za := n3_; replace Zb := n4_; replace HB := n5_; clear n0_ n1_ n2_ n3_ n4_ n5_; clear hb ho13)); try go_wp2_with (first | ((with_reducible refine gate_dst (N := 2) rfl ?_); refine box_event ?hg (N := 2) ?hd (cs := #[.slice A0_0 l0_0.length c0_0, .slice A0_1 l0_1.length c0_1, .slice A0_2 l0_2.length c0_2, .slice A0_3 l0_3.length c0_3]) (t := 26) ?hr ?_; (case hd => rfl); (case hg => rfl); (case hr => first | (go_simp; done) | (go_simp; rfl)); intro gb892 hg w5 hbox hb; have n0_ := zm (below_step (zg_1 HB.out) hb); have n1_ := zm (hbox); have n2_ := zm ((by rw [hg]; exact (below_size (zg_1 HB.out)) : w.heap.size ≤ gb892)); have n3_ := zm ((by rw [hg]; exact (below_size (zg_1 HB.out)) : w.heap.size ≤ gb892)); replace HB := n0_; have Za := n1_; have ZD := n2_; have Zc := n3_; clear n0_ n1_ n2_ n3_; clear hb hbox hg) | ((with_reducible refine gate_dst (N := 3) rfl ?_); refine box_event ?hg (N := 3) ?hd (cs := #[.slice A1_0 l1_0.length c1_0, .slice A1_1 l1_1.length c1_1, .slice A1_2 l1_2.length c1_2, .slice A1_3 l1_3.length c1_3]) (t := 26) ?hr ?_; (case hd => rfl); (case hg => rfl); (case hr => first | (go_simp; done) | (go_simp; rfl)); intro gb893 hg w6 hbox hb; have n0_ := zm (blk_below (zg_3 Za.out) hb); have n1_ := zm (below_step (zg_2 HB.out Zc.out) hb); have n2_ := zm (hbox); have n3_ := zm ((by rw [hg]; exact (below_size (zg_2 HB.out Zc.out)) : w.heap.size ≤ gb893)); have n4_ := zm ((by rw [hg]; exact (below_size (zg_2 HB.out Zc.out)) : w.heap.size ≤ gb893)); have n5_ := zm ((by rw [hg]; exact Nat.ne_of_lt (blk_lt (zg_3 Za.out)) : gb892 ≠ gb893)); have n6_ := zm ((by rw [hg]; exact Nat.ne_of_gt (blk_lt (zg_3 Za.out)) : gb893 ≠ gb892)); replace Za := n0_; replace HB := n1_; have Zb := n2_; have ZE := n3_; have Zd := n4_; have Zi := n5_; have Zj := n6_; clear n0_ n1_ n2_ n3_ n4_ n5_ n6_; clear hb hbox hg; have hnb7 := Zi.out; have hnc7 := Zj.out; obtain ⟨hcz8_0, hcz8_1, hcz8_2, hcz8_3, hfz8_0, hfz8_1, hfz8_2, hfz8_3⟩ := zb4 Za.out) | (go_at_call 53; (with_reducible refine (spec_l11All.calls k _ _ l0_0 _ _ l0_1 _ _ l0_2 _ _ l0_3 t894 _ ?side1 ?side2 ?side3 ?side4 ?side5 ?side6 ?side7 ?side8 A3.out).mono ?_); (case side1 => exact zC (Kd.C_below Zl.out HB.out)); (case side2 => exact Zm.out); (case side3 => exact zC (Kd.C_below Zn.out HB.out)); (case side4 => exact Zo.out); (case side5 => exact zC (Kd.C_below Zp.out HB.out)); (case side6 => exact Zq.out); (case side7 => exact zC (Kd.C_below Zr.out HB.out)); (case side8 => exact Zs.out); rintro e w9 ⟨v895, rfl, ho0, hb⟩; have n0_ := zm (Kd.R_lower ho0 (below_size (zg_5 HB.out Zc.out Zd.out))); have n1_ := zm (blk_below (zg_3 Za.out) hb); have n2_ := zm (blk_below (zg_3 Zb.out) hb); have n3_ := zm (below_step (zg_5 HB.out Zc.out Zd.out) hb); have Ze := n0_; replace Za := n1_; replace Zb := n2_; replace HB := n3_; clear n0_ n1_ n2_ n3_; (try clear hb); (try clear hb2); (try clear hk); (try clear hi); (try clear ho0); obtain ⟨hcz10_0, hcz10_1, hcz10_2, hcz10_3, hfz10_0, hfz10_1, hfz10_2, hfz10_3⟩ := zb4 Zb.out) | (go_at_call 53; (with_reducible refine (spec_l11All.calls k _ _ l1_0 _ _ l1_1 _ _ l1_2 _ _ l1_3 t897 _ ?side1 ?side2 ?side3 ?side4 ?side5 ?side6 ?side7 ?side8 A4.out).mono ?_); (case side1 => exact zC (Kd.C_below Zt.out HB.out)); (case side2 => exact Zu.out); (case side3 => exact zC (Kd.C_below Zv.out HB.out)); (case side4 => exact Zw.out); (case side5 => exact zC (Kd.C_below Zx.out HB.out)); (case side6 => exact Zy.out); (case side7 => exact zC (Kd.C_below Zz.out HB.out)); (case side8 => exact ZA.out); rintro e w11 ⟨v898, rfl, ho0, hb⟩; have n0_ := zm (Kd.R_elder' (zg_6 Ze.out) (Kd.R_base ho0) hb); have n1_ := zm (Kd.R_lower (Kd.R_new' ho0 (Kd.R_lt (zg_6 Ze.out))) (below_size (zg_5 HB.out Zc.out Zd.out))); have n2_ := zm (blk_below (zg_3 Za.out) hb); have n3_ := zm (blk_below (zg_3 Zb.out) hb); have n4_ := zm (below_step (zg_5 HB.out Zc.out Zd.out) hb); replace Ze := n0_; have Zf := n1_; replace Za := n2_; replace Zb := n3_; replace HB := n4_; clear n0_ n1_ n2_ n3_ n4_; (try clear hb); (try clear hb2); (try clear hk); (try clear hi); (try clear ho0)) | ((with_reducible refine gate_dst (N := 15) rfl ?_); refine Kd.R_lit k77 _ 77 ?hg (N := 15) ?hd (xs := ([] : List (S77))) (inner := []) (ok := fun _ => True) (okp := fun _ => True) ?hr ?hp (fun _ hk => hk) trivial (Below.refl _ _) (Nat.le_refl _) (by simp) ?_; (case hd => rfl); (case hg => rfl); (case hr => first | (go_simp; done) | (go_simp; rfl)); (case hp => exact (Reps.none _ _)); intro v901 w12 ho13 hb hg_ hnew_; clear hg_ hnew_; (first | rw [← Ny900.out] at ho13 | (simp only [Int.reduceToNat] at ho13; rw [← Ny900.out] at ho13)); have n0_ := zm (Kd.R_elder' (zg_6 Ze.out) (Kd.R_base ho13) hb); have n1_ := zm (Kd.R_elder' (zg_6 Zf.out) (Kd.R_base ho13) hb); have n2_ := zm (Kd.R_lower (Kd.R_new' (Kd.R_new' ho13 (Kd.R_lt (zg_6 Ze.out))) (Kd.R_lt (zg_6 Zf.out))) (below_size (zg_5 HB.out Zc.out Zd.out))); have n3_ := zm (blk_below (zg_3 Za.out) hb); have n4_ := zm (blk_below (zg_3 Zb.out) hb); have n5_ := zm (below_step (zg_5 HB.out Zc.out Zd.out) hb); replace Ze := n0_; replace Zf := n1_; have ZB := n2_; replace Za := n3_; replace Zb := n4_; replace HB := n5_; clear n0_ n1_ n2_ n3_ n4_ n5_; clear hb ho13)))
 go_loopg [7, 8] k (fun kq v7 v8 w' => ∃ (x7_1 : List (S77)) (x8_1 : Int), v8 = .int .i64 x8_1 ∧ Aside0 (spec_l11Diff.l0 kq t894 t897 x7_1 x8_1 = some r) ∧ Aside0 (kq ≤ k) ∧ Aside0 (Kd.R k77 77 w' w.heap.size (fun k_ => some k_ ≠ (v898 : Value).ownBlock ∧ some k_ ≠ (v7 : Value).ownBlock) v895 t894) ∧ Aside0 (Kd.R k77 77 w' w.heap.size (fun k_ => some k_ ≠ (v895 : Value).ownBlock ∧ some k_ ≠ (v7 : Value).ownBlock) v898 t897) ∧ Aside0 (Kd.R k77 77 w' w.heap.size (fun k_ => some k_ ≠ (v895 : Value).ownBlock ∧ some k_ ≠ (v898 : Value).ownBlock) v7 x7_1) ∧ Aside0 (w'.heap[gb892]? = some (.cells #[(.slice A0_0 l0_0.length c0_0), (.slice A0_1 l0_1.length c0_1), (.slice A0_2 l0_2.length c0_2), (.slice A0_3 l0_3.length c0_3)] 26 (0, 0))) ∧ Aside0 (w'.heap[gb893]? = some (.cells #[(.slice A1_0 l1_0.length c1_0), (.slice A1_1 l1_1.length c1_1), (.slice A1_2 l1_2.length c1_2), (.slice A1_3 l1_3.length c1_3)] 26 (0, 0))) ∧ Aside0 (Below w.heap.size w w'))
 case atStart => exact ⟨(y900), (0), zr, H', ⟨Nat.le_refl _⟩, ⟨by (with_reducible repeat (first | apply Kd.R_alloc | apply Kd.R_drewN | apply Kd.R_drew)); exact Kd.R_mono Ze.out (fun _ hk => ⟨hk.1.2, hk.2⟩)⟩, ⟨by (with_reducible repeat (first | apply Kd.R_alloc | apply Kd.R_drewN | apply Kd.R_drew)); exact Kd.R_mono Zf.out (fun _ hk => ⟨hk.1.2, hk.2⟩)⟩, ⟨by (with_reducible repeat (first | apply Kd.R_alloc | apply Kd.R_drewN | apply Kd.R_drew)); exact Kd.R_mono ZB.out (fun _ hk => ⟨hk.1.2, hk.2⟩)⟩, ⟨zl Za.out⟩, ⟨zl Zb.out⟩, ⟨zg_5 HB.out Zc.out Zd.out⟩⟩
 case round =>
  clear H'
  try clear c1
  try clear p2
  try clear c5
  try clear c7
  obtain ⟨x7_1, x8_1, rfl, HA, HK1, Zg, Zh, Zk, Za, Zb, HB⟩ := hrel
  cases gk with
  | zero => exact absurd HA.out (by simp [spec_l11Diff.l0])
  | succ k1 =>
   have H := HA.out; clear HA
   simp only [spec_l11Diff.l0] at H
   by_cases c14 : x8_1 < (t897.length : Int)
   ·rw [if_pos c14] at H
    have c14b0 := decide_eq_true c14; clear c14
    have H' := zm H
    clear H
    obtain ⟨Ao15, co15, eo15⟩ := Kd.R_slice Zh.out
    subst eo15
    go_wp2
    repeat (go_quiet (fail); try go_wp2)
    go_loopg [9, 10] k1 (fun kq v9 v10 w' => ∃ (x9_2 : Bool) (x10_2 : Int), v9 = .bool x9_2 ∧ v10 = .int .i64 x10_2 ∧ Aside0 (spec_l11Diff.l1 kq t894 t897 x7_1 x8_1 x9_2 x10_2 = some r) ∧ Aside0 (kq ≤ k1) ∧ Aside0 (Kd.R k77 77 w' w.heap.size (fun k_ => some k_ ≠ ((.slice Ao15 t897.length co15) : Value).ownBlock ∧ some k_ ≠ (u7 : Value).ownBlock) v895 t894) ∧ Aside0 (Kd.R k77 77 w' w.heap.size (fun k_ => some k_ ≠ (v895 : Value).ownBlock ∧ some k_ ≠ (u7 : Value).ownBlock) (.slice Ao15 t897.length co15) t897) ∧ Aside0 (Kd.R k77 77 w' w.heap.size (fun k_ => some k_ ≠ (v895 : Value).ownBlock ∧ some k_ ≠ ((.slice Ao15 t897.length co15) : Value).ownBlock) u7 x7_1) ∧ Aside0 (w'.heap[gb892]? = some (.cells #[(.slice A0_0 l0_0.length c0_0), (.slice A0_1 l0_1.length c0_1), (.slice A0_2 l0_2.length c0_2), (.slice A0_3 l0_3.length c0_3)] 26 (0, 0))) ∧ Aside0 (w'.heap[gb893]? = some (.cells #[(.slice A1_0 l1_0.length c1_0), (.slice A1_1 l1_1.length c1_1), (.slice A1_2 l1_2.length c1_2), (.slice A1_3 l1_3.length c1_3)] 26 (0, 0))) ∧ Aside0 (Below w.heap.size w w'))
    case atStart => exact ⟨(false), (0), zr, zr, H', ⟨Nat.le_refl _⟩, ⟨zlR Zg.out⟩, ⟨zlR Zh.out⟩, ⟨zlR Zk.out⟩, ⟨zl Za.out⟩, ⟨zl Zb.out⟩, ⟨zg_5 HB.out Zc.out Zd.out⟩⟩
    case round =>
     clear H'
     try clear c1
     try clear p2
     try clear c5
     try clear c7
     try clear c14
     try clear c14b0
     try clear p2
     obtain ⟨x9_2, x10_2, rfl, rfl, HA, HK2, Zg, Zh, Zk, Za, Zb, HB⟩ := hrel
     cases gk with
     | zero => exact absurd HA.out (by simp [spec_l11Diff.l1])
     | succ k2 =>
      have H := HA.out; clear HA
      simp only [spec_l11Diff.l1] at H
      by_cases c16 : x10_2 < (t894.length : Int)
      ·rw [if_pos c16] at H
       have c16b0 := decide_eq_true c16; clear c16
       by_cases c17 : x9_2 = true
       ·subst c17
        replace H : (spec_l11Diff.l1 k2 t894 t897 x7_1 x8_1 true (wrap64 (x10_2 + 1))) = some r := by rw [if_pos rfl] at H; exact H
        have H' := zm H
        clear H
        obtain ⟨Ao18, co18, eo18⟩ := Kd.R_slice Zg.out
        subst eo18
        go_wp2
        repeat (go_quiet (fail); try go_wp2)
        go_roundg k2
        case measure => have := HK1.out; have := HK2.out; omega
        case rel => exact ⟨(true), (wrap64 (x10_2 + 1)), zr, zr, H', ⟨by have := HK1.out; have := HK2.out; omega⟩, ⟨zlR Zg.out⟩, ⟨zlR Zh.out⟩, ⟨zlR Zk.out⟩, ⟨zl Za.out⟩, ⟨zl Zb.out⟩, ⟨zg_5 HB.out Zc.out Zd.out⟩⟩
       ·replace c17 := Bool.eq_false_iff.mpr c17
        subst c17
        replace H : (if 0 ≤ x10_2 then (if 0 ≤ x8_1 then (if x8_1 < (t897.length : Int) then (spec_l11Diff.l1 k2 t894 t897 x7_1 x8_1 (((rd_T77 t894 x10_2).f0) == ((rd_T77 t897 x8_1).f0) && ((((rd_T77 t894 x10_2).f1).toList) == (((rd_T77 t897 x8_1).f1).toList))) (wrap64 (x10_2 + 1))) else (none)) else (none)) else (none)) = some r := by rw [if_neg (show ¬ (false = true) by decide)] at H; exact H
        by_cases c19 : 0 ≤ x10_2
        ·rw [if_pos c19] at H
         have c19b0 := decide_eq_true c19; clear c19
         by_cases c20 : 0 ≤ x8_1
         ·rw [if_pos c20] at H
          have c20b0 := decide_eq_true c20; clear c20
          by_cases c21 : x8_1 < (t897.length : Int)
          ·rw [if_pos c21] at H
           have c21b0 := decide_eq_true c21; clear c21
           have H' := zm H
           clear H
           obtain ⟨Ao22, co22, eo22⟩ := Kd.R_slice Zg.out
           subst eo22
           have p903 : 0 ≤ (x10_2 : Int) := zd
           have q903 : x10_2 < (t894.length : Int) := zd
           obtain ⟨ad903, e903, hx903_0, hx903_1⟩ := at_T77 (Kd.R_reads' Zg.out).2.2 x10_2 p903 q903
           cases e903; replace p903 := eq_true p903; replace q903 := eq_true q903
           have p904 : 0 ≤ (x8_1 : Int) := zd
           have q904 : x8_1 < (t897.length : Int) := zd
           obtain ⟨ad904, e904, hx904_0, hx904_1⟩ := at_T77 (Kd.R_reads' Zh.out).2.2 x8_1 p904 q904
           cases e904; replace p904 := eq_true p904; replace q904 := eq_true q904
           go_wp2
           repeat (go_quiet (fail); try go_wp2)
           go_roundg k2
           case measure => have := HK1.out; have := HK2.out; omega
           case rel => exact ⟨((((rd_T77 t894 x10_2).f0) == ((rd_T77 t897 x8_1).f0) && ((((rd_T77 t894 x10_2).f1).toList) == (((rd_T77 t897 x8_1).f1).toList)))), (wrap64 (x10_2 + 1)), zr, zr, H', ⟨by have := HK1.out; have := HK2.out; omega⟩, ⟨zlR Zg.out⟩, ⟨zlR Zh.out⟩, ⟨zlR Zk.out⟩, ⟨zl Za.out⟩, ⟨zl Zb.out⟩, ⟨zg_5 HB.out Zc.out Zd.out⟩⟩
          ·rw [if_neg c21] at H
           exact absurd H (by simp)
         ·rw [if_neg c20] at H
          exact absurd H (by simp)
        ·rw [if_neg c19] at H
         exact absurd H (by simp)
      ·rw [if_neg c16] at H
       have c16b0 := decide_eq_false c16; clear c16
       by_cases c23 : x9_2 = true
       ·subst c23
        replace H : (spec_l11Diff.l0 k2 t894 t897 x7_1 (wrap64 (x8_1 + 1))) = some r := by rw [if_pos rfl] at H; exact H
        have H' := zm H
        clear H
        obtain ⟨Ao24, co24, eo24⟩ := Kd.R_slice Zg.out
        subst eo24
        go_wp2
        repeat (go_quiet (fail); try go_wp2)
        go_roundg k2
        case measure => have := HK1.out; have := HK2.out; omega
        case rel => exact ⟨(x7_1), (wrap64 (x8_1 + 1)), zr, H', ⟨by have := HK1.out; have := HK2.out; omega⟩, ⟨zlR Zg.out⟩, ⟨zlR Zh.out⟩, ⟨zlR Zk.out⟩, ⟨zl Za.out⟩, ⟨zl Zb.out⟩, ⟨zg_5 HB.out Zc.out Zd.out⟩⟩
       ·replace c23 := Bool.eq_false_iff.mpr c23
        subst c23
        replace H : (if 0 ≤ x8_1 then (if x8_1 < (t897.length : Int) then (if x7_1.length < 5864062014805 then (spec_l11Diff.l0 k2 t894 t897 (x7_1 ++ [(⟨(rd_T77 t897 x8_1).f0, (rd_T77 t897 x8_1).f1⟩ : S77)]) (wrap64 (x8_1 + 1))) else (none)) else (none)) else (none)) = some r := by rw [if_neg (show ¬ (false = true) by decide)] at H; exact H
        by_cases c25 : 0 ≤ x8_1
        ·rw [if_pos c25] at H
         have c25b0 := decide_eq_true c25; clear c25
         by_cases c26 : x8_1 < (t897.length : Int)
         ·rw [if_pos c26] at H
          have c26b0 := decide_eq_true c26; clear c26
          by_cases c27 : x7_1.length < 5864062014805
          ·rw [if_pos c27] at H
           have LMc27 := zm c27; clear c27
           obtain ⟨y906, hy906⟩ : ∃ y_ : List (S77), y_ = (x7_1 ++ [(⟨(rd_T77 t897 x8_1).f0, (rd_T77 t897 x8_1).f1⟩ : S77)]) := ⟨_, rfl⟩
           replace H : (spec_l11Diff.l0 k2 t894 t897 y906 (wrap64 (x8_1 + 1))) = some r := by first | (rw [hy906]; with_reducible exact H) | (have H2_ := (Option.bind_some _ _).symm.trans H; rw [hy906]; with_reducible exact H2_) | (have H2_ := (Option.bind_some _ _).symm.trans H; with_reducible exact H2_) | with_reducible exact H | (rw [hy906]; exact H) | exact H
           have Ny906 := zm hy906; clear hy906
           have H' := zm H
           clear H
           obtain ⟨Ao28, co28, eo28⟩ := Kd.R_slice Zg.out
           subst eo28
           have p905 : 0 ≤ (x8_1 : Int) := zd
           have q905 : x8_1 < (t897.length : Int) := zd
           obtain ⟨ad905, e905, hx905_0, hx905_1⟩ := at_T77 (Kd.R_reads' Zh.out).2.2 x8_1 p905 q905
           cases e905; replace p905 := eq_true p905; replace q905 := eq_true q905
           go_wp2_with (first | ((with_reducible refine gate_builtin (b := .append) (xs := #[.tmp 42, .tmp 47]) rfl ?_); at_builtin; refine Kd.R_append k77 (w0 := w) w.heap.size rfl (.tmp 42) (.tmp 47) 49 77 (.agg #[(.int .i64 0), (.string ⟨#[]⟩)]) 24 rfl Tryz.underlying49 info77 rfl (by decide) (by omega) u7 x7_1 (⟨(rd_T77 t897 x8_1).f0, (rd_T77 t897 x8_1).f1⟩ : S77) [.int .i64 ((rd_T77 t897 x8_1).f0), .string ((rd_T77 t897 x8_1).f1)] (fun k_ => some k_ ≠ (.slice Ao28 t894.length co28 : Value).ownBlock ∧ some k_ ≠ (.slice (some ad905) t897.length co15 : Value).ownBlock) (fun _ => False) rfl rfl ?aP (fun _ hk => hk.elim) ?aF ?aO ?aB ?aS ?aL ?_; (case aP => exact k77_mkM _ _ _ (⟨(rd_T77 t897 x8_1).f0, (rd_T77 t897 x8_1).f1⟩ : S77)); (case aB => exact (zg_5 HB.out Zc.out Zd.out)); (case aF => exact (fun k_ hk => ⟨Kd.fresh' (Kd.R_lt (zg_6 Zg.out)) k_ hk, Kd.fresh' (Kd.R_lt (zg_6 Zh.out)) k_ hk⟩)); (case aO => exact (zg_6 Zk.out)); (case aS => exact (below_size (zg_5 HB.out Zc.out Zd.out))); (case aL => have := LMc27.out; omega); intro v907 w29 ho hb hg hat; rw [← Ny906.out] at ho; have n0_ := zm (Kd.R_after (ok := (fun k_ => some k_ ≠ (.slice (some ad905) t897.length co15 : Value).ownBlock)) (zg_6 Zg.out) hg hat); have n1_ := zm (Kd.R_after (ok := (fun k_ => some k_ ≠ (.slice Ao28 t894.length co28 : Value).ownBlock)) (zg_6 Zh.out) hg hat); have n2_ := zm (blk_grown (zg_3 Za.out) hg (Kd.R_ne Zk.out Za.out (by decide))); have n3_ := zm (blk_grown (zg_3 Zb.out) hg (Kd.R_ne Zk.out Zb.out (by decide))); have n4_ := zm (hb); have n5_ := zm (ho); clear Zk; replace Zg := n0_; replace Zh := n1_; replace Za := n2_; replace Zb := n3_; replace HB := n4_; have ZC := n5_; clear n0_ n1_ n2_ n3_ n4_ n5_; clear ho hb hg hat))
           repeat (go_quiet (first | ((with_reducible refine gate_builtin (b := .append) (xs := #[.tmp 42, .tmp 47]) rfl ?_); at_builtin; refine Kd.R_append k77 (w0 := w) w.heap.size rfl (.tmp 42) (.tmp 47) 49 77 (.agg #[(.int .i64 0), (.string ⟨#[]⟩)]) 24 rfl Tryz.underlying49 info77 rfl (by decide) (by omega) u7 x7_1 (⟨(rd_T77 t897 x8_1).f0, (rd_T77 t897 x8_1).f1⟩ : S77) [.int .i64 ((rd_T77 t897 x8_1).f0), .string ((rd_T77 t897 x8_1).f1)] (fun k_ => some k_ ≠ (.slice Ao28 t894.length co28 : Value).ownBlock ∧ some k_ ≠ (.slice (some ad905) t897.length co15 : Value).ownBlock) (fun _ => False) rfl rfl ?aP (fun _ hk => hk.elim) ?aF ?aO ?aB ?aS ?aL ?_; (case aP => exact k77_mkM _ _ _ (⟨(rd_T77 t897 x8_1).f0, (rd_T77 t897 x8_1).f1⟩ : S77)); (case aB => exact (zg_5 HB.out Zc.out Zd.out)); (case aF => exact (fun k_ hk => ⟨Kd.fresh' (Kd.R_lt (zg_6 Zg.out)) k_ hk, Kd.fresh' (Kd.R_lt (zg_6 Zh.out)) k_ hk⟩)); (case aO => exact (zg_6 Zk.out)); (case aS => exact (below_size (zg_5 HB.out Zc.out Zd.out))); (case aL => have := LMc27.out; omega); intro v907 w29 ho hb hg hat; rw [← Ny906.out] at ho; have n0_ := zm (Kd.R_after (ok := (fun k_ => some k_ ≠ (.slice (some ad905) t897.length co15 : Value).ownBlock)) (zg_6 Zg.out) hg hat); have n1_ := zm (Kd.R_after (ok := (fun k_ => some k_ ≠ (.slice Ao28 t894.length co28 : Value).ownBlock)) (zg_6 Zh.out) hg hat); have n2_ := zm (blk_grown (zg_3 Za.out) hg (Kd.R_ne Zk.out Za.out (by decide))); have n3_ := zm (blk_grown (zg_3 Zb.out) hg (Kd.R_ne Zk.out Zb.out (by decide))); have n4_ := zm (hb); have n5_ := zm (ho); clear Zk; replace Zg := n0_; replace Zh := n1_; replace Za := n2_; replace Zb := n3_; replace HB := n4_; have ZC := n5_; clear n0_ n1_ n2_ n3_ n4_ n5_; clear ho hb hg hat)); try go_wp2_with (first | ((with_reducible refine gate_builtin (b := .append) (xs := #[.tmp 42, .tmp 47]) rfl ?_); at_builtin; refine Kd.R_append k77 (w0 := w) w.heap.size rfl (.tmp 42) (.tmp 47) 49 77 (.agg #[(.int .i64 0), (.string ⟨#[]⟩)]) 24 rfl Tryz.underlying49 info77 rfl (by decide) (by omega) u7 x7_1 (⟨(rd_T77 t897 x8_1).f0, (rd_T77 t897 x8_1).f1⟩ : S77) [.int .i64 ((rd_T77 t897 x8_1).f0), .string ((rd_T77 t897 x8_1).f1)] (fun k_ => some k_ ≠ (.slice Ao28 t894.length co28 : Value).ownBlock ∧ some k_ ≠ (.slice (some ad905) t897.length co15 : Value).ownBlock) (fun _ => False) rfl rfl ?aP (fun _ hk => hk.elim) ?aF ?aO ?aB ?aS ?aL ?_; (case aP => exact k77_mkM _ _ _ (⟨(rd_T77 t897 x8_1).f0, (rd_T77 t897 x8_1).f1⟩ : S77)); (case aB => exact (zg_5 HB.out Zc.out Zd.out)); (case aF => exact (fun k_ hk => ⟨Kd.fresh' (Kd.R_lt (zg_6 Zg.out)) k_ hk, Kd.fresh' (Kd.R_lt (zg_6 Zh.out)) k_ hk⟩)); (case aO => exact (zg_6 Zk.out)); (case aS => exact (below_size (zg_5 HB.out Zc.out Zd.out))); (case aL => have := LMc27.out; omega); intro v907 w29 ho hb hg hat; rw [← Ny906.out] at ho; have n0_ := zm (Kd.R_after (ok := (fun k_ => some k_ ≠ (.slice (some ad905) t897.length co15 : Value).ownBlock)) (zg_6 Zg.out) hg hat); have n1_ := zm (Kd.R_after (ok := (fun k_ => some k_ ≠ (.slice Ao28 t894.length co28 : Value).ownBlock)) (zg_6 Zh.out) hg hat); have n2_ := zm (blk_grown (zg_3 Za.out) hg (Kd.R_ne Zk.out Za.out (by decide))); have n3_ := zm (blk_grown (zg_3 Zb.out) hg (Kd.R_ne Zk.out Zb.out (by decide))); have n4_ := zm (hb); have n5_ := zm (ho); clear Zk; replace Zg := n0_; replace Zh := n1_; replace Za := n2_; replace Zb := n3_; replace HB := n4_; have ZC := n5_; clear n0_ n1_ n2_ n3_ n4_ n5_; clear ho hb hg hat)))
           go_roundg k2
           case measure => have := HK1.out; have := HK2.out; omega
           case rel => exact ⟨(y906), (wrap64 (x8_1 + 1)), zr, H', ⟨by have := HK1.out; have := HK2.out; omega⟩, ⟨zlR Zg.out⟩, ⟨zlR Zh.out⟩, ⟨zlR ZC.out⟩, ⟨zl Za.out⟩, ⟨zl Zb.out⟩, ⟨zg_5 HB.out Zc.out Zd.out⟩⟩
          ·rw [if_neg c27] at H
           exact absurd H (by simp)
         ·rw [if_neg c26] at H
          exact absurd H (by simp)
        ·rw [if_neg c25] at H
         exact absurd H (by simp)
   ·rw [if_neg c14] at H
    have c14b0 := decide_eq_false c14; clear c14; obtain rfl := Option.some.inj H
    obtain ⟨Ao30, co30, eo30⟩ := Kd.R_slice Zh.out
    subst eo30
    go_wp2
    repeat (go_quiet (fail); try go_wp2)
    go_ret
    exact ⟨_, ze, by (with_reducible repeat (first | apply Kd.R_alloc | apply Kd.R_drewN | apply Kd.R_drew)); exact Kd.R_mono Zk.out (fun _ hk => trivial), zg_5 HB.out Zc.out Zd.out⟩
end
def spec_DiffUpdates.f (k : Nat) (l0_0 : List Int) (l0_1 : List Int) (l0_2 : List (S103)) (l0_3 : List Int) (l1_0 : List Int) (l1_1 : List Int) (l1_2 : List (S103)) (l1_3 : List Int) : Option ((List (S77)) × Int) := (spec_ImageOK.f k l0_0 l0_1 l0_2 l0_3).bind fun t911 => (if t911 = true then ((spec_ImageOK.f k l1_0 l1_1 l1_2 l1_3).bind fun t912 => (if t912 = true then ((spec_l11Diff.f k l0_0 l0_1 l0_2 l0_3 l1_0 l1_1 l1_2 l1_3).bind fun t913 => (some (t913, 0))) else (some ((([] : List (S77))), 1)))) else (some ((([] : List (S77))), 1)))
theorem spec_DiffUpdates.mono : ∀ a0 a1 a2 a3 a4 a5 a6 a7 k, LeO (spec_DiffUpdates.f k a0 a1 a2 a3 a4 a5 a6 a7) (spec_DiffUpdates.f (k + 1) a0 a1 a2 a3 a4 a5 a6 a7) := by
  intro a0 a1 a2 a3 a4 a5 a6 a7 k
  unfold spec_DiffUpdates.f
  repeat' first| (with_reducible first | exact spec_ImageOK.mono _ _ _ _ _ | exact spec_l11Diff.mono _ _ _ _ _ _ _ _ _ | exact LeO.refl _ | exact LeO.none _ | refine LeO.ite ?_ ?_ | refine LeO.bind ?_ (fun _ => ?_)) | exact spec_ImageOK.mono _ _ _ _ _ | exact spec_l11Diff.mono _ _ _ _ _ _ _ _ _ | exact LeO.none _ | refine LeO.ite ?_ ?_ | refine LeO.bind ?_ (fun _ => ?_)
set_option maxHeartbeats 8000000 in
set_option maxRecDepth 100000 in
theorem spec_DiffUpdates.calls (k : Nat) (A0_0 : Option Addr) (c0_0 : Nat) (l0_0 : List Int) (A0_1 : Option Addr) (c0_1 : Nat) (l0_1 : List Int) (A0_2 : Option Addr) (c0_2 : Nat) (l0_2 : List (S103)) (A0_3 : Option Addr) (c0_3 : Nat) (l0_3 : List Int) (A1_0 : Option Addr) (c1_0 : Nat) (l1_0 : List Int) (A1_1 : Option Addr) (c1_1 : Nat) (l1_1 : List Int) (A1_2 : Option Addr) (c1_2 : Nat) (l1_2 : List (S103)) (A1_3 : Option Addr) (c1_3 : Nat) (l1_3 : List Int) (r1 : List (S77)) (r2 : Int) (w : World) (hr0_0 : Kd.C (Kd.int .i64) w A0_0 l0_0.length l0_0) (hc0_0 : l0_0.length ≤ c0_0) (hr0_1 : Kd.C (Kd.int .i64) w A0_1 l0_1.length l0_1) (hc0_1 : l0_1.length ≤ c0_1) (hr0_2 : Kd.C k103 w A0_2 l0_2.length l0_2) (hc0_2 : l0_2.length ≤ c0_2) (hr0_3 : Kd.C (Kd.int .i64) w A0_3 l0_3.length l0_3) (hc0_3 : l0_3.length ≤ c0_3) (hr1_0 : Kd.C (Kd.int .i64) w A1_0 l1_0.length l1_0) (hc1_0 : l1_0.length ≤ c1_0) (hr1_1 : Kd.C (Kd.int .i64) w A1_1 l1_1.length l1_1) (hc1_1 : l1_1.length ≤ c1_1) (hr1_2 : Kd.C k103 w A1_2 l1_2.length l1_2) (hc1_2 : l1_2.length ≤ c1_2) (hr1_3 : Kd.C (Kd.int .i64) w A1_3 l1_3.length l1_3) (hc1_3 : l1_3.length ≤ c1_3) (h : spec_DiffUpdates.f k l0_0 l0_1 l0_2 l0_3 l1_0 l1_1 l1_2 l1_3 = some (r1, r2)) :
    Calls Tryz.prog 28 #[.agg #[.slice A0_0 l0_0.length c0_0, .slice A0_1 l0_1.length c0_1, .slice A0_2 l0_2.length c0_2, .slice A0_3 l0_3.length c0_3], .agg #[.slice A1_0 l1_0.length c1_0, .slice A1_1 l1_1.length c1_1, .slice A1_2 l1_2.length c1_2, .slice A1_3 l1_3.length c1_3]] w fun e w' => ∃ v0_ : Value, e = .returned (.tuple #[v0_, .int .i64 r2]) ∧ Kd.R k77 77 w' w.heap.size (fun _ => True) v0_ r1 ∧ Below w.heap.size w w' := by
 have hu26 := Tryz.underlying26; have Zg := zm hr0_0; have Zh := zm hc0_0; clear hr0_0 hc0_0; have Zi := zm hr0_1; have Zj := zm hc0_1; clear hr0_1 hc0_1; have Zk := zm hr0_2; have Zl := zm hc0_2; clear hr0_2 hc0_2; have Zm := zm hr0_3; have Zn := zm hc0_3; clear hr0_3 hc0_3; have Zo := zm hr1_0; have Zp := zm hc1_0; clear hr1_0 hc1_0; have Zq := zm hr1_1; have Zr := zm hc1_1; clear hr1_1 hc1_1; have Zs := zm hr1_2; have Zt := zm hc1_2; clear hr1_2 hc1_2; have Zu := zm hr1_3; have Zv := zm hc1_3; clear hr1_3 hc1_3; have HB := zm (Below.refl w.heap.size w); have H := h
 unfold spec_DiffUpdates.f at H
 clear h; replace H := Option.bind_eq_some_iff.mp H
 obtain ⟨t911, A30, H⟩ := H
 try dsimp only at H
 have A3 := zm A30; clear A30
 by_cases c4 : t911 = true
 ·subst c4
  replace H : ((spec_ImageOK.f k l1_0 l1_1 l1_2 l1_3).bind fun t912 => (if t912 = true then ((spec_l11Diff.f k l0_0 l0_1 l0_2 l0_3 l1_0 l1_1 l1_2 l1_3).bind fun t913 => (some (t913, 0))) else (some ((([] : List (S77))), 1)))) = some (r1, r2) := by rw [if_pos rfl] at H; exact H
  replace H := Option.bind_eq_some_iff.mp H
  obtain ⟨t912, A50, H⟩ := H
  try dsimp only at H
  have A5 := zm A50; clear A50
  by_cases c6 : t912 = true
  ·subst c6
   replace H : ((spec_l11Diff.f k l0_0 l0_1 l0_2 l0_3 l1_0 l1_1 l1_2 l1_3).bind fun t913 => (some (t913, 0))) = some (r1, r2) := by rw [if_pos rfl] at H; exact H
   replace H := Option.bind_eq_some_iff.mp H
   obtain ⟨t913, A70, H⟩ := H
   replace H : (some (t913, 0)) = some (r1, r2) := H
   have A7 := zm A70; clear A70
   simp only [Option.some.injEq, Prod.mk.injEq] at H
   obtain ⟨rfl, rfl⟩ := H
   go_enter Tryz.func28, Tryz.ntmps28
   go_wp2_with (first | ((with_reducible refine gate_dst (N := 2) rfl ?_); refine box_event ?hg (N := 2) ?hd (cs := #[.slice A0_0 l0_0.length c0_0, .slice A0_1 l0_1.length c0_1, .slice A0_2 l0_2.length c0_2, .slice A0_3 l0_3.length c0_3]) (t := 26) ?hr ?_; (case hd => rfl); (case hg => rfl); (case hr => first | (go_simp; done) | (go_simp; rfl)); intro gb909 hg w8 hbox hb; have n0_ := zm (below_step (zg_1 HB.out) hb); have n1_ := zm (hbox); have n2_ := zm ((by rw [hg]; exact (below_size (zg_1 HB.out)) : w.heap.size ≤ gb909)); have n3_ := zm ((by rw [hg]; exact (below_size (zg_1 HB.out)) : w.heap.size ≤ gb909)); replace HB := n0_; have Za := n1_; have Zw := n2_; have Zc := n3_; clear n0_ n1_ n2_ n3_; clear hb hbox hg) | ((with_reducible refine gate_dst (N := 3) rfl ?_); refine box_event ?hg (N := 3) ?hd (cs := #[.slice A1_0 l1_0.length c1_0, .slice A1_1 l1_1.length c1_1, .slice A1_2 l1_2.length c1_2, .slice A1_3 l1_3.length c1_3]) (t := 26) ?hr ?_; (case hd => rfl); (case hg => rfl); (case hr => first | (go_simp; done) | (go_simp; rfl)); intro gb910 hg w9 hbox hb; have n0_ := zm (blk_below (zg_3 Za.out) hb); have n1_ := zm (below_step (zg_2 HB.out Zc.out) hb); have n2_ := zm (hbox); have n3_ := zm ((by rw [hg]; exact (below_size (zg_2 HB.out Zc.out)) : w.heap.size ≤ gb910)); have n4_ := zm ((by rw [hg]; exact (below_size (zg_2 HB.out Zc.out)) : w.heap.size ≤ gb910)); have n5_ := zm ((by rw [hg]; exact Nat.ne_of_lt (blk_lt (zg_3 Za.out)) : gb909 ≠ gb910)); have n6_ := zm ((by rw [hg]; exact Nat.ne_of_gt (blk_lt (zg_3 Za.out)) : gb910 ≠ gb909)); replace Za := n0_; replace HB := n1_; have Zb := n2_; have Zx := n3_; have Zd := n4_; have Ze := n5_; have Zf := n6_; clear n0_ n1_ n2_ n3_ n4_ n5_ n6_; clear hb hbox hg; have hnb10 := Ze.out; have hnc10 := Zf.out; obtain ⟨hcz11_0, hcz11_1, hcz11_2, hcz11_3, hfz11_0, hfz11_1, hfz11_2, hfz11_3⟩ := zb4 Za.out) | ((with_reducible refine gate_callee (f := 40) rfl ?_); refine goesL_ (some 7) rfl rfl Tryz.func40 (by kernel_rfl) rfl #[.agg #[.slice A0_0 l0_0.length c0_0, .slice A0_1 l0_1.length c0_1, .slice A0_2 l0_2.length c0_2, .slice A0_3 l0_3.length c0_3]] rfl zq ?_; (with_reducible refine (spec_ImageOK.calls k _ _ l0_0 _ _ l0_1 _ _ l0_2 _ _ l0_3 true _ ?side1 ?side2 ?side3 ?side4 ?side5 ?side6 ?side7 ?side8 A3.out).mono ?_); (case side1 => exact zC (Kd.C_below Zg.out HB.out)); (case side2 => exact Zh.out); (case side3 => exact zC (Kd.C_below Zi.out HB.out)); (case side4 => exact Zj.out); (case side5 => exact zC (Kd.C_below Zk.out HB.out)); (case side6 => exact Zl.out); (case side7 => exact zC (Kd.C_below Zm.out HB.out)); (case side8 => exact Zn.out); rintro e w12 ⟨rfl, hb⟩; refine ⟨_, rfl, ?_⟩; have n0_ := zm (blk_below (zg_3 Za.out) hb); have n1_ := zm (blk_below (zg_3 Zb.out) hb); have n2_ := zm (below_step (zg_5 HB.out Zc.out Zd.out) hb); replace Za := n0_; replace Zb := n1_; replace HB := n2_; clear n0_ n1_ n2_; (try clear hb); (try clear hb2); (try clear hk); (try clear hi); obtain ⟨hcz13_0, hcz13_1, hcz13_2, hcz13_3, hfz13_0, hfz13_1, hfz13_2, hfz13_3⟩ := zb4 Zb.out) | (go_at_call 40; (with_reducible refine (spec_ImageOK.calls k _ _ l1_0 _ _ l1_1 _ _ l1_2 _ _ l1_3 true _ ?side1 ?side2 ?side3 ?side4 ?side5 ?side6 ?side7 ?side8 A5.out).mono ?_); (case side1 => exact zC (Kd.C_below Zo.out HB.out)); (case side2 => exact Zp.out); (case side3 => exact zC (Kd.C_below Zq.out HB.out)); (case side4 => exact Zr.out); (case side5 => exact zC (Kd.C_below Zs.out HB.out)); (case side6 => exact Zt.out); (case side7 => exact zC (Kd.C_below Zu.out HB.out)); (case side8 => exact Zv.out); rintro e w14 ⟨rfl, hb⟩; have n0_ := zm (blk_below (zg_3 Za.out) hb); have n1_ := zm (blk_below (zg_3 Zb.out) hb); have n2_ := zm (below_step (zg_5 HB.out Zc.out Zd.out) hb); replace Za := n0_; replace Zb := n1_; replace HB := n2_; clear n0_ n1_ n2_; (try clear hb); (try clear hb2); (try clear hk); (try clear hi); obtain ⟨hcz15_0, hcz15_1, hcz15_2, hcz15_3, hfz15_0, hfz15_1, hfz15_2, hfz15_3⟩ := zb4 Za.out; obtain ⟨hcz16_0, hcz16_1, hcz16_2, hcz16_3, hfz16_0, hfz16_1, hfz16_2, hfz16_3⟩ := zb4 Zb.out) | ((with_reducible refine gate_callee (f := 57) rfl ?_); refine goesL_ (some 17) rfl rfl Tryz.func57 (by kernel_rfl) rfl #[.agg #[.slice A0_0 l0_0.length c0_0, .slice A0_1 l0_1.length c0_1, .slice A0_2 l0_2.length c0_2, .slice A0_3 l0_3.length c0_3], .agg #[.slice A1_0 l1_0.length c1_0, .slice A1_1 l1_1.length c1_1, .slice A1_2 l1_2.length c1_2, .slice A1_3 l1_3.length c1_3]] rfl zq ?_; (with_reducible refine (spec_l11Diff.calls k _ _ l0_0 _ _ l0_1 _ _ l0_2 _ _ l0_3 _ _ l1_0 _ _ l1_1 _ _ l1_2 _ _ l1_3 t913 _ ?side1 ?side2 ?side3 ?side4 ?side5 ?side6 ?side7 ?side8 ?side9 ?side10 ?side11 ?side12 ?side13 ?side14 ?side15 ?side16 A7.out).mono ?_); (case side1 => exact zC (Kd.C_below Zg.out HB.out)); (case side2 => exact Zh.out); (case side3 => exact zC (Kd.C_below Zi.out HB.out)); (case side4 => exact Zj.out); (case side5 => exact zC (Kd.C_below Zk.out HB.out)); (case side6 => exact Zl.out); (case side7 => exact zC (Kd.C_below Zm.out HB.out)); (case side8 => exact Zn.out); (case side9 => exact zC (Kd.C_below Zo.out HB.out)); (case side10 => exact Zp.out); (case side11 => exact zC (Kd.C_below Zq.out HB.out)); (case side12 => exact Zr.out); (case side13 => exact zC (Kd.C_below Zs.out HB.out)); (case side14 => exact Zt.out); (case side15 => exact zC (Kd.C_below Zu.out HB.out)); (case side16 => exact Zv.out); rintro e w17 ⟨v914, rfl, ho0, hb⟩; refine ⟨_, rfl, ?_⟩; have n0_ := zm (Kd.R_lower ho0 (below_size (zg_5 HB.out Zc.out Zd.out))); have n1_ := zm (blk_below (zg_3 Za.out) hb); have n2_ := zm (blk_below (zg_3 Zb.out) hb); have n3_ := zm (below_step (zg_5 HB.out Zc.out Zd.out) hb); have Zy := n0_; replace Za := n1_; replace Zb := n2_; replace HB := n3_; clear n0_ n1_ n2_ n3_; (try clear hb); (try clear hb2); (try clear hk); (try clear hi); (try clear ho0)))
   go_ret2
   exact ⟨_, ze, by (with_reducible repeat (first | apply Kd.R_alloc | apply Kd.R_drewN | apply Kd.R_drew)); exact Zy.out, zg_5 HB.out Zc.out Zd.out⟩
  ·replace c6 := Bool.eq_false_iff.mpr c6
   subst c6
   replace H : (some ((([] : List (S77))), 1)) = some (r1, r2) := by rw [if_neg (show ¬ (false = true) by decide)] at H; exact H
   obtain ⟨y916, hy916⟩ : ∃ y_ : List (S77), y_ = (([] : List (S77))) := ⟨_, rfl⟩
   replace H : (some (y916, 1)) = some (r1, r2) := by first | (rw [hy916]; with_reducible exact H) | (have H2_ := (Option.bind_some _ _).symm.trans H; rw [hy916]; with_reducible exact H2_) | (have H2_ := (Option.bind_some _ _).symm.trans H; with_reducible exact H2_) | with_reducible exact H | (rw [hy916]; exact H) | exact H
   have Ny916 := zm hy916; clear hy916
   simp only [Option.some.injEq, Prod.mk.injEq] at H
   obtain ⟨rfl, rfl⟩ := H
   go_enter Tryz.func28, Tryz.ntmps28
   go_wp2_with (first | ((with_reducible refine gate_dst (N := 2) rfl ?_); refine box_event ?hg (N := 2) ?hd (cs := #[.slice A0_0 l0_0.length c0_0, .slice A0_1 l0_1.length c0_1, .slice A0_2 l0_2.length c0_2, .slice A0_3 l0_3.length c0_3]) (t := 26) ?hr ?_; (case hd => rfl); (case hg => rfl); (case hr => first | (go_simp; done) | (go_simp; rfl)); intro gb909 hg w18 hbox hb; have n0_ := zm (below_step (zg_1 HB.out) hb); have n1_ := zm (hbox); have n2_ := zm ((by rw [hg]; exact (below_size (zg_1 HB.out)) : w.heap.size ≤ gb909)); have n3_ := zm ((by rw [hg]; exact (below_size (zg_1 HB.out)) : w.heap.size ≤ gb909)); replace HB := n0_; have Za := n1_; have Zw := n2_; have Zc := n3_; clear n0_ n1_ n2_ n3_; clear hb hbox hg) | ((with_reducible refine gate_dst (N := 3) rfl ?_); refine box_event ?hg (N := 3) ?hd (cs := #[.slice A1_0 l1_0.length c1_0, .slice A1_1 l1_1.length c1_1, .slice A1_2 l1_2.length c1_2, .slice A1_3 l1_3.length c1_3]) (t := 26) ?hr ?_; (case hd => rfl); (case hg => rfl); (case hr => first | (go_simp; done) | (go_simp; rfl)); intro gb910 hg w19 hbox hb; have n0_ := zm (blk_below (zg_3 Za.out) hb); have n1_ := zm (below_step (zg_2 HB.out Zc.out) hb); have n2_ := zm (hbox); have n3_ := zm ((by rw [hg]; exact (below_size (zg_2 HB.out Zc.out)) : w.heap.size ≤ gb910)); have n4_ := zm ((by rw [hg]; exact (below_size (zg_2 HB.out Zc.out)) : w.heap.size ≤ gb910)); have n5_ := zm ((by rw [hg]; exact Nat.ne_of_lt (blk_lt (zg_3 Za.out)) : gb909 ≠ gb910)); have n6_ := zm ((by rw [hg]; exact Nat.ne_of_gt (blk_lt (zg_3 Za.out)) : gb910 ≠ gb909)); replace Za := n0_; replace HB := n1_; have Zb := n2_; have Zx := n3_; have Zd := n4_; have Ze := n5_; have Zf := n6_; clear n0_ n1_ n2_ n3_ n4_ n5_ n6_; clear hb hbox hg; have hnb20 := Ze.out; have hnc20 := Zf.out; obtain ⟨hcz21_0, hcz21_1, hcz21_2, hcz21_3, hfz21_0, hfz21_1, hfz21_2, hfz21_3⟩ := zb4 Za.out) | ((with_reducible refine gate_callee (f := 40) rfl ?_); refine goesL_ (some 7) rfl rfl Tryz.func40 (by kernel_rfl) rfl #[.agg #[.slice A0_0 l0_0.length c0_0, .slice A0_1 l0_1.length c0_1, .slice A0_2 l0_2.length c0_2, .slice A0_3 l0_3.length c0_3]] rfl zq ?_; (with_reducible refine (spec_ImageOK.calls k _ _ l0_0 _ _ l0_1 _ _ l0_2 _ _ l0_3 true _ ?side1 ?side2 ?side3 ?side4 ?side5 ?side6 ?side7 ?side8 A3.out).mono ?_); (case side1 => exact zC (Kd.C_below Zg.out HB.out)); (case side2 => exact Zh.out); (case side3 => exact zC (Kd.C_below Zi.out HB.out)); (case side4 => exact Zj.out); (case side5 => exact zC (Kd.C_below Zk.out HB.out)); (case side6 => exact Zl.out); (case side7 => exact zC (Kd.C_below Zm.out HB.out)); (case side8 => exact Zn.out); rintro e w22 ⟨rfl, hb⟩; refine ⟨_, rfl, ?_⟩; have n0_ := zm (blk_below (zg_3 Za.out) hb); have n1_ := zm (blk_below (zg_3 Zb.out) hb); have n2_ := zm (below_step (zg_5 HB.out Zc.out Zd.out) hb); replace Za := n0_; replace Zb := n1_; replace HB := n2_; clear n0_ n1_ n2_; (try clear hb); (try clear hb2); (try clear hk); (try clear hi); obtain ⟨hcz23_0, hcz23_1, hcz23_2, hcz23_3, hfz23_0, hfz23_1, hfz23_2, hfz23_3⟩ := zb4 Zb.out) | (go_at_call 40; (with_reducible refine (spec_ImageOK.calls k _ _ l1_0 _ _ l1_1 _ _ l1_2 _ _ l1_3 false _ ?side1 ?side2 ?side3 ?side4 ?side5 ?side6 ?side7 ?side8 A5.out).mono ?_); (case side1 => exact zC (Kd.C_below Zo.out HB.out)); (case side2 => exact Zp.out); (case side3 => exact zC (Kd.C_below Zq.out HB.out)); (case side4 => exact Zr.out); (case side5 => exact zC (Kd.C_below Zs.out HB.out)); (case side6 => exact Zt.out); (case side7 => exact zC (Kd.C_below Zu.out HB.out)); (case side8 => exact Zv.out); rintro e w24 ⟨rfl, hb⟩; have n0_ := zm (blk_below (zg_3 Za.out) hb); have n1_ := zm (blk_below (zg_3 Zb.out) hb); have n2_ := zm (below_step (zg_5 HB.out Zc.out Zd.out) hb); replace Za := n0_; replace Zb := n1_; replace HB := n2_; clear n0_ n1_ n2_; (try clear hb); (try clear hb2); (try clear hk); (try clear hi)) | ((with_reducible refine gate_dst (N := 14) rfl ?_); refine Kd.R_lit k77 _ 77 ?hg (N := 14) ?hd (xs := ([] : List (S77))) (inner := []) (ok := fun _ => True) (okp := fun _ => True) ?hr ?hp (fun _ hk => hk) trivial (Below.refl _ _) (Nat.le_refl _) (by simp) ?_; (case hd => rfl); (case hg => rfl); (case hr => first | (go_simp; done) | (go_simp; rfl)); (case hp => exact (Reps.none _ _)); intro v917 w25 ho26 hb hg_ hnew_; clear hg_ hnew_; (first | rw [← Ny916.out] at ho26 | (simp only [Int.reduceToNat] at ho26; rw [← Ny916.out] at ho26)); have n0_ := zm (Kd.R_lower ho26 (below_size (zg_5 HB.out Zc.out Zd.out))); have n1_ := zm (blk_below (zg_3 Za.out) hb); have n2_ := zm (blk_below (zg_3 Zb.out) hb); have n3_ := zm (below_step (zg_5 HB.out Zc.out Zd.out) hb); have Zz := n0_; replace Za := n1_; replace Zb := n2_; replace HB := n3_; clear n0_ n1_ n2_ n3_; clear hb ho26))
   go_ret2
   exact ⟨_, ze, by (with_reducible repeat (first | apply Kd.R_alloc | apply Kd.R_drewN | apply Kd.R_drew)); exact Zz.out, zg_5 HB.out Zc.out Zd.out⟩
 ·replace c4 := Bool.eq_false_iff.mpr c4
  subst c4
  replace H : (some ((([] : List (S77))), 1)) = some (r1, r2) := by rw [if_neg (show ¬ (false = true) by decide)] at H; exact H
  obtain ⟨y919, hy919⟩ : ∃ y_ : List (S77), y_ = (([] : List (S77))) := ⟨_, rfl⟩
  replace H : (some (y919, 1)) = some (r1, r2) := by first | (rw [hy919]; with_reducible exact H) | (have H2_ := (Option.bind_some _ _).symm.trans H; rw [hy919]; with_reducible exact H2_) | (have H2_ := (Option.bind_some _ _).symm.trans H; with_reducible exact H2_) | with_reducible exact H | (rw [hy919]; exact H) | exact H
  have Ny919 := zm hy919; clear hy919
  simp only [Option.some.injEq, Prod.mk.injEq] at H
  obtain ⟨rfl, rfl⟩ := H
  go_enter Tryz.func28, Tryz.ntmps28
  go_wp2_with (first | ((with_reducible refine gate_dst (N := 2) rfl ?_); refine box_event ?hg (N := 2) ?hd (cs := #[.slice A0_0 l0_0.length c0_0, .slice A0_1 l0_1.length c0_1, .slice A0_2 l0_2.length c0_2, .slice A0_3 l0_3.length c0_3]) (t := 26) ?hr ?_; (case hd => rfl); (case hg => rfl); (case hr => first | (go_simp; done) | (go_simp; rfl)); intro gb909 hg w27 hbox hb; have n0_ := zm (below_step (zg_1 HB.out) hb); have n1_ := zm (hbox); have n2_ := zm ((by rw [hg]; exact (below_size (zg_1 HB.out)) : w.heap.size ≤ gb909)); have n3_ := zm ((by rw [hg]; exact (below_size (zg_1 HB.out)) : w.heap.size ≤ gb909)); replace HB := n0_; have Za := n1_; have Zw := n2_; have Zc := n3_; clear n0_ n1_ n2_ n3_; clear hb hbox hg) | ((with_reducible refine gate_dst (N := 3) rfl ?_); refine box_event ?hg (N := 3) ?hd (cs := #[.slice A1_0 l1_0.length c1_0, .slice A1_1 l1_1.length c1_1, .slice A1_2 l1_2.length c1_2, .slice A1_3 l1_3.length c1_3]) (t := 26) ?hr ?_; (case hd => rfl); (case hg => rfl); (case hr => first | (go_simp; done) | (go_simp; rfl)); intro gb910 hg w28 hbox hb; have n0_ := zm (blk_below (zg_3 Za.out) hb); have n1_ := zm (below_step (zg_2 HB.out Zc.out) hb); have n2_ := zm (hbox); have n3_ := zm ((by rw [hg]; exact (below_size (zg_2 HB.out Zc.out)) : w.heap.size ≤ gb910)); have n4_ := zm ((by rw [hg]; exact (below_size (zg_2 HB.out Zc.out)) : w.heap.size ≤ gb910)); have n5_ := zm ((by rw [hg]; exact Nat.ne_of_lt (blk_lt (zg_3 Za.out)) : gb909 ≠ gb910)); have n6_ := zm ((by rw [hg]; exact Nat.ne_of_gt (blk_lt (zg_3 Za.out)) : gb910 ≠ gb909)); replace Za := n0_; replace HB := n1_; have Zb := n2_; have Zx := n3_; have Zd := n4_; have Ze := n5_; have Zf := n6_; clear n0_ n1_ n2_ n3_ n4_ n5_ n6_; clear hb hbox hg; have hnb29 := Ze.out; have hnc29 := Zf.out; obtain ⟨hcz30_0, hcz30_1, hcz30_2, hcz30_3, hfz30_0, hfz30_1, hfz30_2, hfz30_3⟩ := zb4 Za.out) | ((with_reducible refine gate_callee (f := 40) rfl ?_); refine goesL_ (some 7) rfl rfl Tryz.func40 (by kernel_rfl) rfl #[.agg #[.slice A0_0 l0_0.length c0_0, .slice A0_1 l0_1.length c0_1, .slice A0_2 l0_2.length c0_2, .slice A0_3 l0_3.length c0_3]] rfl zq ?_; (with_reducible refine (spec_ImageOK.calls k _ _ l0_0 _ _ l0_1 _ _ l0_2 _ _ l0_3 false _ ?side1 ?side2 ?side3 ?side4 ?side5 ?side6 ?side7 ?side8 A3.out).mono ?_); (case side1 => exact zC (Kd.C_below Zg.out HB.out)); (case side2 => exact Zh.out); (case side3 => exact zC (Kd.C_below Zi.out HB.out)); (case side4 => exact Zj.out); (case side5 => exact zC (Kd.C_below Zk.out HB.out)); (case side6 => exact Zl.out); (case side7 => exact zC (Kd.C_below Zm.out HB.out)); (case side8 => exact Zn.out); rintro e w31 ⟨rfl, hb⟩; refine ⟨_, rfl, ?_⟩; have n0_ := zm (blk_below (zg_3 Za.out) hb); have n1_ := zm (blk_below (zg_3 Zb.out) hb); have n2_ := zm (below_step (zg_5 HB.out Zc.out Zd.out) hb); replace Za := n0_; replace Zb := n1_; replace HB := n2_; clear n0_ n1_ n2_; (try clear hb); (try clear hb2); (try clear hk); (try clear hi)) | ((with_reducible refine gate_dst (N := 14) rfl ?_); refine Kd.R_lit k77 _ 77 ?hg (N := 14) ?hd (xs := ([] : List (S77))) (inner := []) (ok := fun _ => True) (okp := fun _ => True) ?hr ?hp (fun _ hk => hk) trivial (Below.refl _ _) (Nat.le_refl _) (by simp) ?_; (case hd => rfl); (case hg => rfl); (case hr => first | (go_simp; done) | (go_simp; rfl)); (case hp => exact (Reps.none _ _)); intro v920 w32 ho33 hb hg_ hnew_; clear hg_ hnew_; (first | rw [← Ny919.out] at ho33 | (simp only [Int.reduceToNat] at ho33; rw [← Ny919.out] at ho33)); have n0_ := zm (Kd.R_lower ho33 (below_size (zg_5 HB.out Zc.out Zd.out))); have n1_ := zm (blk_below (zg_3 Za.out) hb); have n2_ := zm (blk_below (zg_3 Zb.out) hb); have n3_ := zm (below_step (zg_5 HB.out Zc.out Zd.out) hb); have ZA := n0_; replace Za := n1_; replace Zb := n2_; replace HB := n3_; clear n0_ n1_ n2_ n3_; clear hb ho33))
  go_ret2
  exact ⟨_, ze, by (with_reducible repeat (first | apply Kd.R_alloc | apply Kd.R_drewN | apply Kd.R_drew)); exact ZA.out, zg_5 HB.out Zc.out Zd.out⟩
end Go.Proofs.YtglcnnmobkocmaaGreat.Q
